/- A map[int64]int by what it holds; maps.Clone, clear. -/
import Derived.Test.YtikjmhijkegdgaaMem
import Derived.Test.YtikjmhijkegdgaaKit
import Derived.Maps.OwnSet
import Derived.Maps.Views
import Derived.Laws.Externs
import Derived.MapKept
import Derived.WalkKit
import Derived.Carry
namespace Go.Proofs.Ytikjmhijkegdgaa
set_option linter.unusedVariables false
set_option linter.unusedSimpArgs false
open Go.RowKit Go.Maps Go.ChangeMaps Go.MapKept
theorem lawK : Keyed Try.prog 2 := int_keyed Try.underlying2
theorem zeroI (w : World) : (zeroValue 3).run Try.prog w = .ok (.int .i64 0) w := by kernel_rfl
/-- Block bm is a map with N entries that holds f; at most n have been stored. -/
def MapN (w : World) (bm : Nat) (f : Int → Option Int) (N n : Nat) : Prop :=
  ∃ D : DataW Unit, w.ownsMap Try.prog 2 (plainElem Try.prog 3) bm n D ∧ Maps.size D = N ∧ ∀ id, (Lit.int .i64 id).wf = true → Maps.has D (.int .i64 id) = (f id).isSome ∧ ∀ v, f id = some v → (Lit.int .i64 v).wf = true ∧ D.atKey (.int .i64 id) (.lit (.int .i64 0)) = .lit (.int .i64 v)
theorem MapN.mono {w : World} {bm : Nat} {f : Int → Option Int} {N n n' : Nat} (h : MapN w bm f N n) (hn : n ≤ n') : MapN w bm f N n' := by
  obtain ⟨D, h1, h2⟩ := h
  exact ⟨D, h1.mono hn, h2⟩
theorem MapN.lt {w : World} {bm : Nat} {f : Int → Option Int} {N n : Nat} (h : MapN w bm f N n) : bm < w.heap.size := by
  obtain ⟨D, h1, _⟩ := h
  exact h1.lt
theorem MapN.kept {w w' : World} {bm : Nat} {f : Int → Option Int} {N n : Nat} {row : Option Nat} (h : MapN w bm f N n) (hg : w.grownBy w' row) (hr : some bm ≠ row) : MapN w' bm f N n := by
  obtain ⟨D, h1, h2⟩ := h
  exact ⟨D, h1.kept hg hr, h2⟩
theorem MapN.block {w w' : World} {bm : Nat} {f : Int → Option Int} {N n : Nat} (h : MapN w bm f N n) (hg : w'.heap[bm]? = w.heap[bm]?) : MapN w' bm f N n := by
  obtain ⟨D, ⟨es, clock, hb, F, hs, hD⟩, h2⟩ := h
  exact ⟨D, ⟨es, clock, hg.trans hb, F, hs, hD⟩, h2⟩
theorem MapN.below {w w' : World} {bm : Nat} {f : Int → Option Int} {N n : Nat} (h : MapN w bm f N n) (hb : Below w.heap.size w w') : MapN w' bm f N n := h.block (hb.block bm h.lt)
theorem MapN.congr {w : World} {bm : Nat} {f f' : Int → Option Int} {N N' n : Nat} (h : MapN w bm f N n) (hf : ∀ id, (Lit.int .i64 id).wf = true → f id = f' id) (hN : N = N') : MapN w bm f' N' n := by
  subst hN
  obtain ⟨D, h1, h2, h3⟩ := h
  exact ⟨D, h1, h2, fun id hid => by rw [← hf id hid]; exact h3 id hid⟩
theorem MapN.new (w : World) : MapN (w.alloc (.map #[] 0)) w.heap.size (fun _ => none) 0 0 :=
  ⟨.map [], World.ownsMap_made w _ _ _, rfl, fun id _ => ⟨rfl, fun v h => by cases h⟩⟩
/-- A map is no row. -/
theorem MapN.no_row {w : World} {bm g : Nat} {f : Int → Option Int} {N n : Nat} (h : MapN w bm f N n) {cs : Array Value} {t : TypeId} {fr : Nat × Nat} (hb : w.heap[g]? = some (.cells cs t fr)) : bm ≠ g := by
  rintro rfl
  obtain ⟨D, ⟨es, clock, h1, _⟩, _⟩ := h
  rw [h1] at hb; cases hb
theorem key_wf (id : Int) (h : (Lit.int .i64 id).wf = true) : keyOf Try.prog 2 (.int .i64 id) = some (.int .i64 id) := keyOf_int_mk Try.underlying2 h
/-- 'v, is := m[id]'. -/
theorem MapN.look {w : World} {bm : Nat} {f : Int → Option Int} {N n : Nat} (h : MapN w bm f N n) (id : Int) (hid : (Lit.int .i64 id).wf = true) :
    ∃ v, (Instr.lookup 55 (.map (some bm)) (.int .i64 id) true).run Try.prog w = .ok (.tuple #[.int .i64 v, .bool (f id).isSome]) w ∧ ∀ u, f id = some u → v = u := by
  obtain ⟨D, h1, _, h3⟩ := h
  obtain ⟨v, ps, hrun, hv⟩ := h1.look_ok lawK Try.underlying55 (zeroI w) (plainElem_int Try.underlying3 (by decide)) (key_wf id hid)
  obtain ⟨c, rfl, hc, hwc⟩ := plainElem_int_inv Try.underlying3 hv
  obtain ⟨g1, g2⟩ := h3 id hid
  refine ⟨c, by rw [← g1]; exact hrun, fun u hu => ?_⟩
  have := (g2 u hu).2
  rw [this] at hc
  simp only [Prod.mk.injEq] at hc
  have := hc.1
  injection this with this
  injection this with _ this
  exact this.symm
theorem MapN.len {w : World} {bm : Nat} {f : Int → Option Int} {N n : Nat} (h : MapN w bm f N n) (ty : TypeId) : (Builtin.len_ #[55] ty #[.map (some bm)]).run Try.prog w = .ok (.int .i64 (N : Int)) w := by
  obtain ⟨D, h1, h2, _⟩ := h
  rw [← h2]
  exact h1.len Try.underlying55 ty
theorem isKey_int (id : Int) : WideAt.IsKeyLit (.int .i64 id) := by simp [WideAt.IsKeyLit]
def upF (f : Int → Option Int) (id : Int) (v : Option Int) : Int → Option Int := fun x => if x = id then v else f x
theorem lit_ne {a b : Int} (h : a ≠ b) : (Lit.int .i64 a) ≠ (Lit.int .i64 b) := fun e => h (by injection e)
/-- 'm[id] = v'. -/
theorem MapN.store {w : World} {bm : Nat} {f : Int → Option Int} {N n : Nat} (h : MapN w bm f N n) (hn : n ≤ 1000000000) (id v : Int) (hid : (Lit.int .i64 id).wf = true) (hv : (Lit.int .i64 v).wf = true) (hf : f id = none) :
    ∃ w', (Instr.mapUpdate 55 (.map (some bm)) (.int .i64 id) (.int .i64 v)).run Try.prog w = .ok () w' ∧ MapN w' bm (upF f id (some v)) (N + 1) (n + 1) ∧ w.grownBy w' (some bm) := by
  obtain ⟨D, h1, h2, h3⟩ := h
  obtain ⟨w', hrun, o1, g1⟩ := h1.store lawK Try.underlying55 (by unfold maxLen; omega) (key_wf id hid) (plainElem_int Try.underlying3 hv)
  have ht := h1.tidy lawK
  have hno : Maps.has D (.int .i64 id) = false := by rw [(h3 id hid).1, hf]; rfl
  refine ⟨w', hrun, ⟨_, o1, by rw [size_put ht, hno, h2]; simp, fun x hx => ?_⟩, g1.grown⟩
  unfold upF
  by_cases hxi : x = id
  · subst hxi
    rw [if_pos rfl]
    refine ⟨has_put_same ht.isMap (isKey_int _) _, fun u hu => ?_⟩
    injection hu with hu
    subst hu
    exact ⟨hv, atKey_put_same ht.isMap (isKey_int _) _ _⟩
  · rw [if_neg hxi, has_put_other (lit_ne hxi), atKey_put_other (lit_ne hxi)]
    exact h3 x hx
/-- 'delete(m, id)' of one that is there. -/
theorem MapN.drop {w : World} {bm : Nat} {f : Int → Option Int} {N n : Nat} (h : MapN w bm f N n) (id : Int) (hid : (Lit.int .i64 id).wf = true) (hf : (f id).isSome = true) (ty : TypeId) :
    ∃ w', (Builtin.delete_ #[55, 2] ty #[.map (some bm), .int .i64 id]).run Try.prog w = .ok (.tuple #[]) w' ∧ MapN w' bm (upF f id none) (N - 1) n ∧ w.grownBy w' (some bm) := by
  obtain ⟨D, h1, h2, h3⟩ := h
  obtain ⟨w', hrun, o1, g1⟩ := h1.drop lawK Try.underlying55 (key_wf id hid) ty
  have ht := h1.tidy lawK
  have hs := size_del (k := .int .i64 id) ht
  rw [(h3 id hid).1, hf, if_pos rfl] at hs
  refine ⟨w', hrun, ⟨_, o1, by omega, fun x hx => ?_⟩, g1.grown⟩
  unfold upF
  by_cases hxi : x = id
  · subst hxi
    rw [if_pos rfl]
    exact ⟨has_del_same, fun u hu => by cases hu⟩
  · rw [if_neg hxi, has_del_other (lit_ne hxi), atKey_del_other (lit_ne hxi)]
    exact h3 x hx
/-- 'clear(m)'. -/
theorem MapN.clear {w : World} {bm : Nat} {f : Int → Option Int} {N n : Nat} (h : MapN w bm f N n) (ty : TypeId) :
    ∃ w', (Builtin.clear_ #[55] ty #[.map (some bm)]).run Try.prog w = .ok (.tuple #[]) w' ∧ MapN w' bm (fun _ => none) 0 0 ∧ w.grownBy w' (some bm) := by
  obtain ⟨D, ⟨es, clock, hb, F, hs, hD⟩, h2, h3⟩ := h
  have hset : (setObj bm (.map #[] clock)).run Try.prog w = .ok () (ChangeMaps.setBlock w bm (.map #[] clock)) := MapKept.run_setObj_map (P := Try.prog) (.map #[] clock) hb
  refine ⟨setBlock w bm (.map #[] clock), by simp [Builtin.clear_, run_underlying Try.underlying55, MapKept.run_getObj_map hb, hset, Result.andThen], ?_, ?_⟩
  · exact ⟨.map [], ⟨#[], clock, heap_setBlock_same hb _, ⟨by simp, stamped_empty clock, by simp⟩, Nat.le_refl _, rfl⟩, rfl, fun id _ => ⟨rfl, fun v h => by cases h⟩⟩
  · exact ⟨rfl, rfl, rfl, by simp [ChangeMaps.setBlock], fun i _ hi => heap_setBlock_other hb _ (fun e => hi (by rw [e]))⟩
/-- A map held against nil. -/
theorem eql_map_nil (w : World) (p : Option Nat) : (binOp .eql 55 (.map p) (.map none)).run Try.prog w = .ok (.bool p.isNone) w := by
  have h := Try.underlying55
  have h2 : ∀ d, (Op.equalIn (d + 1) 55 (.map p) (.map none)).run Try.prog w = .ok p.isNone w := fun d => by
    cases p <;> simp [Op.equalIn, run_underlying h]
  simp only [binOp]
  simp [show Op.equal 55 (.map p) (.map none) = Op.equalIn (9999 + 1) 55 (.map p) (.map none) from rfl, h2]
theorem run_clone_map {w : World} {r : Nat} {es : Array MapEntry} {clock : Nat} (t : TypeId) (hb : w.heap[r]? = some (.map es clock)) :
    (Extern.MapsClone.clone #[.iface t (.map (some r))]).run Try.prog w = .ok (.iface t (.map (some w.heap.size))) (w.alloc (.map es clock)) := by
  have e : Extern.MapsClone.clone #[.iface t (.map (some r))] = (getObj r >>= fun o => match o with
      | .map entries clock => (newObj (.map entries clock) >>= fun n => pure (.iface t (.map (some n))))
      | _ => stuck "maps.clone: a map expected") := rfl
  rw [e]
  simp [MapKept.run_getObj_map hb, Result.andThen, go_sem]
theorem run_assert_map (w : World) (v : Value) : (Instr.typeAssert (.iface 55 v) 20 55 false).run Try.prog w = .ok v w := by
  simp [Instr.typeAssert, run_underlying Try.underlying55, go_sem, Result.andThen]
set_option maxHeartbeats 1000000 in
theorem MapsClone_calls (bm : Nat) (f : Int → Option Int) (N n : Nat) (w : World) (h : MapN w bm f N n) :
    Calls Try.prog 40 #[.map (some bm)] w fun e w' => e = .returned (.map (some w.heap.size)) ∧ MapN w' w.heap.size f N n ∧ Below w.heap.size w w' := by
  obtain ⟨D, ⟨es, clock, hb, F, hs, hD⟩, h2⟩ := h
  have hq := fun w => eql_map_nil w (some bm)
  go_enter Try.func40, Try.ntmps40
  go_wp2
  rw [run_callFunc_extern (fn := Try.f54) (by kernel_rfl) (by kernel_rfl) (by kernel_rfl) (by kernel_rfl) (e := Extern.MapsClone.clone) (by kernel_rfl), run_clone_map _ hb]
  simp only [Result.andThen]
  rw [Oper.upon_value]
  go_wp2
  rw [run_assert_map]
  simp only [Result.andThen]
  rw [Oper.upon_value]
  go_wp2
  go_ret
  exact ⟨rfl, ⟨D, ⟨es, clock, (MapKept.heap_alloc w _).1, F, hs, hD⟩, h2⟩, below_alloc (Below.refl _ _) _⟩
end Go.Proofs.Ytikjmhijkegdgaa
