/- Words for memory: slices of whole numbers that are read, or owned. No program of its own. -/
import Derived.WalkKit
import Derived.Below
import Derived.OwnWalk
import Derived.Laws.MakeOwn
import Derived.Laws.OwnMore
import Derived.Maps.AppendAt
import Derived.Deep.AppendLies
import Derived.Deep.OwnRows
import Derived.Deep.Draws
import Derived.Laws.Slices
import Derived.KernelRfl
import Derived.RowKit3
import Derived.Lib.Hide
namespace Go.Proofs.Ytjdablkdndmcgaa
set_option linter.unusedVariables false
set_option linter.unusedSimpArgs false
open Go.RowKit

def nums (k : IntKind) (xs : List Int) : List Value := xs.map (Value.int k)
theorem nums_length (k : IntKind) (xs : List Int) : (nums k xs).length = xs.length := by simp [nums]
theorem nums_append (k : IntKind) (xs ys : List Int) : nums k (xs ++ ys) = nums k xs ++ nums k ys := by simp [nums]
theorem nums_get (k : IntKind) (xs : List Int) (j : Nat) (h : j < xs.length) : (nums k xs)[j]? = some (.int k (xs.getD j 0)) := by
  simp [nums, List.getElem?_eq_getElem h, List.getD_eq_getElem?_getD]
theorem nums_one (k : IntKind) (xs : List Int) : ∀ u ∈ nums k xs, u.oneCell' = true := by
  intro u hu; simp only [nums, List.mem_map] at hu; obtain ⟨_, _, rfl⟩ := hu; rfl
theorem nums_set (k : IntKind) (xs : List Int) (j : Nat) (x : Int) : (nums k xs).set j (.int k x) = nums k (xs.set j x) := by simp [nums, List.map_set]
theorem add_plain (g j : Nat) : (⟨g, 0, none⟩ : Addr).add j = ⟨g, j, none⟩ := by unfold Addr.add; split <;> simp_all
theorem add_add (ad : Addr) (i j : Nat) : (ad.add i).add j = ad.add (i + j) := by
  unfold Addr.add
  by_cases h1 : i = 0 <;> by_cases h2 : j = 0 <;> simp [h1, h2, Nat.add_assoc]

/-- Cells that are read behind an address; none where there are none. -/
def Rd (w : World) (A : Option Addr) (cs : List Value) : Prop := cs = [] ∨ ∃ ad, A = some ad ∧ ∀ j u, cs[j]? = some u → w.cell? (ad.add j) = some u
theorem Rd.of_le {w w' : World} {A : Option Addr} {cs : List Value} (h : Rd w A cs) (hw : ∀ a u, w.cell? a = some u → w'.cell? a = some u) : Rd w' A cs := by
  rcases h with h | ⟨ad, h1, h2⟩
  · exact .inl h
  · exact .inr ⟨ad, h1, fun j u hj => hw _ _ (h2 j u hj)⟩
theorem cell_below {w w1 : World} (h : Below w.heap.size w w1) (a : Addr) (v : Value) (hc : w.cell? a = some v) : w1.cell? a = some v := (h.cell (World.block_lt_of_cell? w a hc)).trans hc
theorem Rd.below {w w' : World} {A : Option Addr} {cs : List Value} (h : Rd w A cs) (hb : Below w.heap.size w w') : Rd w' A cs := h.of_le (cell_below hb)

/-- A slice of whole numbers that is read. -/
structure SlI (w : World) (k : IntKind) (A : Option Addr) (c : Nat) (xs : List Int) : Prop where
  rd : Rd w A (nums k xs)
  le : xs.length ≤ c
  cap : c ≤ maxLen
theorem SlI.len {w : World} {k : IntKind} {A : Option Addr} {c : Nat} {xs : List Int} (h : SlI w k A c xs) : xs.length ≤ 9223372036854775807 := by
  have a := h.le; have b := h.cap; unfold maxLen at b; omega
theorem SlI.of_le {w w' : World} {k : IntKind} {A : Option Addr} {c : Nat} {xs : List Int} (h : SlI w k A c xs) (hw : ∀ a u, w.cell? a = some u → w'.cell? a = some u) : SlI w' k A c xs := ⟨h.rd.of_le hw, h.le, h.cap⟩
theorem SlI.below {w w' : World} {k : IntKind} {A : Option Addr} {c : Nat} {xs : List Int} (h : SlI w k A c xs) (hb : Below w.heap.size w w') : SlI w' k A c xs := ⟨h.rd.below hb, h.le, h.cap⟩
theorem SlI.nil (w : World) (k : IntKind) : SlI w k none 0 [] := ⟨.inl rfl, Nat.le_refl _, Nat.zero_le _⟩
/-- An element. -/
theorem SlI.get {w : World} {k : IntKind} {A : Option Addr} {c : Nat} {xs : List Int} (h : SlI w k A c xs) (j : Nat) (hj : j < xs.length) : ∃ ad, A = some ad ∧ w.cell? (ad.add j) = some (.int k (xs.getD j 0)) := by
  rcases h.rd with h1 | ⟨ad, h1, h2⟩
  · have := congrArg List.length h1; simp [nums] at this; subst this; simp at hj
  · exact ⟨ad, h1, h2 j _ (nums_get k xs j hj)⟩
/-- A part. -/
theorem Rd.take {w : World} {A : Option Addr} {cs : List Value} (h : Rd w A cs) (m : Nat) : Rd w A (cs.take m) := by
  rcases h with h | ⟨ad, h1, h2⟩
  · subst h; exact .inl (by simp)
  · refine .inr ⟨ad, h1, fun j u hj => h2 j u ?_⟩
    rw [List.getElem?_take] at hj
    split at hj
    · exact hj
    · cases hj
theorem Rd.drop {w : World} {A : Option Addr} {cs : List Value} (h : Rd w A cs) (m : Nat) : Rd w (A.map (·.add m)) (cs.drop m) := by
  rcases h with h | ⟨ad, h1, h2⟩
  · subst h; exact .inl (by simp)
  · subst h1
    refine .inr ⟨ad.add m, rfl, fun j u hj => ?_⟩
    rw [List.getElem?_drop] at hj
    rw [add_add]
    exact h2 _ u hj
theorem Rd.any {w : World} {A : Option Addr} : Rd w A [] := .inl rfl
theorem SlI.take {w : World} {k : IntKind} {A : Option Addr} {c : Nat} {xs : List Int} (h : SlI w k A c xs) (m c' : Nat) (hm : m ≤ c') (hc : c' ≤ c) : SlI w k A c' (xs.take m) :=
  ⟨by have := h.rd.take m; simpa [nums, List.map_take] using this, by simp; omega, Nat.le_trans hc h.cap⟩
theorem SlI.drop {w : World} {k : IntKind} {A : Option Addr} {c : Nat} {xs : List Int} (h : SlI w k A c xs) (m c' : Nat) (hm : m ≤ xs.length) (hc : xs.length - m ≤ c') (hc' : c' ≤ c) : SlI w k (A.map (·.add m)) c' (xs.drop m) :=
  ⟨by have := h.rd.drop m; simpa [nums, List.map_drop] using this, by simp; omega, Nat.le_trans hc' h.cap⟩
/-- 'xs[m:]' as the model has it: at the capacity's end the old address stays. -/
theorem SlI.dropIf {w : World} {k : IntKind} {A : Option Addr} {c : Nat} {xs : List Int} (h : SlI w k A c xs) (m c' : Nat) (hm : m ≤ xs.length) (hc : xs.length - m ≤ c') (hc' : c' ≤ c) : SlI w k (if c = m then A else A.map (·.add m)) c' (xs.drop m) := by
  split
  · rename_i e
    have h1 := h.le
    have : xs.drop m = [] := List.drop_eq_nil_of_le (by omega)
    rw [this]; exact ⟨.inl rfl, by simp, Nat.le_trans hc' h.cap⟩
  · exact h.drop m c' hm hc hc'

/-- A slice of whole numbers in a row of the call's own (blocks from base on). -/
abbrev OwnI (w : World) (base E : Nat) (k : IntKind) (A : Option Addr) (c : Nat) (xs : List Int) : Prop := w.ownsRow base E 1 (.slice A xs.length c) xs.length (nums k xs)
theorem OwnI.sl {w : World} {base E : Nat} {k : IntKind} {A : Option Addr} {c : Nat} {xs : List Int} (h : OwnI w base E k A c xs) : SlI w k A c xs := by
  rcases h.2 with ⟨h1, h2⟩ | ⟨g, cap, cur, h1, hb, hh, hn, hm, _⟩
  · injection h1 with h1 h3 h4
    subst h1 h4
    exact ⟨.inl (by have := h.1; simpa [h2] using List.eq_nil_of_length_eq_zero (by simpa [h2] using this)), by omega, Nat.zero_le _⟩
  · injection h1 with h1 h3 h4
    subst h1 h4
    exact ⟨.inr ⟨_, rfl, fun j u hj => h.cells rfl j u hj⟩, hn, hm⟩
theorem OwnI.le {w : World} {base E : Nat} {k : IntKind} {A : Option Addr} {c : Nat} {xs : List Int} (h : OwnI w base E k A c xs) : xs.length ≤ c := h.sl.le
theorem grown_of_below {w w1 : World} (h : Below w.heap.size w w1) (row : Option Nat) : w.grownBy w1 row := ⟨h.os, h.tape, h.output, h.size, fun i hi _ => h.block i hi⟩
theorem own_below {w w1 : World} {base : Nat} {e : TypeId} {size n : Nat} {v : Value} {xs : List Value} (h : w.ownsRow base e size v n xs) (hb : Below w.heap.size w w1) : w1.ownsRow base e size v n xs :=
  h.kept (grown_of_below hb none) (by cases v.ownBlock <;> simp)
theorem own_mono {w : World} {base base' : Nat} {e : TypeId} {size n : Nat} {v : Value} {xs : List Value} (h : w.ownsRow base e size v n xs) (hb : base' ≤ base) : w.ownsRow base' e size v n xs := by
  refine ⟨h.1, ?_⟩
  rcases h.2 with h2 | ⟨g, cap, cur, h1, h3, h4⟩
  · exact .inl h2
  · exact .inr ⟨g, cap, cur, h1, by omega, h4⟩
theorem own_nil (W : World) (base : Nat) (e : TypeId) (size : Nat) : W.ownsRow base e size (.slice none 0 0) 0 [] := ⟨by simp, .inl ⟨rfl, rfl⟩⟩
theorem own_base {w : World} {base : Nat} {e : TypeId} {size n : Nat} {v : Value} {xs : List Value} (h : w.ownsRow base e size v n xs) (k : Nat) (hk : v.ownBlock = some k) : base ≤ k := (h.lt k hk).1
theorem own_slice {w : World} {base n : Nat} {e : TypeId} {size : Nat} {v : Value} {xs : List Value} (h : w.ownsRow base e size v n xs) : ∃ A c, v = .slice A n c := by
  rcases h.2 with ⟨rfl, rfl⟩ | ⟨g, cap, cur, rfl, _⟩
  · exact ⟨none, 0, rfl⟩
  · exact ⟨_, cap, rfl⟩
theorem below_then {B : Nat} {w w1 w2 : World} (h : Below B w w1) (hB : B ≤ w1.heap.size) (k : Below w1.heap.size w1 w2) : Below B w w2 :=
  h.trans ⟨k.os, k.tape, k.output, k.size, fun i hi => k.block i (Nat.lt_of_lt_of_le hi hB)⟩
theorem below_trans {w w1 w2 : World} (h : Below w.heap.size w w1) (k : Below w1.heap.size w1 w2) : Below w.heap.size w w2 := below_then h h.size k
theorem below_drewN {B : Nat} {a w : World} (h : Below B a w) (n : Nat) : Below B a (w.drewN n) := ⟨h.os, h.tape, h.output, h.size, h.block⟩
theorem below_alloc {w W : World} (h : Below w.heap.size w W) (o : Obj) : Below w.heap.size w (W.alloc o) := h.alloc h.size o
theorem own_empty (W : World) (base : Nat) (e : TypeId) (hb : base ≤ W.heap.size) : (W.alloc (.cells #[] e)).ownsRow base e 1 (.slice (some ⟨W.heap.size, 0, none⟩) 0 0) 0 [] := by
  have := World.ownsRow_lit (base := base) (e := e) (size := 1) W #[] 0 hb (Nat.zero_le _) (by simp)
  simpa using this

section
variable {P : Program} {ops : Array Oper} {rest : List Oper} {o : Oper} {a : Act} {Q : Exit → Act → World → Prop}
/-- append(v, ys...): v owned, ys read (nil let in). One operation. -/
theorem wp_app_row {K : Act → World → Prop} {W : World} (base : Nat) (s x : Operand) (t e : TypeId) (k : IntKind) (bytes : Nat)
    (ho : o.op = .call { callee := .builtin .append, args := #[s, x], argTypes := #[t, t] })
    (ht : P.underlying t = some (.slice e)) (hinfo : (P.info? e).map (fun i => (i.zero, i.size, i.bytes)) = some (some (.int k 0), 1, bytes)) (hb0 : 0 < bytes)
    (B : Option Addr) (cb : Nat) (xs ys : List Int) (A : Option Addr) (c : Nat) (hs : a.eval s = .slice B xs.length cb) (hx : a.eval x = .slice A ys.length c)
    (HO : OwnI W base e k B cb xs) (HR : Rd W A (nums k ys)) (hbase : base ≤ W.heap.size) (hl : (xs.length + ys.length) * bytes ≤ 140737488355328)
    (h : ∀ B1 c1 w1, OwnI w1 base e k B1 c1 (xs ++ ys) → W.grownBy w1 (Value.slice B xs.length cb).ownBlock → (ys = [] → B1 = B) →
      ((Value.slice B1 (xs ++ ys).length c1).ownBlock = (Value.slice B xs.length cb).ownBlock ∨ (Value.slice B1 (xs ++ ys).length c1).ownBlock = some W.heap.size) → K (a.put o.dst (.slice B1 (xs ++ ys).length c1)) w1) :
    o.wp P a W K Q := by
  obtain ⟨i0, hi, hzz⟩ := Option.map_eq_some_iff.1 hinfo
  simp only [Prod.mk.injEq] at hzz
  obtain ⟨hz0, hz1, hz2⟩ := hzz
  have hlen : xs.length + ys.length ≤ 140737488355328 := Nat.le_trans (Nat.le_mul_of_pos_right _ hb0) hl
  have hrun : ∃ v1 w1, (Builtin.append_ #[t, t] o.type #[.slice B xs.length cb, .slice A ys.length c]).run P W = .ok v1 w1 ∧ w1.ownsRow base e 1 v1 (xs.length + ys.length) (nums k (xs ++ ys)) ∧ W.grownBy w1 (Value.slice B xs.length cb).ownBlock ∧
      (ys = [] → v1 = .slice B xs.length cb) ∧ (v1.ownBlock = (Value.slice B xs.length cb).ownBlock ∨ v1.ownBlock = some W.heap.size) := by
    have empty : ∀ A, ys = [] → (Builtin.append_ #[t, t] o.type #[.slice B xs.length cb, .slice A ys.length c]).run P W = .ok (.slice B xs.length cb) W := by
      intro A he
      subst he
      rcases HO.2 with ⟨h1, h2⟩ | ⟨g, cap, cur, h1, _, _, hnc, _⟩
      · rw [h1]
        cases A <;> simp [Builtin.append_, run_underlying ht, sizeOf, typeInfo, hi, Builtin.lenOf, Builtin.firstCells, loadCells, loadCellsFrom]
      · rw [h1]
        cases A <;> simp [Builtin.append_, run_underlying ht, sizeOf, typeInfo, hi, Builtin.lenOf, Builtin.firstCells, hnc, storeCells, loadCells, loadCellsFrom]
    by_cases he : ys = []
    · refine ⟨_, W, empty A he, by subst he; simpa using HO, World.grownBy.refl W _, fun _ => rfl, .inl rfl⟩
    · rcases HR with h1 | ⟨ad, rfl, hc⟩
      · exact absurd (List.map_eq_nil_iff.1 h1) he
      · obtain ⟨v1, w1, hr, h2, h3, _, h5⟩ := run_append_own_at (P := P) W base t o.type e i0 (.int k 0) 1 bytes ht hi hz0 hz1 hz2 rfl (by omega) _ xs.length (nums k xs) HO ad ys.length c (nums k ys) (by simp [nums]) hc
          (nums_one k ys) (by simp only [maxLen]; omega) hl hbase
        exact ⟨v1, w1, hr, by rw [nums_append]; exact h2, h3, fun hh => absurd hh he, h5⟩
  obtain ⟨v1, w1, hr, hown, hg, he, hat⟩ := hrun
  obtain ⟨B1, c1, rfl⟩ := own_slice hown
  unfold Oper.wp execOp
  simp only [ho, resolve, invoke, builtin, Sem.run_bind, Sem.run_pure, Result.andThen_ok, List.map_toArray, List.map_cons, List.map_nil, hs, hx, hr]
  have h' := h B1 c1 w1 (by simpa [OwnI] using hown) hg (fun hh => by have := he hh; injection this) (by simpa using hat)
  simp only [List.length_append] at h'
  exact h'
/-- append(v, ys...): v owned, ys read (nil let in). Behind 'at_builtin'. -/
theorem app_row {W : World} (base : Nat) (hgd : o.guard = none) (s x : Operand) (t e : TypeId) (k : IntKind) (bytes : Nat)
    (ho : o.op = .call { callee := .builtin .append, args := #[s, x], argTypes := #[t, t] })
    (ht : P.underlying t = some (.slice e)) (hinfo : (P.info? e).map (fun i => (i.zero, i.size, i.bytes)) = some (some (.int k 0), 1, bytes)) (hb0 : 0 < bytes)
    (B : Option Addr) (cb : Nat) (xs ys : List Int) (A : Option Addr) (c : Nat) (hs : a.eval s = .slice B xs.length cb) (hx : a.eval x = .slice A ys.length c)
    (HO : OwnI W base e k B cb xs) (HR : Rd W A (nums k ys)) (hbase : base ≤ W.heap.size) (hl : (xs.length + ys.length) * bytes ≤ 140737488355328)
    (h : ∀ B1 c1 w1, OwnI w1 base e k B1 c1 (xs ++ ys) → W.grownBy w1 (Value.slice B xs.length cb).ownBlock → (ys = [] → B1 = B) →
      ((Value.slice B1 (xs ++ ys).length c1).ownBlock = (Value.slice B xs.length cb).ownBlock ∨ (Value.slice B1 (xs ++ ys).length c1).ownBlock = some W.heap.size) → wpList P ops Q rest (a.put o.dst (.slice B1 (xs ++ ys).length c1)) w1) :
    wpList P ops Q (o :: rest) a W :=
  wpList_plain hgd fun K hK => wp_app_row base s x t e k bytes ho ht hinfo hb0 B cb xs ys A c hs hx HO HR hbase hl fun B1 c1 w1 h1 h2 h3 h4 => hK _ _ (h B1 c1 w1 h1 h2 h3 h4)
/-- append(v, ys...): v owned, ys read (nil let in). A step of a region that draws. -/
theorem step_app_row {K : Act → World → Prop} {E : Prop} {W : World} (base : Nat) (hgd : o.guard = none) (s x : Operand) (t e : TypeId) (k : IntKind) (bytes : Nat)
    (ho : o.op = .call { callee := .builtin .append, args := #[s, x], argTypes := #[t, t] })
    (ht : P.underlying t = some (.slice e)) (hinfo : (P.info? e).map (fun i => (i.zero, i.size, i.bytes)) = some (some (.int k 0), 1, bytes)) (hb0 : 0 < bytes)
    (B : Option Addr) (cb : Nat) (xs ys : List Int) (A : Option Addr) (c : Nat) (hs : a.eval s = .slice B xs.length cb) (hx : a.eval x = .slice A ys.length c)
    (HO : OwnI W base e k B cb xs) (HR : Rd W A (nums k ys)) (hbase : base ≤ W.heap.size) (hl : (xs.length + ys.length) * bytes ≤ 140737488355328)
    (h : ∀ B1 c1 w1, OwnI w1 base e k B1 c1 (xs ++ ys) → W.grownBy w1 (Value.slice B xs.length cb).ownBlock → (ys = [] → B1 = B) →
      ((Value.slice B1 (xs ++ ys).length c1).ownBlock = (Value.slice B xs.length cb).ownBlock ∨ (Value.slice B1 (xs ++ ys).length c1).ownBlock = some W.heap.size) → K (a.put o.dst (.slice B1 (xs ++ ys).length c1)) w1) :
    if Region.wanted o (yielded ops a.tmps) = true then Oper.wp P o a W K Q else E := by
  rw [if_pos (by simp [Region.wanted, hgd])]
  exact wp_app_row base s x t e k bytes ho ht hinfo hb0 B cb xs ys A c hs hx HO HR hbase hl h
/-- The same, what comes of it under a name. -/
theorem app_row_is {W : World} (base : Nat) (hgd : o.guard = none) (s x : Operand) (t e : TypeId) (k : IntKind) (bytes : Nat)
    (ho : o.op = .call { callee := .builtin .append, args := #[s, x], argTypes := #[t, t] })
    (ht : P.underlying t = some (.slice e)) (hinfo : (P.info? e).map (fun i => (i.zero, i.size, i.bytes)) = some (some (.int k 0), 1, bytes)) (hb0 : 0 < bytes)
    (B : Option Addr) (cb : Nat) (xs ys zs : List Int) (hz : Hid (xs ++ ys = zs)) (A : Option Addr) (c : Nat) (hs : a.eval s = .slice B xs.length cb) (hx : a.eval x = .slice A ys.length c)
    (HO : OwnI W base e k B cb xs) (HR : Rd W A (nums k ys)) (hbase : base ≤ W.heap.size) (hl : (xs.length + ys.length) * bytes ≤ 140737488355328)
    (h : ∀ B1 c1 w1, OwnI w1 base e k B1 c1 zs → W.grownBy w1 (Value.slice B xs.length cb).ownBlock →
      ((Value.slice B1 zs.length c1).ownBlock = (Value.slice B xs.length cb).ownBlock ∨ (Value.slice B1 zs.length c1).ownBlock = some W.heap.size) → wpList P ops Q rest (a.put o.dst (.slice B1 zs.length c1)) w1) :
    wpList P ops Q (o :: rest) a W :=
  app_row base hgd s x t e k bytes ho ht hinfo hb0 B cb xs ys A c hs hx HO HR hbase hl fun B1 c1 w1 h1 h2 _ h3 => hz.out ▸ h B1 c1 w1 (hz.out ▸ h1) h2 (hz.out ▸ h3)
/-- append(v, x): one element; the goal's world is 'W.alloc' of the element's box. -/
theorem app_one {W : World} (base : Nat) (hgd : o.guard = none) (s x : Operand) (t e : TypeId) (k : IntKind) (bytes : Nat)
    (ho : o.op = .call { callee := .builtin .append, args := #[s, x], argTypes := #[t, t] })
    (ht : P.underlying t = some (.slice e)) (hinfo : (P.info? e).map (fun i => (i.zero, i.size, i.bytes)) = some (some (.int k 0), 1, bytes)) (hb0 : 0 < bytes)
    (B : Option Addr) (cb : Nat) (xs : List Int) (y : Int) (hs : a.eval s = .slice B xs.length cb) (hx : a.eval x = .slice (some ⟨W.heap.size, 0, none⟩) 1 1)
    (HO : OwnI W base e k B cb xs) (hbase : base ≤ W.heap.size) (hl : (xs.length + 1) * bytes ≤ 140737488355328)
    (h : ∀ B1 c1 w1, OwnI w1 base e k B1 c1 (xs ++ [y]) → W.grownBy w1 (Value.slice B xs.length cb).ownBlock →
      ((Value.slice B1 (xs ++ [y]).length c1).ownBlock = (Value.slice B xs.length cb).ownBlock ∨ (Value.slice B1 (xs ++ [y]).length c1).ownBlock = some (W.heap.size + 1)) → wpList P ops Q rest (a.put o.dst (.slice B1 (xs ++ [y]).length c1)) w1) :
    wpList P ops Q (o :: rest) a (W.alloc (.cells #[.int k y] e)) := by
  refine app_row base hgd s x t e k bytes ho ht hinfo hb0 B cb xs [y] (some ⟨W.heap.size, 0, none⟩) 1 hs hx (HO.alloc _) (.inr ⟨_, rfl, ?_⟩) (by simp; omega) (by simpa using hl) ?_
  · exact World.news_of_block (cs := #[.int k y]) (t := e) (fr := (0, 0)) (heap_alloc_new W _)
  · intro B1 c1 w1 h1 h2 _ h3
    exact h B1 c1 w1 h1 (World.grownBy.trans (World.grownBy_alloc W _ _) h2) (by simpa using h3)
end
theorem below_grown {w W w1 : World} {v : Value} {base n : Nat} {e : TypeId} {size : Nat} {xs : List Value} (h : Below w.heap.size w W) (hg : W.grownBy w1 v.ownBlock) (HO : W.ownsRow base e size v n xs) (hb : w.heap.size ≤ base) : Below w.heap.size w w1 :=
  h.grown hg h.size fun k hk => Nat.le_trans hb (own_base HO k hk)
/-- What stands in an owned row. -/
theorem OwnI.cell {W : World} {base E g n cap : Nat} {k : IntKind} {xs : List Int} (h : W.ownsRow base E 1 (.slice (some ⟨g, 0, none⟩) n cap) n (nums k xs)) (j : Nat) (hj : j < xs.length) :
    W.cell? ⟨g, j, none⟩ = some (.int k (xs.getD j 0)) ∧ W.frozen? ⟨g, j, none⟩ = false := by
  have hl : xs.length = n := by have := h.1; simp [nums] at this; exact this
  exact ⟨by rw [h.cellAt j (by omega), nums_get k xs j hj], h.frozenAt j⟩
theorem OwnI.store {W : World} {base E g n cap : Nat} {k : IntKind} {xs : List Int} (h : W.ownsRow base E 1 (.slice (some ⟨g, 0, none⟩) n cap) n (nums k xs)) (j : Nat) (x : Int) :
    (W.setCell ⟨g, j, none⟩ (.int k x)).ownsRow base E 1 (.slice (some ⟨g, 0, none⟩) n cap) n (nums k (xs.set j x)) ∧ W.grownBy (W.setCell ⟨g, j, none⟩ (.int k x)) (some g) := by
  have hs := h.stored j (.int k x)
  rwa [nums_set] at hs
/-- 'xs[m:]' without a case on the capacity: the address is a letter. -/
theorem cut_l {P : Program} (t e : TypeId) (kl : IntKind) {i : TypeInfo} (ht : P.underlying t = some (.slice e)) (hi : P.info? e = some i) (hsz : i.size = 1) (A : Option Addr) (n c m : Nat) (hm : m ≤ n) (hc : n ≤ c) :
    ∃ A' : Option Addr, (∀ W : World, (Instr.slice t (.slice A n c) (some (.int kl (m : Int))) none none).run P W = .ok (.slice A' (n - m) (c - m)) W) ∧
      (∀ (w : World) (k : IntKind) (xs : List Int), n = xs.length → SlI w k A c xs → SlI w k A' (c - m) (xs.drop m)) ∧ (∀ x, A' = some x → ∃ y, A = some y ∧ x.block = y.block) := by
  refine ⟨if c = m then A else A.map (·.add m), fun W => ?_, fun w k xs hx h => h.dropIf m (c - m) (by omega) (by omega) (by omega), fun x hx => ?_⟩
  · have hel : P.elem t = e := by simp [Program.elem, ht]
    have hu : P.underlying t = some (.slice (P.elem t)) := by rw [hel]; exact ht
    rw [run_slice_l W t A n c hu kl (m : Int) (Int.natCast_nonneg _) (by omega), hel]
    simp [sizeOf, typeInfo, hi, hsz, sliced, Result.andThen]
  · split at hx
    · exact ⟨x, hx, rfl⟩
    · obtain ⟨y, hy, rfl⟩ := Option.map_eq_some_iff.1 hx
      refine ⟨y, hy, ?_⟩
      unfold Addr.add; split <;> rfl
/-- 'xs[l:h]' likewise. -/
theorem cut_lh {P : Program} (t e : TypeId) (kl kh : IntKind) {i : TypeInfo} (ht : P.underlying t = some (.slice e)) (hi : P.info? e = some i) (hsz : i.size = 1) (A : Option Addr) (n c l m : Nat) (hl : l ≤ m) (hm : m ≤ n) (hc : n ≤ c) :
    ∃ A' : Option Addr, (∀ W : World, (Instr.slice t (.slice A n c) (some (.int kl (l : Int))) (some (.int kh (m : Int))) none).run P W = .ok (.slice A' (m - l) (c - l)) W) ∧
      (∀ (w : World) (k : IntKind) (xs : List Int), n = xs.length → SlI w k A c xs → SlI w k A' (c - l) ((xs.take m).drop l)) ∧ (∀ x, A' = some x → ∃ y, A = some y ∧ x.block = y.block) := by
  refine ⟨if c = l then A else A.map (·.add l), fun W => ?_, fun w k xs hx h => (h.take m c (by omega) (Nat.le_refl _)).dropIf l (c - l) (by simp; omega) (by simp; omega) (by omega), fun x hx => ?_⟩
  · have hel : P.elem t = e := by simp [Program.elem, ht]
    have hu : P.underlying t = some (.slice (P.elem t)) := by rw [hel]; exact ht
    rw [run_slice_lh W t A n c hu kl kh (l : Int) (m : Int) (Int.natCast_nonneg _) (by omega) (by omega), hel]
    simp [sizeOf, typeInfo, hi, hsz, sliced, Result.andThen]
  · split at hx
    · exact ⟨x, hx, rfl⟩
    · obtain ⟨y, hy, rfl⟩ := Option.map_eq_some_iff.1 hx
      refine ⟨y, hy, ?_⟩
      unfold Addr.add; split <;> rfl
/-- A function that hands back a slice of its own. -/
def RetOwn (E : Nat) (k : IntKind) (zs : List Int) (w : World) (e : Ending) (w' : World) : Prop := ∃ A' c', e = .returned (.slice A' zs.length c') ∧ OwnI w' w.heap.size E k A' c' zs ∧ Below w.heap.size w w'
theorem RetOwn.mk {E : Nat} {k : IntKind} {zs : List Int} {w : World} {w' : World} {A' : Option Addr} {n c' : Nat} (hn : n = zs.length) (h : OwnI w' w.heap.size E k A' c' zs) (hb : Below w.heap.size w w') : RetOwn E k zs w (.returned (.slice A' n c')) w' := ⟨A', c', by rw [hn], h, hb⟩
/-- min and max of two, kept whole: 'attribute [local go_sem] run_max run_min'. -/
theorem run_max (ats : Array TypeId) (ty : TypeId) (k k' : IntKind) (x y : Int) : Builtin.max_ ats ty #[.int k x, .int k' y] = pure (.int k (max x y)) := by
  simp only [Builtin.max_, List.foldlM_cons, List.foldlM_nil, Builtin.max2, gt_iff_lt, bind_pure]
  rw [show (if x < y then y else x) = max x y by split <;> omega]
theorem run_min (ats : Array TypeId) (ty : TypeId) (k k' : IntKind) (x y : Int) : Builtin.min_ ats ty #[.int k x, .int k' y] = pure (.int k (min x y)) := by
  simp only [Builtin.min_, List.foldlM_cons, List.foldlM_nil, Builtin.min2, bind_pure]
  rw [show (if y < x then y else x) = min x y by split <;> omega]
theorem OwnI.put {W : World} {base E g c : Nat} {k : IntKind} {xs : List Int} (h : OwnI W base E k (some ⟨g, 0, none⟩) c xs) (j : Nat) (x : Int) : OwnI (W.setCell ⟨g, j, none⟩ (.int k x)) base E k (some ⟨g, 0, none⟩) c (xs.set j x) := by
  have := (OwnI.store h j x).1
  unfold OwnI; rw [List.length_set]; exact this
theorem own_form {W : World} {base E : Nat} {k : IntKind} {A : Option Addr} {c : Nat} {xs : List Int} (h : OwnI W base E k A c xs) (hx : 0 < xs.length) : ∃ g, A = some ⟨g, 0, none⟩ ∧ base ≤ g ∧ g < W.heap.size := by
  obtain ⟨g, cap, hv, h1, h2⟩ := h.form hx
  injection hv with hv
  exact ⟨g, hv, h1, h2⟩
end Go.Proofs.Ytjdablkdndmcgaa
