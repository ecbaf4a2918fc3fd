/- append of entries; slices.Clone, owned. -/
import Derived.Test.YtikjmhijkegdgaaEntQ
import Derived.Lib.SliceRun
namespace Go.Proofs.Ytikjmhijkegdgaa
set_option linter.unusedVariables false
set_option linter.unusedSimpArgs false
open Go.RowKit
theorem SlX.rd {w : World} {A : Option Addr} {c : Nat} {xs : List HE} {ok : Nat → Prop} (h : SlX w A c xs ok) : Rd w A (flat xs) := by
  by_cases hx : xs = []
  · subst hx; exact .inl rfl
  · have hp : 0 < xs.length := List.length_pos_iff.2 hx
    obtain ⟨ad, hA, _⟩ := h.2.2.2 0 hp
    refine .inr ⟨ad, hA, fun i u hi => ?_⟩
    have hi2 : i < xs.length * 4 := by rw [← flat_length]; exact (List.getElem?_eq_some_iff.1 hi).1
    obtain ⟨j, f, rfl, hf⟩ : ∃ j f, i = j * 4 + f ∧ f < 4 := ⟨i / 4, i % 4, by omega, by omega⟩
    have hj : j < xs.length := by omega
    rw [flat_get xs j f hj hf] at hi
    obtain ⟨ad', hA', e⟩ := h.2.2.2 j hj
    rw [hA] at hA'
    injection hA' with hA'
    subst hA'
    have ha : ∀ f, ad.add (j * 4 + (f + 1)) = ⟨(ad.add (j * 4)).block, (ad.add (j * 4)).off + (f + 1), none⟩ := fun f => by
      unfold Addr.add
      by_cases h0 : j * 4 = 0
      · rw [if_neg (by omega), if_pos h0, h0]; simp
      · rw [if_neg (by omega), if_neg h0]; simp [Nat.add_assoc]
    generalize xs.getD j default = q at *
    obtain ⟨e0, e1, e2, e3⟩ := e
    have hc : f = 0 ∨ f = 1 ∨ f = 2 ∨ f = 3 := by omega
    rcases hc with rfl | rfl | rfl | rfl
    · simp [cells4] at hi; subst hi; exact e0
    · simp [cells4] at hi; subst hi; rw [ha 0]; exact e1
    · simp [cells4] at hi; subst hi; rw [ha 1]; exact e2
    · simp [cells4] at hi; subst hi; rw [ha 2]; exact e3
section
variable {P : Program} {ops : Array Oper} {rest : List Oper} {o : Oper} {a : Act} {Q : Exit → Act → World → Prop}
/-- append(v, ys...) of entries: v owned, ys read (nil let in). One operation. -/
theorem wp_app_ents {K : Act → World → Prop} {W : World} (base : Nat) (s x : Operand) (t e : TypeId) (z : Value) (bytes : Nat)
    (ho : o.op = .call { callee := .builtin .append, args := #[s, x], argTypes := #[t, t] })
    (ht : P.underlying t = some (.slice e)) (hinfo : (P.info? e).map (fun i => (i.zero, i.size, i.bytes)) = some (some z, 4, bytes)) (hb0 : 0 < bytes) (hzc : z.cells.size = 4)
    (B : Option Addr) (cb n m : Nat) (xs ys : List HE) (A : Option Addr) (c : Nat) (hs : a.eval s = .slice B n cb) (hx : a.eval x = .slice A m c) (hn : xs.length = n) (hm : ys.length = m)
    (HO : W.ownsRow base e 4 (.slice B xs.length cb) xs.length (flat xs)) (HR : Rd W A (flat ys)) (hbase : base ≤ W.heap.size) (hl : (xs.length + ys.length) * bytes ≤ 140737488355328)
    (h : ∀ B1 c1 w1, w1.ownsRow base e 4 (.slice B1 (xs ++ ys).length c1) (xs ++ ys).length (flat (xs ++ ys)) → W.grownBy w1 (Value.slice B xs.length cb).ownBlock →
      ((Value.slice B1 (xs ++ ys).length c1).ownBlock = (Value.slice B xs.length cb).ownBlock ∨ (Value.slice B1 (xs ++ ys).length c1).ownBlock = some W.heap.size) → K (a.put o.dst (.slice B1 (xs ++ ys).length c1)) w1) :
    o.wp P a W K Q := by
  subst hn; subst hm
  obtain ⟨i0, hi, hzz⟩ := Option.map_eq_some_iff.1 hinfo
  simp only [Prod.mk.injEq] at hzz
  obtain ⟨hz0, hz1, hz2⟩ := hzz
  have hlen : xs.length + ys.length ≤ 140737488355328 := Nat.le_trans (Nat.le_mul_of_pos_right _ hb0) hl
  by_cases he : ys = []
  · subst he
    have empty : (Builtin.append_ #[t, t] o.type #[.slice B xs.length cb, .slice A 0 c]).run P W = .ok (.slice B xs.length cb) W := by
      rcases HO.2 with ⟨h1, h2⟩ | ⟨g, cap, cur, h1, _, _, hnc, _⟩
      · rw [h1]
        cases A <;> simp [Builtin.append_, run_underlying ht, sizeOf, typeInfo, hi, Builtin.lenOf, Builtin.firstCells, loadCells, loadCellsFrom]
      · rw [h1]
        cases A <;> simp [Builtin.append_, run_underlying ht, sizeOf, typeInfo, hi, Builtin.lenOf, Builtin.firstCells, hnc, storeCells, loadCells, loadCellsFrom]
    unfold Oper.wp execOp
    simp only [ho, resolve, invoke, builtin, Sem.run_bind, Sem.run_pure, Result.andThen_ok, List.map_toArray, List.map_cons, List.map_nil, hs, hx, List.length_nil, empty]
    have := h B cb W (by rw [List.append_nil]; exact HO) (World.grownBy.refl W _) (by rw [List.append_nil]; exact .inl rfl)
    rw [List.append_nil] at this
    exact this
  · rcases HR with hr | ⟨ad, rfl, hc⟩
    · have := congrArg List.length hr
      rw [flat_length] at this
      exact absurd (List.eq_nil_of_length_eq_zero (by simp at this; omega)) he
    · obtain ⟨v1, w1, hr, h2, h3, _, h5⟩ := run_append_own_at (P := P) W base t o.type e i0 z 4 bytes ht hi hz0 hz1 hz2 hzc (by omega) _ xs.length (flat xs) HO ad ys.length c (flat ys) (flat_length ys) hc (flat_one ys) (by simp only [maxLen]; omega) hl hbase
      obtain ⟨B1, c1, rfl⟩ := own_slice h2
      have e1 : (xs ++ ys).length = xs.length + ys.length := List.length_append
      rw [← flat_append, ← e1] at h2
      unfold Oper.wp execOp
      simp only [ho, resolve, invoke, builtin, Sem.run_bind, Sem.run_pure, Result.andThen_ok, List.map_toArray, List.map_cons, List.map_nil, hs, hx, hr]
      have := h B1 c1 w1 h2 h3 (by rw [e1]; exact h5)
      rw [e1] at this
      exact this
theorem app_ents {W : World} (base : Nat) (hgd : o.guard = none) (s x : Operand) (t e : TypeId) (z : Value) (bytes : Nat)
    (ho : o.op = .call { callee := .builtin .append, args := #[s, x], argTypes := #[t, t] })
    (ht : P.underlying t = some (.slice e)) (hinfo : (P.info? e).map (fun i => (i.zero, i.size, i.bytes)) = some (some z, 4, bytes)) (hb0 : 0 < bytes) (hzc : z.cells.size = 4)
    (B : Option Addr) (cb n m : Nat) (xs ys : List HE) (A : Option Addr) (c : Nat) (hs : a.eval s = .slice B n cb) (hx : a.eval x = .slice A m c) (hn : xs.length = n) (hm : ys.length = m)
    (HO : W.ownsRow base e 4 (.slice B xs.length cb) xs.length (flat xs)) (HR : Rd W A (flat ys)) (hbase : base ≤ W.heap.size) (hl : (xs.length + ys.length) * bytes ≤ 140737488355328)
    (h : ∀ B1 c1 w1, w1.ownsRow base e 4 (.slice B1 (xs ++ ys).length c1) (xs ++ ys).length (flat (xs ++ ys)) → W.grownBy w1 (Value.slice B xs.length cb).ownBlock →
      ((Value.slice B1 (xs ++ ys).length c1).ownBlock = (Value.slice B xs.length cb).ownBlock ∨ (Value.slice B1 (xs ++ ys).length c1).ownBlock = some W.heap.size) → wpList P ops Q rest (a.put o.dst (.slice B1 (xs ++ ys).length c1)) w1) :
    wpList P ops Q (o :: rest) a W :=
  wpList_plain hgd fun K hK => wp_app_ents base s x t e z bytes ho ht hinfo hb0 hzc B cb n m xs ys A c hs hx hn hm HO HR hbase hl fun B1 c1 w1 h1 h2 h3 => hK _ _ (h B1 c1 w1 h1 h2 h3)
end
theorem rowE_empty (W : World) (base : Nat) (e : TypeId) (hb : base ≤ W.heap.size) : (W.alloc (.cells #[] e)).ownsRow base e 4 (.slice (some ⟨W.heap.size, 0, none⟩) 0 0) 0 [] :=
  World.ownsRow_made W #[] 0 hb (by decide) rfl
abbrev zeroE : Value := .agg #[.int .i64 0, .slice none 0 0, .int .i64 0, .bool false]
/-- slices.Clone: the codes are shared. -/
theorem CloneE_calls (A : Option Addr) (c : Nat) (xs : List HE) (ok : Nat → Prop) (w : World) (h : SlX w A c xs ok) (hl : xs.length * 48 ≤ 140737488355328) :
    Calls Try.prog 53 #[.slice A xs.length c] w fun e w' => ∃ A' c', e = .returned (.slice A' xs.length c') ∧ w'.ownsRow w.heap.size 33 4 (.slice A' xs.length c') xs.length (flat xs) ∧ Below w.heap.size w w' := by
  have qT := fun (w : World) (a : Option Addr) (n c : Nat) => Lib.run_eql_slice_nil (P := Try.prog) w 30 33 a n c 0 0 Try.underlying30
  cases A with
  | none =>
    have hx : xs = [] := by
      cases xs with
      | nil => rfl
      | cons q l => obtain ⟨ad, h1, _⟩ := h.2.2.2 0 (by simp); cases h1
    subst hx
    go_enter Try.func53, Try.ntmps53
    go_wp2
    go_ret
    exact ⟨none, 0, rfl, own_nil _ _ _ _, Below.refl _ _⟩
  | some ad =>
    go_enter Try.func53, Try.ntmps53
    go_wp2_with (at_builtin; refine app_ents w.heap.size rfl _ _ 30 33 zeroE 48 rfl Try.underlying30 (by kernel_rfl) (by decide) rfl _ _ 0 xs.length [] xs (some ad) c rfl rfl rfl rfl (rowE_empty w w.heap.size 33 (Nat.le_refl _)) (h.below (below_box0 w _)).rd (by simp) (by simpa using hl) ?_)
    intro B1 c1 w1 hown hg _
    try simp only [List.nil_append] at hown
    go_wp2
    go_ret
    exact ⟨_, _, rfl, hown, below_grown (below_box0 w _) hg (rowE_empty w w.heap.size 33 (Nat.le_refl _)) (Nat.le_refl _)⟩
/-- An element of a row of the call's own: its cells, and that they may be written. -/
theorem rowE_at {w : World} {base E g cap : Nat} {xs : List HE} (h : w.ownsRow base E 4 (.slice (some ⟨g, 0, none⟩) xs.length cap) xs.length (flat xs)) (j f : Nat) (hj : j < xs.length) (hf : f < 4) :
    w.cell? ⟨g, j * 4 + f, none⟩ = (cells4 (xs.getD j default))[f]? ∧ w.frozen? ⟨g, j * 4 + f, none⟩ = false := by
  refine ⟨?_, h.frozenAt _⟩
  rw [h.cellAt (j * 4 + f) (by omega), flat_get xs j f hj hf]
theorem rowE_form {w : World} {base E c n : Nat} {A : Option Addr} {xs : List Value} (h : w.ownsRow base E 4 (.slice A n c) n xs) (hx : 0 < n) : ∃ g, A = some ⟨g, 0, none⟩ ∧ base ≤ g ∧ g < w.heap.size := by
  obtain ⟨g, cap, hv, h1, h2⟩ := h.form hx
  injection hv with hv
  exact ⟨g, hv, h1, h2⟩
theorem rowE_put {w : World} {base E g cap n : Nat} {xs : List HE} (h : w.ownsRow base E 4 (.slice (some ⟨g, 0, none⟩) n cap) n (flat xs)) (j : Nat) (hj : j < xs.length) (q : HE) :
    ((((w.setCell ⟨g, j * 4, none⟩ (.int .i64 q.e.id)).setCell ⟨g, j * 4 + 1, none⟩ (.slice q.A q.e.code.length q.c)).setCell ⟨g, j * 4 + 2, none⟩ (.int .i64 q.e.rad)).setCell ⟨g, j * 4 + 3, none⟩ (.bool q.e.dead)).ownsRow base E 4 (.slice (some ⟨g, 0, none⟩) n cap) n (flat (xs.set j q)) := by
  have h1 := ((((h.stored (j * 4) (.int .i64 q.e.id)).1.stored (j * 4 + 1) (.slice q.A q.e.code.length q.c)).1.stored (j * 4 + 2) (.int .i64 q.e.rad)).1.stored (j * 4 + 3) (.bool q.e.dead)).1
  rwa [flat_put xs j hj q] at h1
theorem grownBy4 (w : World) (g a b c d : Nat) (x y z u : Value) : w.grownBy ((((w.setCell ⟨g, a, none⟩ x).setCell ⟨g, b, none⟩ y).setCell ⟨g, c, none⟩ z).setCell ⟨g, d, none⟩ u) (some g) :=
  (((grownBy_cell w g a x).trans (grownBy_cell _ g b y)).trans (grownBy_cell _ g c z)).trans (grownBy_cell _ g d u)
/-- Each code lies in a row of the call's own. -/
def CodesO (w : World) (base : Nat) (xs : List HE) : Prop := ∀ q ∈ xs, OwnI w base 5 .u8 q.A q.c q.e.code
theorem CodesO.nil (w : World) (base : Nat) : CodesO w base [] := fun _ h => by cases h
theorem CodesO.below {w w' : World} {base : Nat} {xs : List HE} (h : CodesO w base xs) (hb : Below w.heap.size w w') : CodesO w' base xs := fun q hq => own_below (h q hq) hb
theorem CodesO.kept {w w' : World} {base : Nat} {xs : List HE} {row : Option Nat} (h : CodesO w base xs) (hg : w.grownBy w' row) (hr : ∀ q ∈ xs, ∀ x, q.A = some x → some x.block ≠ row) : CodesO w' base xs := fun q hq => (h q hq).kept hg (by
  have h2 := hr q hq
  have ho := h q hq
  cases hA : q.A with
  | none => exact .inl rfl
  | some x => right; exact h2 x hA)
theorem CodesO.sub {w : World} {base : Nat} {xs ys : List HE} (h : CodesO w base xs) (hs : ∀ e ∈ ys, e ∈ xs) : CodesO w base ys := fun q hq => h q (hs q hq)
/-- Where what is handed back lies. -/
def newE (B : Nat) (w : World) (A : Option Addr) (b : Nat) : Prop := B ≤ b ∧ b < w.heap.size ∧ ∀ y, A = some y → b ≠ y.block
/-- A function that hands back entries in memory of their own. -/
def RetO (es : List En) (w : World) (e : Ending) (w' : World) : Prop := ∃ A' c' ys, e = .returned (.slice A' es.length c') ∧ ents ys = es ∧ OwnX w' w.heap.size 33 A' c' ys (newE w.heap.size w' A') ∧ CodesO w' w.heap.size ys ∧ Below w.heap.size w w'
set_option maxHeartbeats 1000000 in
theorem owned_calls (A : Option Addr) (c : Nat) (xs : List HE) (ok : Nat → Prop) (w : World) (h : SlX w A c xs ok) (hl : xs.length ≤ 1000000) (hcl : ∀ q ∈ xs, q.e.code.length ≤ 1000000) :
    Calls Try.prog 39 #[.slice A xs.length c] w (RetO (ents xs) w) := by
  have hm : xs.length ≤ 9223372036854775807 := by omega
  go_enter Try.func39, Try.ntmps39
  go_wp2_with fail
  refine (CloneE_calls A c xs ok _ h (by omega)).mono ?_
  rintro e w1 ⟨A1, c1, rfl, o1, b1⟩
  have hcodes := h.2.2.1
  go_wp2_with fail
  go_loopg [4, 9] (xs.length + 1) (fun gk u i w' => ∃ (j : Nat) (ys : List HE), i = .int .i64 (j : Int) ∧ j ≤ xs.length ∧ xs.length < j + gk ∧ ys.length = j ∧ ents ys = (ents xs).take j ∧ CodesE w' (fun b => w1.heap.size ≤ b ∧ b < w'.heap.size) ys ∧ CodesO w' w1.heap.size ys ∧ w'.ownsRow w.heap.size 33 4 (.slice A1 xs.length c1) xs.length (flat (ys ++ xs.drop j)) ∧ Below w.heap.size w w' ∧ w1.heap.size ≤ w'.heap.size)
  case atStart => exact ⟨0, [], rfl, by omega, by omega, rfl, rfl, CodesE.nil _ _, CodesO.nil _ _, o1, b1, Nat.le_refl _⟩
  case round =>
    obtain ⟨j, ys, rfl, hj, hg, hyl, hye, hyc, hyo, oo, bw, lw⟩ := hrel
    by_cases hlt : j < xs.length
    · have i1 : (j : Int) < (xs.length : Int) := by omega
      have hzl : (ys ++ xs.drop j).length = xs.length := by simp; omega
      have hzj : (ys ++ xs.drop j).getD j default = xs.getD j default := by
        simp [List.getD_eq_getElem?_getD, List.getElem?_append_right (show ys.length ≤ j by omega), hyl, List.getElem?_drop]
      obtain ⟨g, rfl, hg1, hg2⟩ := rowE_form oo (by omega)
      have oo' : wr.ownsRow w.heap.size 33 4 (.slice (some ⟨g, 0, none⟩) (ys ++ xs.drop j).length c1) (ys ++ xs.drop j).length (flat (ys ++ xs.drop j)) := by rw [hzl]; exact oo
      have x0 := (rowE_at oo' j 0 (by omega) (by decide)).1
      have x1 := (rowE_at oo' j 1 (by omega) (by decide)).1
      have x2 := (rowE_at oo' j 2 (by omega) (by decide)).1
      have x3 := (rowE_at oo' j 3 (by omega) (by decide)).1
      rw [hzj] at x0 x1 x2 x3
      have hq := hcodes _ (getD_mem' xs j hlt)
      have hql := hcl _ (getD_mem' xs j hlt)
      have HY := Lib.hid hye
      have HZ := Lib.hid hzl
      have HYL := Lib.hid hyl
      have HD := Lib.hid (show (ys ++ xs.drop j).set j default = (ys ++ xs.drop j).set j default from rfl)
      clear oo' hzj hzl hye hyl
      generalize hqq : xs.getD j default = q at *
      have HQ := Lib.hid hqq
      have HQ2 := Lib.hid (show (ys ++ xs.drop j).getD j default = q from by rw [← hqq]; simp [List.getD_eq_getElem?_getD, List.getElem?_append_right (show ys.length ≤ j by rw [HYL.out]; exact Nat.le_refl _), HYL.out, List.getElem?_drop])
      clear hqq
      obtain ⟨⟨qid, qcode, qrad, qdead⟩, qA, qc⟩ := q
      simp only [cells4, List.getElem?_cons_zero, List.getElem?_cons_succ, Nat.add_zero] at x0 x1 x2 x3
      dsimp only at hq hql
      go_wp2_with fail
      refine (own_calls ⟨qid, qcode, qrad, qdead⟩ qA qc _ (hq.1.below bw) (by show qcode.length * 1 ≤ _; omega)).mono ?_
      rintro e w2 ⟨A2, c2, rfl, o2, b2⟩
      have oo2 := own_below oo b2
      have oo3 : w2.ownsRow w.heap.size 33 4 (.slice (some ⟨g, 0, none⟩) (ys ++ xs.drop j).length c1) (ys ++ xs.drop j).length (flat (ys ++ xs.drop j)) := by rw [HZ.out]; exact oo2
      have y0 := rowE_at oo3 j 0 (by rw [HZ.out]; exact hlt) (by decide)
      have y1 := rowE_at oo3 j 1 (by rw [HZ.out]; exact hlt) (by decide)
      have y2 := rowE_at oo3 j 2 (by rw [HZ.out]; exact hlt) (by decide)
      have y3 := rowE_at oo3 j 3 (by rw [HZ.out]; exact hlt) (by decide)
      have hset := rowE_put oo2 j (by rw [HZ.out]; exact hlt) ⟨⟨qid, qcode, qrad, qdead⟩, A2, c2⟩
      have hgr := grownBy4 w2 g (j * 4) (j * 4 + 1) (j * 4 + 2) (j * 4 + 3) (.int .i64 qid) (.slice A2 qcode.length c2) (.int .i64 qrad) (.bool qdead)
      have hbel := (((below_trans bw b2).setCell (p := ⟨g, j * 4, none⟩) hg1 (.int .i64 qid)).setCell (p := ⟨g, j * 4 + 1, none⟩) hg1 (.slice A2 qcode.length c2)).setCell (p := ⟨g, j * 4 + 2, none⟩) hg1 (.int .i64 qrad) |>.setCell (p := ⟨g, j * 4 + 3, none⟩) hg1 (.bool qdead)
      have hg3 : g < w1.heap.size := (o1.lt g rfl).2
      have HS := Lib.hid (show (ys ++ xs.drop j).set j ⟨⟨qid, qcode, qrad, qdead⟩, A2, c2⟩ = (ys ++ [⟨⟨qid, qcode, qrad, qdead⟩, A2, c2⟩]) ++ xs.drop (j + 1) from by
        rw [List.set_append_right _ _ (by rw [HYL.out]; exact Nat.le_refl _), HYL.out, Nat.sub_self]
        have hd := List.drop_eq_getElem_cons hlt
        rw [hd, List.set_cons_zero]
        simp only [List.append_assoc, List.cons_append, List.nil_append])
      rw [HS.out] at hset
      have l2 := b2.size
      have hb2 := own_block o2
      have nc : CodesE ((((w2.setCell ⟨g, j * 4, none⟩ (.int .i64 qid)).setCell ⟨g, j * 4 + 1, none⟩ (.slice A2 qcode.length c2)).setCell ⟨g, j * 4 + 2, none⟩ (.int .i64 qrad)).setCell ⟨g, j * 4 + 3, none⟩ (.bool qdead)) (fun b => w1.heap.size ≤ b ∧ b < w2.heap.size) (ys ++ [⟨⟨qid, qcode, qrad, qdead⟩, A2, c2⟩]) := by
        refine CodesE.kept (row := some g) ?_ hgr fun b hb => by simp; omega
        refine ((hyc.below b2).weaken fun b hb => ⟨hb.1, by omega⟩).append fun q hq => ?_
        rw [List.mem_singleton] at hq
        subst hq
        exact ⟨OwnI.sl o2, fun x hx => by have := hb2 x hx; omega⟩
      have no : CodesO ((((w2.setCell ⟨g, j * 4, none⟩ (.int .i64 qid)).setCell ⟨g, j * 4 + 1, none⟩ (.slice A2 qcode.length c2)).setCell ⟨g, j * 4 + 2, none⟩ (.int .i64 qrad)).setCell ⟨g, j * 4 + 3, none⟩ (.bool qdead)) w1.heap.size (ys ++ [⟨⟨qid, qcode, qrad, qdead⟩, A2, c2⟩]) := by
        refine CodesO.kept (w := w2) (row := some g) ?_ hgr ?_
        · intro q hq
          rcases List.mem_append.1 hq with hq | hq
          · exact own_below (hyo q hq) b2
          · rw [List.mem_singleton] at hq
            subst hq
            exact own_mono o2 lw
        · intro q hq x hx
          rcases List.mem_append.1 hq with hq | hq
          · have := own_block (hyo q hq) x hx
            simp; omega
          · rw [List.mem_singleton] at hq
            subst hq
            have := hb2 x hx
            simp; omega
      have HE2 := Lib.hid (show ents (ys ++ [⟨⟨qid, qcode, qrad, qdead⟩, A2, c2⟩]) = (ents xs).take (j + 1) from by
        rw [show ents (ys ++ [(⟨⟨qid, qcode, qrad, qdead⟩, A2, c2⟩ : HE)]) = ents ys ++ [⟨qid, qcode, qrad, qdead⟩] from by simp [ents], HY.out, List.take_add_one]
        have := ents_get xs j hlt
        rw [HQ.out] at this
        simp only [List.getD_eq_getElem?_getD] at this
        rw [List.getElem?_eq_getElem (show j < (ents xs).length by rw [ents_length]; exact hlt)] at this ⊢
        simp only [Option.getD_some] at this
        simp [← this])
      rw [HQ2.out] at y0 y1 y2 y3
      simp only [cells4, List.getElem?_cons_zero, List.getElem?_cons_succ, Nat.add_zero] at y0 y1 y2 y3
      obtain ⟨y0, z0⟩ := y0
      obtain ⟨y1, z1⟩ := y1
      obtain ⟨y2, z2⟩ := y2
      obtain ⟨y3, z3⟩ := y3
      clear hq hql hcodes o1 hgr hb2 oo oo2 oo3 o2 hyc hyo x0 x1 x2 x3
      go_wp2_with fail
      go_roundg (gk - 1)
      case measure => omega
      case rel => exact ⟨j + 1, ys ++ [⟨⟨qid, qcode, qrad, qdead⟩, A2, c2⟩], by simp, by omega, by omega, by simp [HYL.out], HE2.out, by simpa using nc, no, hset, hbel, by simp; omega⟩
    · have i1 : ¬ (j : Int) < (xs.length : Int) := by omega
      obtain rfl : j = xs.length := by omega
      rw [List.drop_length, List.append_nil] at oo
      have hye2 : ents ys = ents xs := by rw [hye, List.take_of_length_le (by rw [ents_length]; exact Nat.le_refl _)]
      have HYE := Lib.hid hye2
      have HYL := Lib.hid hyl
      have hl1 := b1.size
      have hlt1 := o1.lt
      clear hye hye2 hyl
      go_wp2_with fail
      go_ret
      refine ⟨A1, c1, ys, by rw [ents_length]; rfl, HYE.out, ⟨by rw [HYL.out]; exact oo, hyc.weaken fun b hb => ⟨by omega, hb.2, fun y hy hh => ?_⟩⟩, fun q hq => own_mono (hyo q hq) hl1, bw⟩
      subst hy
      have := (hlt1 y.block rfl).2
      omega
end Go.Proofs.Ytikjmhijkegdgaa
