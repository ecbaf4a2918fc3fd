/- The reference's slots: Clone. -/
import Derived.Test.YtcmdjnllpcnpjaaDoorRefS3
import Derived.Test.YtcmdjnllpcnpjaaDoorBranch
namespace Go.Proofs.YtcmdjnllpcnpjaaDoor
set_option linter.unusedVariables false
set_option linter.unusedSimpArgs false
open Go.RowKit
section
variable {P : Program} {ops : Array Oper} {rest : List Oper} {o : Oper} {a : Act} {Q : Exit → Act → World → Prop}
theorem wp_app_valsQ {W : World} {K : Act → World → Prop} (base : Nat) (s x : Operand) (t e : TypeId) (z : Value) (bytes : Nat)
    (ho : o.op = .call { callee := .builtin .append, args := #[s, x], argTypes := #[t, t] })
    (ht : P.underlying t = some (.slice e)) (hinfo : (P.info? e).map (fun i => (i.zero, i.size, i.bytes)) = some (some z, 1, bytes)) (hb0 : 0 < bytes) (hzc : z.cells.size = 1)
    (B : Option Addr) (cb n m : Nat) (xs ys : List Value) (A : Option Addr) (c : Nat) (hs : a.eval s = .slice B n cb) (hx : a.eval x = .slice A m c) (hn : xs.length = n) (hm : ys.length = m)
    (HO : OwnV W base e B cb xs) (HR : Rd W A ys) (h1 : ∀ u ∈ ys, u.oneCell' = true) (hbase : base ≤ W.heap.size) (hl : (xs.length + ys.length) * bytes ≤ 140737488355328)
    (h : ∀ B1 c1 w1, OwnV w1 base e B1 c1 (xs ++ ys) → W.grownBy w1 (Value.slice B xs.length cb).ownBlock →
      ((Value.slice B1 (xs ++ ys).length c1).ownBlock = (Value.slice B xs.length cb).ownBlock ∨ (Value.slice B1 (xs ++ ys).length c1).ownBlock = some W.heap.size) → K (a.put o.dst (.slice B1 (xs ++ ys).length c1)) w1) :
    o.wp P a W K Q := by
  subst hn; subst hm
  by_cases he : ys = []
  · subst he
    obtain ⟨i0, hi, hzz⟩ := Option.map_eq_some_iff.1 hinfo
    simp only [Prod.mk.injEq] at hzz
    obtain ⟨hz0, hz1, hz2⟩ := hzz
    have empty : (Builtin.append_ #[t, t] o.type #[.slice B xs.length cb, .slice A 0 c]).run P W = .ok (.slice B xs.length cb) W := by
      rcases HO.2 with ⟨h1, h2⟩ | ⟨g, cap, cur, h1, _, _, hnc, _⟩
      · rw [h1]
        cases A <;> simp [Builtin.append_, run_underlying ht, sizeOf, typeInfo, hi, Builtin.lenOf, Builtin.firstCells, loadCells, loadCellsFrom]
      · rw [h1]
        cases A <;> simp [Builtin.append_, run_underlying ht, sizeOf, typeInfo, hi, Builtin.lenOf, Builtin.firstCells, hnc, storeCells, loadCells, loadCellsFrom]
    unfold Oper.wp execOp
    simp only [ho, resolve, invoke, builtin, Sem.run_bind, Sem.run_pure, Result.andThen_ok, List.map_toArray, List.map_cons, List.map_nil, hs, hx, List.length_nil, empty]
    have := h B cb W (by rw [List.append_nil]; exact HO) (World.grownBy.refl W _) (by rw [List.append_nil]; exact .inl rfl)
    rw [List.append_nil] at this
    exact this
  · rcases HR with hr | ⟨ad, rfl, hc⟩
    · exact absurd hr he
    · exact wp_app_vals base s x t e z bytes ho ht hinfo hb0 hzc B cb xs ys ad c hs hx HO (by cases ys; exact absurd rfl he; simp) hc h1 hbase hl h
end
theorem RowsO.one {w : World} {El : Nat → Prop} {vs : List Value} {st : St} (h : RowsO w El vs st) : ∀ u ∈ vs, u.oneCell' = true := fun u hu => by
  obtain ⟨j, hj, rfl⟩ := List.mem_iff_getElem.1 hu
  have h1 := h.2 j (by rw [← h.1]; exact hj)
  rw [List.getElem?_eq_getElem hj] at h1
  cases hg : st.getD j none with
  | none => have := h1.1 hg; injection this with this; rw [this]; rfl
  | some v => obtain ⟨x, c, h2, _⟩ := h1.2 v hg; injection h2 with h2; rw [h2]; rfl
/-- A clone under way: the source, and the two new rows. -/
structure CL (w X : World) (Wr El : Nat → Prop) (g dim room : Nat) (st : St) (tr : List Int) (vs : List Value) (V : Option Addr) (vc : Nat) (T : Option Addr) (tc : Nat) (V1 : Option Addr) (vc1 : Nat) (cv : List Value) (T1 : Option Addr) (tc1 : Nat) (ct : List Int) : Prop where
  h : RSM X Wr El g dim room st tr vs V vc T tc
  z : Below w.heap.size w X
  lw : ∀ k, Wr k → k < w.heap.size
  le : ∀ k, El k → k < w.heap.size
  ov : OwnV X w.heap.size 32 V1 vc1 cv
  ot : OwnI X w.heap.size 3 .i64 T1 tc1 ct
  ne : ∀ k, (Value.slice T1 ct.length tc1).ownBlock = some k → (Value.slice V1 cv.length vc1).ownBlock ≠ some k
section
variable {w X X' : World} {Wr El : Nat → Prop} {g dim room : Nat} {st : St} {tr : List Int} {vs : List Value} {V : Option Addr} {vc : Nat} {T : Option Addr} {tc : Nat} {V1 V2 : Option Addr} {vc1 vc2 : Nat} {cv cv2 : List Value} {T1 T2 : Option Addr} {tc1 tc2 : Nat} {ct ct2 : List Int}
theorem CL.below (C : CL w X Wr El g dim room st tr vs V vc T tc V1 vc1 cv T1 tc1 ct) (b : Below X.heap.size X X') : CL w X' Wr El g dim room st tr vs V vc T tc V1 vc1 cv T1 tc1 ct :=
  { C with h := C.h.keep (Keep.of_below (fun _ => False) b) (fun _ _ hh => hh) (fun _ _ hh => hh), z := below_trans C.z b, ov := own_below C.ov b, ot := own_below C.ot b }
theorem CL.newV (C : CL w X Wr El g dim room st tr vs V vc T tc V1 vc1 cv T1 tc1 ct) : CL w (X.alloc (.cells #[] 32)) Wr El g dim room st tr vs V vc T tc (some ⟨X.heap.size, 0, none⟩) 0 [] T1 tc1 ct := by
  have C2 := C.below (below_box0 X (.cells #[] 32))
  refine { C2 with ov := own_empty X w.heap.size 32 C.z.size, ne := fun k hk e => ?_ }
  injection e with e
  have := (C.ot.lt k hk).2
  have e2 : X.heap.size = k := e
  omega
theorem CL.newT (C : CL w X Wr El g dim room st tr vs V vc T tc V1 vc1 cv T1 tc1 ct) : CL w (X.alloc (.cells #[] 3)) Wr El g dim room st tr vs V vc T tc V1 vc1 cv (some ⟨X.heap.size, 0, none⟩) 0 [] := by
  have C2 := C.below (below_box0 X (.cells #[] 3))
  refine { C2 with ot := own_empty X w.heap.size 3 C.z.size, ne := fun k hk e => ?_ }
  injection hk with hk
  have := (C.ov.lt k e).2
  have e2 : X.heap.size = k := hk
  omega
theorem CL.src (C : CL w X Wr El g dim room st tr vs V vc T tc V1 vc1 cv T1 tc1 ct) {row : Option Nat} (hg : X.grownBy X' row) (hr : ∀ k, row = some k → w.heap.size ≤ k) : RSM X' Wr El g dim room st tr vs V vc T tc :=
  C.h.keep (U := fun k => row = some k) (Keep.of_grown hg fun k hk => hk) (fun k hk e => by have := C.lw k hk; have := hr k e; omega) (fun k hk e => by have := C.le k hk; have := hr k e; omega)
theorem CL.appV (C : CL w X Wr El g dim room st tr vs V vc T tc V1 vc1 cv T1 tc1 ct) (o : OwnV X' w.heap.size 32 V2 vc2 cv2) (hg : X.grownBy X' (Value.slice V1 cv.length vc1).ownBlock) (hat : (Value.slice V2 cv2.length vc2).ownBlock = (Value.slice V1 cv.length vc1).ownBlock ∨ (Value.slice V2 cv2.length vc2).ownBlock = some X.heap.size) : CL w X' Wr El g dim room st tr vs V vc T tc V2 vc2 cv2 T1 tc1 ct :=
  { h := C.src hg (fun k hk => own_base C.ov k hk), z := C.z.grown hg C.z.size (fun k hk => own_base C.ov k hk), lw := C.lw, le := C.le, ov := o
    ot := row_same C.ot fun k hk => hg.block k (C.ot.lt k hk).2 fun e => C.ne k hk e.symm
    ne := fun k hk e => by
      rcases hat with h1 | h1
      · rw [h1] at e; exact C.ne k hk e
      · rw [h1] at e; injection e with e; have := (C.ot.lt k hk).2; omega }
theorem CL.appT (C : CL w X Wr El g dim room st tr vs V vc T tc V1 vc1 cv T1 tc1 ct) (o : OwnI X' w.heap.size 3 .i64 T2 tc2 ct2) (hg : X.grownBy X' (Value.slice T1 ct.length tc1).ownBlock) (hat : (Value.slice T2 ct2.length tc2).ownBlock = (Value.slice T1 ct.length tc1).ownBlock ∨ (Value.slice T2 ct2.length tc2).ownBlock = some X.heap.size) : CL w X' Wr El g dim room st tr vs V vc T tc V1 vc1 cv T2 tc2 ct2 :=
  { h := C.src hg (fun k hk => own_base C.ot k hk), z := C.z.grown hg C.z.size (fun k hk => own_base C.ot k hk), lw := C.lw, le := C.le, ot := o
    ov := row_same C.ov fun k hk => hg.block k (C.ov.lt k hk).2 fun e => C.ne k e.symm hk
    ne := fun k hk e => by
      rcases hat with h1 | h1
      · rw [h1] at hk; exact C.ne k hk e
      · rw [h1] at hk; injection hk with hk; have := (C.ov.lt k e).2; omega }
end
theorem CL.fin {w X : World} {Wr El : Nat → Prop} {g dim room : Nat} {st : St} {tr : List Int} {vs : List Value} {V : Option Addr} {vc : Nat} {T : Option Addr} {tc : Nat} {V1 : Option Addr} {vc1 : Nat} {T1 : Option Addr} {tc1 : Nat} (C : CL w X Wr El g dim room st tr vs V vc T tc V1 vc1 vs T1 tc1 tr) :
    RSM (X.alloc (.cells (cellsR dim room V1 vs.length vc1 T1 tr.length tc1).toArray 55)) (fun k => w.heap.size ≤ k ∧ k < X.heap.size + 1) El X.heap.size dim room st tr vs V1 vc1 T1 tc1 ∧ Below w.heap.size w (X.alloc (.cells (cellsR dim room V1 vs.length vc1 T1 tr.length tc1).toArray 55)) ∧ X.heap.size + 1 = (X.alloc (.cells (cellsR dim room V1 vs.length vc1 T1 tr.length tc1).toArray 55)).heap.size := by
  have b := below_box0 X (.cells (cellsR dim room V1 vs.length vc1 T1 tr.length tc1).toArray 55)
  have hz := C.z.size
  refine ⟨{ blk := Blk.new X _ _, ov := own_mono (own_below C.ov b) (Nat.zero_le _), ot := own_mono (own_below C.ot b) (Nat.zero_le _), el := C.h.el.keep (Keep.of_below (fun _ => False) b) (fun _ _ hh => hh) (fun _ hk => hk), wg := ⟨hz, by omega⟩, wv := fun k hk => ?_, wt := fun k hk => ?_, ap := fun k hk hh => by have := C.le k hk; omega }, below_trans C.z b, by simp⟩
  · have := C.ov.lt k hk; exact ⟨⟨this.1, by omega⟩, by omega⟩
  · have := C.ot.lt k hk; exact ⟨⟨this.1, by omega⟩, by omega, C.ne k hk⟩
set_option maxHeartbeats 4000000 in
theorem RClone_calls (Wr El : Nat → Prop) (g dim room : Nat) (st : St) (tr : List Int) (w : World) (h : RS w Wr El g dim room st tr) (hls : st.length ≤ 1000) (hr : tr.length ≤ 1000000) (he : ∀ k, El k → k < w.heap.size) (hwl : ∀ k, Wr k → k < w.heap.size) :
    Calls Tryd.prog 28 #[PtrS g] w fun e w' => ∃ g', e = .returned (PtrS g') ∧ RS w' (fun k => w.heap.size ≤ k ∧ k < w'.heap.size) El g' dim room st tr ∧ Below w.heap.size w w' := by
  have hmix : Tryd.prog.follows .mixedOrders = true := by kernel_rfl
  obtain ⟨hd, hdv, vs, V, vc, T, tc, h⟩ := h
  have hvl : vs.length ≤ 1000 := by rw [h.el.1]; exact hls
  have C : CL w w Wr El g dim room st tr vs V vc T tc none 0 [] none 0 [] := ⟨h, Below.refl _ _, hwl, he, own_nil _ _ _ _, own_nil _ _ _ _, fun k hk => by cases hk⟩
  clear h
  unfold PtrS
  go_enter Tryd.func28, Tryd.ntmps28
  go_upto_region 1 with fail
  go_cut [2] (fun s2 wx => ∃ g' q, s2 = .pointer (some ⟨g', 0, none⟩) ∧ (∃ V1 vc1 T1 tc1, RSM wx (fun k => w.heap.size ≤ k ∧ k < q) El g' dim room st tr vs V1 vc1 T1 tc1) ∧ Below w.heap.size w wx ∧ q = wx.heap.size)
  case first =>
    refine region_L (oneQ 99 (fun _ => True) (fun X => RSM X Wr El g dim room st tr vs V vc T tc)) hmix ?_
    replace C := C.below ((Below.refl _ _).drew)
    generalize w.drew = V0 at *
    have hS : oneQ 99 (fun _ => True) (fun X => RSM X Wr El g dim room st tr vs V vc T tc) (Array.replicate 23 false) V0 := ⟨fun _ => trivial, C.h⟩
    refine anyL_take (fun _ => True) [] (i := 0) (v := ?_) rfl (by kernel_rfl) (by kernel_rfl) (by kernel_rfl) (fun _ _ _ h => h) (by kernel_rfl) (one_ind (i := 0) (by decide)) (fun _ _ _ _ => trivial) (Or.inl ⟨by rfl, ?_⟩) hS ?_
    rotate_left
    · intro X hX
      clear hX
      go_simp
      try with_reducible rfl
    try simp only [List.getElem_toArray, List.getElem_cons_zero, List.getElem_cons_succ]
    simp only [Act.put, List.setIfInBounds_toArray, List.set_cons_zero, List.set_cons_succ]
    replace hS := (one_ind (i := 0) (by decide) _ _).2 hS
    refine anyL_take (fun _ => True) [] (i := 1) (v := ?_) rfl (by kernel_rfl) (by kernel_rfl) (by kernel_rfl) (fun _ _ _ h => h) (by kernel_rfl) (one_ind (i := 1) (by decide)) (fun _ _ _ _ => trivial) (Or.inl ⟨by rfl, ?_⟩) hS ?_
    rotate_left
    · intro X hX
      clear hX
      go_simp
      try with_reducible rfl
    try simp only [List.getElem_toArray, List.getElem_cons_zero, List.getElem_cons_succ]
    simp only [Act.put, List.setIfInBounds_toArray, List.set_cons_zero, List.set_cons_succ]
    replace hS := (one_ind (i := 1) (by decide) _ _).2 hS
    refine anyL_take (fun _ => True) [] (i := 2) (v := ?_) rfl (by kernel_rfl) (by kernel_rfl) (by kernel_rfl) (fun _ _ _ h => h) (by kernel_rfl) (one_ind (i := 2) (by decide)) (fun _ _ _ _ => trivial) (Or.inl ⟨by rfl, ?_⟩) hS ?_
    rotate_left
    · intro X hX
      clear hX
      go_simp
      try with_reducible rfl
    try simp only [List.getElem_toArray, List.getElem_cons_zero, List.getElem_cons_succ]
    simp only [Act.put, List.setIfInBounds_toArray, List.set_cons_zero, List.set_cons_succ]
    replace hS := (one_ind (i := 2) (by decide) _ _).2 hS
    refine anyL_take (fun X => RSM X Wr El g dim room st tr vs V vc T tc) [] (i := 3) (v := ?_) rfl (by kernel_rfl) (by kernel_rfl) (by kernel_rfl) (fun _ _ _ h => h) (by kernel_rfl) (one_ind (i := 3) (by decide)) (fun L X h1 h2 => h2.2) (Or.inl ⟨by rfl, ?_⟩) hS ?_
    rotate_left
    · intro X hX
      obtain ⟨g0, g1, g2, g3⟩ := hX.cells; clear hX
      go_simp
      try with_reducible rfl
    try simp only [List.getElem_toArray, List.getElem_cons_zero, List.getElem_cons_succ]
    simp only [Act.put, List.setIfInBounds_toArray, List.set_cons_zero, List.set_cons_succ]
    replace hS := (one_ind (i := 3) (by decide) _ _).2 hS
    refine anyL_take (fun _ => True) [] (i := 4) (v := ?_) rfl (by kernel_rfl) (by kernel_rfl) (by kernel_rfl) (fun _ _ _ h => h) (by kernel_rfl) (one_ind (i := 4) (by decide)) (fun _ _ _ _ => trivial) (Or.inl ⟨by rfl, ?_⟩) hS ?_
    rotate_left
    · intro X hX
      clear hX
      go_simp
      try with_reducible rfl
    try simp only [List.getElem_toArray, List.getElem_cons_zero, List.getElem_cons_succ]
    simp only [Act.put, List.setIfInBounds_toArray, List.set_cons_zero, List.set_cons_succ]
    replace hS := (one_ind (i := 4) (by decide) _ _).2 hS
    refine anyL_take (fun _ => True) [] (i := 5) (v := ?_) rfl (by kernel_rfl) (by kernel_rfl) (by kernel_rfl) (fun _ _ _ h => h) (by kernel_rfl) (one_ind (i := 5) (by decide)) (fun _ _ _ _ => trivial) (Or.inl ⟨by rfl, ?_⟩) hS ?_
    rotate_left
    · intro X hX
      clear hX
      go_simp
      try with_reducible rfl
    try simp only [List.getElem_toArray, List.getElem_cons_zero, List.getElem_cons_succ]
    simp only [Act.put, List.setIfInBounds_toArray, List.set_cons_zero, List.set_cons_succ]
    replace hS := (one_ind (i := 5) (by decide) _ _).2 hS
    refine anyL_take (fun _ => True) [] (i := 6) (v := ?_) rfl (by kernel_rfl) (by kernel_rfl) (by kernel_rfl) (fun _ _ _ h => h) (by kernel_rfl) (one_ind (i := 6) (by decide)) (fun _ _ _ _ => trivial) (Or.inl ⟨by rfl, ?_⟩) hS ?_
    rotate_left
    · intro X hX
      clear hX
      go_simp
      try with_reducible rfl
    try simp only [List.getElem_toArray, List.getElem_cons_zero, List.getElem_cons_succ]
    simp only [Act.put, List.setIfInBounds_toArray, List.set_cons_zero, List.set_cons_succ]
    replace hS := (one_ind (i := 6) (by decide) _ _).2 hS
    refine anyL_take (fun X => RSM X Wr El g dim room st tr vs V vc T tc) [] (i := 7) (v := ?_) rfl (by kernel_rfl) (by kernel_rfl) (by kernel_rfl) (fun _ _ _ h => h) (by kernel_rfl) (one_ind (i := 7) (by decide)) (fun L X h1 h2 => h2.2) (Or.inl ⟨by rfl, ?_⟩) hS ?_
    rotate_left
    · intro X hX
      obtain ⟨g0, g1, g2, g3⟩ := hX.cells; clear hX
      go_simp
      try with_reducible rfl
    try simp only [List.getElem_toArray, List.getElem_cons_zero, List.getElem_cons_succ]
    simp only [Act.put, List.setIfInBounds_toArray, List.set_cons_zero, List.set_cons_succ]
    replace hS := (one_ind (i := 7) (by decide) _ _).2 hS
    refine anyL_take (fun _ => True) [] (i := 9) (v := ?_) rfl (by kernel_rfl) (by kernel_rfl) (by kernel_rfl) (fun _ _ _ h => h) (by kernel_rfl) (one_ind (i := 9) (by decide)) (fun _ _ _ _ => trivial) (Or.inl ⟨by rfl, ?_⟩) hS ?_
    rotate_left
    · intro X hX
      clear hX
      go_simp
      try with_reducible rfl
    try simp only [List.getElem_toArray, List.getElem_cons_zero, List.getElem_cons_succ]
    simp only [Act.put, List.setIfInBounds_toArray, List.set_cons_zero, List.set_cons_succ]
    replace hS := (one_ind (i := 9) (by decide) _ _).2 hS
    refine anyL_take (fun _ => True) [] (i := 10) (v := ?_) rfl (by kernel_rfl) (by kernel_rfl) (by kernel_rfl) (fun _ _ _ h => h) (by kernel_rfl) (one_ind (i := 10) (by decide)) (fun _ _ _ _ => trivial) (Or.inl ⟨by rfl, ?_⟩) hS ?_
    rotate_left
    · intro X hX
      clear hX
      go_simp
      try with_reducible rfl
    try simp only [List.getElem_toArray, List.getElem_cons_zero, List.getElem_cons_succ]
    simp only [Act.put, List.setIfInBounds_toArray, List.set_cons_zero, List.set_cons_succ]
    replace hS := (one_ind (i := 10) (by decide) _ _).2 hS
    refine anyL_take (fun _ => True) [] (i := 11) (v := ?_) rfl (by kernel_rfl) (by kernel_rfl) (by kernel_rfl) (fun _ _ _ h => h) (by kernel_rfl) (one_ind (i := 11) (by decide)) (fun _ _ _ _ => trivial) (Or.inl ⟨by rfl, ?_⟩) hS ?_
    rotate_left
    · intro X hX
      clear hX
      go_simp
      try with_reducible rfl
    try simp only [List.getElem_toArray, List.getElem_cons_zero, List.getElem_cons_succ]
    simp only [Act.put, List.setIfInBounds_toArray, List.set_cons_zero, List.set_cons_succ]
    replace hS := (one_ind (i := 11) (by decide) _ _).2 hS
    refine anyL_take (fun X => RSM X Wr El g dim room st tr vs V vc T tc) [] (i := 12) (v := ?_) rfl (by kernel_rfl) (by kernel_rfl) (by kernel_rfl) (fun _ _ _ h => h) (by kernel_rfl) (one_ind (i := 12) (by decide)) (fun L X h1 h2 => h2.2) (Or.inl ⟨by rfl, ?_⟩) hS ?_
    rotate_left
    · intro X hX
      obtain ⟨g0, g1, g2, g3⟩ := hX.cells; clear hX
      go_simp
      try with_reducible rfl
    try simp only [List.getElem_toArray, List.getElem_cons_zero, List.getElem_cons_succ]
    simp only [Act.put, List.setIfInBounds_toArray, List.set_cons_zero, List.set_cons_succ]
    replace hS := (one_ind (i := 12) (by decide) _ _).2 hS
    refine anyL_take (fun _ => True) [] (i := 15) (v := ?_) rfl (by kernel_rfl) (by kernel_rfl) (by kernel_rfl) (fun _ _ _ h => h) (by kernel_rfl) (one_ind (i := 15) (by decide)) (fun _ _ _ _ => trivial) (Or.inl ⟨by rfl, ?_⟩) hS ?_
    rotate_left
    · intro X hX
      clear hX
      go_simp
      try with_reducible rfl
    try simp only [List.getElem_toArray, List.getElem_cons_zero, List.getElem_cons_succ]
    simp only [Act.put, List.setIfInBounds_toArray, List.set_cons_zero, List.set_cons_succ]
    replace hS := (one_ind (i := 15) (by decide) _ _).2 hS
    refine anyL_take (fun _ => True) [] (i := 16) (v := ?_) rfl (by kernel_rfl) (by kernel_rfl) (by kernel_rfl) (fun _ _ _ h => h) (by kernel_rfl) (one_ind (i := 16) (by decide)) (fun _ _ _ _ => trivial) (Or.inl ⟨by rfl, ?_⟩) hS ?_
    rotate_left
    · intro X hX
      clear hX
      go_simp
      try with_reducible rfl
    try simp only [List.getElem_toArray, List.getElem_cons_zero, List.getElem_cons_succ]
    simp only [Act.put, List.setIfInBounds_toArray, List.set_cons_zero, List.set_cons_succ]
    replace hS := (one_ind (i := 16) (by decide) _ _).2 hS
    refine anyL_take (fun _ => True) [] (i := 17) (v := ?_) rfl (by kernel_rfl) (by kernel_rfl) (by kernel_rfl) (fun _ _ _ h => h) (by kernel_rfl) (one_ind (i := 17) (by decide)) (fun _ _ _ _ => trivial) (Or.inl ⟨by rfl, ?_⟩) hS ?_
    rotate_left
    · intro X hX
      clear hX
      go_simp
      try with_reducible rfl
    try simp only [List.getElem_toArray, List.getElem_cons_zero, List.getElem_cons_succ]
    simp only [Act.put, List.setIfInBounds_toArray, List.set_cons_zero, List.set_cons_succ]
    replace hS := (one_ind (i := 17) (by decide) _ _).2 hS
    refine anyL_take (fun X => RSM X Wr El g dim room st tr vs V vc T tc) [] (i := 18) (v := ?_) rfl (by kernel_rfl) (by kernel_rfl) (by kernel_rfl) (fun _ _ _ h => h) (by kernel_rfl) (one_ind (i := 18) (by decide)) (fun L X h1 h2 => h2.2) (Or.inl ⟨by rfl, ?_⟩) hS ?_
    rotate_left
    · intro X hX
      obtain ⟨g0, g1, g2, g3⟩ := hX.cells; clear hX
      go_simp
      try with_reducible rfl
    try simp only [List.getElem_toArray, List.getElem_cons_zero, List.getElem_cons_succ]
    simp only [Act.put, List.setIfInBounds_toArray, List.set_cons_zero, List.set_cons_succ]
    replace hS := (one_ind (i := 18) (by decide) _ _).2 hS
    clear hS
    refine anyL_step2 (i := 8) (j := 14) (by kernel_rfl) rfl rfl (by rfl) (by rfl) (fun K hK => ?_) (fun K hK => ?_)
    · go_simp
      replace C := C.newV
      try simp only [World.size_alloc] at C
      refine hK.out _ _ ⟨fun _ => trivial, C.h⟩ ?_
      clear hK K
      try simp only [Act.put, List.setIfInBounds_toArray, List.set_cons_zero, List.set_cons_succ]
      refine anyL_step2 (i := 13) (j := 14) (by kernel_rfl) rfl rfl (by rfl) (by rfl) (fun K hK => ?_) (fun K hK => ?_)
      · refine wp_app_valsQ w.heap.size _ _ 53 32 nilV 24 rfl Tryd.underlying53 (by kernel_rfl) (by decide) rfl _ _ 0 vs.length [] vs V vc rfl rfl rfl rfl C.ov C.h.ov.rd C.h.el.one C.z.size (by simp; omega) ?_
        intro V2 vc2 X2 oV hgV hatV
        simp only [List.nil_append] at oV hatV ⊢
        replace C := C.appV oV hgV hatV
        clear oV hgV hatV
        refine hK.out _ _ ⟨fun _ => trivial, C.h⟩ ?_
        clear hK K
        try simp only [Act.put, List.setIfInBounds_toArray, List.set_cons_zero, List.set_cons_succ]
        refine anyL_step (i := 14) (by kernel_rfl) rfl (by rfl) (fun K hK => ?_)
        go_simp
        replace C := C.newT
        try simp only [World.size_alloc] at C
        refine hK.out _ _ ⟨fun _ => trivial, C.h⟩ ?_
        clear hK K
        try simp only [Act.put, List.setIfInBounds_toArray, List.set_cons_zero, List.set_cons_succ]
        refine anyL_step (i := 19) (by kernel_rfl) rfl (by rfl) (fun K hK => ?_)
        refine wp_app_row w.heap.size _ _ 22 3 .i64 8 rfl Tryd.underlying22 (by kernel_rfl) (by decide) _ _ [] tr T tc rfl rfl C.ot (OwnI.sl C.h.ot).rd C.z.size (by simp; omega) ?_
        intro T2 tc2 X3 oT hgT _ hatT
        simp only [List.nil_append] at oT hatT ⊢
        replace C := C.appT oT hgT hatT
        clear oT hgT hatT
        refine hK.out _ _ ⟨fun _ => trivial, C.h⟩ ?_
        clear hK K
        try simp only [Act.put, List.setIfInBounds_toArray, List.set_cons_zero, List.set_cons_succ]
        have hS : oneQ 99 (fun _ => True) (fun X => RSM X Wr El g dim room st tr vs V vc T tc) (((((((((((((((((((((Array.replicate 23 false).setIfInBounds 0 true).setIfInBounds 1 true).setIfInBounds 2 true).setIfInBounds 3 true).setIfInBounds 4 true).setIfInBounds 5 true).setIfInBounds 6 true).setIfInBounds 7 true).setIfInBounds 9 true).setIfInBounds 10 true).setIfInBounds 11 true).setIfInBounds 12 true).setIfInBounds 15 true).setIfInBounds 16 true).setIfInBounds 17 true).setIfInBounds 18 true).setIfInBounds 8 true).setIfInBounds 13 true).setIfInBounds 14 true).setIfInBounds 19 true) X3 := ⟨fun _ => trivial, C.h⟩
        refine anyL_take (fun _ => True) [] (i := 20) (v := ?_) rfl (by kernel_rfl) (by kernel_rfl) (by kernel_rfl) (fun _ _ _ h => h) (by kernel_rfl) (one_ind (i := 20) (by decide)) (fun _ _ _ _ => trivial) (Or.inl ⟨by rfl, ?_⟩) hS ?_
        rotate_left
        · intro X hX
          clear hX
          go_simp
          try with_reducible rfl
        try simp only [List.getElem_toArray, List.getElem_cons_zero, List.getElem_cons_succ]
        simp only [Act.put, List.setIfInBounds_toArray, List.set_cons_zero, List.set_cons_succ]
        replace hS := (one_ind (i := 20) (by decide) _ _).2 hS
        clear hS
        refine anyL_step (i := 21) (by kernel_rfl) rfl (by rfl) (fun K hK => ?_)
        go_simp
        have F := C.fin
        replace C := C.below (below_box0 X3 (.cells (cellsR dim room V2 vs.length vc2 T2 tr.length tc2).toArray 55))
        refine hK.out _ _ ⟨fun _ => trivial, C.h⟩ ?_
        clear hK K
        try simp only [Act.put, List.setIfInBounds_toArray, List.set_cons_zero, List.set_cons_succ]
        have hS : oneQ 99 (fun _ => True) (fun X => RSM X Wr El g dim room st tr vs V vc T tc) (((((((((((((((((((((((Array.replicate 23 false).setIfInBounds 0 true).setIfInBounds 1 true).setIfInBounds 2 true).setIfInBounds 3 true).setIfInBounds 4 true).setIfInBounds 5 true).setIfInBounds 6 true).setIfInBounds 7 true).setIfInBounds 9 true).setIfInBounds 10 true).setIfInBounds 11 true).setIfInBounds 12 true).setIfInBounds 15 true).setIfInBounds 16 true).setIfInBounds 17 true).setIfInBounds 18 true).setIfInBounds 8 true).setIfInBounds 13 true).setIfInBounds 14 true).setIfInBounds 19 true).setIfInBounds 20 true).setIfInBounds 21 true) (X3.alloc (.cells (cellsR dim room V2 vs.length vc2 T2 tr.length tc2).toArray 55)) := ⟨fun _ => trivial, C.h⟩
        refine anyL_take (fun _ => True) [] (i := 22) (v := ?_) rfl (by kernel_rfl) (by kernel_rfl) (by kernel_rfl) (fun _ _ _ h => h) (by kernel_rfl) (one_ind (i := 22) (by decide)) (fun _ _ _ _ => trivial) (Or.inl ⟨by rfl, ?_⟩) hS ?_
        rotate_left
        · intro X hX
          clear hX
          go_simp
          try with_reducible rfl
        try simp only [List.getElem_toArray, List.getElem_cons_zero, List.getElem_cons_succ]
        simp only [Act.put, List.setIfInBounds_toArray, List.set_cons_zero, List.set_cons_succ]
        replace hS := (one_ind (i := 22) (by decide) _ _).2 hS
        clear hS
        refine anyL_done (by kernel_rfl) ?_ _
        go_wp2_with fail
        go_meet
        exact ⟨X3.heap.size, _, rfl, ⟨_, _, _, _, F.1⟩, F.2.1, F.2.2⟩
      · go_simp
        replace C := C.newT
        try simp only [World.size_alloc] at C
        refine hK.out _ _ ⟨fun _ => trivial, C.h⟩ ?_
        clear hK K
        try simp only [Act.put, List.setIfInBounds_toArray, List.set_cons_zero, List.set_cons_succ]
        refine anyL_step (i := 13) (by kernel_rfl) rfl (by rfl) (fun K hK => ?_)
        refine wp_app_valsQ w.heap.size _ _ 53 32 nilV 24 rfl Tryd.underlying53 (by kernel_rfl) (by decide) rfl _ _ 0 vs.length [] vs V vc rfl rfl rfl rfl C.ov C.h.ov.rd C.h.el.one C.z.size (by simp; omega) ?_
        intro V2 vc2 X2 oV hgV hatV
        simp only [List.nil_append] at oV hatV ⊢
        replace C := C.appV oV hgV hatV
        clear oV hgV hatV
        refine hK.out _ _ ⟨fun _ => trivial, C.h⟩ ?_
        clear hK K
        try simp only [Act.put, List.setIfInBounds_toArray, List.set_cons_zero, List.set_cons_succ]
        refine anyL_step (i := 19) (by kernel_rfl) rfl (by rfl) (fun K hK => ?_)
        refine wp_app_row w.heap.size _ _ 22 3 .i64 8 rfl Tryd.underlying22 (by kernel_rfl) (by decide) _ _ [] tr T tc rfl rfl C.ot (OwnI.sl C.h.ot).rd C.z.size (by simp; omega) ?_
        intro T2 tc2 X3 oT hgT _ hatT
        simp only [List.nil_append] at oT hatT ⊢
        replace C := C.appT oT hgT hatT
        clear oT hgT hatT
        refine hK.out _ _ ⟨fun _ => trivial, C.h⟩ ?_
        clear hK K
        try simp only [Act.put, List.setIfInBounds_toArray, List.set_cons_zero, List.set_cons_succ]
        have hS : oneQ 99 (fun _ => True) (fun X => RSM X Wr El g dim room st tr vs V vc T tc) (((((((((((((((((((((Array.replicate 23 false).setIfInBounds 0 true).setIfInBounds 1 true).setIfInBounds 2 true).setIfInBounds 3 true).setIfInBounds 4 true).setIfInBounds 5 true).setIfInBounds 6 true).setIfInBounds 7 true).setIfInBounds 9 true).setIfInBounds 10 true).setIfInBounds 11 true).setIfInBounds 12 true).setIfInBounds 15 true).setIfInBounds 16 true).setIfInBounds 17 true).setIfInBounds 18 true).setIfInBounds 8 true).setIfInBounds 14 true).setIfInBounds 13 true).setIfInBounds 19 true) X3 := ⟨fun _ => trivial, C.h⟩
        refine anyL_take (fun _ => True) [] (i := 20) (v := ?_) rfl (by kernel_rfl) (by kernel_rfl) (by kernel_rfl) (fun _ _ _ h => h) (by kernel_rfl) (one_ind (i := 20) (by decide)) (fun _ _ _ _ => trivial) (Or.inl ⟨by rfl, ?_⟩) hS ?_
        rotate_left
        · intro X hX
          clear hX
          go_simp
          try with_reducible rfl
        try simp only [List.getElem_toArray, List.getElem_cons_zero, List.getElem_cons_succ]
        simp only [Act.put, List.setIfInBounds_toArray, List.set_cons_zero, List.set_cons_succ]
        replace hS := (one_ind (i := 20) (by decide) _ _).2 hS
        clear hS
        refine anyL_step (i := 21) (by kernel_rfl) rfl (by rfl) (fun K hK => ?_)
        go_simp
        have F := C.fin
        replace C := C.below (below_box0 X3 (.cells (cellsR dim room V2 vs.length vc2 T2 tr.length tc2).toArray 55))
        refine hK.out _ _ ⟨fun _ => trivial, C.h⟩ ?_
        clear hK K
        try simp only [Act.put, List.setIfInBounds_toArray, List.set_cons_zero, List.set_cons_succ]
        have hS : oneQ 99 (fun _ => True) (fun X => RSM X Wr El g dim room st tr vs V vc T tc) (((((((((((((((((((((((Array.replicate 23 false).setIfInBounds 0 true).setIfInBounds 1 true).setIfInBounds 2 true).setIfInBounds 3 true).setIfInBounds 4 true).setIfInBounds 5 true).setIfInBounds 6 true).setIfInBounds 7 true).setIfInBounds 9 true).setIfInBounds 10 true).setIfInBounds 11 true).setIfInBounds 12 true).setIfInBounds 15 true).setIfInBounds 16 true).setIfInBounds 17 true).setIfInBounds 18 true).setIfInBounds 8 true).setIfInBounds 14 true).setIfInBounds 13 true).setIfInBounds 19 true).setIfInBounds 20 true).setIfInBounds 21 true) (X3.alloc (.cells (cellsR dim room V2 vs.length vc2 T2 tr.length tc2).toArray 55)) := ⟨fun _ => trivial, C.h⟩
        refine anyL_take (fun _ => True) [] (i := 22) (v := ?_) rfl (by kernel_rfl) (by kernel_rfl) (by kernel_rfl) (fun _ _ _ h => h) (by kernel_rfl) (one_ind (i := 22) (by decide)) (fun _ _ _ _ => trivial) (Or.inl ⟨by rfl, ?_⟩) hS ?_
        rotate_left
        · intro X hX
          clear hX
          go_simp
          try with_reducible rfl
        try simp only [List.getElem_toArray, List.getElem_cons_zero, List.getElem_cons_succ]
        simp only [Act.put, List.setIfInBounds_toArray, List.set_cons_zero, List.set_cons_succ]
        replace hS := (one_ind (i := 22) (by decide) _ _).2 hS
        clear hS
        refine anyL_done (by kernel_rfl) ?_ _
        go_wp2_with fail
        go_meet
        exact ⟨X3.heap.size, _, rfl, ⟨_, _, _, _, F.1⟩, F.2.1, F.2.2⟩
    · go_simp
      replace C := C.newT
      try simp only [World.size_alloc] at C
      refine hK.out _ _ ⟨fun _ => trivial, C.h⟩ ?_
      clear hK K
      try simp only [Act.put, List.setIfInBounds_toArray, List.set_cons_zero, List.set_cons_succ]
      refine anyL_step (i := 8) (by kernel_rfl) rfl (by rfl) (fun K hK => ?_)
      go_simp
      replace C := C.newV
      try simp only [World.size_alloc] at C
      refine hK.out _ _ ⟨fun _ => trivial, C.h⟩ ?_
      clear hK K
      try simp only [Act.put, List.setIfInBounds_toArray, List.set_cons_zero, List.set_cons_succ]
      refine anyL_step (i := 13) (by kernel_rfl) rfl (by rfl) (fun K hK => ?_)
      refine wp_app_valsQ w.heap.size _ _ 53 32 nilV 24 rfl Tryd.underlying53 (by kernel_rfl) (by decide) rfl _ _ 0 vs.length [] vs V vc rfl rfl rfl rfl C.ov C.h.ov.rd C.h.el.one C.z.size (by simp; omega) ?_
      intro V2 vc2 X2 oV hgV hatV
      simp only [List.nil_append] at oV hatV ⊢
      replace C := C.appV oV hgV hatV
      clear oV hgV hatV
      refine hK.out _ _ ⟨fun _ => trivial, C.h⟩ ?_
      clear hK K
      try simp only [Act.put, List.setIfInBounds_toArray, List.set_cons_zero, List.set_cons_succ]
      refine anyL_step (i := 19) (by kernel_rfl) rfl (by rfl) (fun K hK => ?_)
      refine wp_app_row w.heap.size _ _ 22 3 .i64 8 rfl Tryd.underlying22 (by kernel_rfl) (by decide) _ _ [] tr T tc rfl rfl C.ot (OwnI.sl C.h.ot).rd C.z.size (by simp; omega) ?_
      intro T2 tc2 X3 oT hgT _ hatT
      simp only [List.nil_append] at oT hatT ⊢
      replace C := C.appT oT hgT hatT
      clear oT hgT hatT
      refine hK.out _ _ ⟨fun _ => trivial, C.h⟩ ?_
      clear hK K
      try simp only [Act.put, List.setIfInBounds_toArray, List.set_cons_zero, List.set_cons_succ]
      have hS : oneQ 99 (fun _ => True) (fun X => RSM X Wr El g dim room st tr vs V vc T tc) (((((((((((((((((((((Array.replicate 23 false).setIfInBounds 0 true).setIfInBounds 1 true).setIfInBounds 2 true).setIfInBounds 3 true).setIfInBounds 4 true).setIfInBounds 5 true).setIfInBounds 6 true).setIfInBounds 7 true).setIfInBounds 9 true).setIfInBounds 10 true).setIfInBounds 11 true).setIfInBounds 12 true).setIfInBounds 15 true).setIfInBounds 16 true).setIfInBounds 17 true).setIfInBounds 18 true).setIfInBounds 14 true).setIfInBounds 8 true).setIfInBounds 13 true).setIfInBounds 19 true) X3 := ⟨fun _ => trivial, C.h⟩
      refine anyL_take (fun _ => True) [] (i := 20) (v := ?_) rfl (by kernel_rfl) (by kernel_rfl) (by kernel_rfl) (fun _ _ _ h => h) (by kernel_rfl) (one_ind (i := 20) (by decide)) (fun _ _ _ _ => trivial) (Or.inl ⟨by rfl, ?_⟩) hS ?_
      rotate_left
      · intro X hX
        clear hX
        go_simp
        try with_reducible rfl
      try simp only [List.getElem_toArray, List.getElem_cons_zero, List.getElem_cons_succ]
      simp only [Act.put, List.setIfInBounds_toArray, List.set_cons_zero, List.set_cons_succ]
      replace hS := (one_ind (i := 20) (by decide) _ _).2 hS
      clear hS
      refine anyL_step (i := 21) (by kernel_rfl) rfl (by rfl) (fun K hK => ?_)
      go_simp
      have F := C.fin
      replace C := C.below (below_box0 X3 (.cells (cellsR dim room V2 vs.length vc2 T2 tr.length tc2).toArray 55))
      refine hK.out _ _ ⟨fun _ => trivial, C.h⟩ ?_
      clear hK K
      try simp only [Act.put, List.setIfInBounds_toArray, List.set_cons_zero, List.set_cons_succ]
      have hS : oneQ 99 (fun _ => True) (fun X => RSM X Wr El g dim room st tr vs V vc T tc) (((((((((((((((((((((((Array.replicate 23 false).setIfInBounds 0 true).setIfInBounds 1 true).setIfInBounds 2 true).setIfInBounds 3 true).setIfInBounds 4 true).setIfInBounds 5 true).setIfInBounds 6 true).setIfInBounds 7 true).setIfInBounds 9 true).setIfInBounds 10 true).setIfInBounds 11 true).setIfInBounds 12 true).setIfInBounds 15 true).setIfInBounds 16 true).setIfInBounds 17 true).setIfInBounds 18 true).setIfInBounds 14 true).setIfInBounds 8 true).setIfInBounds 13 true).setIfInBounds 19 true).setIfInBounds 20 true).setIfInBounds 21 true) (X3.alloc (.cells (cellsR dim room V2 vs.length vc2 T2 tr.length tc2).toArray 55)) := ⟨fun _ => trivial, C.h⟩
      refine anyL_take (fun _ => True) [] (i := 22) (v := ?_) rfl (by kernel_rfl) (by kernel_rfl) (by kernel_rfl) (fun _ _ _ h => h) (by kernel_rfl) (one_ind (i := 22) (by decide)) (fun _ _ _ _ => trivial) (Or.inl ⟨by rfl, ?_⟩) hS ?_
      rotate_left
      · intro X hX
        clear hX
        go_simp
        try with_reducible rfl
      try simp only [List.getElem_toArray, List.getElem_cons_zero, List.getElem_cons_succ]
      simp only [Act.put, List.setIfInBounds_toArray, List.set_cons_zero, List.set_cons_succ]
      replace hS := (one_ind (i := 22) (by decide) _ _).2 hS
      clear hS
      refine anyL_done (by kernel_rfl) ?_ _
      go_wp2_with fail
      go_meet
      exact ⟨X3.heap.size, _, rfl, ⟨_, _, _, _, F.1⟩, F.2.1, F.2.2⟩
  case rest =>
    obtain ⟨g', q, rfl, ⟨V1, vc1, T1, tc1, M⟩, b, rfl⟩ := hcut
    clear C
    go_wp2_with fail
    go_ret
    exact ⟨g', rfl, ⟨hd, hdv, _, _, _, _, _, M⟩, b⟩
end Go.Proofs.YtcmdjnllpcnpjaaDoor
