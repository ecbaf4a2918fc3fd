/- Slots in memory: Clone. -/
import Derived.Test.YtcmdjnllpcnpjaaDoorSlotPut
import Derived.Test.YtcmdjnllpcnpjaaDoorOneQ
namespace Go.Proofs.YtcmdjnllpcnpjaaDoor
set_option linter.unusedVariables false
set_option linter.unusedSimpArgs false
open Go.RowKit
theorem SClone_nil (w : World) : Calls Tryd.prog 27 #[.pointer none] w fun e w' => e = .returned (.pointer none) ∧ w = w' := by
  go_enter Tryd.func27, Tryd.ntmps27
  go_wp2_with fail
  go_ret
  exact ⟨rfl, rfl⟩
set_option maxHeartbeats 4000000 in
theorem SClone_calls (S : Nat → Prop) (g dim room : Nat) (st : St) (tr : List Int) (w : World) (h : SLOTS w S g dim room st tr) (hs : st.length ≤ 1000) (hr : tr.length ≤ 1000000) :
    Calls Tryd.prog 27 #[PtrS g] w fun e w' => ∃ g', e = .returned (PtrS g') ∧ SLOTS w' (seg w.heap.size w'.heap.size) g' dim room st tr ∧ Below w.heap.size w w' := by
  have hmix : Tryd.prog.follows .mixedOrders = true := by kernel_rfl
  obtain ⟨hd, tk, al, T, tc, A, ac, R, rc, h, hws, hns⟩ := h
  have htl : tk.length ≤ 1000 := by have := hws.len; omega
  have hfb : al.length ≤ 1024000 := by rw [hns.len]; exact Nat.le_trans (Nat.mul_le_mul hs hd.1.2) (by decide)
  have CT := fun W (hW : Below w.heap.size w W) => Clone_uint64_calls T tc tk W ((OwnI.sl h.ot).below hW) (by omega)
  have CA := fun W (hW : Below w.heap.size w W) => Clone_int16_calls A ac al W ((OwnI.sl h.oa).below hW) (by omega)
  have CR := fun W (hW : Below w.heap.size w W) => Clone_int_calls R rc tr W ((OwnI.sl h.or).below hW) (by omega)
  obtain ⟨c0, c1, c2, c3, c4, c5⟩ := h.cells
  have hgl := h.blk.lt
  have b0 := below_alloc (Below.refl w.heap.size w) (.cells (cellsS dim room (cntS st : Nat) T tk.length tc A al.length ac R tr.length rc).toArray 61)
  have eb := h.blk.below b0
  have kb := Blk.new w 61 (cellsS dim room (cntS st : Nat) T tk.length tc A al.length ac R tr.length rc)
  have hz0 : (w.alloc (.cells (cellsS dim room (cntS st : Nat) T tk.length tc A al.length ac R tr.length rc).toArray 61)).heap.size = w.heap.size + 1 := by simp
  clear h
  unfold PtrS
  go_enter Tryd.func27, Tryd.ntmps27
  go_wp2_with fail
  generalize w.alloc (.cells (cellsS dim room (cntS st : Nat) T tk.length tc A al.length ac R tr.length rc).toArray 61) = W0 at *
  change Code.wp _ _ _ _ W0
  clear c0 c1 c2 c3 c4 c5
  refine region_L (oneQ 99 (fun _ => True) (fun X => Blk X g 61 (cellsS dim room (cntS st : Nat) T tk.length tc A al.length ac R tr.length rc))) hmix ?_
  have z : Below W0.heap.size W0 W0.drew := (Below.refl _ _).drew
  have hS : oneQ 99 (fun _ => True) (fun X => Blk X g 61 (cellsS dim room (cntS st : Nat) T tk.length tc A al.length ac R tr.length rc)) (Array.replicate 21 false) W0.drew := ⟨fun _ => trivial, eb.below z⟩
  refine anyL_take (fun _ => True) [] (i := 0) (v := ?_) rfl (by kernel_rfl) (by kernel_rfl) (by kernel_rfl) (fun _ _ _ h => h) (by kernel_rfl) (one_ind (i := 0) (by decide)) (fun _ _ _ _ => trivial) (Or.inl ⟨by rfl, ?_⟩) hS ?_
  rotate_left
  · intro X hX
    clear hX
    go_simp
    try with_reducible rfl
  try simp only [List.getElem_toArray, List.getElem_cons_zero, List.getElem_cons_succ]
  simp only [Act.put, List.setIfInBounds_toArray, List.set_cons_zero, List.set_cons_succ]
  replace hS := (one_ind (i := 0) (by decide) _ _).2 hS
  refine anyL_take (fun _ => True) [] (i := 1) (v := ?_) rfl (by kernel_rfl) (by kernel_rfl) (by kernel_rfl) (fun _ _ _ h => h) (by kernel_rfl) (one_ind (i := 1) (by decide)) (fun _ _ _ _ => trivial) (Or.inl ⟨by rfl, ?_⟩) hS ?_
  rotate_left
  · intro X hX
    clear hX
    go_simp
    try with_reducible rfl
  try simp only [List.getElem_toArray, List.getElem_cons_zero, List.getElem_cons_succ]
  simp only [Act.put, List.setIfInBounds_toArray, List.set_cons_zero, List.set_cons_succ]
  replace hS := (one_ind (i := 1) (by decide) _ _).2 hS
  refine anyL_take (fun _ => True) [] (i := 2) (v := ?_) rfl (by kernel_rfl) (by kernel_rfl) (by kernel_rfl) (fun _ _ _ h => h) (by kernel_rfl) (one_ind (i := 2) (by decide)) (fun _ _ _ _ => trivial) (Or.inl ⟨by rfl, ?_⟩) hS ?_
  rotate_left
  · intro X hX
    clear hX
    go_simp
    try with_reducible rfl
  try simp only [List.getElem_toArray, List.getElem_cons_zero, List.getElem_cons_succ]
  simp only [Act.put, List.setIfInBounds_toArray, List.set_cons_zero, List.set_cons_succ]
  replace hS := (one_ind (i := 2) (by decide) _ _).2 hS
  refine anyL_take (fun X => Blk X g 61 (cellsS dim room (cntS st : Nat) T tk.length tc A al.length ac R tr.length rc)) [] (i := 3) (v := ?_) rfl (by kernel_rfl) (by kernel_rfl) (by kernel_rfl) (fun _ _ _ h => h) (by kernel_rfl) (one_ind (i := 3) (by decide)) (fun L X h1 h2 => h2.2) (Or.inl ⟨by rfl, ?_⟩) hS ?_
  rotate_left
  · intro X hX
    have g3 := hX.cell 3; have g4 := hX.cell 4; have g5 := hX.cell 5; simp only [List.getElem?_cons_zero, List.getElem?_cons_succ] at g3 g4 g5; clear hX
    go_simp
    try with_reducible rfl
  try simp only [List.getElem_toArray, List.getElem_cons_zero, List.getElem_cons_succ]
  simp only [Act.put, List.setIfInBounds_toArray, List.set_cons_zero, List.set_cons_succ]
  replace hS := (one_ind (i := 3) (by decide) _ _).2 hS
  refine anyL_take (fun _ => True) [] (i := 5) (v := ?_) rfl (by kernel_rfl) (by kernel_rfl) (by kernel_rfl) (fun _ _ _ h => h) (by kernel_rfl) (one_ind (i := 5) (by decide)) (fun _ _ _ _ => trivial) (Or.inl ⟨by rfl, ?_⟩) hS ?_
  rotate_left
  · intro X hX
    clear hX
    go_simp
    try with_reducible rfl
  try simp only [List.getElem_toArray, List.getElem_cons_zero, List.getElem_cons_succ]
  simp only [Act.put, List.setIfInBounds_toArray, List.set_cons_zero, List.set_cons_succ]
  replace hS := (one_ind (i := 5) (by decide) _ _).2 hS
  refine anyL_take (fun _ => True) [] (i := 6) (v := ?_) rfl (by kernel_rfl) (by kernel_rfl) (by kernel_rfl) (fun _ _ _ h => h) (by kernel_rfl) (one_ind (i := 6) (by decide)) (fun _ _ _ _ => trivial) (Or.inl ⟨by rfl, ?_⟩) hS ?_
  rotate_left
  · intro X hX
    clear hX
    go_simp
    try with_reducible rfl
  try simp only [List.getElem_toArray, List.getElem_cons_zero, List.getElem_cons_succ]
  simp only [Act.put, List.setIfInBounds_toArray, List.set_cons_zero, List.set_cons_succ]
  replace hS := (one_ind (i := 6) (by decide) _ _).2 hS
  refine anyL_take (fun _ => True) [] (i := 7) (v := ?_) rfl (by kernel_rfl) (by kernel_rfl) (by kernel_rfl) (fun _ _ _ h => h) (by kernel_rfl) (one_ind (i := 7) (by decide)) (fun _ _ _ _ => trivial) (Or.inl ⟨by rfl, ?_⟩) hS ?_
  rotate_left
  · intro X hX
    clear hX
    go_simp
    try with_reducible rfl
  try simp only [List.getElem_toArray, List.getElem_cons_zero, List.getElem_cons_succ]
  simp only [Act.put, List.setIfInBounds_toArray, List.set_cons_zero, List.set_cons_succ]
  replace hS := (one_ind (i := 7) (by decide) _ _).2 hS
  refine anyL_take (fun X => Blk X g 61 (cellsS dim room (cntS st : Nat) T tk.length tc A al.length ac R tr.length rc)) [] (i := 8) (v := ?_) rfl (by kernel_rfl) (by kernel_rfl) (by kernel_rfl) (fun _ _ _ h => h) (by kernel_rfl) (one_ind (i := 8) (by decide)) (fun L X h1 h2 => h2.2) (Or.inl ⟨by rfl, ?_⟩) hS ?_
  rotate_left
  · intro X hX
    have g3 := hX.cell 3; have g4 := hX.cell 4; have g5 := hX.cell 5; simp only [List.getElem?_cons_zero, List.getElem?_cons_succ] at g3 g4 g5; clear hX
    go_simp
    try with_reducible rfl
  try simp only [List.getElem_toArray, List.getElem_cons_zero, List.getElem_cons_succ]
  simp only [Act.put, List.setIfInBounds_toArray, List.set_cons_zero, List.set_cons_succ]
  replace hS := (one_ind (i := 8) (by decide) _ _).2 hS
  refine anyL_take (fun _ => True) [] (i := 10) (v := ?_) rfl (by kernel_rfl) (by kernel_rfl) (by kernel_rfl) (fun _ _ _ h => h) (by kernel_rfl) (one_ind (i := 10) (by decide)) (fun _ _ _ _ => trivial) (Or.inl ⟨by rfl, ?_⟩) hS ?_
  rotate_left
  · intro X hX
    clear hX
    go_simp
    try with_reducible rfl
  try simp only [List.getElem_toArray, List.getElem_cons_zero, List.getElem_cons_succ]
  simp only [Act.put, List.setIfInBounds_toArray, List.set_cons_zero, List.set_cons_succ]
  replace hS := (one_ind (i := 10) (by decide) _ _).2 hS
  refine anyL_take (fun _ => True) [] (i := 11) (v := ?_) rfl (by kernel_rfl) (by kernel_rfl) (by kernel_rfl) (fun _ _ _ h => h) (by kernel_rfl) (one_ind (i := 11) (by decide)) (fun _ _ _ _ => trivial) (Or.inl ⟨by rfl, ?_⟩) hS ?_
  rotate_left
  · intro X hX
    clear hX
    go_simp
    try with_reducible rfl
  try simp only [List.getElem_toArray, List.getElem_cons_zero, List.getElem_cons_succ]
  simp only [Act.put, List.setIfInBounds_toArray, List.set_cons_zero, List.set_cons_succ]
  replace hS := (one_ind (i := 11) (by decide) _ _).2 hS
  refine anyL_take (fun _ => True) [] (i := 12) (v := ?_) rfl (by kernel_rfl) (by kernel_rfl) (by kernel_rfl) (fun _ _ _ h => h) (by kernel_rfl) (one_ind (i := 12) (by decide)) (fun _ _ _ _ => trivial) (Or.inl ⟨by rfl, ?_⟩) hS ?_
  rotate_left
  · intro X hX
    clear hX
    go_simp
    try with_reducible rfl
  try simp only [List.getElem_toArray, List.getElem_cons_zero, List.getElem_cons_succ]
  simp only [Act.put, List.setIfInBounds_toArray, List.set_cons_zero, List.set_cons_succ]
  replace hS := (one_ind (i := 12) (by decide) _ _).2 hS
  refine anyL_take (fun X => Blk X g 61 (cellsS dim room (cntS st : Nat) T tk.length tc A al.length ac R tr.length rc)) [] (i := 13) (v := ?_) rfl (by kernel_rfl) (by kernel_rfl) (by kernel_rfl) (fun _ _ _ h => h) (by kernel_rfl) (one_ind (i := 13) (by decide)) (fun L X h1 h2 => h2.2) (Or.inl ⟨by rfl, ?_⟩) hS ?_
  rotate_left
  · intro X hX
    have g3 := hX.cell 3; have g4 := hX.cell 4; have g5 := hX.cell 5; simp only [List.getElem?_cons_zero, List.getElem?_cons_succ] at g3 g4 g5; clear hX
    go_simp
    try with_reducible rfl
  try simp only [List.getElem_toArray, List.getElem_cons_zero, List.getElem_cons_succ]
  simp only [Act.put, List.setIfInBounds_toArray, List.set_cons_zero, List.set_cons_succ]
  replace hS := (one_ind (i := 13) (by decide) _ _).2 hS
  clear hS
  refine anyL_step (i := 4) (by kernel_rfl) rfl (by rfl) (fun K hK => ?_)
  go_simp
  refine (CT _ (below_trans b0 z)).mono ?_
  rintro e w1 ⟨T1, Tc1, rfl, o1, b1⟩
  have l1 := z.size
  have t1 := Lib.hid o1.lt
  replace z := below_trans z b1
  have m1 := b1.size
  dsimp only
  refine hK.out _ _ ⟨fun _ => trivial, eb.below z⟩ ?_
  clear hK K
  try simp only [Act.put, List.setIfInBounds_toArray, List.set_cons_zero, List.set_cons_succ]
  refine anyL_step (i := 9) (by kernel_rfl) rfl (by rfl) (fun K hK => ?_)
  go_simp
  refine (CA _ (below_trans b0 z)).mono ?_
  rintro e w2 ⟨A1, Ac1, rfl, o2, b2⟩
  have l2 := z.size
  have t2 := Lib.hid o2.lt
  replace o1 := own_below o1 b2
  replace z := below_trans z b2
  have m2 := b2.size
  dsimp only
  refine hK.out _ _ ⟨fun _ => trivial, eb.below z⟩ ?_
  clear hK K
  try simp only [Act.put, List.setIfInBounds_toArray, List.set_cons_zero, List.set_cons_succ]
  refine anyL_step (i := 14) (by kernel_rfl) rfl (by rfl) (fun K hK => ?_)
  go_simp
  refine (CR _ (below_trans b0 z)).mono ?_
  rintro e w3 ⟨R1, Rc1, rfl, o3, b3⟩
  have l3 := z.size
  have t3 := Lib.hid o3.lt
  replace o1 := own_below o1 b3
  replace o2 := own_below o2 b3
  replace z := below_trans z b3
  have m3 := b3.size
  dsimp only
  refine hK.out _ _ ⟨fun _ => trivial, eb.below z⟩ ?_
  clear hK K
  try simp only [Act.put, List.setIfInBounds_toArray, List.set_cons_zero, List.set_cons_succ]
  replace kb := kb.below z
  replace eb := eb.below z
  have hgb : g ≠ w.heap.size := by omega
  have hS : oneQ 99 (fun _ => True) (fun X => Blk X g 61 (cellsS dim room (cntS st : Nat) T tk.length tc A al.length ac R tr.length rc)) ((((((((((((((((Array.replicate 21 false).setIfInBounds 0 true).setIfInBounds 1 true).setIfInBounds 2 true).setIfInBounds 3 true).setIfInBounds 5 true).setIfInBounds 6 true).setIfInBounds 7 true).setIfInBounds 8 true).setIfInBounds 10 true).setIfInBounds 11 true).setIfInBounds 12 true).setIfInBounds 13 true).setIfInBounds 4 true).setIfInBounds 9 true).setIfInBounds 14 true) w3 := ⟨fun _ => trivial, eb⟩
  refine anyL_take (fun _ => True) [] (i := 15) (v := ?_) rfl (by kernel_rfl) (by kernel_rfl) (by kernel_rfl) (fun _ _ _ h => h) (by kernel_rfl) (one_ind (i := 15) (by decide)) (fun _ _ _ _ => trivial) (Or.inl ⟨by rfl, ?_⟩) hS ?_
  rotate_left
  · intro X hX
    clear hX
    go_simp
    try with_reducible rfl
  try simp only [List.getElem_toArray, List.getElem_cons_zero, List.getElem_cons_succ]
  simp only [Act.put, List.setIfInBounds_toArray, List.set_cons_zero, List.set_cons_succ]
  replace hS := (one_ind (i := 15) (by decide) _ _).2 hS
  clear hS
  have u3 := kb.cell 3
  have f3 := kb.frozen 3
  simp only [List.getElem?_cons_zero, List.getElem?_cons_succ, List.set_cons_zero, List.set_cons_succ] at u3
  refine anyL_step (i := 16) (by kernel_rfl) rfl (by rfl) (fun K hK => ?_)
  go_simp
  refine hK.out _ _ ⟨fun _ => trivial, eb.other (i := 3) hgb _⟩ ?_
  clear hK K
  try simp only [Act.put, List.setIfInBounds_toArray, List.set_cons_zero, List.set_cons_succ]
  replace kb := kb.set 3 (.slice T1 tk.length Tc1)
  replace eb := eb.other (i := 3) hgb (.slice T1 tk.length Tc1)
  clear u3 f3
  have hS : oneQ 99 (fun _ => True) (fun X => Blk X g 61 (cellsS dim room (cntS st : Nat) T tk.length tc A al.length ac R tr.length rc)) ((((((((((((((((((Array.replicate 21 false).setIfInBounds 0 true).setIfInBounds 1 true).setIfInBounds 2 true).setIfInBounds 3 true).setIfInBounds 5 true).setIfInBounds 6 true).setIfInBounds 7 true).setIfInBounds 8 true).setIfInBounds 10 true).setIfInBounds 11 true).setIfInBounds 12 true).setIfInBounds 13 true).setIfInBounds 4 true).setIfInBounds 9 true).setIfInBounds 14 true).setIfInBounds 15 true).setIfInBounds 16 true) (w3.setCell ⟨w.heap.size, 3, none⟩ (.slice T1 tk.length Tc1)) := ⟨fun _ => trivial, eb⟩
  refine anyL_take (fun _ => True) [] (i := 17) (v := ?_) rfl (by kernel_rfl) (by kernel_rfl) (by kernel_rfl) (fun _ _ _ h => h) (by kernel_rfl) (one_ind (i := 17) (by decide)) (fun _ _ _ _ => trivial) (Or.inl ⟨by rfl, ?_⟩) hS ?_
  rotate_left
  · intro X hX
    clear hX
    go_simp
    try with_reducible rfl
  try simp only [List.getElem_toArray, List.getElem_cons_zero, List.getElem_cons_succ]
  simp only [Act.put, List.setIfInBounds_toArray, List.set_cons_zero, List.set_cons_succ]
  replace hS := (one_ind (i := 17) (by decide) _ _).2 hS
  clear hS
  have u4 := kb.cell 4
  have f4 := kb.frozen 4
  simp only [List.getElem?_cons_zero, List.getElem?_cons_succ, List.set_cons_zero, List.set_cons_succ] at u4
  refine anyL_step (i := 18) (by kernel_rfl) rfl (by rfl) (fun K hK => ?_)
  go_simp
  refine hK.out _ _ ⟨fun _ => trivial, eb.other (i := 4) hgb _⟩ ?_
  clear hK K
  try simp only [Act.put, List.setIfInBounds_toArray, List.set_cons_zero, List.set_cons_succ]
  replace kb := kb.set 4 (.slice A1 al.length Ac1)
  replace eb := eb.other (i := 4) hgb (.slice A1 al.length Ac1)
  clear u4 f4
  have hS : oneQ 99 (fun _ => True) (fun X => Blk X g 61 (cellsS dim room (cntS st : Nat) T tk.length tc A al.length ac R tr.length rc)) ((((((((((((((((((((Array.replicate 21 false).setIfInBounds 0 true).setIfInBounds 1 true).setIfInBounds 2 true).setIfInBounds 3 true).setIfInBounds 5 true).setIfInBounds 6 true).setIfInBounds 7 true).setIfInBounds 8 true).setIfInBounds 10 true).setIfInBounds 11 true).setIfInBounds 12 true).setIfInBounds 13 true).setIfInBounds 4 true).setIfInBounds 9 true).setIfInBounds 14 true).setIfInBounds 15 true).setIfInBounds 16 true).setIfInBounds 17 true).setIfInBounds 18 true) ((w3.setCell ⟨w.heap.size, 3, none⟩ (.slice T1 tk.length Tc1)).setCell ⟨w.heap.size, 4, none⟩ (.slice A1 al.length Ac1)) := ⟨fun _ => trivial, eb⟩
  refine anyL_take (fun _ => True) [] (i := 19) (v := ?_) rfl (by kernel_rfl) (by kernel_rfl) (by kernel_rfl) (fun _ _ _ h => h) (by kernel_rfl) (one_ind (i := 19) (by decide)) (fun _ _ _ _ => trivial) (Or.inl ⟨by rfl, ?_⟩) hS ?_
  rotate_left
  · intro X hX
    clear hX
    go_simp
    try with_reducible rfl
  try simp only [List.getElem_toArray, List.getElem_cons_zero, List.getElem_cons_succ]
  simp only [Act.put, List.setIfInBounds_toArray, List.set_cons_zero, List.set_cons_succ]
  replace hS := (one_ind (i := 19) (by decide) _ _).2 hS
  clear hS
  have u5 := kb.cell 5
  have f5 := kb.frozen 5
  simp only [List.getElem?_cons_zero, List.getElem?_cons_succ, List.set_cons_zero, List.set_cons_succ] at u5
  refine anyL_step (i := 20) (by kernel_rfl) rfl (by rfl) (fun K hK => ?_)
  go_simp
  refine hK.out _ _ ⟨fun _ => trivial, eb.other (i := 5) hgb _⟩ ?_
  clear hK K
  try simp only [Act.put, List.setIfInBounds_toArray, List.set_cons_zero, List.set_cons_succ]
  replace kb := kb.set 5 (.slice R1 tr.length Rc1)
  replace eb := eb.other (i := 5) hgb (.slice R1 tr.length Rc1)
  clear u5 f5
  refine anyL_done (by kernel_rfl) ?_ _
  go_wp2_with fail
  go_ret
  have zz := ((((below_trans b0 z).setCell (p := ⟨w.heap.size, 3, none⟩) (Nat.le_refl _) (.slice T1 tk.length Tc1)).setCell (p := ⟨w.heap.size, 4, none⟩) (Nat.le_refl _) (.slice A1 al.length Ac1)).setCell (p := ⟨w.heap.size, 5, none⟩) (Nat.le_refl _) (.slice R1 tr.length Rc1))
  have so : ∀ k, k ≠ w.heap.size → (((w3.setCell ⟨w.heap.size, 3, none⟩ (.slice T1 tk.length Tc1)).setCell ⟨w.heap.size, 4, none⟩ (.slice A1 al.length Ac1)).setCell ⟨w.heap.size, 5, none⟩ (.slice R1 tr.length Rc1)).heap[k]? = w3.heap[k]? := fun k hk => by
    rw [heap_setCell_other _ ⟨w.heap.size, 5, none⟩ k _ hk, heap_setCell_other _ ⟨w.heap.size, 4, none⟩ k _ hk, heap_setCell_other _ ⟨w.heap.size, 3, none⟩ k _ hk]
  have hsz : (((w3.setCell ⟨w.heap.size, 3, none⟩ (.slice T1 tk.length Tc1)).setCell ⟨w.heap.size, 4, none⟩ (.slice A1 al.length Ac1)).setCell ⟨w.heap.size, 5, none⟩ (.slice R1 tr.length Rc1)).heap.size = w3.heap.size := by simp
  have q1 : ∀ k, (Value.slice T1 tk.length Tc1).ownBlock = some k → w.heap.size < k ∧ k < w1.heap.size := fun k hk => by have := t1.out k hk; omega
  have q2 : ∀ k, (Value.slice A1 al.length Ac1).ownBlock = some k → w1.heap.size ≤ k ∧ k < w2.heap.size := fun k hk => by have := t2.out k hk; omega
  have q3 : ∀ k, (Value.slice R1 tr.length Rc1).ownBlock = some k → w2.heap.size ≤ k ∧ k < w3.heap.size := fun k hk => by have := t3.out k hk; omega
  refine ⟨w.heap.size, rfl, ⟨hd, tk, al, T1, Tc1, A1, Ac1, R1, Rc1, ⟨kb, row_same (own_mono o1 (Nat.zero_le _)) fun k hk => so k (by have := q1 k hk; omega), row_same (own_mono o2 (Nat.zero_le _)) fun k hk => so k (by have := q2 k hk; omega), row_same (own_mono o3 (Nat.zero_le _)) fun k hk => so k (by have := q3 k hk; omega),
    ⟨Nat.le_refl _, by rw [hsz]; omega⟩, (fun k hk => ⟨⟨by have := q1 k hk; omega, by rw [hsz]; have := q1 k hk; omega⟩, by have := q1 k hk; omega⟩), (fun k hk => ⟨⟨by have := q2 k hk; omega, by rw [hsz]; have := q2 k hk; omega⟩, by have := q2 k hk; omega, fun e => by have := q2 k hk; have := q1 k e; omega⟩),
    (fun k hk => ⟨⟨by have := q3 k hk; omega, by rw [hsz]; have := q3 k hk; omega⟩, by have := q3 k hk; omega, (fun e => by have := q3 k hk; have := q1 k e; omega), (fun e => by have := q3 k hk; have := q2 k e; omega)⟩)⟩, hws, hns⟩, zz⟩
end Go.Proofs.YtcmdjnllpcnpjaaDoor
