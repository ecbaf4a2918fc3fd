/- CmdBa: CommandBack. -/
import Derived.Test.YtjdablkdndmcgaaCmdBk
namespace Go.Proofs.Ytjdablkdndmcgaa
set_option linter.unusedVariables false
set_option linter.unusedSimpArgs false
open Go.RowKit
set_option maxHeartbeats 2000000 in
set_option maxRecDepth 20000 in
theorem CommandBack_row (q : Option Addr × Option Addr) (cc : Nat × Nat) (x : Cm) (fr at' m : Int) (w : World) (hw : CmW w q.1 q.2 cc.1 cc.2 x) (hfw : (Lit.int .i64 fr).wf = true) (_ha : (Lit.int .i64 at').wf = true) (hm : (Lit.int .u8 m).wf = true) :
    Calls Try.prog 5 #[.agg (cmC x q.1 cc.1 q.2 cc.2).toArray, .int .i64 fr, .int .i64 at', .int .u8 m] w fun e w' => e = .returned (.bool true) ∧ Below w.heap.size w w' := by
  obtain ⟨m0, m1⟩ := bdU8 hm
  clear hm _ha
  have hmix : Try.prog.follows .mixedOrders = true := by kernel_rfl
  obtain ⟨A, B⟩ := q
  obtain ⟨a, b⟩ := cc
  dsimp only at *
  obtain ⟨hk, hx, _⟩ := hw
  obtain ⟨hf1, hf2⟩ := bdI64 hfw
  obtain ⟨f, hf3⟩ : ∃ f, fr % 16 = f := ⟨_, rfl⟩
  have f0 : 0 ≤ f := by omega
  have f1 : f ≤ 15 := by omega
  clear hfw
  have h0 : Blk (w.alloc (.cells (cmC x A a B b).toArray 34)) w.heap.size 34 (cmC x A a B b) := Blk.new w _ _
  have B0 := below_box0 w (.cells (cmC x A a B b).toArray 34)
  have HX : BX w (w.alloc (.cells (cmC x A a B b).toArray 34)) x A a B b := ⟨h0, hk.below B0, B0⟩
  replace HX := Lib.hid HX
  clear h0 B0 hk
  simp only [cmC]
  go_enter Try.func5, Try.ntmps5
  go_wp2_with fail
  refine (lives_calls _).mono ?_
  rintro e w1 ⟨rfl, b1⟩
  have HW := Lib.hid (HX.out.below b1)
  clear b1 HX
  obtain ⟨l0, l1', l2', l3', l4, l5⟩ := load_cm HW.out.c
  go_wp2_with fail
  refine (clight_calls x A a B b _).mono ?_
  rintro e w2 ⟨rfl, b2⟩
  replace HW := Lib.hid (HW.out.below b2)
  clear b2 l0 l1' l2' l3' l4 l5
  obtain ⟨l0, l1', l2', l3', l4, l5⟩ := load_cm HW.out.c
  by_cases hlt : x.v.length ≤ 10000 ∧ x.d.length ≤ 10000
  case neg =>
    rw [decide_eq_false hlt]
    clear hlt
    go_wp2_with fail
    go_ret
    exact ⟨rfl, HW.out.k.2⟩
  rw [decide_eq_true hlt]
  clear hlt
  go_wp2_with fail
  refine (CCheck_calls x A a B b _ HW.out.k.1).mono ?_
  rintro e w3 ⟨rfl, b3⟩
  replace HW := Lib.hid (HW.out.below b3)
  clear b3 l0 l1' l2' l3' l4 l5
  obtain ⟨l0, l1', l2', l3', l4, l5⟩ := load_cm HW.out.c
  by_cases hok : cmOk x
  case neg =>
    rw [if_neg hok]
    go_wp2_with fail
    go_ret
    exact ⟨rfl, HW.out.k.2⟩
  rw [if_pos hok]
  have hrb2 := Lib.hid (show bytesR x = putB x 0 by unfold bytesR; rw [if_pos hok])
  have heb := Lib.hid (show (if cmOk x then (0 : Int) else 2) = 0 from if_pos hok)
  obtain ⟨rb, hrb⟩ : ∃ r, r = putB x 0 := ⟨_, rfl⟩
  rw [← hrb] at hrb2
  replace hrb := Lib.hid hrb
  go_wp2_with fail
  refine (Bytes_calls x A a B b _ HW.out.k.1 hx rb hrb2 0 heb).mono ?_
  rintro e w4 ⟨V, cv, rfl, sb, bb⟩
  replace HW := Lib.hid (HW.out.below bb)
  clear bb l0 l1' l2' l3' l4 l5
  obtain ⟨l0, l1', l2', l3', l4, l5⟩ := load_cm HW.out.c
  go_wp2_with fail
  refine (back_calls V cv rb x A a B b at' m 0 _ sb HW.out.k.1 hok hx (by decide) hrb m0 m1).mono ?_
  rintro e w5 ⟨rfl, b5⟩
  replace HW := Lib.hid (HW.out.below b5)
  clear b5 sb l0 l1' l2' l3' l4 l5
  obtain ⟨l0, l1', l2', l3', l4, l5⟩ := load_cm HW.out.c
  obtain ⟨rd, hrd⟩ : ∃ r, doublesR x f = r := ⟨_, rfl⟩
  obtain ⟨ed, hed⟩ : ∃ r : Int, (if doublesOk x f then (0 : Int) else 2) = r := ⟨_, rfl⟩
  replace hrd := Lib.hid hrd
  replace hed := Lib.hid hed
  replace hf3 := Lib.hid hf3
  have hok' := hok
  unfold cmOk at hok'
  obtain ⟨_, _, ov, _, _⟩ := hok'
  replace ov := Lib.hid ov
  go_wp2_with fail
  refine region_L (oneQ 99 (fun _ => True) (fun X => X.cell? ⟨w.heap.size, 0, none⟩ = some (.int .i64 x.op) ∧ X.cell? ⟨w.heap.size, 1, none⟩ = some (.int .i64 x.id) ∧ X.cell? ⟨w.heap.size, 2, none⟩ = some (.slice A x.v.length a) ∧ X.cell? ⟨w.heap.size, 3, none⟩ = some (.int .i64 x.k) ∧ X.cell? ⟨w.heap.size, 4, none⟩ = some (.int .i64 x.p) ∧ X.cell? ⟨w.heap.size, 5, none⟩ = some (.slice B x.d.length b))) hmix ?_
  have H := HW.out.below ((Below.refl w5.heap.size w5).drew)
  clear l0 l1' l2' l3' l4 l5 HW
  generalize w5.drew = V0 at *
  have hS : oneQ 99 (fun _ => True) (fun X => X.cell? ⟨w.heap.size, 0, none⟩ = some (.int .i64 x.op) ∧ X.cell? ⟨w.heap.size, 1, none⟩ = some (.int .i64 x.id) ∧ X.cell? ⟨w.heap.size, 2, none⟩ = some (.slice A x.v.length a) ∧ X.cell? ⟨w.heap.size, 3, none⟩ = some (.int .i64 x.k) ∧ X.cell? ⟨w.heap.size, 4, none⟩ = some (.int .i64 x.p) ∧ X.cell? ⟨w.heap.size, 5, none⟩ = some (.slice B x.d.length b)) (Array.replicate 9 false) V0 := ⟨fun _ => trivial, load_cm H.c⟩
  refine anyL_take (fun X => X.cell? ⟨w.heap.size, 0, none⟩ = some (.int .i64 x.op) ∧ X.cell? ⟨w.heap.size, 1, none⟩ = some (.int .i64 x.id) ∧ X.cell? ⟨w.heap.size, 2, none⟩ = some (.slice A x.v.length a) ∧ X.cell? ⟨w.heap.size, 3, none⟩ = some (.int .i64 x.k) ∧ X.cell? ⟨w.heap.size, 4, none⟩ = some (.int .i64 x.p) ∧ X.cell? ⟨w.heap.size, 5, none⟩ = some (.slice B x.d.length b)) [] (i := 0) (v := ?_) rfl (by kernel_rfl) (by kernel_rfl) (by kernel_rfl) (fun _ _ _ h => h) (by kernel_rfl) (one_ind (i := 0) (by decide)) (fun L X h1 h2 => h2.2) (Or.inl ⟨by rfl, ?_⟩) hS ?_
  rotate_left
  · intro X hX
    obtain ⟨g0, g1, g2, g3, g4, g5⟩ := hX
    go_simp
    try with_reducible rfl
  try simp only [List.getElem_toArray, List.getElem_cons_zero, List.getElem_cons_succ]
  simp only [Act.put, List.setIfInBounds_toArray, List.set_cons_zero, List.set_cons_succ]
  replace hS := (one_ind (i := 0) (by decide) _ _).2 hS
  refine anyL_take (fun _ => True) [] (i := 1) (v := ?_) rfl (by kernel_rfl) (by kernel_rfl) (by kernel_rfl) (fun _ _ _ h => h) (by kernel_rfl) (one_ind (i := 1) (by decide)) (fun _ _ _ _ => trivial) (Or.inl ⟨by rfl, ?_⟩) hS ?_
  rotate_left
  · intro X hX
    clear hX
    go_simp
    try with_reducible rfl
  try simp only [List.getElem_toArray, List.getElem_cons_zero, List.getElem_cons_succ]
  simp only [Act.put, List.setIfInBounds_toArray, List.set_cons_zero, List.set_cons_succ]
  replace hS := (one_ind (i := 1) (by decide) _ _).2 hS
  clear hS
  refine anyL_step (i := 2) (by kernel_rfl) rfl (by rfl) (fun K hK => ?_)
  go_simp
  refine (Pick_calls fr 16 _ (by decide) (by decide)).mono ?_
  rintro e V0 ⟨rfl, rfl⟩
  rw [hf3.out]
  dsimp only
  refine hK.out _ _ ⟨fun _ => trivial, load_cm H.c⟩ ?_
  clear hK K
  try simp only [Act.put, List.setIfInBounds_toArray, List.set_cons_zero, List.set_cons_succ]
  refine anyL_step (i := 3) (by kernel_rfl) rfl (by rfl) (fun K hK => ?_)
  go_simp
  refine (Doubles_calls x A a B b f _ H.k.1 hx rd hrd ed hed).mono ?_
  rintro e w6 ⟨D, dd, rfl, sd, bd⟩
  replace H := H.below bd
  clear bd
  dsimp only
  refine hK.out _ _ ⟨fun _ => trivial, load_cm H.c⟩ ?_
  clear hK K
  try simp only [Act.put, List.setIfInBounds_toArray, List.set_cons_zero, List.set_cons_succ]
  have hS : oneQ 99 (fun _ => True) (fun X => X.cell? ⟨w.heap.size, 0, none⟩ = some (.int .i64 x.op) ∧ X.cell? ⟨w.heap.size, 1, none⟩ = some (.int .i64 x.id) ∧ X.cell? ⟨w.heap.size, 2, none⟩ = some (.slice A x.v.length a) ∧ X.cell? ⟨w.heap.size, 3, none⟩ = some (.int .i64 x.k) ∧ X.cell? ⟨w.heap.size, 4, none⟩ = some (.int .i64 x.p) ∧ X.cell? ⟨w.heap.size, 5, none⟩ = some (.slice B x.d.length b)) (((((Array.replicate 9 false).setIfInBounds 0 true).setIfInBounds 1 true).setIfInBounds 2 true).setIfInBounds 3 true) w6 := ⟨fun _ => trivial, load_cm H.c⟩
  refine anyL_take (fun _ => True) [] (i := 4) (v := ?_) rfl (by kernel_rfl) (by kernel_rfl) (by kernel_rfl) (fun _ _ _ h => h) (by kernel_rfl) (one_ind (i := 4) (by decide)) (fun _ _ _ _ => trivial) (Or.inl ⟨by rfl, ?_⟩) hS ?_
  rotate_left
  · intro X hX
    clear hX
    go_simp
    try with_reducible rfl
  try simp only [List.getElem_toArray, List.getElem_cons_zero, List.getElem_cons_succ]
  simp only [Act.put, List.setIfInBounds_toArray, List.set_cons_zero, List.set_cons_succ]
  replace hS := (one_ind (i := 4) (by decide) _ _).2 hS
  refine anyL_take (fun _ => True) [] (i := 5) (v := ?_) rfl (by kernel_rfl) (by kernel_rfl) (by kernel_rfl) (fun _ _ _ h => h) (by kernel_rfl) (one_ind (i := 5) (by decide)) (fun _ _ _ _ => trivial) (Or.inl ⟨by rfl, ?_⟩) hS ?_
  rotate_left
  · intro X hX
    clear hX
    go_simp
    try with_reducible rfl
  try simp only [List.getElem_toArray, List.getElem_cons_zero, List.getElem_cons_succ]
  simp only [Act.put, List.setIfInBounds_toArray, List.set_cons_zero, List.set_cons_succ]
  replace hS := (one_ind (i := 5) (by decide) _ _).2 hS
  refine anyL_take (fun _ => True) [] (i := 6) (v := ?_) rfl (by kernel_rfl) (by kernel_rfl) (by kernel_rfl) (fun _ _ _ h => h) (by kernel_rfl) (one_ind (i := 6) (by decide)) (fun _ _ _ _ => trivial) (Or.inl ⟨by rfl, ?_⟩) hS ?_
  rotate_left
  · intro X hX
    clear hX
    go_simp
    try with_reducible rfl
  try simp only [List.getElem_toArray, List.getElem_cons_zero, List.getElem_cons_succ]
  simp only [Act.put, List.setIfInBounds_toArray, List.set_cons_zero, List.set_cons_succ]
  replace hS := (one_ind (i := 6) (by decide) _ _).2 hS
  refine anyL_take (fun _ => True) [] (i := 7) (v := ?_) rfl (by kernel_rfl) (by kernel_rfl) (by kernel_rfl) (fun _ _ _ h => h) (by kernel_rfl) (one_ind (i := 7) (by decide)) (fun _ _ _ _ => trivial) (Or.inl ⟨by rfl, ?_⟩) hS ?_
  rotate_left
  · intro X hX
    clear hX
    go_simp
    try with_reducible rfl
  try simp only [List.getElem_toArray, List.getElem_cons_zero, List.getElem_cons_succ]
  simp only [Act.put, List.setIfInBounds_toArray, List.set_cons_zero, List.set_cons_succ]
  replace hS := (one_ind (i := 7) (by decide) _ _).2 hS
  refine anyL_take (fun _ => True) [] (i := 8) (v := ?_) rfl (by kernel_rfl) (by kernel_rfl) (by kernel_rfl) (fun _ _ _ h => h) (by kernel_rfl) (one_ind (i := 8) (by decide)) (fun _ _ _ _ => trivial) (Or.inl ⟨by rfl, ?_⟩) hS ?_
  rotate_left
  · intro X hX
    clear hX
    go_simp
    try with_reducible rfl
  try simp only [List.getElem_toArray, List.getElem_cons_zero, List.getElem_cons_succ]
  simp only [Act.put, List.setIfInBounds_toArray, List.set_cons_zero, List.set_cons_succ]
  replace hS := (one_ind (i := 8) (by decide) _ _).2 hS
  clear hS
  refine anyL_done (by kernel_rfl) ?_ _
  have HF := Lib.hid H.k.2
  have hend : hasN x.op 2 = true → 0 < x.v.length ∧ ed = 0 ∧ rd = putB x (f.toNat + 1) := fun h2 => by
    have hd : doublesOk x f := ⟨hok, ⟨f0, f1⟩, h2⟩
    refine ⟨?_, ?_, ?_⟩
    · have := ov.out
      rw [has_vec] at h2; simp at h2
      rw [if_pos (by omega)] at this
      omega
    · rw [← hed.out, if_pos hd]
    · rw [← hrd.out]; unfold doublesR; rw [if_pos hd]
  have hend2 : hasN x.op 2 = false → x.v.length = 0 ∧ ed = 2 := fun h2 => by
    refine ⟨?_, ?_⟩
    · have := ov.out
      rw [has_vec] at h2; simp at h2
      rw [if_neg (by omega)] at this
      rw [this]; rfl
    · rw [← hed.out, if_neg (fun h => by have := h.2.2; rw [h2] at this; cases this)]
  obtain ⟨l0, l1', l2', l3', l4, l5⟩ := load_cm H.c
  cases h2 : hasN x.op 2 with
  | true =>
    obtain ⟨hp, he1, he2⟩ := hend h2
    have hp1 : ((x.v.length : Int) == 0) = false := by rw [beq_eq_false_iff_ne]; omega
    clear hend hend2 hed hrd
    subst he1
    have hrd2 := Lib.hid he2
    clear he2
    go_wp2_with fail
    refine (back_calls D dd rd x A a B b at' m (f.toNat + 1) _ sd H.k.1 hok hx (by omega) hrd2 m0 m1).mono ?_
    rintro e w7 ⟨rfl, b7⟩
    have HF2 := Lib.hid (H.below b7).k.2
    clear b7 H
    go_wp2_with fail
    go_ret
    exact ⟨rfl, HF2.out⟩
  | false =>
    obtain ⟨hp, he1⟩ := hend2 h2
    clear hend hend2 hed hrd
    subst he1
    have hp1 : ((x.v.length : Int) == 0) = true := by rw [hp]; rfl
    clear H
    go_wp2_with fail
    go_ret
    exact ⟨rfl, HF.out⟩
end Go.Proofs.Ytjdablkdndmcgaa
