/- A list in memory: Same, Clone. -/
import Derived.Test.YtikjmhijkegdgaaListG
namespace Go.Proofs.Ytikjmhijkegdgaa
set_option linter.unusedVariables false
set_option linter.unusedSimpArgs false
open Go.RowKit
set_option maxHeartbeats 1000000 in
theorem LSame_calls (S S' : Nat → Prop) (g g' : Nat) (parts parts' : Int) (es es' : List En) (w : World) (h : LIST w S g parts es) (h' : LIST w S' g' parts' es') :
    Calls Try.prog 24 #[PtrL g, PtrL g'] w fun e w' => e = .returned (.bool (decide (parts = parts' ∧ es = es'))) ∧ Below w.heap.size w w' := by
  have hmix : Try.prog.follows .mixedOrders = true := by kernel_rfl
  obtain ⟨xs, A, c, bm, rfl, h⟩ := h
  obtain ⟨xs', A', c', bm', rfl, h'⟩ := h'
  have EC := fun W (hW : Below w.heap.size w W) => EqualFuncE_calls A A' c c' (ents xs) (ents xs') W ⟨xs, rfl, h.sl.below hW⟩ ⟨xs', rfl, h'.sl.below hW⟩
  rw [ents_length, ents_length] at EC
  have c0 := h.1.cell 0
  have c1 := h.1.cell 1
  have d0 := h'.1.cell 0
  have d1 := h'.1.cell 1
  simp only [List.getElem?_cons_zero, List.getElem?_cons_succ] at c0 c1 d0 d1
  clear h h'
  unfold PtrL
  by_cases hp : parts = parts'
  · subst hp
    have ip : (parts == parts) = true := by simp
    have HD := Lib.hid (show decide (ents xs = ents xs') = decide (parts = parts ∧ ents xs = ents xs') by simp)
    generalize decide (ents xs = ents xs') = dd at *
    go_enter Try.func24, Try.ntmps24
    go_wp2_with fail
    refine region_L (oneQ 99 (fun _ => True) (fun X => X.cell? ⟨g, 0, none⟩ = some (.int .i64 parts) ∧ X.cell? ⟨g, 1, none⟩ = some (.slice A xs.length c) ∧ X.cell? ⟨g', 0, none⟩ = some (.int .i64 parts) ∧ X.cell? ⟨g', 1, none⟩ = some (.slice A' xs'.length c'))) hmix ?_
    have hS : oneQ 99 (fun _ => True) (fun X => X.cell? ⟨g, 0, none⟩ = some (.int .i64 parts) ∧ X.cell? ⟨g, 1, none⟩ = some (.slice A xs.length c) ∧ X.cell? ⟨g', 0, none⟩ = some (.int .i64 parts) ∧ X.cell? ⟨g', 1, none⟩ = some (.slice A' xs'.length c')) (Array.replicate 22 false) w.drew := ⟨fun _ => trivial, c0, c1, d0, d1⟩
    refine anyL_take (fun _ => True) [] (i := 0) (v := ?_) rfl (by kernel_rfl) (by kernel_rfl) (by kernel_rfl) (fun _ _ _ h => h) (by kernel_rfl) (one_ind (i := 0) (by decide)) (fun _ _ _ _ => trivial) (Or.inl ⟨by rfl, ?_⟩) hS ?_
    rotate_left
    · intro X hX
      clear hX
      go_simp
      try with_reducible rfl
    try simp only [List.getElem_toArray, List.getElem_cons_zero, List.getElem_cons_succ]
    simp only [Act.put, List.setIfInBounds_toArray, List.set_cons_zero, List.set_cons_succ]
    replace hS := (one_ind (i := 0) (by decide) _ _).2 hS
    refine anyL_take (fun _ => True) [] (i := 1) (v := ?_) rfl (by kernel_rfl) (by kernel_rfl) (by kernel_rfl) (fun _ _ _ h => h) (by kernel_rfl) (one_ind (i := 1) (by decide)) (fun _ _ _ _ => trivial) (Or.inl ⟨by rfl, ?_⟩) hS ?_
    rotate_left
    · intro X hX
      clear hX
      go_simp
      try with_reducible rfl
    try simp only [List.getElem_toArray, List.getElem_cons_zero, List.getElem_cons_succ]
    simp only [Act.put, List.setIfInBounds_toArray, List.set_cons_zero, List.set_cons_succ]
    replace hS := (one_ind (i := 1) (by decide) _ _).2 hS
    refine anyL_take (fun _ => True) [] (i := 2) (v := ?_) rfl (by kernel_rfl) (by kernel_rfl) (by kernel_rfl) (fun _ _ _ h => h) (by kernel_rfl) (one_ind (i := 2) (by decide)) (fun _ _ _ _ => trivial) (Or.inl ⟨by rfl, ?_⟩) hS ?_
    rotate_left
    · intro X hX
      clear hX
      go_simp
      try with_reducible rfl
    try simp only [List.getElem_toArray, List.getElem_cons_zero, List.getElem_cons_succ]
    simp only [Act.put, List.setIfInBounds_toArray, List.set_cons_zero, List.set_cons_succ]
    replace hS := (one_ind (i := 2) (by decide) _ _).2 hS
    refine anyL_take (fun X => X.cell? ⟨g, 0, none⟩ = some (.int .i64 parts) ∧ X.cell? ⟨g, 1, none⟩ = some (.slice A xs.length c) ∧ X.cell? ⟨g', 0, none⟩ = some (.int .i64 parts) ∧ X.cell? ⟨g', 1, none⟩ = some (.slice A' xs'.length c')) [] (i := 3) (v := ?_) rfl (by kernel_rfl) (by kernel_rfl) (by kernel_rfl) (fun _ _ _ h => h) (by kernel_rfl) (one_ind (i := 3) (by decide)) (fun L X h1 h2 => h2.2) (Or.inl ⟨by rfl, ?_⟩) hS ?_
    rotate_left
    · intro X hX
      obtain ⟨g0, g1, g2, g3⟩ := hX
      go_simp
      try with_reducible rfl
    try simp only [List.getElem_toArray, List.getElem_cons_zero, List.getElem_cons_succ]
    simp only [Act.put, List.setIfInBounds_toArray, List.set_cons_zero, List.set_cons_succ]
    replace hS := (one_ind (i := 3) (by decide) _ _).2 hS
    refine anyL_take (fun _ => True) [] (i := 4) (v := ?_) rfl (by kernel_rfl) (by kernel_rfl) (by kernel_rfl) (fun _ _ _ h => h) (by kernel_rfl) (one_ind (i := 4) (by decide)) (fun _ _ _ _ => trivial) (Or.inl ⟨by rfl, ?_⟩) hS ?_
    rotate_left
    · intro X hX
      clear hX
      go_simp
      try with_reducible rfl
    try simp only [List.getElem_toArray, List.getElem_cons_zero, List.getElem_cons_succ]
    simp only [Act.put, List.setIfInBounds_toArray, List.set_cons_zero, List.set_cons_succ]
    replace hS := (one_ind (i := 4) (by decide) _ _).2 hS
    refine anyL_take (fun _ => True) [] (i := 5) (v := ?_) rfl (by kernel_rfl) (by kernel_rfl) (by kernel_rfl) (fun _ _ _ h => h) (by kernel_rfl) (one_ind (i := 5) (by decide)) (fun _ _ _ _ => trivial) (Or.inl ⟨by rfl, ?_⟩) hS ?_
    rotate_left
    · intro X hX
      clear hX
      go_simp
      try with_reducible rfl
    try simp only [List.getElem_toArray, List.getElem_cons_zero, List.getElem_cons_succ]
    simp only [Act.put, List.setIfInBounds_toArray, List.set_cons_zero, List.set_cons_succ]
    replace hS := (one_ind (i := 5) (by decide) _ _).2 hS
    refine anyL_take (fun _ => True) [] (i := 6) (v := ?_) rfl (by kernel_rfl) (by kernel_rfl) (by kernel_rfl) (fun _ _ _ h => h) (by kernel_rfl) (one_ind (i := 6) (by decide)) (fun _ _ _ _ => trivial) (Or.inl ⟨by rfl, ?_⟩) hS ?_
    rotate_left
    · intro X hX
      clear hX
      go_simp
      try with_reducible rfl
    try simp only [List.getElem_toArray, List.getElem_cons_zero, List.getElem_cons_succ]
    simp only [Act.put, List.setIfInBounds_toArray, List.set_cons_zero, List.set_cons_succ]
    replace hS := (one_ind (i := 6) (by decide) _ _).2 hS
    refine anyL_take (fun X => X.cell? ⟨g, 0, none⟩ = some (.int .i64 parts) ∧ X.cell? ⟨g, 1, none⟩ = some (.slice A xs.length c) ∧ X.cell? ⟨g', 0, none⟩ = some (.int .i64 parts) ∧ X.cell? ⟨g', 1, none⟩ = some (.slice A' xs'.length c')) [] (i := 7) (v := ?_) rfl (by kernel_rfl) (by kernel_rfl) (by kernel_rfl) (fun _ _ _ h => h) (by kernel_rfl) (one_ind (i := 7) (by decide)) (fun L X h1 h2 => h2.2) (Or.inl ⟨by rfl, ?_⟩) hS ?_
    rotate_left
    · intro X hX
      obtain ⟨g0, g1, g2, g3⟩ := hX
      go_simp
      try with_reducible rfl
    try simp only [List.getElem_toArray, List.getElem_cons_zero, List.getElem_cons_succ]
    simp only [Act.put, List.setIfInBounds_toArray, List.set_cons_zero, List.set_cons_succ]
    replace hS := (one_ind (i := 7) (by decide) _ _).2 hS
    refine anyL_take (fun _ => True) [] (i := 8) (v := ?_) rfl (by kernel_rfl) (by kernel_rfl) (by kernel_rfl) (fun _ _ _ h => h) (by kernel_rfl) (one_ind (i := 8) (by decide)) (fun _ _ _ _ => trivial) (Or.inl ⟨by rfl, ?_⟩) hS ?_
    rotate_left
    · intro X hX
      clear hX
      go_simp
      try with_reducible rfl
    try simp only [List.getElem_toArray, List.getElem_cons_zero, List.getElem_cons_succ]
    simp only [Act.put, List.setIfInBounds_toArray, List.set_cons_zero, List.set_cons_succ]
    replace hS := (one_ind (i := 8) (by decide) _ _).2 hS
    refine anyL_take (fun _ => True) [] (i := 9) (v := ?_) rfl (by kernel_rfl) (by kernel_rfl) (by kernel_rfl) (fun _ _ _ h => h) (by kernel_rfl) (one_ind (i := 9) (by decide)) (fun _ _ _ _ => trivial) (Or.inl ⟨by rfl, ?_⟩) hS ?_
    rotate_left
    · intro X hX
      clear hX
      go_simp
      try with_reducible rfl
    try simp only [List.getElem_toArray, List.getElem_cons_zero, List.getElem_cons_succ]
    simp only [Act.put, List.setIfInBounds_toArray, List.set_cons_zero, List.set_cons_succ]
    replace hS := (one_ind (i := 9) (by decide) _ _).2 hS
    refine anyL_take (fun _ => True) [] (i := 10) (v := ?_) rfl (by kernel_rfl) (by kernel_rfl) (by kernel_rfl) (fun _ _ _ h => h) (by kernel_rfl) (one_ind (i := 10) (by decide)) (fun _ _ _ _ => trivial) (Or.inl ⟨by rfl, ?_⟩) hS ?_
    rotate_left
    · intro X hX
      clear hX
      go_simp
      try with_reducible rfl
    try simp only [List.getElem_toArray, List.getElem_cons_zero, List.getElem_cons_succ]
    simp only [Act.put, List.setIfInBounds_toArray, List.set_cons_zero, List.set_cons_succ]
    replace hS := (one_ind (i := 10) (by decide) _ _).2 hS
    refine anyL_take (fun _ => True) [] (i := 11) (v := ?_) rfl (by kernel_rfl) (by kernel_rfl) (by kernel_rfl) (fun _ _ _ h => h) (by kernel_rfl) (one_ind (i := 11) (by decide)) (fun _ _ _ _ => trivial) (Or.inl ⟨by rfl, ?_⟩) hS ?_
    rotate_left
    · intro X hX
      clear hX
      go_simp
      try with_reducible rfl
    try simp only [List.getElem_toArray, List.getElem_cons_zero, List.getElem_cons_succ]
    simp only [Act.put, List.setIfInBounds_toArray, List.set_cons_zero, List.set_cons_succ]
    replace hS := (one_ind (i := 11) (by decide) _ _).2 hS
    refine anyL_take (fun _ => True) [] (i := 12) (v := ?_) rfl (by kernel_rfl) (by kernel_rfl) (by kernel_rfl) (fun _ _ _ h => h) (by kernel_rfl) (one_ind (i := 12) (by decide)) (fun _ _ _ _ => trivial) (Or.inl ⟨by rfl, ?_⟩) hS ?_
    rotate_left
    · intro X hX
      clear hX
      go_simp
      try with_reducible rfl
    try simp only [List.getElem_toArray, List.getElem_cons_zero, List.getElem_cons_succ]
    simp only [Act.put, List.setIfInBounds_toArray, List.set_cons_zero, List.set_cons_succ]
    replace hS := (one_ind (i := 12) (by decide) _ _).2 hS
    refine anyL_take (fun X => X.cell? ⟨g, 0, none⟩ = some (.int .i64 parts) ∧ X.cell? ⟨g, 1, none⟩ = some (.slice A xs.length c) ∧ X.cell? ⟨g', 0, none⟩ = some (.int .i64 parts) ∧ X.cell? ⟨g', 1, none⟩ = some (.slice A' xs'.length c')) [] (i := 13) (v := ?_) rfl (by kernel_rfl) (by kernel_rfl) (by kernel_rfl) (fun _ _ _ h => h) (by kernel_rfl) (one_ind (i := 13) (by decide)) (fun L X h1 h2 => h2.2) (Or.inl ⟨by rfl, ?_⟩) hS ?_
    rotate_left
    · intro X hX
      obtain ⟨g0, g1, g2, g3⟩ := hX
      go_simp
      try with_reducible rfl
    try simp only [List.getElem_toArray, List.getElem_cons_zero, List.getElem_cons_succ]
    simp only [Act.put, List.setIfInBounds_toArray, List.set_cons_zero, List.set_cons_succ]
    replace hS := (one_ind (i := 13) (by decide) _ _).2 hS
    refine anyL_take (fun _ => True) [] (i := 14) (v := ?_) rfl (by kernel_rfl) (by kernel_rfl) (by kernel_rfl) (fun _ _ _ h => h) (by kernel_rfl) (one_ind (i := 14) (by decide)) (fun _ _ _ _ => trivial) (Or.inl ⟨by rfl, ?_⟩) hS ?_
    rotate_left
    · intro X hX
      clear hX
      go_simp
      try with_reducible rfl
    try simp only [List.getElem_toArray, List.getElem_cons_zero, List.getElem_cons_succ]
    simp only [Act.put, List.setIfInBounds_toArray, List.set_cons_zero, List.set_cons_succ]
    replace hS := (one_ind (i := 14) (by decide) _ _).2 hS
    refine anyL_take (fun _ => True) [] (i := 15) (v := ?_) rfl (by kernel_rfl) (by kernel_rfl) (by kernel_rfl) (fun _ _ _ h => h) (by kernel_rfl) (one_ind (i := 15) (by decide)) (fun _ _ _ _ => trivial) (Or.inl ⟨by rfl, ?_⟩) hS ?_
    rotate_left
    · intro X hX
      clear hX
      go_simp
      try with_reducible rfl
    try simp only [List.getElem_toArray, List.getElem_cons_zero, List.getElem_cons_succ]
    simp only [Act.put, List.setIfInBounds_toArray, List.set_cons_zero, List.set_cons_succ]
    replace hS := (one_ind (i := 15) (by decide) _ _).2 hS
    refine anyL_take (fun _ => True) [] (i := 16) (v := ?_) rfl (by kernel_rfl) (by kernel_rfl) (by kernel_rfl) (fun _ _ _ h => h) (by kernel_rfl) (one_ind (i := 16) (by decide)) (fun _ _ _ _ => trivial) (Or.inl ⟨by rfl, ?_⟩) hS ?_
    rotate_left
    · intro X hX
      clear hX
      go_simp
      try with_reducible rfl
    try simp only [List.getElem_toArray, List.getElem_cons_zero, List.getElem_cons_succ]
    simp only [Act.put, List.setIfInBounds_toArray, List.set_cons_zero, List.set_cons_succ]
    replace hS := (one_ind (i := 16) (by decide) _ _).2 hS
    refine anyL_take (fun X => X.cell? ⟨g, 0, none⟩ = some (.int .i64 parts) ∧ X.cell? ⟨g, 1, none⟩ = some (.slice A xs.length c) ∧ X.cell? ⟨g', 0, none⟩ = some (.int .i64 parts) ∧ X.cell? ⟨g', 1, none⟩ = some (.slice A' xs'.length c')) [] (i := 17) (v := ?_) rfl (by kernel_rfl) (by kernel_rfl) (by kernel_rfl) (fun _ _ _ h => h) (by kernel_rfl) (one_ind (i := 17) (by decide)) (fun L X h1 h2 => h2.2) (Or.inl ⟨by rfl, ?_⟩) hS ?_
    rotate_left
    · intro X hX
      obtain ⟨g0, g1, g2, g3⟩ := hX
      go_simp
      try with_reducible rfl
    try simp only [List.getElem_toArray, List.getElem_cons_zero, List.getElem_cons_succ]
    simp only [Act.put, List.setIfInBounds_toArray, List.set_cons_zero, List.set_cons_succ]
    replace hS := (one_ind (i := 17) (by decide) _ _).2 hS
    refine anyL_take (fun _ => True) [] (i := 18) (v := ?_) rfl (by kernel_rfl) (by kernel_rfl) (by kernel_rfl) (fun _ _ _ h => h) (by kernel_rfl) (one_ind (i := 18) (by decide)) (fun _ _ _ _ => trivial) (Or.inl ⟨by rfl, ?_⟩) hS ?_
    rotate_left
    · intro X hX
      clear hX
      go_simp
      try with_reducible rfl
    try simp only [List.getElem_toArray, List.getElem_cons_zero, List.getElem_cons_succ]
    simp only [Act.put, List.setIfInBounds_toArray, List.set_cons_zero, List.set_cons_succ]
    replace hS := (one_ind (i := 18) (by decide) _ _).2 hS
    clear hS
    have bd0 : Below w.heap.size w w.drew := (Below.refl _ _).drew
    refine anyL_step (i := 19) (by kernel_rfl) rfl (by rfl) (fun K hK => ?_)
    go_simp
    refine (EC _ bd0).mono ?_
    rintro e w1 ⟨rfl, b1⟩
    have b2 := below_trans bd0 b1
    dsimp only
    refine hK.out _ _ ⟨fun _ => trivial, cell_below b2 _ _ c0, cell_below b2 _ _ c1, cell_below b2 _ _ d0, cell_below b2 _ _ d1⟩ ?_
    clear hK K
    try simp only [Act.put, List.setIfInBounds_toArray, List.set_cons_zero, List.set_cons_succ]
    have hS : oneQ 99 (fun _ => True) (fun X => X.cell? ⟨g, 0, none⟩ = some (.int .i64 parts) ∧ X.cell? ⟨g, 1, none⟩ = some (.slice A xs.length c) ∧ X.cell? ⟨g', 0, none⟩ = some (.int .i64 parts) ∧ X.cell? ⟨g', 1, none⟩ = some (.slice A' xs'.length c')) (((((((((((((((((((((Array.replicate 22 false).setIfInBounds 0 true).setIfInBounds 1 true).setIfInBounds 2 true).setIfInBounds 3 true).setIfInBounds 4 true).setIfInBounds 5 true).setIfInBounds 6 true).setIfInBounds 7 true).setIfInBounds 8 true).setIfInBounds 9 true).setIfInBounds 10 true).setIfInBounds 11 true).setIfInBounds 12 true).setIfInBounds 13 true).setIfInBounds 14 true).setIfInBounds 15 true).setIfInBounds 16 true).setIfInBounds 17 true).setIfInBounds 18 true).setIfInBounds 19 true) w1 := ⟨fun _ => trivial, cell_below b2 _ _ c0, cell_below b2 _ _ c1, cell_below b2 _ _ d0, cell_below b2 _ _ d1⟩
    refine anyL_take (fun _ => True) [] (i := 20) (v := ?_) rfl (by kernel_rfl) (by kernel_rfl) (by kernel_rfl) (fun _ _ _ h => h) (by kernel_rfl) (one_ind (i := 20) (by decide)) (fun _ _ _ _ => trivial) (Or.inl ⟨by rfl, ?_⟩) hS ?_
    rotate_left
    · intro X hX
      clear hX
      go_simp
      try with_reducible rfl
    try simp only [List.getElem_toArray, List.getElem_cons_zero, List.getElem_cons_succ]
    simp only [Act.put, List.setIfInBounds_toArray, List.set_cons_zero, List.set_cons_succ]
    replace hS := (one_ind (i := 20) (by decide) _ _).2 hS
    clear hS
    refine anyL_step (i := 21) (by kernel_rfl) rfl (by rfl) (fun K hK => ?_)
    go_simp
    refine hK.out _ _ ⟨fun _ => trivial, cell_below b2 _ _ c0, cell_below b2 _ _ c1, cell_below b2 _ _ d0, cell_below b2 _ _ d1⟩ ?_
    clear hK K
    refine anyL_done (by kernel_rfl) ?_ _
    go_wp2_with fail
    go_ret
    exact ⟨ret_bool HD.out, b2⟩
  · have ip : (parts == parts') = false := by simp [hp]
    have HD := Lib.hid (show false = decide (parts = parts' ∧ ents xs = ents xs') by simp [hp])
    clear EC hp
    go_enter Try.func24, Try.ntmps24
    go_wp2_with fail
    go_quiet (fail)
    go_wp2_with fail
    go_ret
    exact ⟨ret_bool HD.out, below_drewN (Below.refl _ _) _⟩
theorem LSame_nils (w : World) : Calls Try.prog 24 #[.pointer none, .pointer none] w fun e w' => e = .returned (.bool true) ∧ w = w' := by
  go_enter Try.func24, Try.ntmps24
  go_wp2_with fail
  go_ret
  exact ⟨rfl, rfl⟩
theorem eql_nil_ptr (g : Nat) (w : World) : (binOp .eql 26 (.pointer none) (.pointer (some ⟨g, 0, none⟩))).run Try.prog w = .ok (.bool false) w := by
  have h : ∀ d, (Op.equalIn (d + 1) 26 (.pointer none) (.pointer (some ⟨g, 0, none⟩))).run Try.prog w = .ok false w := fun d => by
    simp [Op.equalIn, run_underlying Try.underlying26]
  simp only [binOp]
  simp [show Op.equal 26 (.pointer none) (.pointer (some ⟨g, 0, none⟩)) = Op.equalIn (9999 + 1) 26 (.pointer none) (.pointer (some ⟨g, 0, none⟩)) from rfl, h]
theorem LSame_nil1 (g : Nat) (w : World) : Calls Try.prog 24 #[.pointer none, PtrL g] w fun e w' => e = .returned (.bool false) ∧ w = w' := by
  unfold PtrL
  have hq := fun w => eql_nil_ptr g w
  go_enter Try.func24, Try.ntmps24
  go_wp2_with fail
  go_ret
  exact ⟨rfl, rfl⟩
theorem LSame_nil2 (g : Nat) (w : World) : Calls Try.prog 24 #[PtrL g, .pointer none] w fun e w' => e = .returned (.bool false) ∧ w = w' := by
  unfold PtrL
  go_enter Try.func24, Try.ntmps24
  go_wp2_with fail
  go_ret
  exact ⟨rfl, rfl⟩
/-- A function that hands back a list of its own. -/
def RetList (parts : Int) (es : List En) (w : World) (e : Ending) (w' : World) : Prop := ∃ g, e = .returned (PtrL g) ∧ LIST w' (seg w.heap.size w'.heap.size) g parts es ∧ Below w.heap.size w w' ∧ w.heap.size ≤ g
theorem LClone_nil (w : World) : Calls Try.prog 22 #[.pointer none] w fun e w' => e = .returned (.pointer none) ∧ w = w' := by
  go_enter Try.func22, Try.ntmps22
  go_wp2_with fail
  go_ret
  exact ⟨rfl, rfl⟩
set_option maxHeartbeats 1000000 in
theorem LClone_calls (S : Nat → Prop) (g : Nat) (parts : Int) (es : List En) (w : World) (h : LIST w S g parts es) (hl : es.length ≤ 1000000) :
    Calls Try.prog 22 #[PtrL g] w (RetList parts es w) := by
  have hmix : Try.prog.follows .mixedOrders = true := by kernel_rfl
  obtain ⟨xs, A, c, bm, rfl, h⟩ := h
  rw [ents_length] at hl
  have OC := fun W (hW : Below w.heap.size w W) => owned_calls A c xs (fun _ => True) W (h.sl.below hW) hl h.codes
  have MC := fun W (hW : Below w.heap.size w W) => MapsClone_calls bm _ _ _ W (h.2.2.2.1.below hW)
  have q0 := h.1.cell 0
  have q1 := h.1.cell 1
  have q2 := h.1.cell 2
  simp only [List.getElem?_cons_zero, List.getElem?_cons_succ] at q0 q1 q2
  have HG := Lib.hid h.2.2.2.2.2
  clear h
  have b0 := below_box0 w (.cells #[.int .i64 parts, .slice A xs.length c, .map (some bm)] 57)
  have e1 := cell_below b0 _ _ q1
  have e2 := cell_below b0 _ _ q2
  have kb := Blk.new w 57 [.int .i64 parts, .slice A xs.length c, .map (some bm)]
  unfold PtrL
  go_enter Try.func22, Try.ntmps22
  go_wp2_with fail
  have hs0 : (w.alloc (.cells #[.int .i64 parts, .slice A xs.length c, .map (some bm)] 57)).heap.size = w.heap.size + 1 := by simp
  generalize w.alloc (.cells #[.int .i64 parts, .slice A xs.length c, .map (some bm)] 57) = W0 at *
  refine region_L (oneQ 99 (fun _ => True) (fun X => X.cell? ⟨g, 1, none⟩ = some (.slice A xs.length c) ∧ X.cell? ⟨g, 2, none⟩ = some (.map (some bm)))) hmix ?_
  have hS : oneQ 99 (fun _ => True) (fun X => X.cell? ⟨g, 1, none⟩ = some (.slice A xs.length c) ∧ X.cell? ⟨g, 2, none⟩ = some (.map (some bm))) (Array.replicate 14 false) W0.drew := ⟨fun _ => trivial, e1, e2⟩
  have z : Below W0.heap.size W0 W0.drew := (Below.refl _ _).drew
  refine anyL_take (fun _ => True) [] (i := 0) (v := ?_) rfl (by kernel_rfl) (by kernel_rfl) (by kernel_rfl) (fun _ _ _ h => h) (by kernel_rfl) (one_ind (i := 0) (by decide)) (fun _ _ _ _ => trivial) (Or.inl ⟨by rfl, ?_⟩) hS ?_
  rotate_left
  · intro X hX
    clear hX
    go_simp
    try with_reducible rfl
  try simp only [List.getElem_toArray, List.getElem_cons_zero, List.getElem_cons_succ]
  simp only [Act.put, List.setIfInBounds_toArray, List.set_cons_zero, List.set_cons_succ]
  replace hS := (one_ind (i := 0) (by decide) _ _).2 hS
  refine anyL_take (fun _ => True) [] (i := 1) (v := ?_) rfl (by kernel_rfl) (by kernel_rfl) (by kernel_rfl) (fun _ _ _ h => h) (by kernel_rfl) (one_ind (i := 1) (by decide)) (fun _ _ _ _ => trivial) (Or.inl ⟨by rfl, ?_⟩) hS ?_
  rotate_left
  · intro X hX
    clear hX
    go_simp
    try with_reducible rfl
  try simp only [List.getElem_toArray, List.getElem_cons_zero, List.getElem_cons_succ]
  simp only [Act.put, List.setIfInBounds_toArray, List.set_cons_zero, List.set_cons_succ]
  replace hS := (one_ind (i := 1) (by decide) _ _).2 hS
  refine anyL_take (fun _ => True) [] (i := 2) (v := ?_) rfl (by kernel_rfl) (by kernel_rfl) (by kernel_rfl) (fun _ _ _ h => h) (by kernel_rfl) (one_ind (i := 2) (by decide)) (fun _ _ _ _ => trivial) (Or.inl ⟨by rfl, ?_⟩) hS ?_
  rotate_left
  · intro X hX
    clear hX
    go_simp
    try with_reducible rfl
  try simp only [List.getElem_toArray, List.getElem_cons_zero, List.getElem_cons_succ]
  simp only [Act.put, List.setIfInBounds_toArray, List.set_cons_zero, List.set_cons_succ]
  replace hS := (one_ind (i := 2) (by decide) _ _).2 hS
  refine anyL_take (fun X => X.cell? ⟨g, 1, none⟩ = some (.slice A xs.length c) ∧ X.cell? ⟨g, 2, none⟩ = some (.map (some bm))) [] (i := 3) (v := ?_) rfl (by kernel_rfl) (by kernel_rfl) (by kernel_rfl) (fun _ _ _ h => h) (by kernel_rfl) (one_ind (i := 3) (by decide)) (fun L X h1 h2 => h2.2) (Or.inl ⟨by rfl, ?_⟩) hS ?_
  rotate_left
  · intro X hX
    obtain ⟨g0, g1⟩ := hX
    go_simp
    try with_reducible rfl
  try simp only [List.getElem_toArray, List.getElem_cons_zero, List.getElem_cons_succ]
  simp only [Act.put, List.setIfInBounds_toArray, List.set_cons_zero, List.set_cons_succ]
  replace hS := (one_ind (i := 3) (by decide) _ _).2 hS
  refine anyL_take (fun _ => True) [] (i := 5) (v := ?_) rfl (by kernel_rfl) (by kernel_rfl) (by kernel_rfl) (fun _ _ _ h => h) (by kernel_rfl) (one_ind (i := 5) (by decide)) (fun _ _ _ _ => trivial) (Or.inl ⟨by rfl, ?_⟩) hS ?_
  rotate_left
  · intro X hX
    clear hX
    go_simp
    try with_reducible rfl
  try simp only [List.getElem_toArray, List.getElem_cons_zero, List.getElem_cons_succ]
  simp only [Act.put, List.setIfInBounds_toArray, List.set_cons_zero, List.set_cons_succ]
  replace hS := (one_ind (i := 5) (by decide) _ _).2 hS
  refine anyL_take (fun _ => True) [] (i := 6) (v := ?_) rfl (by kernel_rfl) (by kernel_rfl) (by kernel_rfl) (fun _ _ _ h => h) (by kernel_rfl) (one_ind (i := 6) (by decide)) (fun _ _ _ _ => trivial) (Or.inl ⟨by rfl, ?_⟩) hS ?_
  rotate_left
  · intro X hX
    clear hX
    go_simp
    try with_reducible rfl
  try simp only [List.getElem_toArray, List.getElem_cons_zero, List.getElem_cons_succ]
  simp only [Act.put, List.setIfInBounds_toArray, List.set_cons_zero, List.set_cons_succ]
  replace hS := (one_ind (i := 6) (by decide) _ _).2 hS
  refine anyL_take (fun _ => True) [] (i := 7) (v := ?_) rfl (by kernel_rfl) (by kernel_rfl) (by kernel_rfl) (fun _ _ _ h => h) (by kernel_rfl) (one_ind (i := 7) (by decide)) (fun _ _ _ _ => trivial) (Or.inl ⟨by rfl, ?_⟩) hS ?_
  rotate_left
  · intro X hX
    clear hX
    go_simp
    try with_reducible rfl
  try simp only [List.getElem_toArray, List.getElem_cons_zero, List.getElem_cons_succ]
  simp only [Act.put, List.setIfInBounds_toArray, List.set_cons_zero, List.set_cons_succ]
  replace hS := (one_ind (i := 7) (by decide) _ _).2 hS
  refine anyL_take (fun X => X.cell? ⟨g, 1, none⟩ = some (.slice A xs.length c) ∧ X.cell? ⟨g, 2, none⟩ = some (.map (some bm))) [] (i := 8) (v := ?_) rfl (by kernel_rfl) (by kernel_rfl) (by kernel_rfl) (fun _ _ _ h => h) (by kernel_rfl) (one_ind (i := 8) (by decide)) (fun L X h1 h2 => h2.2) (Or.inl ⟨by rfl, ?_⟩) hS ?_
  rotate_left
  · intro X hX
    obtain ⟨g0, g1⟩ := hX
    go_simp
    try with_reducible rfl
  try simp only [List.getElem_toArray, List.getElem_cons_zero, List.getElem_cons_succ]
  simp only [Act.put, List.setIfInBounds_toArray, List.set_cons_zero, List.set_cons_succ]
  replace hS := (one_ind (i := 8) (by decide) _ _).2 hS
  clear hS
  refine anyL_step (i := 4) (by kernel_rfl) rfl (by rfl) (fun K hK => ?_)
  go_simp
  refine (OC _ (below_trans b0 z)).mono ?_
  rintro e w1 ⟨A1, c1', ys, rfl, hy, o1, o2, b1⟩
  have HY := Lib.hid hy
  clear hy
  replace z := below_trans z b1
  rw [ents_length]
  dsimp only
  refine hK.out _ _ ⟨fun _ => trivial, cell_below z _ _ e1, cell_below z _ _ e2⟩ ?_
  clear hK K
  try simp only [Act.put, List.setIfInBounds_toArray, List.set_cons_zero, List.set_cons_succ]
  refine anyL_step (i := 9) (by kernel_rfl) rfl (by rfl) (fun K hK => ?_)
  go_simp
  refine (MC _ (below_trans b0 z)).mono ?_
  rintro e w2 ⟨rfl, m2, b2⟩
  replace o1 := o1.below b2
  replace o2 := o2.below b2
  have lz := z.size
  have l2 := b2.size
  have l0 := b1.size
  have lm := m2.lt
  replace z := below_trans z b2
  replace kb := kb.below z
  dsimp only
  refine hK.out _ _ ⟨fun _ => trivial, cell_below z _ _ e1, cell_below z _ _ e2⟩ ?_
  clear hK K
  try simp only [Act.put, List.setIfInBounds_toArray, List.set_cons_zero, List.set_cons_succ]
  have hS : oneQ 99 (fun _ => True) (fun X => X.cell? ⟨g, 1, none⟩ = some (.slice A xs.length c) ∧ X.cell? ⟨g, 2, none⟩ = some (.map (some bm))) (((((((((((Array.replicate 14 false).setIfInBounds 0 true).setIfInBounds 1 true).setIfInBounds 2 true).setIfInBounds 3 true).setIfInBounds 5 true).setIfInBounds 6 true).setIfInBounds 7 true).setIfInBounds 8 true).setIfInBounds 4 true).setIfInBounds 9 true) w2 := ⟨fun _ => trivial, cell_below z _ _ e1, cell_below z _ _ e2⟩
  refine anyL_take (fun _ => True) [] (i := 10) (v := ?_) rfl (by kernel_rfl) (by kernel_rfl) (by kernel_rfl) (fun _ _ _ h => h) (by kernel_rfl) (one_ind (i := 10) (by decide)) (fun _ _ _ _ => trivial) (Or.inl ⟨by rfl, ?_⟩) hS ?_
  rotate_left
  · intro X hX
    clear hX
    go_simp
    try with_reducible rfl
  try simp only [List.getElem_toArray, List.getElem_cons_zero, List.getElem_cons_succ]
  simp only [Act.put, List.setIfInBounds_toArray, List.set_cons_zero, List.set_cons_succ]
  replace hS := (one_ind (i := 10) (by decide) _ _).2 hS
  clear hS
  have f1 := kb.frozen 1
  have f2 := kb.frozen 2
  have u1 := kb.cell 1
  have u2 := kb.cell 2
  simp only [List.getElem?_cons_zero, List.getElem?_cons_succ] at u1 u2
  refine anyL_step (i := 11) (by kernel_rfl) rfl (by rfl) (fun K hK => ?_)
  go_simp
  have z9 : Below w.heap.size w (w2.setCell ⟨w.heap.size, 1, none⟩ (.slice A1 xs.length c1')) := (below_trans b0 z).setCell (p := ⟨w.heap.size, 1, none⟩) (Nat.le_refl _) _
  refine hK.out _ _ ⟨fun _ => trivial, cell_below z9 _ _ q1, cell_below z9 _ _ q2⟩ ?_
  clear hK K
  try simp only [Act.put, List.setIfInBounds_toArray, List.set_cons_zero, List.set_cons_succ]
  have hS : oneQ 99 (fun _ => True) (fun X => X.cell? ⟨g, 1, none⟩ = some (.slice A xs.length c) ∧ X.cell? ⟨g, 2, none⟩ = some (.map (some bm))) (((((((((((((Array.replicate 14 false).setIfInBounds 0 true).setIfInBounds 1 true).setIfInBounds 2 true).setIfInBounds 3 true).setIfInBounds 5 true).setIfInBounds 6 true).setIfInBounds 7 true).setIfInBounds 8 true).setIfInBounds 4 true).setIfInBounds 9 true).setIfInBounds 10 true).setIfInBounds 11 true) (w2.setCell ⟨w.heap.size, 1, none⟩ (.slice A1 xs.length c1')) := ⟨fun _ => trivial, cell_below z9 _ _ q1, cell_below z9 _ _ q2⟩
  refine anyL_take (fun _ => True) [] (i := 12) (v := ?_) rfl (by kernel_rfl) (by kernel_rfl) (by kernel_rfl) (fun _ _ _ h => h) (by kernel_rfl) (one_ind (i := 12) (by decide)) (fun _ _ _ _ => trivial) (Or.inl ⟨by rfl, ?_⟩) hS ?_
  rotate_left
  · intro X hX
    clear hX
    go_simp
    try with_reducible rfl
  try simp only [List.getElem_toArray, List.getElem_cons_zero, List.getElem_cons_succ]
  simp only [Act.put, List.setIfInBounds_toArray, List.set_cons_zero, List.set_cons_succ]
  replace hS := (one_ind (i := 12) (by decide) _ _).2 hS
  clear hS
  refine anyL_step (i := 13) (by kernel_rfl) rfl (by rfl) (fun K hK => ?_)
  go_simp
  have z10 := z9.setCell (p := ⟨w.heap.size, 2, none⟩) (Nat.le_refl _) (.map (some w1.heap.size))
  refine hK.out _ _ ⟨fun _ => trivial, cell_below z10 _ _ q1, cell_below z10 _ _ q2⟩ ?_
  clear hK K
  refine anyL_done (by kernel_rfl) ?_ _
  have hys : ys.length = xs.length := by rw [← ents_length, HY.out, ents_length]
  have kk := (kb.set 1 (.slice A1 xs.length c1')).set 2 (.map (some w1.heap.size))
  have oA : ∀ (W : World) (i : Nat) (v : Value), OwnX W (w.heap.size + 1) 33 A1 c1' ys (newE (w.heap.size + 1) w1 A1) → OwnX (W.setCell ⟨w.heap.size, i, none⟩ v) (w.heap.size + 1) 33 A1 c1' ys (newE (w.heap.size + 1) w1 A1) := fun W i v o =>
    ⟨own_far o.1 (by omega), o.2.kept (grownBy_cell W w.heap.size i v) fun b hb => by have := hb.1; simp; omega⟩
  have o3 : OwnX w2 (w.heap.size + 1) 33 A1 c1' ys (newE (w.heap.size + 1) w1 A1) := by
    have h1 : W0.drew.heap.size = w.heap.size + 1 := hs0
    rw [h1] at o1
    exact o1
  have o5 := oA _ 2 (.map (some w1.heap.size)) (oA _ 1 (.slice A1 xs.length c1') o3)
  have m3 := (m2.kept (grownBy_cell w2 w.heap.size 1 (.slice A1 xs.length c1')) (by simp; omega)).kept (grownBy_cell _ w.heap.size 2 (.map (some w1.heap.size))) (by simp; omega)
  go_wp2_with fail
  refine bodyPost_ret (v := .pointer (some ⟨w.heap.size, 0, none⟩)) (by simp [results, Try.results22, go_sem]) rfl ?_
  refine ⟨w.heap.size, rfl, ⟨ys, A1, c1', w1.heap.size, HY.out.symm, ?_, own_mono o5.1 (Nat.zero_le _), o5.2.weaken fun b hb => ⟨⟨by have := hb.1; omega, by have := hb.2.1; simp; omega⟩, by have := hb.2.1; simp; omega, by have := hb.1; omega, by have := hb.2.1; omega, ?_⟩, ?_, ⟨⟨Nat.le_refl _, by have := kk.lt; exact this⟩, ⟨by omega, by simp; omega⟩, fun k hk => ?_⟩, by rw [HY.out]; exact HG.out⟩, z10, Nat.le_refl _⟩
  · rw [hys]; exact kk
  · intro hh
    cases A1 with
    | none => cases hh
    | some y => exact hb.2.2 y rfl (by injection hh)
  · rw [HY.out, hys]; exact m3
  · have := o5.1.lt k hk; exact ⟨by omega, this.2⟩
end Go.Proofs.Ytikjmhijkegdgaa
