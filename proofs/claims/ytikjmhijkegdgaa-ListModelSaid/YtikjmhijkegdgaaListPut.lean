/- A list in memory: Put of an entry that is good. -/
import Derived.Test.YtikjmhijkegdgaaListPut0
import Derived.WalkArith
namespace Go.Proofs.Ytikjmhijkegdgaa
set_option linter.unusedVariables false
set_option linter.unusedSimpArgs false
open Go.RowKit
set_option maxHeartbeats 1000000 in
theorem LPut_there (S : Nat → Prop) (g : Nat) (parts : Int) (es : List En) (e : En) (B : Option Addr) (d : Nat) (w : World) (h : LIST w S g parts es) (hm : e.code.length ≤ 1024) (hb : okE parts e) (hid : (Lit.int .i64 e.id).wf = true) (hp : (place es e.id).isSome = true) :
    Calls Try.prog 13 #[PtrL g, aggE e B d] w fun x w' => x = .returned (.int .i64 8) ∧ Below w.heap.size w w' := by
  obtain ⟨eid, ecode, erad, edead⟩ := e
  obtain ⟨k1, k2, k3, k4, k5⟩ := hb
  dsimp only at k1 k2 k3 k4 k5 hid hp hm
  subst k5
  have b0 := below_box0 w (.cells #[.int .i64 eid, .slice B ecode.length d, .int .i64 erad, .bool false] 33)
  have HC := fun n => Has_calls S g parts es eid (((w.alloc (.cells #[.int .i64 eid, .slice B ecode.length d, .int .i64 erad, .bool false] 33))).drewN n) ((h.below b0).below (below_drewN (Below.refl _ _) n)) hid
  rw [hp] at HC
  have k1b : decide (eid < 1) = false := by simpa using k1
  have k2b : ((ecode.length : Int) != parts) = false := by simp [k2]
  have k3b : decide (erad < 0) = false := by simpa using k3
  have k4b : decide (8388608 < erad) = false := by simpa using k4
  obtain ⟨xs, A, c, bm, rfl, h⟩ := h
  have c0 := cell_below b0 _ _ (h.1.cell 0)
  have kx := Blk.new w 33 [.int .i64 eid, .slice B ecode.length d, .int .i64 erad, .bool false]
  have x0 := kx.cell 0
  simp only [List.getElem?_cons_zero, List.getElem?_cons_succ] at x0
  clear h hp k1 k2
  unfold PtrL aggE
  unfold PtrL at HC
  go_enter Try.func13, Try.ntmps13
  go_wp2_with fail
  go_quiet (fail)
  go_wp2_with fail
  refine (HC _).mono ?_
  rintro e w' ⟨rfl, rfl⟩
  go_wp2_with fail
  go_ret
  exact ⟨rfl, below_drewN b0 _⟩
theorem sl_map {w w' : World} {bm : Nat} {f : Int → Option Int} {N n : Nat} {k : IntKind} {A : Option Addr} {c : Nat} {xs : List Int} (h : MapN w bm f N n) (hs : SlI w k A c xs) (hg : w.grownBy w' (some bm)) : SlI w' k A c xs := by
  refine ⟨?_, hs.le, hs.cap⟩
  rcases hs.rd with h1 | ⟨ad, h1, h2⟩
  · exact .inl h1
  · refine .inr ⟨ad, h1, fun j u hj => ?_⟩
    have hc := h2 j u hj
    refine (hg.cell_far _ (World.block_lt_of_cell? w _ hc) fun e => ?_).trans hc
    injection e with e
    obtain ⟨D, ⟨es, clock, hb, _⟩, _⟩ := h
    unfold World.cell? at hc
    rw [e, hb] at hc
    simp at hc
/-- Behind a call that may write the list's blocks. -/
def RetS (S : Nat → Prop) (w w' : World) : Prop := Keep S w w'
def grows (S : Nat → Prop) (w w' : World) : Nat → Prop := fun k => S k ∨ (w.heap.size ≤ k ∧ k < w'.heap.size)
set_option maxHeartbeats 4000000 in
theorem LPut_calls (S : Nat → Prop) (g : Nat) (parts : Int) (es : List En) (e : En) (B : Option Addr) (d : Nat) (w : World) (h : LIST w S g parts es) (hm : e.code.length ≤ 1024) (hb : okE parts e) (hid : (Lit.int .i64 e.id).wf = true) (hp : place es e.id = none) (hcode : SlI w .u8 B d e.code) (hl : es.length ≤ 1000000) :
    Calls Try.prog 13 #[PtrL g, aggE e B d] w fun x w' => x = .returned (.int .i64 0) ∧ LIST w' (grows S w w') g parts (es ++ [e]) ∧ Keep S w w' := by
  have hmix : Try.prog.follows .mixedOrders = true := by kernel_rfl
  obtain ⟨eid, ecode, erad, edead⟩ := e
  obtain ⟨k1, k2, k3, k4, k5⟩ := hb
  dsimp only at k1 k2 k3 k4 k5 hid hp hm hcode
  subst k5
  have b0 := below_box0 w (.cells #[.int .i64 eid, .slice B ecode.length d, .int .i64 erad, .bool false] 33)
  have HC := fun n => Has_calls S g parts es eid (((w.alloc (.cells #[.int .i64 eid, .slice B ecode.length d, .int .i64 erad, .bool false] 33))).drewN n) ((h.below b0).below (below_drewN (Below.refl _ _) n)) hid
  rw [hp] at HC
  have k1b : decide (eid < 1) = false := by simpa using k1
  have k2b : ((ecode.length : Int) != parts) = false := by simp [k2]
  have k3b : decide (erad < 0) = false := by simpa using k3
  have k4b : decide (8388608 < erad) = false := by simpa using k4
  obtain ⟨xs, A, c, bm, rfl, h⟩ := h
  rw [ents_length] at hl
  obtain ⟨h1, h2, h3, h4, ⟨s1, s2, s3⟩, h5⟩ := h
  have glt := h1.lt
  have hb1 := h1.below b0
  have c0 := hb1.cell 0
  have e1 := hb1.cell 1
  have e2 := hb1.cell 2
  have hbx := Blk.new w 33 [.int .i64 eid, .slice B ecode.length d, .int .i64 erad, .bool false]
  have x0 := hbx.cell 0
  simp only [List.getElem?_cons_zero, List.getElem?_cons_succ] at x0 c0 e1 e2
  have hbg : bm ≠ g := h4.no_row h1
  have m0 := h4.below b0
  have r0 := own_below h2 b0
  have hbml := h4.lt
  have hgr : some g ≠ (Value.slice A xs.length c).ownBlock := fun hh => by
    have hr := h2.2
    rcases hr with ⟨q1, _⟩ | ⟨g', cap, cur, q1, _, q2, _⟩
    · rw [q1] at hh; cases hh
    · rw [q1] at hh
      injection hh with hh
      subst hh
      rw [show w.heap[g]? = _ from h1] at q2
      injection q2 with q2
      injection q2 with _ q2 _
      exact absurd q2 (by decide)
  have hbr : some bm ≠ (Value.slice A xs.length c).ownBlock := fun hh => by
    have hr := h2.2
    rcases hr with ⟨q1, _⟩ | ⟨g', cap, cur, q1, _, q2, _⟩
    · rw [q1] at hh; cases hh
    · rw [q1] at hh
      injection hh with hh
      exact h4.no_row q2 hh
  have hxr : some w.heap.size ≠ (Value.slice A xs.length c).ownBlock := fun hh => by have := (h2.lt _ hh.symm).2; omega
  have HGA := Lib.hid (goodL_app (e := ⟨eid, ecode, erad, false⟩) h5 ⟨hid, hm⟩ rfl hp)
  have HPA := Lib.hid (fPlace_app (e := ⟨eid, ecode, erad, false⟩) (es := ents xs) rfl hp)
  have hfp : fPlace (ents xs) eid = none := by simp [fPlace, hp]
  have hl9 : xs.length ≤ 1000000000 := by omega
  have HFP := Lib.hid hfp
  clear h5 hp k1 k2 hfp
  unfold PtrL aggE
  unfold PtrL at HC
  go_enter Try.func13, Try.ntmps13
  go_wp2_with fail
  go_quiet (fail)
  go_wp2_with fail
  refine (HC _).mono ?_
  rintro e w' ⟨rfl, rfl⟩
  have hfp := HFP.out
  go_wp2_with fail
  clear HC
  generalize hW0 : World.drewN (w.alloc (.cells #[.int .i64 eid, .slice B ecode.length d, .int .i64 erad, .bool false] 33)) _ = W0
  have hd : Below (w.alloc (.cells #[.int .i64 eid, .slice B ecode.length d, .int .i64 erad, .bool false] 33)).heap.size (w.alloc (.cells #[.int .i64 eid, .slice B ecode.length d, .int .i64 erad, .bool false] 33)) W0 := by rw [← hW0]; exact below_drewN (Below.refl _ _) _
  have hsz0 : W0.heap.size = w.heap.size + 1 := by rw [← hW0]; simp
  clear hW0
  replace c0 := cell_below hd _ _ c0
  replace e1 := cell_below hd _ _ e1
  replace e2 := cell_below hd _ _ e2
  replace x0 := cell_below hd _ _ x0
  replace hb1 := hb1.below hd
  replace hbx := hbx.below hd
  replace m0 := m0.below hd
  replace r0 := own_below r0 hd
  replace b0 := below_trans b0 hd
  clear hd
  refine region_L (oneQ 99 (fun _ => True) (fun X => X.cell? ⟨g, 2, none⟩ = some (.map (some bm)) ∧ X.cell? ⟨w.heap.size, 0, none⟩ = some (.int .i64 eid) ∧ X.cell? ⟨g, 1, none⟩ = some (.slice A xs.length c))) hmix ?_
  have hS : oneQ 99 (fun _ => True) (fun X => X.cell? ⟨g, 2, none⟩ = some (.map (some bm)) ∧ X.cell? ⟨w.heap.size, 0, none⟩ = some (.int .i64 eid) ∧ X.cell? ⟨g, 1, none⟩ = some (.slice A xs.length c)) (Array.replicate 12 false) W0.drew := ⟨fun _ => trivial, e2, x0, e1⟩
  refine anyL_take (fun _ => True) [] (i := 0) (v := ?_) rfl (by kernel_rfl) (by kernel_rfl) (by kernel_rfl) (fun _ _ _ h => h) (by kernel_rfl) (one_ind (i := 0) (by decide)) (fun _ _ _ _ => trivial) (Or.inl ⟨by rfl, ?_⟩) hS ?_
  rotate_left
  · intro X hX
    clear hX
    go_simp
    try with_reducible rfl
  try simp only [List.getElem_toArray, List.getElem_cons_zero, List.getElem_cons_succ]
  simp only [Act.put, List.setIfInBounds_toArray, List.set_cons_zero, List.set_cons_succ]
  replace hS := (one_ind (i := 0) (by decide) _ _).2 hS
  refine anyL_take (fun _ => True) [] (i := 1) (v := ?_) rfl (by kernel_rfl) (by kernel_rfl) (by kernel_rfl) (fun _ _ _ h => h) (by kernel_rfl) (one_ind (i := 1) (by decide)) (fun _ _ _ _ => trivial) (Or.inl ⟨by rfl, ?_⟩) hS ?_
  rotate_left
  · intro X hX
    clear hX
    go_simp
    try with_reducible rfl
  try simp only [List.getElem_toArray, List.getElem_cons_zero, List.getElem_cons_succ]
  simp only [Act.put, List.setIfInBounds_toArray, List.set_cons_zero, List.set_cons_succ]
  replace hS := (one_ind (i := 1) (by decide) _ _).2 hS
  refine anyL_take (fun _ => True) [] (i := 2) (v := ?_) rfl (by kernel_rfl) (by kernel_rfl) (by kernel_rfl) (fun _ _ _ h => h) (by kernel_rfl) (one_ind (i := 2) (by decide)) (fun _ _ _ _ => trivial) (Or.inl ⟨by rfl, ?_⟩) hS ?_
  rotate_left
  · intro X hX
    clear hX
    go_simp
    try with_reducible rfl
  try simp only [List.getElem_toArray, List.getElem_cons_zero, List.getElem_cons_succ]
  simp only [Act.put, List.setIfInBounds_toArray, List.set_cons_zero, List.set_cons_succ]
  replace hS := (one_ind (i := 2) (by decide) _ _).2 hS
  refine anyL_take (fun X => X.cell? ⟨g, 2, none⟩ = some (.map (some bm)) ∧ X.cell? ⟨w.heap.size, 0, none⟩ = some (.int .i64 eid) ∧ X.cell? ⟨g, 1, none⟩ = some (.slice A xs.length c)) [] (i := 3) (v := ?_) rfl (by kernel_rfl) (by kernel_rfl) (by kernel_rfl) (fun _ _ _ h => h) (by kernel_rfl) (one_ind (i := 3) (by decide)) (fun L X h1 h2 => h2.2) (Or.inl ⟨by rfl, ?_⟩) hS ?_
  rotate_left
  · intro X hX
    obtain ⟨g0, g1, g2⟩ := hX
    go_simp
    try with_reducible rfl
  try simp only [List.getElem_toArray, List.getElem_cons_zero, List.getElem_cons_succ]
  simp only [Act.put, List.setIfInBounds_toArray, List.set_cons_zero, List.set_cons_succ]
  replace hS := (one_ind (i := 3) (by decide) _ _).2 hS
  refine anyL_take (fun _ => True) [] (i := 4) (v := ?_) rfl (by kernel_rfl) (by kernel_rfl) (by kernel_rfl) (fun _ _ _ h => h) (by kernel_rfl) (one_ind (i := 4) (by decide)) (fun _ _ _ _ => trivial) (Or.inl ⟨by rfl, ?_⟩) hS ?_
  rotate_left
  · intro X hX
    clear hX
    go_simp
    try with_reducible rfl
  try simp only [List.getElem_toArray, List.getElem_cons_zero, List.getElem_cons_succ]
  simp only [Act.put, List.setIfInBounds_toArray, List.set_cons_zero, List.set_cons_succ]
  replace hS := (one_ind (i := 4) (by decide) _ _).2 hS
  refine anyL_take (fun X => X.cell? ⟨g, 2, none⟩ = some (.map (some bm)) ∧ X.cell? ⟨w.heap.size, 0, none⟩ = some (.int .i64 eid) ∧ X.cell? ⟨g, 1, none⟩ = some (.slice A xs.length c)) [] (i := 5) (v := ?_) rfl (by kernel_rfl) (by kernel_rfl) (by kernel_rfl) (fun _ _ _ h => h) (by kernel_rfl) (one_ind (i := 5) (by decide)) (fun L X h1 h2 => h2.2) (Or.inl ⟨by rfl, ?_⟩) hS ?_
  rotate_left
  · intro X hX
    obtain ⟨g0, g1, g2⟩ := hX
    go_simp
    try with_reducible rfl
  try simp only [List.getElem_toArray, List.getElem_cons_zero, List.getElem_cons_succ]
  simp only [Act.put, List.setIfInBounds_toArray, List.set_cons_zero, List.set_cons_succ]
  replace hS := (one_ind (i := 5) (by decide) _ _).2 hS
  refine anyL_take (fun _ => True) [] (i := 6) (v := ?_) rfl (by kernel_rfl) (by kernel_rfl) (by kernel_rfl) (fun _ _ _ h => h) (by kernel_rfl) (one_ind (i := 6) (by decide)) (fun _ _ _ _ => trivial) (Or.inl ⟨by rfl, ?_⟩) hS ?_
  rotate_left
  · intro X hX
    clear hX
    go_simp
    try with_reducible rfl
  try simp only [List.getElem_toArray, List.getElem_cons_zero, List.getElem_cons_succ]
  simp only [Act.put, List.setIfInBounds_toArray, List.set_cons_zero, List.set_cons_succ]
  replace hS := (one_ind (i := 6) (by decide) _ _).2 hS
  refine anyL_take (fun _ => True) [] (i := 7) (v := ?_) rfl (by kernel_rfl) (by kernel_rfl) (by kernel_rfl) (fun _ _ _ h => h) (by kernel_rfl) (one_ind (i := 7) (by decide)) (fun _ _ _ _ => trivial) (Or.inl ⟨by rfl, ?_⟩) hS ?_
  rotate_left
  · intro X hX
    clear hX
    go_simp
    try with_reducible rfl
  try simp only [List.getElem_toArray, List.getElem_cons_zero, List.getElem_cons_succ]
  simp only [Act.put, List.setIfInBounds_toArray, List.set_cons_zero, List.set_cons_succ]
  replace hS := (one_ind (i := 7) (by decide) _ _).2 hS
  refine anyL_take (fun _ => True) [] (i := 8) (v := ?_) rfl (by kernel_rfl) (by kernel_rfl) (by kernel_rfl) (fun _ _ _ h => h) (by kernel_rfl) (one_ind (i := 8) (by decide)) (fun _ _ _ _ => trivial) (Or.inl ⟨by rfl, ?_⟩) hS ?_
  rotate_left
  · intro X hX
    clear hX
    go_simp
    try with_reducible rfl
  try simp only [List.getElem_toArray, List.getElem_cons_zero, List.getElem_cons_succ]
  simp only [Act.put, List.setIfInBounds_toArray, List.set_cons_zero, List.set_cons_succ]
  replace hS := (one_ind (i := 8) (by decide) _ _).2 hS
  refine anyL_take (fun X => X.cell? ⟨g, 2, none⟩ = some (.map (some bm)) ∧ X.cell? ⟨w.heap.size, 0, none⟩ = some (.int .i64 eid) ∧ X.cell? ⟨g, 1, none⟩ = some (.slice A xs.length c)) [] (i := 9) (v := ?_) rfl (by kernel_rfl) (by kernel_rfl) (by kernel_rfl) (fun _ _ _ h => h) (by kernel_rfl) (one_ind (i := 9) (by decide)) (fun L X h1 h2 => h2.2) (Or.inl ⟨by rfl, ?_⟩) hS ?_
  rotate_left
  · intro X hX
    obtain ⟨g0, g1, g2⟩ := hX
    go_simp
    try with_reducible rfl
  try simp only [List.getElem_toArray, List.getElem_cons_zero, List.getElem_cons_succ]
  simp only [Act.put, List.setIfInBounds_toArray, List.set_cons_zero, List.set_cons_succ]
  replace hS := (one_ind (i := 9) (by decide) _ _).2 hS
  refine anyL_take (fun _ => True) [] (i := 10) (v := ?_) rfl (by kernel_rfl) (by kernel_rfl) (by kernel_rfl) (fun _ _ _ h => h) (by kernel_rfl) (one_ind (i := 10) (by decide)) (fun _ _ _ _ => trivial) (Or.inl ⟨by rfl, ?_⟩) hS ?_
  rotate_left
  · intro X hX
    clear hX
    go_simp
    try with_reducible rfl
  try simp only [List.getElem_toArray, List.getElem_cons_zero, List.getElem_cons_succ]
  simp only [Act.put, List.setIfInBounds_toArray, List.set_cons_zero, List.set_cons_succ]
  replace hS := (one_ind (i := 10) (by decide) _ _).2 hS
  clear hS
  obtain ⟨W1, hst, m1, gr1⟩ := MapN.store (w := W0.drew) m0 hl9 eid (xs.length : Int) hid (WalkArith.wf_i64 (by omega)) hfp
  refine anyL_step (i := 11) (by kernel_rfl) rfl (by rfl) (fun K hK => ?_)
  go_simp
  have gr : W0.grownBy W1 (some bm) := ⟨gr1.os, gr1.tape, gr1.output, gr1.size, gr1.block⟩
  have e1' := (gr.cell_far ⟨g, 1, none⟩ hb1.lt (by simpa using Ne.symm hbg)).trans e1
  have e2' := (gr.cell_far ⟨g, 2, none⟩ hb1.lt (by simpa using Ne.symm hbg)).trans e2
  have x0' := (gr.cell_far ⟨w.heap.size, 0, none⟩ hbx.lt (by simp; omega)).trans x0
  refine hK.out _ _ ⟨fun _ => trivial, e2', x0', e1'⟩ ?_
  clear hK K
  refine anyL_done (by kernel_rfl) ?_ _
  clear hst
  have hsz1 : W0.heap.size ≤ W1.heap.size := gr.size
  have r1 := r0.kept gr (by
    cases hv : (Value.slice A xs.length c).ownBlock with
    | none => exact .inl rfl
    | some q => right; intro hh; rw [hh] at hv; exact hbr hv.symm)
  have hbl1 := hb1.kept gr (by simpa using Ne.symm hbg)
  have hbx1 := hbx.kept gr (by simp; omega)
  have y1 := hbl1.cell 1
  have z0 := hbx1.cell 0
  have z1 := hbx1.cell 1
  have z2 := hbx1.cell 2
  have z3 := hbx1.cell 3
  simp only [List.getElem?_cons_zero, List.getElem?_cons_succ] at y1 z0 z1 z2 z3
  have kp1 : Keep S w W1 := (Keep.of_below S b0).trans (Keep.of_grown (T := fun k => k = bm) gr (fun k hk => by injection hk with hk; exact hk.symm)) (fun n _ hn => hn ▸ s2)
  have hcode0 := hcode
  replace hcode : SlI W1 .u8 B d ecode := sl_map m0 (hcode.below b0) gr
  go_wp2_with fail
  refine region_L (oneQ 11 (fun X => X.cell? ⟨g, 1, none⟩ = some (.slice A xs.length c)) (fun X => X.cell? ⟨w.heap.size, 0, none⟩ = some (.int .i64 eid) ∧ X.cell? ⟨w.heap.size, 1, none⟩ = some (.slice B ecode.length d) ∧ X.cell? ⟨w.heap.size, 2, none⟩ = some (.int .i64 erad) ∧ X.cell? ⟨w.heap.size, 3, none⟩ = some (.bool false))) hmix ?_
  have hS : oneQ 11 (fun X => X.cell? ⟨g, 1, none⟩ = some (.slice A xs.length c)) (fun X => X.cell? ⟨w.heap.size, 0, none⟩ = some (.int .i64 eid) ∧ X.cell? ⟨w.heap.size, 1, none⟩ = some (.slice B ecode.length d) ∧ X.cell? ⟨w.heap.size, 2, none⟩ = some (.int .i64 erad) ∧ X.cell? ⟨w.heap.size, 3, none⟩ = some (.bool false)) (Array.replicate 12 false) W1.drew := ⟨fun _ => y1, z0, z1, z2, z3⟩
  have z : Below W1.heap.size W1 W1.drew := (Below.refl _ _).drew
  refine anyL_take (fun _ => True) [] (i := 0) (v := ?_) rfl (by kernel_rfl) (by kernel_rfl) (by kernel_rfl) (fun _ _ _ h => h) (by kernel_rfl) (one_ind (i := 0) (by decide)) (fun _ _ _ _ => trivial) (Or.inl ⟨by rfl, ?_⟩) hS ?_
  rotate_left
  · intro X hX
    clear hX
    go_simp
    try with_reducible rfl
  try simp only [List.getElem_toArray, List.getElem_cons_zero, List.getElem_cons_succ]
  simp only [Act.put, List.setIfInBounds_toArray, List.set_cons_zero, List.set_cons_succ]
  replace hS := (one_ind (i := 0) (by decide) _ _).2 hS
  refine anyL_take (fun _ => True) [] (i := 1) (v := ?_) rfl (by kernel_rfl) (by kernel_rfl) (by kernel_rfl) (fun _ _ _ h => h) (by kernel_rfl) (one_ind (i := 1) (by decide)) (fun _ _ _ _ => trivial) (Or.inl ⟨by rfl, ?_⟩) hS ?_
  rotate_left
  · intro X hX
    clear hX
    go_simp
    try with_reducible rfl
  try simp only [List.getElem_toArray, List.getElem_cons_zero, List.getElem_cons_succ]
  simp only [Act.put, List.setIfInBounds_toArray, List.set_cons_zero, List.set_cons_succ]
  replace hS := (one_ind (i := 1) (by decide) _ _).2 hS
  refine anyL_take (fun _ => True) [] (i := 2) (v := ?_) rfl (by kernel_rfl) (by kernel_rfl) (by kernel_rfl) (fun _ _ _ h => h) (by kernel_rfl) (one_ind (i := 2) (by decide)) (fun _ _ _ _ => trivial) (Or.inl ⟨by rfl, ?_⟩) hS ?_
  rotate_left
  · intro X hX
    clear hX
    go_simp
    try with_reducible rfl
  try simp only [List.getElem_toArray, List.getElem_cons_zero, List.getElem_cons_succ]
  simp only [Act.put, List.setIfInBounds_toArray, List.set_cons_zero, List.set_cons_succ]
  replace hS := (one_ind (i := 2) (by decide) _ _).2 hS
  refine anyL_take (fun _ => True) [] (i := 3) (v := ?_) rfl (by kernel_rfl) (by kernel_rfl) (by kernel_rfl) (fun _ _ _ h => h) (by kernel_rfl) (one_ind (i := 3) (by decide)) (fun _ _ _ _ => trivial) (Or.inl ⟨by rfl, ?_⟩) hS ?_
  rotate_left
  · intro X hX
    clear hX
    go_simp
    try with_reducible rfl
  try simp only [List.getElem_toArray, List.getElem_cons_zero, List.getElem_cons_succ]
  simp only [Act.put, List.setIfInBounds_toArray, List.set_cons_zero, List.set_cons_succ]
  replace hS := (one_ind (i := 3) (by decide) _ _).2 hS
  refine anyL_take (fun X => X.cell? ⟨g, 1, none⟩ = some (.slice A xs.length c)) [11] (i := 4) (v := ?_) rfl (by kernel_rfl) (by kernel_rfl) (by kernel_rfl) (fun _ _ _ h => h) (by kernel_rfl) (one_ind (i := 4) (by decide)) (fun L X h1 h2 => h2.1 (h1 11 (by simp))) (Or.inl ⟨by rfl, ?_⟩) hS ?_
  rotate_left
  · intro X hX
    have g0 := hX
    go_simp
    try with_reducible rfl
  try simp only [List.getElem_toArray, List.getElem_cons_zero, List.getElem_cons_succ]
  simp only [Act.put, List.setIfInBounds_toArray, List.set_cons_zero, List.set_cons_succ]
  replace hS := (one_ind (i := 4) (by decide) _ _).2 hS
  refine anyL_take (fun X => X.cell? ⟨w.heap.size, 0, none⟩ = some (.int .i64 eid) ∧ X.cell? ⟨w.heap.size, 1, none⟩ = some (.slice B ecode.length d) ∧ X.cell? ⟨w.heap.size, 2, none⟩ = some (.int .i64 erad) ∧ X.cell? ⟨w.heap.size, 3, none⟩ = some (.bool false)) [] (i := 5) (v := ?_) rfl (by kernel_rfl) (by kernel_rfl) (by kernel_rfl) (fun _ _ _ h => h) (by kernel_rfl) (one_ind (i := 5) (by decide)) (fun L X h1 h2 => h2.2) (Or.inl ⟨by rfl, ?_⟩) hS ?_
  rotate_left
  · intro X hX
    obtain ⟨g0, g1, g2, g3⟩ := hX
    go_simp
    try with_reducible rfl
  try simp only [List.getElem_toArray, List.getElem_cons_zero, List.getElem_cons_succ]
  simp only [Act.put, List.setIfInBounds_toArray, List.set_cons_zero, List.set_cons_succ]
  replace hS := (one_ind (i := 5) (by decide) _ _).2 hS
  clear hS
  refine anyL_step (i := 6) (by kernel_rfl) rfl (by rfl) (fun K hK => ?_)
  go_simp
  refine (own_calls ⟨eid, ecode, erad, false⟩ B d _ (hcode.below z) (by show ecode.length * 1 ≤ _; omega)).mono ?_
  rintro e v2 ⟨B2, d2, rfl, o2, b2⟩
  have lz2 := z.size
  replace z := below_trans z b2
  dsimp only
  refine hK.out _ _ ⟨fun _ => cell_below z _ _ y1, cell_below z _ _ z0, cell_below z _ _ z1, cell_below z _ _ z2, cell_below z _ _ z3⟩ ?_
  clear hK K
  try simp only [Act.put, List.setIfInBounds_toArray, List.set_cons_zero, List.set_cons_succ]
  refine anyL_step (i := 7) (by kernel_rfl) rfl (by rfl) (fun K hK => ?_)
  go_simp
  have bb := below_box0 v2 (.cells #[.int .i64 eid, .slice B2 ecode.length d2, .int .i64 erad, .bool false] 33)
  replace z := below_trans z bb
  refine hK.out _ _ ⟨fun _ => cell_below z _ _ y1, cell_below z _ _ z0, cell_below z _ _ z1, cell_below z _ _ z2, cell_below z _ _ z3⟩ ?_
  clear hK K
  try simp only [Act.put, List.setIfInBounds_toArray, List.set_cons_zero, List.set_cons_succ]
  have rw2 := own_below r1 z
  have hdr : W1.drew.heap.size = W1.heap.size := rfl
  have lb2 := b2.size
  have hva : (v2.alloc (.cells #[.int .i64 eid, .slice B2 ecode.length d2, .int .i64 erad, .bool false] 33)).heap.size = v2.heap.size + 1 := by simp
  have o2b := own_below o2 bb
  have hnews : Rd (v2.alloc (.cells #[.int .i64 eid, .slice B2 ecode.length d2, .int .i64 erad, .bool false] 33)) (some ⟨v2.heap.size, 0, none⟩) (flat [⟨⟨eid, ecode, erad, false⟩, B2, d2⟩]) := .inr ⟨_, rfl, World.news_of_block (cs := #[.int .i64 eid, .slice B2 ecode.length d2, .int .i64 erad, .bool false]) (t := 33) (fr := (0, 0)) (heap_alloc_new v2 _)⟩
  refine anyL_step (i := 8) (by kernel_rfl) rfl (by rfl) (fun K hK => ?_)
  refine wp_app_ents 0 _ _ 30 33 zeroE 48 rfl Try.underlying30 (by kernel_rfl) (by decide) rfl A c xs.length 1 xs [⟨⟨eid, ecode, erad, false⟩, B2, d2⟩] (some ⟨v2.heap.size, 0, none⟩) 1 rfl rfl rfl rfl rw2 hnews (Nat.zero_le _) (by simp; omega) ?_
  intro A3 c3 v3 r3 hg3 hat
  have hzl := z.size
  have hb2 := own_block o2
  have hl3 : (xs ++ [(⟨⟨eid, ecode, erad, false⟩, B2, d2⟩ : HE)]).length = xs.length + 1 := by simp
  rw [hl3]
  rw [hl3] at r3 hat
  have hrow := r1.lt
  have hsz3 := hg3.size
  have far : ∀ (p : Nat), p < W1.heap.size → some p ≠ (Value.slice A xs.length c).ownBlock → ∀ n u, W1.cell? ⟨p, n, none⟩ = some u → v3.cell? ⟨p, n, none⟩ = some u := fun p hp hne n u hu => (hg3.cell_far ⟨p, n, none⟩ (show p < _ by omega) hne).trans (cell_below z ⟨p, n, none⟩ u hu)
  have y1' := far g (by omega) hgr 1 _ y1
  have z0' := far w.heap.size hbx1.lt hxr 0 _ z0
  have z1' := far w.heap.size hbx1.lt hxr 1 _ z1
  have z2' := far w.heap.size hbx1.lt hxr 2 _ z2
  have z3' := far w.heap.size hbx1.lt hxr 3 _ z3
  refine hK.out _ _ ⟨fun _ => y1', z0', z1', z2', z3'⟩ ?_
  clear hK K
  try simp only [Act.put, List.setIfInBounds_toArray, List.set_cons_zero, List.set_cons_succ]
  have hS : oneQ 11 (fun X => X.cell? ⟨g, 1, none⟩ = some (.slice A xs.length c)) (fun X => X.cell? ⟨w.heap.size, 0, none⟩ = some (.int .i64 eid) ∧ X.cell? ⟨w.heap.size, 1, none⟩ = some (.slice B ecode.length d) ∧ X.cell? ⟨w.heap.size, 2, none⟩ = some (.int .i64 erad) ∧ X.cell? ⟨w.heap.size, 3, none⟩ = some (.bool false)) ((((((((((Array.replicate 12 false).setIfInBounds 0 true).setIfInBounds 1 true).setIfInBounds 2 true).setIfInBounds 3 true).setIfInBounds 4 true).setIfInBounds 5 true).setIfInBounds 6 true).setIfInBounds 7 true).setIfInBounds 8 true) v3 := ⟨fun _ => y1', z0', z1', z2', z3'⟩
  refine anyL_take (fun _ => True) [] (i := 9) (v := ?_) rfl (by kernel_rfl) (by kernel_rfl) (by kernel_rfl) (fun _ _ _ h => h) (by kernel_rfl) (one_ind (i := 9) (by decide)) (fun _ _ _ _ => trivial) (Or.inl ⟨by rfl, ?_⟩) hS ?_
  rotate_left
  · intro X hX
    clear hX
    go_simp
    try with_reducible rfl
  try simp only [List.getElem_toArray, List.getElem_cons_zero, List.getElem_cons_succ]
  simp only [Act.put, List.setIfInBounds_toArray, List.set_cons_zero, List.set_cons_succ]
  replace hS := (one_ind (i := 9) (by decide) _ _).2 hS
  refine anyL_take (fun _ => True) [] (i := 10) (v := ?_) rfl (by kernel_rfl) (by kernel_rfl) (by kernel_rfl) (fun _ _ _ h => h) (by kernel_rfl) (one_ind (i := 10) (by decide)) (fun _ _ _ _ => trivial) (Or.inl ⟨by rfl, ?_⟩) hS ?_
  rotate_left
  · intro X hX
    clear hX
    go_simp
    try with_reducible rfl
  try simp only [List.getElem_toArray, List.getElem_cons_zero, List.getElem_cons_succ]
  simp only [Act.put, List.setIfInBounds_toArray, List.set_cons_zero, List.set_cons_succ]
  replace hS := (one_ind (i := 10) (by decide) _ _).2 hS
  clear hS
  have hbl3 : Blk v3 g 57 [.int .i64 parts, .slice A xs.length c, .map (some bm)] := (hbl1.below z).kept hg3 hgr
  have f1 := hbl3.frozen 1
  refine anyL_step (i := 11) (by kernel_rfl) rfl (by rfl) (fun K hK => ?_)
  go_simp
  have gst := grownBy_cell v3 g 1 (.slice A3 (xs.length + 1) c3)
  have hxg : w.heap.size ≠ g := by omega
  have hx3 : w.heap.size < v3.heap.size := by have := hbx1.lt; omega
  have cc : ∀ n u, v3.cell? ⟨w.heap.size, n, none⟩ = some u → (v3.setCell ⟨g, 1, none⟩ (.slice A3 (xs.length + 1) c3)).cell? ⟨w.heap.size, n, none⟩ = some u := fun n u hu => (gst.cell_far ⟨w.heap.size, n, none⟩ hx3 (by simpa using hxg)).trans hu
  refine hK.out _ _ ⟨fun hh => absurd hh (by decide), cc _ _ z0', cc _ _ z1', cc _ _ z2', cc _ _ z3'⟩ ?_
  clear hK K cc
  refine anyL_done (by kernel_rfl) ?_ _
  have m2 := m1.block (w' := v3.setCell ⟨g, 1, none⟩ (.slice A3 (xs.length + 1) c3)) (by
    rw [gst.block bm (by have := m1.lt; omega) (by simpa using hbg), hg3.block bm (by have := m1.lt; omega) hbr]
    exact z.block bm m1.lt)
  have hb2' := own_block o2b
  have r4 := r3.kept gst (by
    cases hv : (Value.slice A3 (xs.length + 1) c3).ownBlock with
    | none => exact .inl rfl
    | some q =>
      right
      intro hh
      injection hh with hh
      subst hh
      rcases hat with ha | ha
      · exact hgr (hv.symm.trans ha)
      · rw [hv] at ha; injection ha with ha; omega)
  have hbl4 := hbl3.set 1 (.slice A3 (xs.length + 1) c3)
  have cds : CodesE (v3.setCell ⟨g, 1, none⟩ (.slice A3 (xs.length + 1) c3)) (fun b => grows S w (v3.setCell ⟨g, 1, none⟩ (.slice A3 (xs.length + 1) c3)) b ∧ b < (v3.setCell ⟨g, 1, none⟩ (.slice A3 (xs.length + 1) c3)).heap.size ∧ b ≠ g ∧ b ≠ bm ∧ some b ≠ (Value.slice A3 (xs.length + 1) c3).ownBlock) (xs ++ [⟨⟨eid, ecode, erad, false⟩, B2, d2⟩]) := by
    have hsz4 : (v3.setCell ⟨g, 1, none⟩ (.slice A3 (xs.length + 1) c3)).heap.size = v3.heap.size := by simp
    rw [hsz4]
    refine CodesE.append (fun q hq => ?_) (fun q hq => ?_)
    · obtain ⟨c1, c2⟩ := h3 q hq
      have hblk : ∀ x, q.A = some x → (v3.setCell ⟨g, 1, none⟩ (.slice A3 (xs.length + 1) c3)).heap[x.block]? = w.heap[x.block]? := fun x hx => by
        obtain ⟨t1, t2, t3, tm, t4⟩ := c2 x hx
        rw [gst.block _ (by omega) (by simpa using t3), hg3.block _ (by omega) t4, z.block _ (by omega), gr.block _ (by omega) (by simpa using tm), b0.block _ (by omega)]
      refine ⟨c1.same hblk, fun x hx => ?_⟩
      obtain ⟨t1, t2, t3, tm, t4⟩ := c2 x hx
      refine ⟨.inl t1, by omega, t3, tm, fun hh => ?_⟩
      rcases hat with ha | ha
      · exact t4 (hh.trans ha)
      · rw [← hh] at ha; injection ha with ha; omega
    · rw [List.mem_singleton] at hq
      subst hq
      have hq1 := hb2'
      have ho3 : SlI v3 .u8 B2 d2 ecode := (OwnI.sl o2b).kept hg3 fun x hx hh => by have := hq1 x hx; have := (hrow _ hh.symm).2; omega
      refine ⟨ho3.kept gst fun x hx => by have := hq1 x hx; simp; omega, fun x hx => ?_⟩
      have q1 := hq1 x hx
      have q2 := hb2 x hx
      refine ⟨.inr ⟨by omega, by rw [hsz4]; omega⟩, by omega, by omega, by omega, fun hh => ?_⟩
      rcases hat with ha | ha
      · rw [ha] at hh; have := (hrow _ hh.symm).2; omega
      · rw [← hh] at ha; injection ha with ha; omega
  have kp : Keep S w (v3.setCell ⟨g, 1, none⟩ (.slice A3 (xs.length + 1) c3)) := ((kp1.trans (Keep.of_below (fun _ => False) z) (fun n _ hn => hn.elim)).trans (Keep.of_grown (T := S) hg3 s3) (fun n _ hn => hn)).trans (Keep.of_grown (T := fun k => k = g) gst (fun k hk => by injection hk with hk; exact hk.symm)) (fun n _ hn => hn ▸ s1)
  go_wp2_with fail
  go_ret
  refine ⟨rfl, ⟨xs ++ [⟨⟨eid, ecode, erad, false⟩, B2, d2⟩], A3, c3, bm, by simp [ents], ?_, ?_, ?_, ?_, ⟨.inl s1, .inl s2, fun k hk => ?_⟩, ?_⟩, kp⟩
  · rw [hl3]; exact hbl4
  · rw [hl3]; exact r4
  · rw [hl3]; exact cds
  · rw [hl3, show ents (xs ++ [(⟨⟨eid, ecode, erad, false⟩, B2, d2⟩ : HE)]) = ents xs ++ [⟨eid, ecode, erad, false⟩] from by simp [ents]]
    refine m2.congr (fun id _ => ?_) ?_
    · rw [HPA.out]
      unfold upF
      rw [ents_length]
    · rw [liveE_append, liveE_one rfl]
      simp
  · rw [hl3] at hk
    have hkl := (r4.lt k hk).2
    rcases hat with ha | ha
    · exact .inl (s3 k (ha.symm.trans hk))
    · rw [ha] at hk; injection hk with hk; exact .inr ⟨by omega, hkl⟩
  · have : ents (xs ++ [(⟨⟨eid, ecode, erad, false⟩, B2, d2⟩ : HE)]) = ents xs ++ [⟨eid, ecode, erad, false⟩] := by simp [ents]
    rw [this]; exact HGA.out
end Go.Proofs.Ytikjmhijkegdgaa
