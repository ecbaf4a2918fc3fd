/- The reference's list in memory: Kill, Compact, Put. -/
import Derived.Test.YtikjmhijkegdgaaRefL2
namespace Go.Proofs.Ytikjmhijkegdgaa
set_option linter.unusedVariables false
set_option linter.unusedSimpArgs false
open Go.RowKit
theorem no_row {w : World} {g base n : Nat} {cs : List Value} {A : Option Addr} {c : Nat} {xs : List Value} (h : Blk w g 67 cs) (h2 : w.ownsRow base 33 4 (.slice A n c) n xs) : some g ≠ (Value.slice A n c).ownBlock := fun hh => by
  rcases h2.2 with ⟨q1, _⟩ | ⟨g', cap, cur, q1, _, q2, _⟩
  · rw [q1] at hh; cases hh
  · rw [q1] at hh
    injection hh with hh
    subst hh
    rw [show w.heap[g]? = _ from h] at q2
    injection q2 with q2
    injection q2 with _ q2 _
    exact absurd q2 (by decide)
set_option maxHeartbeats 1000000 in
theorem RKill_any (S : Nat → Prop) (g : Nat) (parts : Int) (es : List En) (id : Int) (w : World) (h : RLIST w S g parts es) (hl : es.length ≤ 1000000) :
    Calls Try.prog 45 #[PtrL g, .int .i64 id] w fun x w' => x = .returned (.int .i64 (killR es id)) ∧ RLIST w' S g parts (kill1 es id) ∧ Keep S w w' := by
  have HA := RAt_calls S g parts es id w h hl
  unfold atR at HA
  unfold killR kill1 PtrL at *
  cases hp : place es id with
  | none =>
    rw [hp] at HA
    dsimp only at HA ⊢
    go_enter Try.func45, Try.ntmps45
    go_wp2_with fail
    refine HA.mono ?_
    rintro e _ ⟨rfl, rfl⟩
    go_wp2_with fail
    go_ret
    exact ⟨rfl, h, Keep.refl S w⟩
  | some j =>
    rw [hp] at HA
    dsimp only at HA ⊢
    obtain ⟨hjl, _⟩ := place_lt hp
    obtain ⟨xs, A, c, rfl, h⟩ := h
    rw [ents_length] at hjl hl
    obtain ⟨h1, h2, h3, ⟨s1, s3⟩⟩ := h
    have HEK := Lib.hid (ents_kill xs j hjl)
    obtain ⟨gr, rfl, gr0, gr1⟩ := rowE_form h2 (by omega)
    obtain ⟨x3, f3⟩ := rowE_at h2 j 3 hjl (by decide)
    simp only [cells4, List.getElem?_cons_zero, List.getElem?_cons_succ] at x3
    have c1 := h1.cell 1
    simp only [List.getElem?_cons_zero, List.getElem?_cons_succ] at c1
    have hgg : g ≠ gr := fun e => no_row h1 h2 (by rw [e]; rfl)
    have hg1 := grownBy_cell w gr (j * 4 + 3) (.bool true)
    have r1 := (h2.stored (j * 4 + 3) (.bool true)).1
    rw [flat_kill xs j hjl true] at r1
    have b1 := h1.kept hg1 (by simpa using hgg)
    have i1 : (j : Int) < (xs.length : Int) := by omega
    have i2 : ¬ (j : Int) < 0 := by omega
    have hkp : Keep S w (w.setCell ⟨gr, j * 4 + 3, none⟩ (.bool true)) := Keep.of_grown (T := S) hg1 (fun k hk => by injection hk with hk; subst hk; exact s3 _ rfl)
    clear hp
    go_enter Try.func45, Try.ntmps45
    go_wp2_with fail
    refine HA.mono ?_
    rintro e _ ⟨rfl, rfl⟩
    go_wp2_with fail
    go_ret
    have hlen : (xs.set j { xs.getD j default with e := { (xs.getD j default).e with dead := true } }).length = xs.length := List.length_set
    refine ⟨rfl, ⟨_, some ⟨gr, 0, none⟩, c, HEK.out.symm, ?_, ?_, ?_, ⟨s1, fun k hk => s3 k (by rw [hlen] at hk; exact hk)⟩⟩, hkp⟩
    · rw [hlen]; exact b1
    · rw [hlen]; exact r1
    · rw [hlen]
      intro q hq
      have key : ∀ q0 ∈ xs, SlI (w.setCell ⟨gr, j * 4 + 3, none⟩ (.bool true)) .u8 q0.A q0.c q0.e.code ∧ ∀ x, q0.A = some x → S x.block ∧ x.block < (w.setCell ⟨gr, j * 4 + 3, none⟩ (.bool true)).heap.size ∧ x.block ≠ g ∧ some x.block ≠ (Value.slice (some ⟨gr, 0, none⟩) xs.length c).ownBlock := fun q0 hq0 => by
        obtain ⟨c1, c2⟩ := h3 q0 hq0
        refine ⟨c1.kept hg1 fun x hx => (c2 x hx).2.2.2, fun x hx => ?_⟩
        obtain ⟨t1, t2, t3, t5⟩ := c2 x hx
        have := hkp.size
        exact ⟨t1, by omega, t3, t5⟩
      rcases List.mem_or_eq_of_mem_set hq with h | h
      · exact key q h
      · subst h
        exact key (xs.getD j default) (getD_mem' xs j hjl)
set_option maxHeartbeats 1000000 in
theorem RCompact_calls (S : Nat → Prop) (g : Nat) (parts : Int) (es : List En) (w : World) (h : RLIST w S g parts es) (hl : es.length ≤ 1000000) (hcl : ∀ e ∈ es, e.code.length ≤ 1000000) :
    Calls Try.prog 48 #[PtrL g] w fun x w' => x = .returned (.int .i64 ((es.length - (liveE es).length : Nat) : Int)) ∧ RLIST w' (grows S w w') g parts (liveE es) ∧ Keep S w w' := by
  have HD := RDead_calls S g parts es w h hl hcl
  have HL := fun W b => RLive_calls S g parts es W (h.below b) hl hcl
  obtain ⟨xs, A, c, rfl, h⟩ := h
  obtain ⟨h1, _, _, ⟨s1, _⟩⟩ := h
  have g0 := h1.lt
  unfold PtrL at *
  go_enter Try.func48, Try.ntmps48
  go_wp2_with fail
  refine HD.mono ?_
  rintro e w1 ⟨rfl, b1⟩
  go_wp2_with fail
  refine (HL _ b1).mono ?_
  rintro e w2 ⟨A2, c2, ys, rfl, hye, r2, cd2, b2⟩
  have bt := below_trans b1 b2
  replace h1 := h1.below bt
  have f1 := h1.frozen 1
  have hyl : (liveE (ents xs)).length = ys.length := by rw [← hye, ents_length]
  have HY := Lib.hid hye
  have glt := h1.lt
  have l1 := b1.size
  have lt := bt.size
  have e1 := h1.cell 1
  simp only [List.getElem?_cons_zero, List.getElem?_cons_succ] at e1
  rw [hyl]
  go_wp2_with fail
  go_ret
  have hgw : ∀ k, (Value.slice A2 ys.length c2).ownBlock = some k → w1.heap.size ≤ k ∧ k < w2.heap.size := fun k hk => r2.lt k hk
  have hg0 : g < w.heap.size := g0
  have gst := grownBy_cell w2 g 1 (.slice A2 ys.length c2)
  have hsz : (w2.setCell ⟨g, 1, none⟩ (.slice A2 ys.length c2)).heap.size = w2.heap.size := by simp
  have r3 : (w2.setCell ⟨g, 1, none⟩ (.slice A2 ys.length c2)).ownsRow w1.heap.size 33 4 (.slice A2 ys.length c2) ys.length (flat ys) := r2.kept gst (by
    cases hv : (Value.slice A2 ys.length c2).ownBlock with
    | none => exact .inl rfl
    | some q => right; intro hh; injection hh with hh; have := hgw q hv; omega)
  have cd3 := cd2.kept gst (fun b hb hh => by injection hh with hh; omega)
  have hb3 := h1.set 1 (.slice A2 ys.length c2)
  have kp : Keep S w (w2.setCell ⟨g, 1, none⟩ (.slice A2 ys.length c2)) := (Keep.of_below S bt).trans (Keep.of_grown (T := fun k => k = g) gst (fun k hk => by injection hk with hk; exact hk.symm)) (fun n _ hn => hn ▸ s1)
  refine ⟨ret_int' (by rw [hyl]), ⟨ys, A2, c2, HY.out.symm, hb3, own_mono r3 (Nat.zero_le _), cd3.weaken fun b hb => ⟨.inr ⟨by omega, by rw [hsz]; exact hb.2.1⟩, by rw [hsz]; exact hb.2.1, by omega, hb.2.2⟩, ⟨.inl s1, fun k hk => .inr ⟨by have := hgw k hk; omega, by rw [hsz]; exact (hgw k hk).2⟩⟩⟩, kp⟩
set_option maxHeartbeats 1000000 in
theorem RPut_bad (S : Nat → Prop) (g : Nat) (parts : Int) (es : List En) (e : En) (B : Option Addr) (d : Nat) (w : World) (h : RLIST w S g parts es) (hm : e.code.length ≤ 1000000) (hb : ¬ okE parts e) :
    Calls Try.prog 44 #[PtrL g, aggE e B d] w fun x w' => x = .returned (.int .i64 2) ∧ Below w.heap.size w w' := by
  obtain ⟨xs, A, c, rfl, h⟩ := h
  obtain ⟨eid, ecode, erad, edead⟩ := e
  have c0 := h.1.cell 0
  simp only [List.getElem?_cons_zero, List.getElem?_cons_succ] at c0
  have d0 := cell_below (below_box0 w (.cells #[.int .i64 eid, .slice B ecode.length d, .int .i64 erad, .bool edead] 33)) _ _ c0
  have b0 := below_box0 w (.cells #[.int .i64 eid, .slice B ecode.length d, .int .i64 erad, .bool edead] 33)
  clear h c0
  dsimp only at hm
  unfold okE at hb
  dsimp only at hb
  unfold PtrL aggE
  by_cases k1 : eid < 1
  · go_enter Try.func44, Try.ntmps44
    go_wp2_with fail
    go_quiet (fail)
    go_wp2_with fail
    go_ret
    exact ⟨rfl, below_drewN b0 _⟩
  · have k1b : decide (eid < 1) = false := by simpa using k1
    by_cases k2 : (ecode.length : Int) = parts
    · have k2b : ((ecode.length : Int) != parts) = false := by simp [k2]
      have K2 := Lib.hid k2
      clear k2
      by_cases k3 : erad < 0
      · go_enter Try.func44, Try.ntmps44
        go_wp2_with fail
        go_quiet (fail)
        go_wp2_with fail
        go_ret
        exact ⟨rfl, below_drewN b0 _⟩
      · have k3b : decide (erad < 0) = false := by simpa using k3
        by_cases k4 : 8388608 < erad
        · go_enter Try.func44, Try.ntmps44
          go_wp2_with fail
          go_quiet (fail)
          go_wp2_with fail
          go_ret
          exact ⟨rfl, below_drewN b0 _⟩
        · have k4b : decide (8388608 < erad) = false := by simpa using k4
          cases edead with
          | false => exact absurd ⟨by omega, K2.out, by omega, by omega, rfl⟩ hb
          | true =>
            clear hb
            go_enter Try.func44, Try.ntmps44
            go_wp2_with fail
            go_quiet (fail)
            go_wp2_with fail
            go_ret
            exact ⟨rfl, below_drewN b0 _⟩
    · have k2b : ((ecode.length : Int) != parts) = true := by simp [k2]
      clear k2 hb
      go_enter Try.func44, Try.ntmps44
      go_wp2_with fail
      go_quiet (fail)
      go_wp2_with fail
      go_ret
      exact ⟨rfl, below_drewN b0 _⟩
set_option maxHeartbeats 1000000 in
theorem RPut_there (S : Nat → Prop) (g : Nat) (parts : Int) (es : List En) (e : En) (B : Option Addr) (d : Nat) (w : World) (h : RLIST w S g parts es) (hm : e.code.length ≤ 1024) (hb : okE parts e) (hl : es.length ≤ 1000000) (hp : place es e.id ≠ none) :
    Calls Try.prog 44 #[PtrL g, aggE e B d] w fun x w' => x = .returned (.int .i64 8) ∧ Below w.heap.size w w' := by
  obtain ⟨eid, ecode, erad, edead⟩ := e
  obtain ⟨k1, k2, k3, k4, k5⟩ := hb
  dsimp only at k1 k2 k3 k4 k5 hp hm
  subst k5
  have b0 := below_box0 w (.cells #[.int .i64 eid, .slice B ecode.length d, .int .i64 erad, .bool false] 33)
  have HC := fun n => RAt_calls S g parts es eid (((w.alloc (.cells #[.int .i64 eid, .slice B ecode.length d, .int .i64 erad, .bool false] 33))).drewN n) ((h.below b0).below (below_drewN (Below.refl _ _) n)) hl
  unfold atR at HC
  cases hq : place es eid with
  | none => exact absurd hq hp
  | some j =>
    rw [hq] at HC
    dsimp only at HC
    have hj : (0 : Int) ≤ (j : Int) := by omega
    have k1b : decide (eid < 1) = false := by simpa using k1
    have k2b : ((ecode.length : Int) != parts) = false := by simp [k2]
    have k3b : decide (erad < 0) = false := by simpa using k3
    have k4b : decide (8388608 < erad) = false := by simpa using k4
    obtain ⟨xs, A, c, rfl, h⟩ := h
    have c0 := cell_below b0 _ _ (h.1.cell 0)
    have kx := Blk.new w 33 [.int .i64 eid, .slice B ecode.length d, .int .i64 erad, .bool false]
    have x0 := kx.cell 0
    simp only [List.getElem?_cons_zero, List.getElem?_cons_succ] at c0 x0
    clear h hp k1 k2 hq
    unfold PtrL aggE
    unfold PtrL at HC
    go_enter Try.func44, Try.ntmps44
    go_wp2_with fail
    go_quiet (fail)
    go_wp2_with fail
    refine (HC _).mono ?_
    rintro e w' ⟨rfl, rfl⟩
    go_wp2_with fail
    go_ret
    exact ⟨rfl, below_drewN b0 _⟩
set_option maxHeartbeats 4000000 in
theorem RPut_calls (S : Nat → Prop) (g : Nat) (parts : Int) (es : List En) (e : En) (B : Option Addr) (d : Nat) (w : World) (h : RLIST w S g parts es) (hm : e.code.length ≤ 1024) (hb : okE parts e) (hp : place es e.id = none) (hcode : SlI w .u8 B d e.code) (hl : es.length ≤ 1000000) :
    Calls Try.prog 44 #[PtrL g, aggE e B d] w fun x w' => x = .returned (.int .i64 0) ∧ RLIST w' (grows S w w') g parts (es ++ [e]) ∧ Keep S w w' := by
  have hmix : Try.prog.follows .mixedOrders = true := by kernel_rfl
  obtain ⟨eid, ecode, erad, edead⟩ := e
  obtain ⟨k1, k2, k3, k4, k5⟩ := hb
  dsimp only at k1 k2 k3 k4 k5 hp hm hcode
  subst k5
  have b0 := below_box0 w (.cells #[.int .i64 eid, .slice B ecode.length d, .int .i64 erad, .bool false] 33)
  have HC := fun n => RAt_calls S g parts es eid (((w.alloc (.cells #[.int .i64 eid, .slice B ecode.length d, .int .i64 erad, .bool false] 33))).drewN n) ((h.below b0).below (below_drewN (Below.refl _ _) n)) hl
  unfold atR at HC
  rw [hp] at HC
  dsimp only at HC
  have k1b : decide (eid < 1) = false := by simpa using k1
  have k2b : ((ecode.length : Int) != parts) = false := by simp [k2]
  have k3b : decide (erad < 0) = false := by simpa using k3
  have k4b : decide (8388608 < erad) = false := by simpa using k4
  obtain ⟨xs, A, c, rfl, h⟩ := h
  rw [ents_length] at hl
  obtain ⟨h1, h2, h3, ⟨s1, s3⟩⟩ := h
  have glt := h1.lt
  have hb1 := h1.below b0
  have c0 := hb1.cell 0
  have e1 := hb1.cell 1
  have hbx := Blk.new w 33 [.int .i64 eid, .slice B ecode.length d, .int .i64 erad, .bool false]
  have x0 := hbx.cell 0
  simp only [List.getElem?_cons_zero, List.getElem?_cons_succ] at x0 c0 e1
  have r0 := own_below h2 b0
  have hgr : some g ≠ (Value.slice A xs.length c).ownBlock := no_row h1 h2
  have hxr : some w.heap.size ≠ (Value.slice A xs.length c).ownBlock := fun hh => by have := (h2.lt _ hh.symm).2; omega
  have hl9 : xs.length ≤ 1000000000 := by omega
  clear hp k1 k2
  unfold PtrL aggE
  unfold PtrL at HC
  go_enter Try.func44, Try.ntmps44
  go_wp2_with fail
  go_quiet (fail)
  go_wp2_with fail
  refine (HC _).mono ?_
  rintro e w' ⟨rfl, rfl⟩
  go_wp2_with fail
  clear HC
  generalize hW0 : World.drewN (w.alloc (.cells #[.int .i64 eid, .slice B ecode.length d, .int .i64 erad, .bool false] 33)) _ = W1
  have hd : Below (w.alloc (.cells #[.int .i64 eid, .slice B ecode.length d, .int .i64 erad, .bool false] 33)).heap.size (w.alloc (.cells #[.int .i64 eid, .slice B ecode.length d, .int .i64 erad, .bool false] 33)) W1 := by rw [← hW0]; exact below_drewN (Below.refl _ _) _
  have hsz0 : W1.heap.size = w.heap.size + 1 := by rw [← hW0]; simp
  clear hW0
  have hbl1 := hb1.below hd
  have hbx1 := hbx.below hd
  have r1 := own_below r0 hd
  replace b0 := below_trans b0 hd
  clear hd c0 e1 x0 hb1 hbx r0
  have y1 := hbl1.cell 1
  have z0 := hbx1.cell 0
  have z1 := hbx1.cell 1
  have z2 := hbx1.cell 2
  have z3 := hbx1.cell 3
  simp only [List.getElem?_cons_zero, List.getElem?_cons_succ] at y1 z0 z1 z2 z3
  have kp1 : Keep S w W1 := Keep.of_below S b0
  have hcode0 := hcode
  replace hcode : SlI W1 .u8 B d ecode := hcode.below b0
  refine region_L (oneQ 11 (fun X => X.cell? ⟨g, 1, none⟩ = some (.slice A xs.length c)) (fun X => X.cell? ⟨w.heap.size, 0, none⟩ = some (.int .i64 eid) ∧ X.cell? ⟨w.heap.size, 1, none⟩ = some (.slice B ecode.length d) ∧ X.cell? ⟨w.heap.size, 2, none⟩ = some (.int .i64 erad) ∧ X.cell? ⟨w.heap.size, 3, none⟩ = some (.bool false))) hmix ?_
  have hS : oneQ 11 (fun X => X.cell? ⟨g, 1, none⟩ = some (.slice A xs.length c)) (fun X => X.cell? ⟨w.heap.size, 0, none⟩ = some (.int .i64 eid) ∧ X.cell? ⟨w.heap.size, 1, none⟩ = some (.slice B ecode.length d) ∧ X.cell? ⟨w.heap.size, 2, none⟩ = some (.int .i64 erad) ∧ X.cell? ⟨w.heap.size, 3, none⟩ = some (.bool false)) (Array.replicate 12 false) W1.drew := ⟨fun _ => y1, z0, z1, z2, z3⟩
  have z : Below W1.heap.size W1 W1.drew := (Below.refl _ _).drew
  refine anyL_take (fun _ => True) [] (i := 0) (v := ?_) rfl (by kernel_rfl) (by kernel_rfl) (by kernel_rfl) (fun _ _ _ h => h) (by kernel_rfl) (one_ind (i := 0) (by decide)) (fun _ _ _ _ => trivial) (Or.inl ⟨by rfl, ?_⟩) hS ?_
  rotate_left
  · intro X hX
    clear hX
    go_simp
    try with_reducible rfl
  try simp only [List.getElem_toArray, List.getElem_cons_zero, List.getElem_cons_succ]
  simp only [Act.put, List.setIfInBounds_toArray, List.set_cons_zero, List.set_cons_succ]
  replace hS := (one_ind (i := 0) (by decide) _ _).2 hS
  refine anyL_take (fun _ => True) [] (i := 1) (v := ?_) rfl (by kernel_rfl) (by kernel_rfl) (by kernel_rfl) (fun _ _ _ h => h) (by kernel_rfl) (one_ind (i := 1) (by decide)) (fun _ _ _ _ => trivial) (Or.inl ⟨by rfl, ?_⟩) hS ?_
  rotate_left
  · intro X hX
    clear hX
    go_simp
    try with_reducible rfl
  try simp only [List.getElem_toArray, List.getElem_cons_zero, List.getElem_cons_succ]
  simp only [Act.put, List.setIfInBounds_toArray, List.set_cons_zero, List.set_cons_succ]
  replace hS := (one_ind (i := 1) (by decide) _ _).2 hS
  refine anyL_take (fun _ => True) [] (i := 2) (v := ?_) rfl (by kernel_rfl) (by kernel_rfl) (by kernel_rfl) (fun _ _ _ h => h) (by kernel_rfl) (one_ind (i := 2) (by decide)) (fun _ _ _ _ => trivial) (Or.inl ⟨by rfl, ?_⟩) hS ?_
  rotate_left
  · intro X hX
    clear hX
    go_simp
    try with_reducible rfl
  try simp only [List.getElem_toArray, List.getElem_cons_zero, List.getElem_cons_succ]
  simp only [Act.put, List.setIfInBounds_toArray, List.set_cons_zero, List.set_cons_succ]
  replace hS := (one_ind (i := 2) (by decide) _ _).2 hS
  refine anyL_take (fun _ => True) [] (i := 3) (v := ?_) rfl (by kernel_rfl) (by kernel_rfl) (by kernel_rfl) (fun _ _ _ h => h) (by kernel_rfl) (one_ind (i := 3) (by decide)) (fun _ _ _ _ => trivial) (Or.inl ⟨by rfl, ?_⟩) hS ?_
  rotate_left
  · intro X hX
    clear hX
    go_simp
    try with_reducible rfl
  try simp only [List.getElem_toArray, List.getElem_cons_zero, List.getElem_cons_succ]
  simp only [Act.put, List.setIfInBounds_toArray, List.set_cons_zero, List.set_cons_succ]
  replace hS := (one_ind (i := 3) (by decide) _ _).2 hS
  refine anyL_take (fun X => X.cell? ⟨g, 1, none⟩ = some (.slice A xs.length c)) [11] (i := 4) (v := ?_) rfl (by kernel_rfl) (by kernel_rfl) (by kernel_rfl) (fun _ _ _ h => h) (by kernel_rfl) (one_ind (i := 4) (by decide)) (fun L X h1 h2 => h2.1 (h1 11 (by simp))) (Or.inl ⟨by rfl, ?_⟩) hS ?_
  rotate_left
  · intro X hX
    have g0 := hX
    go_simp
    try with_reducible rfl
  try simp only [List.getElem_toArray, List.getElem_cons_zero, List.getElem_cons_succ]
  simp only [Act.put, List.setIfInBounds_toArray, List.set_cons_zero, List.set_cons_succ]
  replace hS := (one_ind (i := 4) (by decide) _ _).2 hS
  refine anyL_take (fun X => X.cell? ⟨w.heap.size, 0, none⟩ = some (.int .i64 eid) ∧ X.cell? ⟨w.heap.size, 1, none⟩ = some (.slice B ecode.length d) ∧ X.cell? ⟨w.heap.size, 2, none⟩ = some (.int .i64 erad) ∧ X.cell? ⟨w.heap.size, 3, none⟩ = some (.bool false)) [] (i := 5) (v := ?_) rfl (by kernel_rfl) (by kernel_rfl) (by kernel_rfl) (fun _ _ _ h => h) (by kernel_rfl) (one_ind (i := 5) (by decide)) (fun L X h1 h2 => h2.2) (Or.inl ⟨by rfl, ?_⟩) hS ?_
  rotate_left
  · intro X hX
    obtain ⟨g0, g1, g2, g3⟩ := hX
    go_simp
    try with_reducible rfl
  try simp only [List.getElem_toArray, List.getElem_cons_zero, List.getElem_cons_succ]
  simp only [Act.put, List.setIfInBounds_toArray, List.set_cons_zero, List.set_cons_succ]
  replace hS := (one_ind (i := 5) (by decide) _ _).2 hS
  clear hS
  refine anyL_step (i := 6) (by kernel_rfl) rfl (by rfl) (fun K hK => ?_)
  go_simp
  refine (ROwn_calls ⟨eid, ecode, erad, false⟩ B d _ (hcode.below z) (by show ecode.length * 1 ≤ _; omega)).mono ?_
  rintro e v2 ⟨B2, d2, rfl, o2, b2⟩
  have lz2 := z.size
  replace z := below_trans z b2
  dsimp only
  refine hK.out _ _ ⟨fun _ => cell_below z _ _ y1, cell_below z _ _ z0, cell_below z _ _ z1, cell_below z _ _ z2, cell_below z _ _ z3⟩ ?_
  clear hK K
  try simp only [Act.put, List.setIfInBounds_toArray, List.set_cons_zero, List.set_cons_succ]
  refine anyL_step (i := 7) (by kernel_rfl) rfl (by rfl) (fun K hK => ?_)
  go_simp
  have bb := below_box0 v2 (.cells #[.int .i64 eid, .slice B2 ecode.length d2, .int .i64 erad, .bool false] 33)
  replace z := below_trans z bb
  refine hK.out _ _ ⟨fun _ => cell_below z _ _ y1, cell_below z _ _ z0, cell_below z _ _ z1, cell_below z _ _ z2, cell_below z _ _ z3⟩ ?_
  clear hK K
  try simp only [Act.put, List.setIfInBounds_toArray, List.set_cons_zero, List.set_cons_succ]
  have rw2 := own_below r1 z
  have hdr : W1.drew.heap.size = W1.heap.size := rfl
  have lb2 := b2.size
  have hva : (v2.alloc (.cells #[.int .i64 eid, .slice B2 ecode.length d2, .int .i64 erad, .bool false] 33)).heap.size = v2.heap.size + 1 := by simp
  have o2b := own_below o2 bb
  have hnews : Rd (v2.alloc (.cells #[.int .i64 eid, .slice B2 ecode.length d2, .int .i64 erad, .bool false] 33)) (some ⟨v2.heap.size, 0, none⟩) (flat [⟨⟨eid, ecode, erad, false⟩, B2, d2⟩]) := .inr ⟨_, rfl, World.news_of_block (cs := #[.int .i64 eid, .slice B2 ecode.length d2, .int .i64 erad, .bool false]) (t := 33) (fr := (0, 0)) (heap_alloc_new v2 _)⟩
  refine anyL_step (i := 8) (by kernel_rfl) rfl (by rfl) (fun K hK => ?_)
  refine wp_app_ents 0 _ _ 30 33 zeroE 48 rfl Try.underlying30 (by kernel_rfl) (by decide) rfl A c xs.length 1 xs [⟨⟨eid, ecode, erad, false⟩, B2, d2⟩] (some ⟨v2.heap.size, 0, none⟩) 1 rfl rfl rfl rfl rw2 hnews (Nat.zero_le _) (by simp; omega) ?_
  intro A3 c3 v3 r3 hg3 hat
  have hzl := z.size
  have hb2 := own_block o2
  have hl3 : (xs ++ [(⟨⟨eid, ecode, erad, false⟩, B2, d2⟩ : HE)]).length = xs.length + 1 := by simp
  rw [hl3]
  rw [hl3] at r3 hat
  have hrow := r1.lt
  have hsz3 := hg3.size
  have far : ∀ (p : Nat), p < W1.heap.size → some p ≠ (Value.slice A xs.length c).ownBlock → ∀ n u, W1.cell? ⟨p, n, none⟩ = some u → v3.cell? ⟨p, n, none⟩ = some u := fun p hp hne n u hu => (hg3.cell_far ⟨p, n, none⟩ (show p < _ by omega) hne).trans (cell_below z ⟨p, n, none⟩ u hu)
  have y1' := far g (by omega) hgr 1 _ y1
  have z0' := far w.heap.size hbx1.lt hxr 0 _ z0
  have z1' := far w.heap.size hbx1.lt hxr 1 _ z1
  have z2' := far w.heap.size hbx1.lt hxr 2 _ z2
  have z3' := far w.heap.size hbx1.lt hxr 3 _ z3
  refine hK.out _ _ ⟨fun _ => y1', z0', z1', z2', z3'⟩ ?_
  clear hK K
  try simp only [Act.put, List.setIfInBounds_toArray, List.set_cons_zero, List.set_cons_succ]
  have hS : oneQ 11 (fun X => X.cell? ⟨g, 1, none⟩ = some (.slice A xs.length c)) (fun X => X.cell? ⟨w.heap.size, 0, none⟩ = some (.int .i64 eid) ∧ X.cell? ⟨w.heap.size, 1, none⟩ = some (.slice B ecode.length d) ∧ X.cell? ⟨w.heap.size, 2, none⟩ = some (.int .i64 erad) ∧ X.cell? ⟨w.heap.size, 3, none⟩ = some (.bool false)) ((((((((((Array.replicate 12 false).setIfInBounds 0 true).setIfInBounds 1 true).setIfInBounds 2 true).setIfInBounds 3 true).setIfInBounds 4 true).setIfInBounds 5 true).setIfInBounds 6 true).setIfInBounds 7 true).setIfInBounds 8 true) v3 := ⟨fun _ => y1', z0', z1', z2', z3'⟩
  refine anyL_take (fun _ => True) [] (i := 9) (v := ?_) rfl (by kernel_rfl) (by kernel_rfl) (by kernel_rfl) (fun _ _ _ h => h) (by kernel_rfl) (one_ind (i := 9) (by decide)) (fun _ _ _ _ => trivial) (Or.inl ⟨by rfl, ?_⟩) hS ?_
  rotate_left
  · intro X hX
    clear hX
    go_simp
    try with_reducible rfl
  try simp only [List.getElem_toArray, List.getElem_cons_zero, List.getElem_cons_succ]
  simp only [Act.put, List.setIfInBounds_toArray, List.set_cons_zero, List.set_cons_succ]
  replace hS := (one_ind (i := 9) (by decide) _ _).2 hS
  refine anyL_take (fun _ => True) [] (i := 10) (v := ?_) rfl (by kernel_rfl) (by kernel_rfl) (by kernel_rfl) (fun _ _ _ h => h) (by kernel_rfl) (one_ind (i := 10) (by decide)) (fun _ _ _ _ => trivial) (Or.inl ⟨by rfl, ?_⟩) hS ?_
  rotate_left
  · intro X hX
    clear hX
    go_simp
    try with_reducible rfl
  try simp only [List.getElem_toArray, List.getElem_cons_zero, List.getElem_cons_succ]
  simp only [Act.put, List.setIfInBounds_toArray, List.set_cons_zero, List.set_cons_succ]
  replace hS := (one_ind (i := 10) (by decide) _ _).2 hS
  clear hS
  have hbl3 : Blk v3 g 67 [.int .i64 parts, .slice A xs.length c] := (hbl1.below z).kept hg3 hgr
  have f1 := hbl3.frozen 1
  refine anyL_step (i := 11) (by kernel_rfl) rfl (by rfl) (fun K hK => ?_)
  go_simp
  have gst := grownBy_cell v3 g 1 (.slice A3 (xs.length + 1) c3)
  have hxg : w.heap.size ≠ g := by omega
  have hx3 : w.heap.size < v3.heap.size := by have := hbx1.lt; omega
  have cc : ∀ n u, v3.cell? ⟨w.heap.size, n, none⟩ = some u → (v3.setCell ⟨g, 1, none⟩ (.slice A3 (xs.length + 1) c3)).cell? ⟨w.heap.size, n, none⟩ = some u := fun n u hu => (gst.cell_far ⟨w.heap.size, n, none⟩ hx3 (by simpa using hxg)).trans hu
  refine hK.out _ _ ⟨fun hh => absurd hh (by decide), cc _ _ z0', cc _ _ z1', cc _ _ z2', cc _ _ z3'⟩ ?_
  clear hK K cc
  refine anyL_done (by kernel_rfl) ?_ _
  have hb2' := own_block o2b
  have r4 := r3.kept gst (by
    cases hv : (Value.slice A3 (xs.length + 1) c3).ownBlock with
    | none => exact .inl rfl
    | some q =>
      right
      intro hh
      injection hh with hh
      subst hh
      rcases hat with ha | ha
      · exact hgr (hv.symm.trans ha)
      · rw [hv] at ha; injection ha with ha; omega)
  have hbl4 := hbl3.set 1 (.slice A3 (xs.length + 1) c3)
  have cds : CodesE (v3.setCell ⟨g, 1, none⟩ (.slice A3 (xs.length + 1) c3)) (fun b => grows S w (v3.setCell ⟨g, 1, none⟩ (.slice A3 (xs.length + 1) c3)) b ∧ b < (v3.setCell ⟨g, 1, none⟩ (.slice A3 (xs.length + 1) c3)).heap.size ∧ b ≠ g ∧ some b ≠ (Value.slice A3 (xs.length + 1) c3).ownBlock) (xs ++ [⟨⟨eid, ecode, erad, false⟩, B2, d2⟩]) := by
    have hsz4 : (v3.setCell ⟨g, 1, none⟩ (.slice A3 (xs.length + 1) c3)).heap.size = v3.heap.size := by simp
    rw [hsz4]
    refine CodesE.append (fun q hq => ?_) (fun q hq => ?_)
    · obtain ⟨c1, c2⟩ := h3 q hq
      have hblk : ∀ x, q.A = some x → (v3.setCell ⟨g, 1, none⟩ (.slice A3 (xs.length + 1) c3)).heap[x.block]? = w.heap[x.block]? := fun x hx => by
        obtain ⟨t1, t2, t3, t4⟩ := c2 x hx
        rw [gst.block _ (by omega) (by simpa using t3), hg3.block _ (by omega) t4, z.block _ (by omega), b0.block _ (by omega)]
      refine ⟨c1.same hblk, fun x hx => ?_⟩
      obtain ⟨t1, t2, t3, t4⟩ := c2 x hx
      refine ⟨.inl t1, by omega, t3, fun hh => ?_⟩
      rcases hat with ha | ha
      · exact t4 (hh.trans ha)
      · rw [← hh] at ha; injection ha with ha; omega
    · rw [List.mem_singleton] at hq
      subst hq
      have hq1 := hb2'
      have ho3 : SlI v3 .u8 B2 d2 ecode := (OwnI.sl o2b).kept hg3 fun x hx hh => by have := hq1 x hx; have := (hrow _ hh.symm).2; omega
      refine ⟨ho3.kept gst fun x hx => by have := hq1 x hx; simp; omega, fun x hx => ?_⟩
      have q1 := hq1 x hx
      have q2 := hb2 x hx
      refine ⟨.inr ⟨by omega, by rw [hsz4]; omega⟩, by omega, by omega, fun hh => ?_⟩
      rcases hat with ha | ha
      · rw [ha] at hh; have := (hrow _ hh.symm).2; omega
      · rw [← hh] at ha; injection ha with ha; omega
  have kp : Keep S w (v3.setCell ⟨g, 1, none⟩ (.slice A3 (xs.length + 1) c3)) := ((kp1.trans (Keep.of_below (fun _ => False) z) (fun n _ hn => hn.elim)).trans (Keep.of_grown (T := S) hg3 s3) (fun n _ hn => hn)).trans (Keep.of_grown (T := fun k => k = g) gst (fun k hk => by injection hk with hk; exact hk.symm)) (fun n _ hn => hn ▸ s1)
  go_wp2_with fail
  go_ret
  refine ⟨rfl, ⟨xs ++ [⟨⟨eid, ecode, erad, false⟩, B2, d2⟩], A3, c3, by simp [ents], ?_, ?_, ?_, ⟨.inl s1, fun k hk => ?_⟩⟩, kp⟩
  · rw [hl3]; exact hbl4
  · rw [hl3]; exact r4
  · rw [hl3]; exact cds
  · rw [hl3] at hk
    have hkl := (r4.lt k hk).2
    rcases hat with ha | ha
    · exact .inl (s3 k (ha.symm.trans hk))
    · rw [ha] at hk; injection hk with hk; exact .inr ⟨by omega, hkl⟩
/-- What the reference's Put leaves. -/
def RetRP (S : Nat → Prop) (g : Nat) (parts : Int) (es : List En) (e : En) (w : World) (x : Ending) (w' : World) : Prop :=
  ∃ S', x = .returned (.int .i64 (putR parts es e)) ∧ RLIST w' S' g parts (putE parts es e) ∧ Keep S w w' ∧ ∀ k, S' k → S k ∨ (w.heap.size ≤ k ∧ k < w'.heap.size)
theorem RPut_any (S : Nat → Prop) (g : Nat) (parts : Int) (es : List En) (e : En) (B : Option Addr) (d : Nat) (w : World) (h : RLIST w S g parts es) (hp : parts ≤ 1024) (hm : e.code.length ≤ 1000000) (hcode : SlI w .u8 B d e.code) (hl : es.length ≤ 1000000) :
    Calls Try.prog 44 #[PtrL g, aggE e B d] w (RetRP S g parts es e w) := by
  by_cases hok : okE parts e
  · have hc : e.code.length ≤ 1024 := by have := hok.2.1; omega
    by_cases hpl : place es e.id = none
    · refine (RPut_calls S g parts es e B d w h hc hok hpl hcode hl).mono ?_
      rintro x w' ⟨rfl, L, kp⟩
      refine ⟨_, ?_, ?_, kp, fun k hk => hk⟩
      · unfold putR; rw [if_pos hok, if_pos hpl]
      · unfold putE; rw [if_pos ⟨hok, hpl⟩]; exact L
    · refine (RPut_there S g parts es e B d w h hc hok hl hpl).mono ?_
      rintro x w' ⟨rfl, b⟩
      refine ⟨S, ?_, ?_, Keep.of_below S b, fun k hk => Or.inl hk⟩
      · unfold putR; rw [if_pos hok, if_neg hpl]
      · unfold putE; rw [if_neg (fun hh => hpl hh.2)]; exact h.below b
  · refine (RPut_bad S g parts es e B d w h hm hok).mono ?_
    rintro x w' ⟨rfl, b⟩
    refine ⟨S, ?_, ?_, Keep.of_below S b, fun k hk => Or.inl hk⟩
    · unfold putR; rw [if_neg hok]
    · unfold putE; rw [if_neg (fun hh => hok hh.1)]; exact h.below b
end Go.Proofs.Ytikjmhijkegdgaa
