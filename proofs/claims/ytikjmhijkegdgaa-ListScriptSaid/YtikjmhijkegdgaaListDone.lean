/- A call done on both lists. -/
import Derived.Test.YtikjmhijkegdgaaRefL3
namespace Go.Proofs.Ytikjmhijkegdgaa
set_option linter.unusedVariables false
set_option linter.unusedSimpArgs false
open Go.RowKit
/-- The program's list and the reference's, apart, both from B on. -/
structure Two (w : World) (B : Nat) (S S' : Nat → Prop) (g g' : Nat) (parts : Int) (es es2 : List En) : Prop where
  l : LIST w S g parts es
  r : RLIST w S' g' parts es2
  offl : ∀ k, S k → B ≤ k ∧ k < w.heap.size
  offr : ∀ k, S' k → (B ≤ k ∧ k < w.heap.size) ∧ ¬ S k
theorem Two.below {w w' : World} {B : Nat} {S S' : Nat → Prop} {g g' : Nat} {parts : Int} {es es2 : List En} (h : Two w B S S' g g' parts es es2) (hb : Below w.heap.size w w') : Two w' B S S' g g' parts es es2 :=
  ⟨h.l.below hb, h.r.below hb, fun k hk => by have := h.offl k hk; have := hb.size; omega, fun k hk => by have hr := h.offr k hk; have := hb.size; exact ⟨by omega, hr.2⟩⟩
theorem Two.geL {w : World} {B : Nat} {S S' : Nat → Prop} {g g' : Nat} {parts : Int} {es es2 : List En} (h : Two w B S S' g g' parts es es2) : ∀ k, S k → B ≤ k := fun k hk => (h.offl k hk).1
theorem Two.geR {w : World} {B : Nat} {S S' : Nat → Prop} {g g' : Nat} {parts : Int} {es es2 : List En} (h : Two w B S S' g g' parts es es2) : ∀ k, S' k → B ≤ k := fun k hk => (h.offr k hk).1.1
theorem Two.left {w w' : World} {B : Nat} {S S' S1 : Nat → Prop} {g g' : Nat} {parts : Int} {es es1 es2 : List En} (h : Two w B S S' g g' parts es es2) (hB : B ≤ w.heap.size) (L : LIST w' S1 g parts es1) (kp : Keep S w w') (h1 : ∀ k, S1 k → S k ∨ (w.heap.size ≤ k ∧ k < w'.heap.size)) : Two w' B S1 S' g g' parts es1 es2 :=
  ⟨L, h.r.keep kp (fun k _ hk => (h.offr k hk).2), fun k hk => by
    have := kp.size
    rcases h1 k hk with h2 | h2
    · have := h.offl k h2; omega
    · omega, fun k hk => by
    have := kp.size
    have hr := h.offr k hk
    refine ⟨by omega, fun hs => ?_⟩
    rcases h1 k hs with h2 | h2
    · exact hr.2 h2
    · omega⟩
theorem Two.right {w w' : World} {B : Nat} {S S' S1 : Nat → Prop} {g g' : Nat} {parts : Int} {es es1 es2 : List En} (h : Two w B S S' g g' parts es es2) (hB : B ≤ w.heap.size) (L : RLIST w' S1 g' parts es1) (kp : Keep S' w w') (h1 : ∀ k, S1 k → S' k ∨ (w.heap.size ≤ k ∧ k < w'.heap.size)) : Two w' B S S1 g g' parts es es1 :=
  ⟨h.l.keep kp (fun k _ hk hs => (h.offr k hs).2 hk), L, fun k hk => by have := kp.size; have := h.offl k hk; omega, fun k hk => by
    have := kp.size
    rcases h1 k hk with h2 | h2
    · have hr := h.offr k h2
      exact ⟨by omega, hr.2⟩
    · exact ⟨by omega, fun hs => by have := h.offl k hs; omega⟩⟩
/-- What a call leaves. -/
def RetD (B g g' : Nat) (parts : Int) (es : List En) (w : World) (e : Ending) (w' : World) : Prop := e = .returned (.bool true) ∧ Below B w w' ∧ ∃ es' S1 S2, Two w' B S1 S2 g g' parts es' es' ∧ es'.length ≤ es.length + 1
set_option maxHeartbeats 8000000 in
set_option maxRecDepth 100000 in
theorem done_calls (B : Nat) (S S' : Nat → Prop) (g g' : Nat) (parts : Int) (es : List En) (a : Ac) (w : World) (H : Two w B S S' g g' parts es es) (hB : B ≤ w.heap.size) (hp : parts ≤ 1024) (hl : es.length ≤ 10000) (hm : a.q.e.code.length ≤ 2000) (hid : (Lit.int .i64 a.q.e.id).wf = true) (hc : ∀ W, Below B w W → SlI W .u8 a.q.A a.q.c a.q.e.code) :
    Calls Try.prog 27 #[PtrL g, PtrL g', .agg #[.int .i64 a.kind, .int .i64 a.q.e.id, .slice a.q.A a.q.e.code.length a.q.c, .int .i64 a.q.e.rad, .bool a.q.e.dead]] w (RetD B g g' parts es w) := by
  have hmix : Try.prog.follows .mixedOrders = true := by kernel_rfl
  obtain ⟨kind, ⟨⟨eid, ecode, erad, edead⟩, A, c⟩⟩ := a
  dsimp only at hm hid hc ⊢
  have hcl : ∀ e ∈ es, e.code.length ≤ 1000000 := fun e he => by have := (H.l.good.1 e he).2; omega
  have hs : ∀ k, S k → k < w.heap.size := fun k hk => (H.offl k hk).2
  have hs2 : ∀ k, S' k → k < w.heap.size := fun k hk => (H.offr k hk).1.2
  have ka := Blk.new w 36 [.int .i64 kind, .int .i64 eid, .slice A ecode.length c, .int .i64 erad, .bool edead]
  have b0 := below_box0 w (.cells #[.int .i64 kind, .int .i64 eid, .slice A ecode.length c, .int .i64 erad, .bool edead] 36)
  replace H := H.below b0
  have bt := b0.mono hB
  unfold PtrL
  go_enter Try.func27, Try.ntmps27
  have g0 := ka.cell 0
  simp only [List.getElem?_cons_zero, List.getElem?_cons_succ] at g0
  go_wp2_with fail
  refine (Pick_calls kind 5 _ (by decide) (by decide)).mono ?_
  rintro e _ ⟨rfl, rfl⟩
  have r0 := Int.emod_nonneg kind (show (5 : Int) ≠ 0 by decide)
  have r1 := Int.emod_lt_of_pos kind (show (0 : Int) < 5 by decide)
  generalize kind % 5 = r at *
  have hr : r = 0 ∨ r = 1 ∨ r = 2 ∨ r = 3 ∨ r = 4 := by omega
  have hzw : (w.alloc (.cells #[.int .i64 kind, .int .i64 eid, .slice A ecode.length c, .int .i64 erad, .bool edead] 36)).heap.size = w.heap.size + 1 := by simp
  generalize w.alloc (.cells #[.int .i64 kind, .int .i64 eid, .slice A ecode.length c, .int .i64 erad, .bool edead] 36) = W at *
  have hz : B ≤ W.heap.size := by omega
  clear r0 r1 b0
  rcases hr with rfl | rfl | rfl | rfl | rfl
  · clear g0
    go_wp2_with fail
    refine region_L (oneQ 99 (fun _ => True) (fun X => Blk X w.heap.size 36 [.int .i64 kind, .int .i64 eid, .slice A ecode.length c, .int .i64 erad, .bool edead])) hmix ?_
    have hS : oneQ 99 (fun _ => True) (fun X => Blk X w.heap.size 36 [.int .i64 kind, .int .i64 eid, .slice A ecode.length c, .int .i64 erad, .bool edead]) (Array.replicate 11 false) W.drew := ⟨fun _ => trivial, ka⟩
    have bd : Below W.heap.size W W.drew := (Below.refl _ _).drew
    replace ka := ka.below bd
    replace H := H.below bd
    replace bt := below_then bt hz bd
    clear bd
    have hzd : W.drew.heap.size = W.heap.size := rfl
    refine anyL_take (fun _ => True) [] (i := 0) (v := ?_) rfl (by kernel_rfl) (by kernel_rfl) (by kernel_rfl) (fun _ _ _ h => h) (by kernel_rfl) (one_ind (i := 0) (by decide)) (fun _ _ _ _ => trivial) (Or.inl ⟨by rfl, ?_⟩) hS ?_
    rotate_left
    · intro X hX
      clear hX
      go_simp
      try with_reducible rfl
    try simp only [List.getElem_toArray, List.getElem_cons_zero, List.getElem_cons_succ]
    simp only [Act.put, List.setIfInBounds_toArray, List.set_cons_zero, List.set_cons_succ]
    replace hS := (one_ind (i := 0) (by decide) _ _).2 hS
    refine anyL_take (fun _ => True) [] (i := 1) (v := ?_) rfl (by kernel_rfl) (by kernel_rfl) (by kernel_rfl) (fun _ _ _ h => h) (by kernel_rfl) (one_ind (i := 1) (by decide)) (fun _ _ _ _ => trivial) (Or.inl ⟨by rfl, ?_⟩) hS ?_
    rotate_left
    · intro X hX
      clear hX
      go_simp
      try with_reducible rfl
    try simp only [List.getElem_toArray, List.getElem_cons_zero, List.getElem_cons_succ]
    simp only [Act.put, List.setIfInBounds_toArray, List.set_cons_zero, List.set_cons_succ]
    replace hS := (one_ind (i := 1) (by decide) _ _).2 hS
    refine anyL_take (fun X => Blk X w.heap.size 36 [.int .i64 kind, .int .i64 eid, .slice A ecode.length c, .int .i64 erad, .bool edead]) [] (i := 2) (v := ?_) rfl (by kernel_rfl) (by kernel_rfl) (by kernel_rfl) (fun _ _ _ h => h) (by kernel_rfl) (one_ind (i := 2) (by decide)) (fun L X h1 h2 => h2.2) (Or.inl ⟨by rfl, ?_⟩) hS ?_
    rotate_left
    · intro X hX
      have g0 := hX.cell 0; have g1 := hX.cell 1; have g2 := hX.cell 2; have g3 := hX.cell 3; have g4 := hX.cell 4; simp only [List.getElem?_cons_zero, List.getElem?_cons_succ] at g0 g1 g2 g3 g4; clear hX
      go_simp
      try with_reducible rfl
    try simp only [List.getElem_toArray, List.getElem_cons_zero, List.getElem_cons_succ]
    simp only [Act.put, List.setIfInBounds_toArray, List.set_cons_zero, List.set_cons_succ]
    replace hS := (one_ind (i := 2) (by decide) _ _).2 hS
    refine anyL_take (fun _ => True) [] (i := 5) (v := ?_) rfl (by kernel_rfl) (by kernel_rfl) (by kernel_rfl) (fun _ _ _ h => h) (by kernel_rfl) (one_ind (i := 5) (by decide)) (fun _ _ _ _ => trivial) (Or.inl ⟨by rfl, ?_⟩) hS ?_
    rotate_left
    · intro X hX
      clear hX
      go_simp
      try with_reducible rfl
    try simp only [List.getElem_toArray, List.getElem_cons_zero, List.getElem_cons_succ]
    simp only [Act.put, List.setIfInBounds_toArray, List.set_cons_zero, List.set_cons_succ]
    replace hS := (one_ind (i := 5) (by decide) _ _).2 hS
    refine anyL_take (fun _ => True) [] (i := 6) (v := ?_) rfl (by kernel_rfl) (by kernel_rfl) (by kernel_rfl) (fun _ _ _ h => h) (by kernel_rfl) (one_ind (i := 6) (by decide)) (fun _ _ _ _ => trivial) (Or.inl ⟨by rfl, ?_⟩) hS ?_
    rotate_left
    · intro X hX
      clear hX
      go_simp
      try with_reducible rfl
    try simp only [List.getElem_toArray, List.getElem_cons_zero, List.getElem_cons_succ]
    simp only [Act.put, List.setIfInBounds_toArray, List.set_cons_zero, List.set_cons_succ]
    replace hS := (one_ind (i := 6) (by decide) _ _).2 hS
    refine anyL_take (fun X => Blk X w.heap.size 36 [.int .i64 kind, .int .i64 eid, .slice A ecode.length c, .int .i64 erad, .bool edead]) [] (i := 7) (v := ?_) rfl (by kernel_rfl) (by kernel_rfl) (by kernel_rfl) (fun _ _ _ h => h) (by kernel_rfl) (one_ind (i := 7) (by decide)) (fun L X h1 h2 => h2.2) (Or.inl ⟨by rfl, ?_⟩) hS ?_
    rotate_left
    · intro X hX
      have g0 := hX.cell 0; have g1 := hX.cell 1; have g2 := hX.cell 2; have g3 := hX.cell 3; have g4 := hX.cell 4; simp only [List.getElem?_cons_zero, List.getElem?_cons_succ] at g0 g1 g2 g3 g4; clear hX
      go_simp
      try with_reducible rfl
    try simp only [List.getElem_toArray, List.getElem_cons_zero, List.getElem_cons_succ]
    simp only [Act.put, List.setIfInBounds_toArray, List.set_cons_zero, List.set_cons_succ]
    replace hS := (one_ind (i := 7) (by decide) _ _).2 hS
    clear hS
    refine anyL_step (i := 3) (by kernel_rfl) rfl (by rfl) (fun K hK => ?_)
    go_simp
    refine (OwnEntry_calls ⟨eid, ecode, erad, edead⟩ A c _ (hc _ bt) (by show ecode.length * 1 ≤ _; omega)).mono ?_
    rintro e u1 ⟨A2, c2, rfl, o2, b1⟩
    replace ka := ka.below b1
    replace H := H.below b1
    have z1 := b1.size
    replace bt := below_then bt (by omega) b1
    unfold aggE
    dsimp only
    refine hK.out _ _ ⟨fun _ => trivial, ka⟩ ?_
    clear hK K
    try simp only [Act.put, List.setIfInBounds_toArray, List.set_cons_zero, List.set_cons_succ]
    refine anyL_step (i := 4) (by kernel_rfl) rfl (by rfl) (fun K hK => ?_)
    go_simp
    refine (LPut_any S g parts es ⟨eid, ecode, erad, edead⟩ A2 c2 _ H.l hp (by show ecode.length ≤ _; omega) hid (OwnI.sl o2) (by omega)).mono ?_
    rintro e u2 ⟨S1, rfl, L1, kp, hS1⟩
    replace ka := ka.keep kp (fun hh => by have := hs _ hh; omega)
    have z2 := kp.size
    have H2 := H.left (by omega) L1 kp hS1
    replace bt := below_keep bt kp (by omega) H.geL
    clear H L1 kp hS1
    dsimp only
    refine hK.out _ _ ⟨fun _ => trivial, ka⟩ ?_
    clear hK K
    try simp only [Act.put, List.setIfInBounds_toArray, List.set_cons_zero, List.set_cons_succ]
    refine anyL_step (i := 8) (by kernel_rfl) rfl (by rfl) (fun K hK => ?_)
    go_simp
    refine (RPut_any S' g' parts es ⟨eid, ecode, erad, edead⟩ A c _ H2.r hp (by show ecode.length ≤ _; omega) (hc _ bt) (by omega)).mono ?_
    rintro e u3 ⟨S2, rfl, L2, kp, hS2⟩
    replace ka := ka.keep kp (fun hh => by have := hs2 _ hh; omega)
    have z3 := kp.size
    have H3 := H2.right (by omega) L2 kp hS2
    replace bt := below_keep bt kp (by omega) H2.geR
    clear H2 L2 kp hS2
    have nl := putE_length parts es ⟨eid, ecode, erad, edead⟩
    generalize putE parts es ⟨eid, ecode, erad, edead⟩ = es' at *
    generalize putR parts es ⟨eid, ecode, erad, edead⟩ = pr at *
    dsimp only
    refine hK.out _ _ ⟨fun _ => trivial, ka⟩ ?_
    clear hK K
    try simp only [Act.put, List.setIfInBounds_toArray, List.set_cons_zero, List.set_cons_succ]
    have hS : oneQ 99 (fun _ => True) (fun X => Blk X w.heap.size 36 [.int .i64 kind, .int .i64 eid, .slice A ecode.length c, .int .i64 erad, .bool edead]) ((((((((((Array.replicate 11 false).setIfInBounds 0 true).setIfInBounds 1 true).setIfInBounds 2 true).setIfInBounds 5 true).setIfInBounds 6 true).setIfInBounds 7 true).setIfInBounds 3 true).setIfInBounds 4 true).setIfInBounds 8 true) u3 := ⟨fun _ => trivial, ka⟩
    refine anyL_take (fun _ => True) [] (i := 9) (v := ?_) rfl (by kernel_rfl) (by kernel_rfl) (by kernel_rfl) (fun _ _ _ h => h) (by kernel_rfl) (one_ind (i := 9) (by decide)) (fun _ _ _ _ => trivial) (Or.inl ⟨by rfl, ?_⟩) hS ?_
    rotate_left
    · intro X hX
      clear hX
      go_simp
      try with_reducible rfl
    try simp only [List.getElem_toArray, List.getElem_cons_zero, List.getElem_cons_succ]
    simp only [Act.put, List.setIfInBounds_toArray, List.set_cons_zero, List.set_cons_succ]
    replace hS := (one_ind (i := 9) (by decide) _ _).2 hS
    clear hS
    refine anyL_step (i := 10) (by kernel_rfl) rfl (by rfl) (fun K hK => ?_)
    go_simp
    refine hK.out _ _ ⟨fun _ => trivial, ka⟩ ?_
    clear hK K
    try simp only [Act.put, List.setIfInBounds_toArray, List.set_cons_zero, List.set_cons_succ]
    refine anyL_done (by kernel_rfl) ?_ _
    go_wp2_with fail
    go_ret
    exact ⟨rfl, bt, es', S1, S2, H3, nl⟩
  · clear g0
    go_wp2_with fail
    refine region_L (oneQ 99 (fun _ => True) (fun X => Blk X w.heap.size 36 [.int .i64 kind, .int .i64 eid, .slice A ecode.length c, .int .i64 erad, .bool edead])) hmix ?_
    have hS : oneQ 99 (fun _ => True) (fun X => Blk X w.heap.size 36 [.int .i64 kind, .int .i64 eid, .slice A ecode.length c, .int .i64 erad, .bool edead]) (Array.replicate 11 false) W.drew := ⟨fun _ => trivial, ka⟩
    have bd : Below W.heap.size W W.drew := (Below.refl _ _).drew
    replace ka := ka.below bd
    replace H := H.below bd
    replace bt := below_then bt hz bd
    clear bd
    have hzd : W.drew.heap.size = W.heap.size := rfl
    refine anyL_take (fun _ => True) [] (i := 0) (v := ?_) rfl (by kernel_rfl) (by kernel_rfl) (by kernel_rfl) (fun _ _ _ h => h) (by kernel_rfl) (one_ind (i := 0) (by decide)) (fun _ _ _ _ => trivial) (Or.inl ⟨by rfl, ?_⟩) hS ?_
    rotate_left
    · intro X hX
      clear hX
      go_simp
      try with_reducible rfl
    try simp only [List.getElem_toArray, List.getElem_cons_zero, List.getElem_cons_succ]
    simp only [Act.put, List.setIfInBounds_toArray, List.set_cons_zero, List.set_cons_succ]
    replace hS := (one_ind (i := 0) (by decide) _ _).2 hS
    refine anyL_take (fun _ => True) [] (i := 1) (v := ?_) rfl (by kernel_rfl) (by kernel_rfl) (by kernel_rfl) (fun _ _ _ h => h) (by kernel_rfl) (one_ind (i := 1) (by decide)) (fun _ _ _ _ => trivial) (Or.inl ⟨by rfl, ?_⟩) hS ?_
    rotate_left
    · intro X hX
      clear hX
      go_simp
      try with_reducible rfl
    try simp only [List.getElem_toArray, List.getElem_cons_zero, List.getElem_cons_succ]
    simp only [Act.put, List.setIfInBounds_toArray, List.set_cons_zero, List.set_cons_succ]
    replace hS := (one_ind (i := 1) (by decide) _ _).2 hS
    refine anyL_take (fun X => Blk X w.heap.size 36 [.int .i64 kind, .int .i64 eid, .slice A ecode.length c, .int .i64 erad, .bool edead]) [] (i := 2) (v := ?_) rfl (by kernel_rfl) (by kernel_rfl) (by kernel_rfl) (fun _ _ _ h => h) (by kernel_rfl) (one_ind (i := 2) (by decide)) (fun L X h1 h2 => h2.2) (Or.inl ⟨by rfl, ?_⟩) hS ?_
    rotate_left
    · intro X hX
      have g0 := hX.cell 0; have g1 := hX.cell 1; have g2 := hX.cell 2; have g3 := hX.cell 3; have g4 := hX.cell 4; simp only [List.getElem?_cons_zero, List.getElem?_cons_succ] at g0 g1 g2 g3 g4; clear hX
      go_simp
      try with_reducible rfl
    try simp only [List.getElem_toArray, List.getElem_cons_zero, List.getElem_cons_succ]
    simp only [Act.put, List.setIfInBounds_toArray, List.set_cons_zero, List.set_cons_succ]
    replace hS := (one_ind (i := 2) (by decide) _ _).2 hS
    refine anyL_take (fun _ => True) [] (i := 5) (v := ?_) rfl (by kernel_rfl) (by kernel_rfl) (by kernel_rfl) (fun _ _ _ h => h) (by kernel_rfl) (one_ind (i := 5) (by decide)) (fun _ _ _ _ => trivial) (Or.inl ⟨by rfl, ?_⟩) hS ?_
    rotate_left
    · intro X hX
      clear hX
      go_simp
      try with_reducible rfl
    try simp only [List.getElem_toArray, List.getElem_cons_zero, List.getElem_cons_succ]
    simp only [Act.put, List.setIfInBounds_toArray, List.set_cons_zero, List.set_cons_succ]
    replace hS := (one_ind (i := 5) (by decide) _ _).2 hS
    refine anyL_take (fun _ => True) [] (i := 6) (v := ?_) rfl (by kernel_rfl) (by kernel_rfl) (by kernel_rfl) (fun _ _ _ h => h) (by kernel_rfl) (one_ind (i := 6) (by decide)) (fun _ _ _ _ => trivial) (Or.inl ⟨by rfl, ?_⟩) hS ?_
    rotate_left
    · intro X hX
      clear hX
      go_simp
      try with_reducible rfl
    try simp only [List.getElem_toArray, List.getElem_cons_zero, List.getElem_cons_succ]
    simp only [Act.put, List.setIfInBounds_toArray, List.set_cons_zero, List.set_cons_succ]
    replace hS := (one_ind (i := 6) (by decide) _ _).2 hS
    refine anyL_take (fun X => Blk X w.heap.size 36 [.int .i64 kind, .int .i64 eid, .slice A ecode.length c, .int .i64 erad, .bool edead]) [] (i := 7) (v := ?_) rfl (by kernel_rfl) (by kernel_rfl) (by kernel_rfl) (fun _ _ _ h => h) (by kernel_rfl) (one_ind (i := 7) (by decide)) (fun L X h1 h2 => h2.2) (Or.inl ⟨by rfl, ?_⟩) hS ?_
    rotate_left
    · intro X hX
      have g0 := hX.cell 0; have g1 := hX.cell 1; have g2 := hX.cell 2; have g3 := hX.cell 3; have g4 := hX.cell 4; simp only [List.getElem?_cons_zero, List.getElem?_cons_succ] at g0 g1 g2 g3 g4; clear hX
      go_simp
      try with_reducible rfl
    try simp only [List.getElem_toArray, List.getElem_cons_zero, List.getElem_cons_succ]
    simp only [Act.put, List.setIfInBounds_toArray, List.set_cons_zero, List.set_cons_succ]
    replace hS := (one_ind (i := 7) (by decide) _ _).2 hS
    clear hS
    refine anyL_step (i := 3) (by kernel_rfl) rfl (by rfl) (fun K hK => ?_)
    go_simp
    refine (OwnEntry_calls ⟨eid, ecode, erad, edead⟩ A c _ (hc _ bt) (by show ecode.length * 1 ≤ _; omega)).mono ?_
    rintro e u1 ⟨A2, c2, rfl, o2, b1⟩
    replace ka := ka.below b1
    replace H := H.below b1
    have z1 := b1.size
    replace bt := below_then bt (by omega) b1
    unfold aggE
    dsimp only
    refine hK.out _ _ ⟨fun _ => trivial, ka⟩ ?_
    clear hK K
    try simp only [Act.put, List.setIfInBounds_toArray, List.set_cons_zero, List.set_cons_succ]
    refine anyL_step (i := 4) (by kernel_rfl) rfl (by rfl) (fun K hK => ?_)
    go_simp
    refine (LPut_any S g parts es ⟨eid, ecode, erad, edead⟩ A2 c2 _ H.l hp (by show ecode.length ≤ _; omega) hid (OwnI.sl o2) (by omega)).mono ?_
    rintro e u2 ⟨S1, rfl, L1, kp, hS1⟩
    replace ka := ka.keep kp (fun hh => by have := hs _ hh; omega)
    have z2 := kp.size
    have H2 := H.left (by omega) L1 kp hS1
    replace bt := below_keep bt kp (by omega) H.geL
    clear H L1 kp hS1
    dsimp only
    refine hK.out _ _ ⟨fun _ => trivial, ka⟩ ?_
    clear hK K
    try simp only [Act.put, List.setIfInBounds_toArray, List.set_cons_zero, List.set_cons_succ]
    refine anyL_step (i := 8) (by kernel_rfl) rfl (by rfl) (fun K hK => ?_)
    go_simp
    refine (RPut_any S' g' parts es ⟨eid, ecode, erad, edead⟩ A c _ H2.r hp (by show ecode.length ≤ _; omega) (hc _ bt) (by omega)).mono ?_
    rintro e u3 ⟨S2, rfl, L2, kp, hS2⟩
    replace ka := ka.keep kp (fun hh => by have := hs2 _ hh; omega)
    have z3 := kp.size
    have H3 := H2.right (by omega) L2 kp hS2
    replace bt := below_keep bt kp (by omega) H2.geR
    clear H2 L2 kp hS2
    have nl := putE_length parts es ⟨eid, ecode, erad, edead⟩
    generalize putE parts es ⟨eid, ecode, erad, edead⟩ = es' at *
    generalize putR parts es ⟨eid, ecode, erad, edead⟩ = pr at *
    dsimp only
    refine hK.out _ _ ⟨fun _ => trivial, ka⟩ ?_
    clear hK K
    try simp only [Act.put, List.setIfInBounds_toArray, List.set_cons_zero, List.set_cons_succ]
    have hS : oneQ 99 (fun _ => True) (fun X => Blk X w.heap.size 36 [.int .i64 kind, .int .i64 eid, .slice A ecode.length c, .int .i64 erad, .bool edead]) ((((((((((Array.replicate 11 false).setIfInBounds 0 true).setIfInBounds 1 true).setIfInBounds 2 true).setIfInBounds 5 true).setIfInBounds 6 true).setIfInBounds 7 true).setIfInBounds 3 true).setIfInBounds 4 true).setIfInBounds 8 true) u3 := ⟨fun _ => trivial, ka⟩
    refine anyL_take (fun _ => True) [] (i := 9) (v := ?_) rfl (by kernel_rfl) (by kernel_rfl) (by kernel_rfl) (fun _ _ _ h => h) (by kernel_rfl) (one_ind (i := 9) (by decide)) (fun _ _ _ _ => trivial) (Or.inl ⟨by rfl, ?_⟩) hS ?_
    rotate_left
    · intro X hX
      clear hX
      go_simp
      try with_reducible rfl
    try simp only [List.getElem_toArray, List.getElem_cons_zero, List.getElem_cons_succ]
    simp only [Act.put, List.setIfInBounds_toArray, List.set_cons_zero, List.set_cons_succ]
    replace hS := (one_ind (i := 9) (by decide) _ _).2 hS
    clear hS
    refine anyL_step (i := 10) (by kernel_rfl) rfl (by rfl) (fun K hK => ?_)
    go_simp
    refine hK.out _ _ ⟨fun _ => trivial, ka⟩ ?_
    clear hK K
    try simp only [Act.put, List.setIfInBounds_toArray, List.set_cons_zero, List.set_cons_succ]
    refine anyL_done (by kernel_rfl) ?_ _
    go_wp2_with fail
    go_ret
    exact ⟨rfl, bt, es', S1, S2, H3, nl⟩
  · clear g0
    go_wp2_with fail
    refine region_L (oneQ 99 (fun _ => True) (fun X => Blk X w.heap.size 36 [.int .i64 kind, .int .i64 eid, .slice A ecode.length c, .int .i64 erad, .bool edead])) hmix ?_
    have hS : oneQ 99 (fun _ => True) (fun X => Blk X w.heap.size 36 [.int .i64 kind, .int .i64 eid, .slice A ecode.length c, .int .i64 erad, .bool edead]) (Array.replicate 12 false) W.drew := ⟨fun _ => trivial, ka⟩
    have bd : Below W.heap.size W W.drew := (Below.refl _ _).drew
    replace ka := ka.below bd
    replace H := H.below bd
    replace bt := below_then bt hz bd
    clear bd
    have hzd : W.drew.heap.size = W.heap.size := rfl
    refine anyL_take (fun _ => True) [] (i := 0) (v := ?_) rfl (by kernel_rfl) (by kernel_rfl) (by kernel_rfl) (fun _ _ _ h => h) (by kernel_rfl) (one_ind (i := 0) (by decide)) (fun _ _ _ _ => trivial) (Or.inl ⟨by rfl, ?_⟩) hS ?_
    rotate_left
    · intro X hX
      clear hX
      go_simp
      try with_reducible rfl
    try simp only [List.getElem_toArray, List.getElem_cons_zero, List.getElem_cons_succ]
    simp only [Act.put, List.setIfInBounds_toArray, List.set_cons_zero, List.set_cons_succ]
    replace hS := (one_ind (i := 0) (by decide) _ _).2 hS
    refine anyL_take (fun _ => True) [] (i := 1) (v := ?_) rfl (by kernel_rfl) (by kernel_rfl) (by kernel_rfl) (fun _ _ _ h => h) (by kernel_rfl) (one_ind (i := 1) (by decide)) (fun _ _ _ _ => trivial) (Or.inl ⟨by rfl, ?_⟩) hS ?_
    rotate_left
    · intro X hX
      clear hX
      go_simp
      try with_reducible rfl
    try simp only [List.getElem_toArray, List.getElem_cons_zero, List.getElem_cons_succ]
    simp only [Act.put, List.setIfInBounds_toArray, List.set_cons_zero, List.set_cons_succ]
    replace hS := (one_ind (i := 1) (by decide) _ _).2 hS
    refine anyL_take (fun _ => True) [] (i := 2) (v := ?_) rfl (by kernel_rfl) (by kernel_rfl) (by kernel_rfl) (fun _ _ _ h => h) (by kernel_rfl) (one_ind (i := 2) (by decide)) (fun _ _ _ _ => trivial) (Or.inl ⟨by rfl, ?_⟩) hS ?_
    rotate_left
    · intro X hX
      clear hX
      go_simp
      try with_reducible rfl
    try simp only [List.getElem_toArray, List.getElem_cons_zero, List.getElem_cons_succ]
    simp only [Act.put, List.setIfInBounds_toArray, List.set_cons_zero, List.set_cons_succ]
    replace hS := (one_ind (i := 2) (by decide) _ _).2 hS
    refine anyL_take (fun X => Blk X w.heap.size 36 [.int .i64 kind, .int .i64 eid, .slice A ecode.length c, .int .i64 erad, .bool edead]) [] (i := 3) (v := ?_) rfl (by kernel_rfl) (by kernel_rfl) (by kernel_rfl) (fun _ _ _ h => h) (by kernel_rfl) (one_ind (i := 3) (by decide)) (fun L X h1 h2 => h2.2) (Or.inl ⟨by rfl, ?_⟩) hS ?_
    rotate_left
    · intro X hX
      have g0 := hX.cell 0; have g1 := hX.cell 1; have g2 := hX.cell 2; have g3 := hX.cell 3; have g4 := hX.cell 4; simp only [List.getElem?_cons_zero, List.getElem?_cons_succ] at g0 g1 g2 g3 g4; clear hX
      go_simp
      try with_reducible rfl
    try simp only [List.getElem_toArray, List.getElem_cons_zero, List.getElem_cons_succ]
    simp only [Act.put, List.setIfInBounds_toArray, List.set_cons_zero, List.set_cons_succ]
    replace hS := (one_ind (i := 3) (by decide) _ _).2 hS
    refine anyL_take (fun _ => True) [] (i := 5) (v := ?_) rfl (by kernel_rfl) (by kernel_rfl) (by kernel_rfl) (fun _ _ _ h => h) (by kernel_rfl) (one_ind (i := 5) (by decide)) (fun _ _ _ _ => trivial) (Or.inl ⟨by rfl, ?_⟩) hS ?_
    rotate_left
    · intro X hX
      clear hX
      go_simp
      try with_reducible rfl
    try simp only [List.getElem_toArray, List.getElem_cons_zero, List.getElem_cons_succ]
    simp only [Act.put, List.setIfInBounds_toArray, List.set_cons_zero, List.set_cons_succ]
    replace hS := (one_ind (i := 5) (by decide) _ _).2 hS
    refine anyL_take (fun _ => True) [] (i := 6) (v := ?_) rfl (by kernel_rfl) (by kernel_rfl) (by kernel_rfl) (fun _ _ _ h => h) (by kernel_rfl) (one_ind (i := 6) (by decide)) (fun _ _ _ _ => trivial) (Or.inl ⟨by rfl, ?_⟩) hS ?_
    rotate_left
    · intro X hX
      clear hX
      go_simp
      try with_reducible rfl
    try simp only [List.getElem_toArray, List.getElem_cons_zero, List.getElem_cons_succ]
    simp only [Act.put, List.setIfInBounds_toArray, List.set_cons_zero, List.set_cons_succ]
    replace hS := (one_ind (i := 6) (by decide) _ _).2 hS
    refine anyL_take (fun _ => True) [] (i := 7) (v := ?_) rfl (by kernel_rfl) (by kernel_rfl) (by kernel_rfl) (fun _ _ _ h => h) (by kernel_rfl) (one_ind (i := 7) (by decide)) (fun _ _ _ _ => trivial) (Or.inl ⟨by rfl, ?_⟩) hS ?_
    rotate_left
    · intro X hX
      clear hX
      go_simp
      try with_reducible rfl
    try simp only [List.getElem_toArray, List.getElem_cons_zero, List.getElem_cons_succ]
    simp only [Act.put, List.setIfInBounds_toArray, List.set_cons_zero, List.set_cons_succ]
    replace hS := (one_ind (i := 7) (by decide) _ _).2 hS
    refine anyL_take (fun X => Blk X w.heap.size 36 [.int .i64 kind, .int .i64 eid, .slice A ecode.length c, .int .i64 erad, .bool edead]) [] (i := 8) (v := ?_) rfl (by kernel_rfl) (by kernel_rfl) (by kernel_rfl) (fun _ _ _ h => h) (by kernel_rfl) (one_ind (i := 8) (by decide)) (fun L X h1 h2 => h2.2) (Or.inl ⟨by rfl, ?_⟩) hS ?_
    rotate_left
    · intro X hX
      have g0 := hX.cell 0; have g1 := hX.cell 1; have g2 := hX.cell 2; have g3 := hX.cell 3; have g4 := hX.cell 4; simp only [List.getElem?_cons_zero, List.getElem?_cons_succ] at g0 g1 g2 g3 g4; clear hX
      go_simp
      try with_reducible rfl
    try simp only [List.getElem_toArray, List.getElem_cons_zero, List.getElem_cons_succ]
    simp only [Act.put, List.setIfInBounds_toArray, List.set_cons_zero, List.set_cons_succ]
    replace hS := (one_ind (i := 8) (by decide) _ _).2 hS
    clear hS
    refine anyL_step (i := 4) (by kernel_rfl) rfl (by rfl) (fun K hK => ?_)
    go_simp
    refine (LKill_any S g parts es eid _ H.l hid).mono ?_
    rintro e u2 ⟨rfl, L1, kp⟩
    replace ka := ka.keep kp (fun hh => by have := hs _ hh; omega)
    have z2 := kp.size
    have H2 := H.left (by omega) L1 kp (fun k hk => .inl hk)
    replace bt := below_keep bt kp (by omega) H.geL
    clear H L1 kp
    dsimp only
    refine hK.out _ _ ⟨fun _ => trivial, ka⟩ ?_
    clear hK K
    try simp only [Act.put, List.setIfInBounds_toArray, List.set_cons_zero, List.set_cons_succ]
    refine anyL_step (i := 9) (by kernel_rfl) rfl (by rfl) (fun K hK => ?_)
    go_simp
    refine (RKill_any S' g' parts es eid _ H2.r (by omega)).mono ?_
    rintro e u3 ⟨rfl, L2, kp⟩
    replace ka := ka.keep kp (fun hh => by have := hs2 _ hh; omega)
    have z3 := kp.size
    have H3 := H2.right (by omega) L2 kp (fun k hk => .inl hk)
    replace bt := below_keep bt kp (by omega) H2.geR
    clear H2 L2 kp
    have nl := kill1_length es eid
    generalize kill1 es eid = es' at *
    generalize killR es eid = pr at *
    dsimp only
    refine hK.out _ _ ⟨fun _ => trivial, ka⟩ ?_
    clear hK K
    try simp only [Act.put, List.setIfInBounds_toArray, List.set_cons_zero, List.set_cons_succ]
    have hS : oneQ 99 (fun _ => True) (fun X => Blk X w.heap.size 36 [.int .i64 kind, .int .i64 eid, .slice A ecode.length c, .int .i64 erad, .bool edead]) (((((((((((Array.replicate 12 false).setIfInBounds 0 true).setIfInBounds 1 true).setIfInBounds 2 true).setIfInBounds 3 true).setIfInBounds 5 true).setIfInBounds 6 true).setIfInBounds 7 true).setIfInBounds 8 true).setIfInBounds 4 true).setIfInBounds 9 true) u3 := ⟨fun _ => trivial, ka⟩
    refine anyL_take (fun _ => True) [] (i := 10) (v := ?_) rfl (by kernel_rfl) (by kernel_rfl) (by kernel_rfl) (fun _ _ _ h => h) (by kernel_rfl) (one_ind (i := 10) (by decide)) (fun _ _ _ _ => trivial) (Or.inl ⟨by rfl, ?_⟩) hS ?_
    rotate_left
    · intro X hX
      clear hX
      go_simp
      try with_reducible rfl
    try simp only [List.getElem_toArray, List.getElem_cons_zero, List.getElem_cons_succ]
    simp only [Act.put, List.setIfInBounds_toArray, List.set_cons_zero, List.set_cons_succ]
    replace hS := (one_ind (i := 10) (by decide) _ _).2 hS
    clear hS
    refine anyL_step (i := 11) (by kernel_rfl) rfl (by rfl) (fun K hK => ?_)
    go_simp
    refine hK.out _ _ ⟨fun _ => trivial, ka⟩ ?_
    clear hK K
    try simp only [Act.put, List.setIfInBounds_toArray, List.set_cons_zero, List.set_cons_succ]
    refine anyL_done (by kernel_rfl) ?_ _
    go_wp2_with fail
    go_ret
    exact ⟨rfl, bt, es', S, S', H3, by omega⟩
  · cases hpl : place es eid with
    | none =>
      have g1 := ka.cell 1
      simp only [List.getElem?_cons_zero, List.getElem?_cons_succ] at g1
      go_wp2_with fail
      clear g0 g1
      refine (Get_no S g parts es eid _ H.l hid hpl).mono ?_
      rintro e w6 ⟨A6, c6, rfl, s6, b6⟩
      unfold aggE
      dsimp only [Option.getD, noE] at s6 ⊢
      have b7 := below_box0 w6 (.cells #[.int .i64 0, .slice A6 0 c6, .int .i64 0, .bool false] 33)
      have kx := Blk.new w6 33 [.int .i64 0, .slice A6 0 c6, .int .i64 0, .bool false]
      replace ka := (ka.below b6).below b7
      replace s6 := s6.below b7
      replace H := (H.below b6).below b7
      have z6 := b6.size
      have z7 := b7.size
      replace bt := below_then bt hz (below_trans b6 b7)
      clear b6 b7
      have g0 := ka.cell 0
      have g1 := ka.cell 1
      simp only [List.getElem?_cons_zero, List.getElem?_cons_succ] at g0 g1
      have hz7 : B ≤ (w6.alloc (.cells #[.int .i64 0, .slice A6 0 c6, .int .i64 0, .bool false] 33)).heap.size := by omega
      go_wp2_with fail
      generalize w6.alloc (.cells #[.int .i64 0, .slice A6 0 c6, .int .i64 0, .bool false] 33) = W7 at *
      generalize w6.heap.size = b8 at *
      have HG := RGet_calls S' g' parts es eid W7 H.r (by omega) hcl
      rw [hpl] at HG
      refine HG.mono ?_
      rintro e w8 ⟨A8, c8, rfl, s8, b6⟩
      unfold aggE
      dsimp only [Option.getD, Option.map, noE] at s8 ⊢
      have b7 := below_box0 w8 (.cells #[.int .i64 0, .slice A8 0 c8, .int .i64 0, .bool false] 33)
      have ky := Blk.new w8 33 [.int .i64 0, .slice A8 0 c8, .int .i64 0, .bool false]
      replace ka := (ka.below b6).below b7
      replace kx := (kx.below b6).below b7
      replace s6 := (s6.below b6).below b7
      replace s8 := s8.below b7
      replace H := (H.below b6).below b7
      have z8 := b6.size
      have z9 := b7.size
      replace bt := below_then bt hz7 (below_trans b6 b7)
      have hzv : B ≤ (w8.alloc (.cells #[.int .i64 0, .slice A8 0 c8, .int .i64 0, .bool false] 33)).heap.size := by omega
      clear b6 b7 g0 g1
      go_wp2_with fail
      generalize w8.alloc (.cells #[.int .i64 0, .slice A8 0 c8, .int .i64 0, .bool false] 33) = V at *
      generalize w8.heap.size = b9 at *
      refine region_L (oneQ 99 (fun _ => True) (fun X => Blk X w.heap.size 36 [.int .i64 kind, .int .i64 eid, .slice A ecode.length c, .int .i64 erad, .bool edead] ∧ Blk X b8 33 [.int .i64 0, .slice A6 0 c6, .int .i64 0, .bool false] ∧ Blk X b9 33 [.int .i64 0, .slice A8 0 c8, .int .i64 0, .bool false])) hmix ?_
      have hS : oneQ 99 (fun _ => True) (fun X => Blk X w.heap.size 36 [.int .i64 kind, .int .i64 eid, .slice A ecode.length c, .int .i64 erad, .bool edead] ∧ Blk X b8 33 [.int .i64 0, .slice A6 0 c6, .int .i64 0, .bool false] ∧ Blk X b9 33 [.int .i64 0, .slice A8 0 c8, .int .i64 0, .bool false]) (Array.replicate 22 false) V.drew := ⟨fun _ => trivial, ka, kx, ky⟩
      have bd : Below V.heap.size V V.drew := (Below.refl _ _).drew
      replace ka := ka.below bd
      replace kx := kx.below bd
      replace ky := ky.below bd
      replace s6 := s6.below bd
      replace s8 := s8.below bd
      replace H := H.below bd
      replace bt := below_then bt hzv bd
      clear bd
      have hz1 : B ≤ V.drew.heap.size := hzv
      refine anyL_take (fun X => Blk X w.heap.size 36 [.int .i64 kind, .int .i64 eid, .slice A ecode.length c, .int .i64 erad, .bool edead] ∧ Blk X b8 33 [.int .i64 0, .slice A6 0 c6, .int .i64 0, .bool false] ∧ Blk X b9 33 [.int .i64 0, .slice A8 0 c8, .int .i64 0, .bool false]) [] (i := 0) (v := ?_) rfl (by kernel_rfl) (by kernel_rfl) (by kernel_rfl) (fun _ _ _ h => h) (by kernel_rfl) (one_ind (i := 0) (by decide)) (fun L X h1 h2 => h2.2) (Or.inl ⟨by rfl, ?_⟩) hS ?_
      rotate_left
      · intro X hX
        obtain ⟨k0, k1, k2⟩ := hX; have g0 := k0.cell 0; have g1 := k0.cell 1; have g2 := k0.cell 2; have g3 := k0.cell 3; have g4 := k0.cell 4; have g5 := k1.cell 0; have g6 := k1.cell 1; have g7 := k1.cell 2; have g8 := k1.cell 3; have g9 := k2.cell 0; have g10 := k2.cell 1; have g11 := k2.cell 2; have g12 := k2.cell 3; simp only [List.getElem?_cons_zero, List.getElem?_cons_succ] at g0 g1 g2 g3 g4 g5 g6 g7 g8 g9 g10 g11 g12; clear k0 k1 k2
        go_simp
        try with_reducible rfl
      try simp only [List.getElem_toArray, List.getElem_cons_zero, List.getElem_cons_succ]
      simp only [Act.put, List.setIfInBounds_toArray, List.set_cons_zero, List.set_cons_succ]
      replace hS := (one_ind (i := 0) (by decide) _ _).2 hS
      refine anyL_take (fun X => Blk X w.heap.size 36 [.int .i64 kind, .int .i64 eid, .slice A ecode.length c, .int .i64 erad, .bool edead] ∧ Blk X b8 33 [.int .i64 0, .slice A6 0 c6, .int .i64 0, .bool false] ∧ Blk X b9 33 [.int .i64 0, .slice A8 0 c8, .int .i64 0, .bool false]) [] (i := 1) (v := ?_) rfl (by kernel_rfl) (by kernel_rfl) (by kernel_rfl) (fun _ _ _ h => h) (by kernel_rfl) (one_ind (i := 1) (by decide)) (fun L X h1 h2 => h2.2) (Or.inl ⟨by rfl, ?_⟩) hS ?_
      rotate_left
      · intro X hX
        obtain ⟨k0, k1, k2⟩ := hX; have g0 := k0.cell 0; have g1 := k0.cell 1; have g2 := k0.cell 2; have g3 := k0.cell 3; have g4 := k0.cell 4; have g5 := k1.cell 0; have g6 := k1.cell 1; have g7 := k1.cell 2; have g8 := k1.cell 3; have g9 := k2.cell 0; have g10 := k2.cell 1; have g11 := k2.cell 2; have g12 := k2.cell 3; simp only [List.getElem?_cons_zero, List.getElem?_cons_succ] at g0 g1 g2 g3 g4 g5 g6 g7 g8 g9 g10 g11 g12; clear k0 k1 k2
        go_simp
        try with_reducible rfl
      try simp only [List.getElem_toArray, List.getElem_cons_zero, List.getElem_cons_succ]
      simp only [Act.put, List.setIfInBounds_toArray, List.set_cons_zero, List.set_cons_succ]
      replace hS := (one_ind (i := 1) (by decide) _ _).2 hS
      clear hS
      refine anyL_step (i := 2) (by kernel_rfl) rfl (by rfl) (fun K hK => ?_)
      go_simp
      refine (Entry_calls (⟨0, [], 0, false⟩ : En) (⟨0, [], 0, false⟩ : En) A6 A8 c6 c8 _ s6 s8).mono ?_
      rintro e u1 ⟨rfl, b1⟩
      rw [decide_eq_true (rfl : (⟨0, [], 0, false⟩ : En) = (⟨0, [], 0, false⟩ : En))]
      replace ka := ka.below b1
      replace kx := kx.below b1
      replace ky := ky.below b1
      replace H := H.below b1
      replace bt := below_then bt hz1 b1
      dsimp only
      refine hK.out _ _ ⟨fun _ => trivial, ka, kx, ky⟩ ?_
      clear hK K
      try simp only [Act.put, List.setIfInBounds_toArray, List.set_cons_zero, List.set_cons_succ]
      have hS : oneQ 99 (fun _ => True) (fun X => Blk X w.heap.size 36 [.int .i64 kind, .int .i64 eid, .slice A ecode.length c, .int .i64 erad, .bool edead] ∧ Blk X b8 33 [.int .i64 0, .slice A6 0 c6, .int .i64 0, .bool false] ∧ Blk X b9 33 [.int .i64 0, .slice A8 0 c8, .int .i64 0, .bool false]) ((((Array.replicate 22 false).setIfInBounds 0 true).setIfInBounds 1 true).setIfInBounds 2 true) u1 := ⟨fun _ => trivial, ka, kx, ky⟩
      refine anyL_take (fun _ => True) [] (i := 3) (v := ?_) rfl (by kernel_rfl) (by kernel_rfl) (by kernel_rfl) (fun _ _ _ h => h) (by kernel_rfl) (one_ind (i := 3) (by decide)) (fun _ _ _ _ => trivial) (Or.inl ⟨by rfl, ?_⟩) hS ?_
      rotate_left
      · intro X hX
        clear hX
        go_simp
        try with_reducible rfl
      try simp only [List.getElem_toArray, List.getElem_cons_zero, List.getElem_cons_succ]
      simp only [Act.put, List.setIfInBounds_toArray, List.set_cons_zero, List.set_cons_succ]
      replace hS := (one_ind (i := 3) (by decide) _ _).2 hS
      refine anyL_take (fun _ => True) [] (i := 4) (v := ?_) rfl (by kernel_rfl) (by kernel_rfl) (by kernel_rfl) (fun _ _ _ h => h) (by kernel_rfl) (one_ind (i := 4) (by decide)) (fun _ _ _ _ => trivial) (Or.inl ⟨by rfl, ?_⟩) hS ?_
      rotate_left
      · intro X hX
        clear hX
        go_simp
        try with_reducible rfl
      try simp only [List.getElem_toArray, List.getElem_cons_zero, List.getElem_cons_succ]
      simp only [Act.put, List.setIfInBounds_toArray, List.set_cons_zero, List.set_cons_succ]
      replace hS := (one_ind (i := 4) (by decide) _ _).2 hS
      refine anyL_take (fun _ => True) [] (i := 5) (v := ?_) rfl (by kernel_rfl) (by kernel_rfl) (by kernel_rfl) (fun _ _ _ h => h) (by kernel_rfl) (one_ind (i := 5) (by decide)) (fun _ _ _ _ => trivial) (Or.inl ⟨by rfl, ?_⟩) hS ?_
      rotate_left
      · intro X hX
        clear hX
        go_simp
        try with_reducible rfl
      try simp only [List.getElem_toArray, List.getElem_cons_zero, List.getElem_cons_succ]
      simp only [Act.put, List.setIfInBounds_toArray, List.set_cons_zero, List.set_cons_succ]
      replace hS := (one_ind (i := 5) (by decide) _ _).2 hS
      refine anyL_take (fun _ => True) [] (i := 6) (v := ?_) rfl (by kernel_rfl) (by kernel_rfl) (by kernel_rfl) (fun _ _ _ h => h) (by kernel_rfl) (one_ind (i := 6) (by decide)) (fun _ _ _ _ => trivial) (Or.inl ⟨by rfl, ?_⟩) hS ?_
      rotate_left
      · intro X hX
        clear hX
        go_simp
        try with_reducible rfl
      try simp only [List.getElem_toArray, List.getElem_cons_zero, List.getElem_cons_succ]
      simp only [Act.put, List.setIfInBounds_toArray, List.set_cons_zero, List.set_cons_succ]
      replace hS := (one_ind (i := 6) (by decide) _ _).2 hS
      refine anyL_take (fun _ => True) [] (i := 7) (v := ?_) rfl (by kernel_rfl) (by kernel_rfl) (by kernel_rfl) (fun _ _ _ h => h) (by kernel_rfl) (one_ind (i := 7) (by decide)) (fun _ _ _ _ => trivial) (Or.inl ⟨by rfl, ?_⟩) hS ?_
      rotate_left
      · intro X hX
        clear hX
        go_simp
        try with_reducible rfl
      try simp only [List.getElem_toArray, List.getElem_cons_zero, List.getElem_cons_succ]
      simp only [Act.put, List.setIfInBounds_toArray, List.set_cons_zero, List.set_cons_succ]
      replace hS := (one_ind (i := 7) (by decide) _ _).2 hS
      refine anyL_take (fun _ => True) [] (i := 8) (v := ?_) rfl (by kernel_rfl) (by kernel_rfl) (by kernel_rfl) (fun _ _ _ h => h) (by kernel_rfl) (one_ind (i := 8) (by decide)) (fun _ _ _ _ => trivial) (Or.inl ⟨by rfl, ?_⟩) hS ?_
      rotate_left
      · intro X hX
        clear hX
        go_simp
        try with_reducible rfl
      try simp only [List.getElem_toArray, List.getElem_cons_zero, List.getElem_cons_succ]
      simp only [Act.put, List.setIfInBounds_toArray, List.set_cons_zero, List.set_cons_succ]
      replace hS := (one_ind (i := 8) (by decide) _ _).2 hS
      refine anyL_take (fun _ => True) [] (i := 9) (v := ?_) rfl (by kernel_rfl) (by kernel_rfl) (by kernel_rfl) (fun _ _ _ h => h) (by kernel_rfl) (one_ind (i := 9) (by decide)) (fun _ _ _ _ => trivial) (Or.inl ⟨by rfl, ?_⟩) hS ?_
      rotate_left
      · intro X hX
        clear hX
        go_simp
        try with_reducible rfl
      try simp only [List.getElem_toArray, List.getElem_cons_zero, List.getElem_cons_succ]
      simp only [Act.put, List.setIfInBounds_toArray, List.set_cons_zero, List.set_cons_succ]
      replace hS := (one_ind (i := 9) (by decide) _ _).2 hS
      refine anyL_take (fun _ => True) [] (i := 10) (v := ?_) rfl (by kernel_rfl) (by kernel_rfl) (by kernel_rfl) (fun _ _ _ h => h) (by kernel_rfl) (one_ind (i := 10) (by decide)) (fun _ _ _ _ => trivial) (Or.inl ⟨by rfl, ?_⟩) hS ?_
      rotate_left
      · intro X hX
        clear hX
        go_simp
        try with_reducible rfl
      try simp only [List.getElem_toArray, List.getElem_cons_zero, List.getElem_cons_succ]
      simp only [Act.put, List.setIfInBounds_toArray, List.set_cons_zero, List.set_cons_succ]
      replace hS := (one_ind (i := 10) (by decide) _ _).2 hS
      refine anyL_take (fun _ => True) [] (i := 11) (v := ?_) rfl (by kernel_rfl) (by kernel_rfl) (by kernel_rfl) (fun _ _ _ h => h) (by kernel_rfl) (one_ind (i := 11) (by decide)) (fun _ _ _ _ => trivial) (Or.inl ⟨by rfl, ?_⟩) hS ?_
      rotate_left
      · intro X hX
        clear hX
        go_simp
        try with_reducible rfl
      try simp only [List.getElem_toArray, List.getElem_cons_zero, List.getElem_cons_succ]
      simp only [Act.put, List.setIfInBounds_toArray, List.set_cons_zero, List.set_cons_succ]
      replace hS := (one_ind (i := 11) (by decide) _ _).2 hS
      refine anyL_take (fun X => Blk X w.heap.size 36 [.int .i64 kind, .int .i64 eid, .slice A ecode.length c, .int .i64 erad, .bool edead] ∧ Blk X b8 33 [.int .i64 0, .slice A6 0 c6, .int .i64 0, .bool false] ∧ Blk X b9 33 [.int .i64 0, .slice A8 0 c8, .int .i64 0, .bool false]) [] (i := 12) (v := ?_) rfl (by kernel_rfl) (by kernel_rfl) (by kernel_rfl) (fun _ _ _ h => h) (by kernel_rfl) (one_ind (i := 12) (by decide)) (fun L X h1 h2 => h2.2) (Or.inl ⟨by rfl, ?_⟩) hS ?_
      rotate_left
      · intro X hX
        obtain ⟨k0, k1, k2⟩ := hX; have g0 := k0.cell 0; have g1 := k0.cell 1; have g2 := k0.cell 2; have g3 := k0.cell 3; have g4 := k0.cell 4; have g5 := k1.cell 0; have g6 := k1.cell 1; have g7 := k1.cell 2; have g8 := k1.cell 3; have g9 := k2.cell 0; have g10 := k2.cell 1; have g11 := k2.cell 2; have g12 := k2.cell 3; simp only [List.getElem?_cons_zero, List.getElem?_cons_succ] at g0 g1 g2 g3 g4 g5 g6 g7 g8 g9 g10 g11 g12; clear k0 k1 k2
        go_simp
        try with_reducible rfl
      try simp only [List.getElem_toArray, List.getElem_cons_zero, List.getElem_cons_succ]
      simp only [Act.put, List.setIfInBounds_toArray, List.set_cons_zero, List.set_cons_succ]
      replace hS := (one_ind (i := 12) (by decide) _ _).2 hS
      refine anyL_take (fun _ => True) [] (i := 14) (v := ?_) rfl (by kernel_rfl) (by kernel_rfl) (by kernel_rfl) (fun _ _ _ h => h) (by kernel_rfl) (one_ind (i := 14) (by decide)) (fun _ _ _ _ => trivial) (Or.inl ⟨by rfl, ?_⟩) hS ?_
      rotate_left
      · intro X hX
        clear hX
        go_simp
        try with_reducible rfl
      try simp only [List.getElem_toArray, List.getElem_cons_zero, List.getElem_cons_succ]
      simp only [Act.put, List.setIfInBounds_toArray, List.set_cons_zero, List.set_cons_succ]
      replace hS := (one_ind (i := 14) (by decide) _ _).2 hS
      refine anyL_take (fun _ => True) [] (i := 15) (v := ?_) rfl (by kernel_rfl) (by kernel_rfl) (by kernel_rfl) (fun _ _ _ h => h) (by kernel_rfl) (one_ind (i := 15) (by decide)) (fun _ _ _ _ => trivial) (Or.inl ⟨by rfl, ?_⟩) hS ?_
      rotate_left
      · intro X hX
        clear hX
        go_simp
        try with_reducible rfl
      try simp only [List.getElem_toArray, List.getElem_cons_zero, List.getElem_cons_succ]
      simp only [Act.put, List.setIfInBounds_toArray, List.set_cons_zero, List.set_cons_succ]
      replace hS := (one_ind (i := 15) (by decide) _ _).2 hS
      refine anyL_take (fun _ => True) [] (i := 16) (v := ?_) rfl (by kernel_rfl) (by kernel_rfl) (by kernel_rfl) (fun _ _ _ h => h) (by kernel_rfl) (one_ind (i := 16) (by decide)) (fun _ _ _ _ => trivial) (Or.inl ⟨by rfl, ?_⟩) hS ?_
      rotate_left
      · intro X hX
        clear hX
        go_simp
        try with_reducible rfl
      try simp only [List.getElem_toArray, List.getElem_cons_zero, List.getElem_cons_succ]
      simp only [Act.put, List.setIfInBounds_toArray, List.set_cons_zero, List.set_cons_succ]
      replace hS := (one_ind (i := 16) (by decide) _ _).2 hS
      refine anyL_take (fun X => Blk X w.heap.size 36 [.int .i64 kind, .int .i64 eid, .slice A ecode.length c, .int .i64 erad, .bool edead] ∧ Blk X b8 33 [.int .i64 0, .slice A6 0 c6, .int .i64 0, .bool false] ∧ Blk X b9 33 [.int .i64 0, .slice A8 0 c8, .int .i64 0, .bool false]) [] (i := 17) (v := ?_) rfl (by kernel_rfl) (by kernel_rfl) (by kernel_rfl) (fun _ _ _ h => h) (by kernel_rfl) (one_ind (i := 17) (by decide)) (fun L X h1 h2 => h2.2) (Or.inl ⟨by rfl, ?_⟩) hS ?_
      rotate_left
      · intro X hX
        obtain ⟨k0, k1, k2⟩ := hX; have g0 := k0.cell 0; have g1 := k0.cell 1; have g2 := k0.cell 2; have g3 := k0.cell 3; have g4 := k0.cell 4; have g5 := k1.cell 0; have g6 := k1.cell 1; have g7 := k1.cell 2; have g8 := k1.cell 3; have g9 := k2.cell 0; have g10 := k2.cell 1; have g11 := k2.cell 2; have g12 := k2.cell 3; simp only [List.getElem?_cons_zero, List.getElem?_cons_succ] at g0 g1 g2 g3 g4 g5 g6 g7 g8 g9 g10 g11 g12; clear k0 k1 k2
        go_simp
        try with_reducible rfl
      try simp only [List.getElem_toArray, List.getElem_cons_zero, List.getElem_cons_succ]
      simp only [Act.put, List.setIfInBounds_toArray, List.set_cons_zero, List.set_cons_succ]
      replace hS := (one_ind (i := 17) (by decide) _ _).2 hS
      clear hS
      refine anyL_step (i := 13) (by kernel_rfl) rfl (by rfl) (fun K hK => ?_)
      go_simp
      refine (Has_calls S g parts es eid _ H.l hid).mono ?_
      rintro e _ ⟨rfl, rfl⟩
      rw [hpl]
      dsimp only
      refine hK.out _ _ ⟨fun _ => trivial, ka, kx, ky⟩ ?_
      clear hK K
      try simp only [Act.put, List.setIfInBounds_toArray, List.set_cons_zero, List.set_cons_succ]
      refine anyL_step (i := 18) (by kernel_rfl) rfl (by rfl) (fun K hK => ?_)
      go_simp
      refine (RHas_calls S' g' parts es eid _ H.r (by omega)).mono ?_
      rintro e _ ⟨rfl, rfl⟩
      rw [hpl]
      dsimp only
      refine hK.out _ _ ⟨fun _ => trivial, ka, kx, ky⟩ ?_
      clear hK K
      try simp only [Act.put, List.setIfInBounds_toArray, List.set_cons_zero, List.set_cons_succ]
      have hS : oneQ 99 (fun _ => True) (fun X => Blk X w.heap.size 36 [.int .i64 kind, .int .i64 eid, .slice A ecode.length c, .int .i64 erad, .bool edead] ∧ Blk X b8 33 [.int .i64 0, .slice A6 0 c6, .int .i64 0, .bool false] ∧ Blk X b9 33 [.int .i64 0, .slice A8 0 c8, .int .i64 0, .bool false]) ((((((((((((((((((((Array.replicate 22 false).setIfInBounds 0 true).setIfInBounds 1 true).setIfInBounds 2 true).setIfInBounds 3 true).setIfInBounds 4 true).setIfInBounds 5 true).setIfInBounds 6 true).setIfInBounds 7 true).setIfInBounds 8 true).setIfInBounds 9 true).setIfInBounds 10 true).setIfInBounds 11 true).setIfInBounds 12 true).setIfInBounds 14 true).setIfInBounds 15 true).setIfInBounds 16 true).setIfInBounds 17 true).setIfInBounds 13 true).setIfInBounds 18 true) u1 := ⟨fun _ => trivial, ka, kx, ky⟩
      refine anyL_take (fun _ => True) [] (i := 19) (v := ?_) rfl (by kernel_rfl) (by kernel_rfl) (by kernel_rfl) (fun _ _ _ h => h) (by kernel_rfl) (one_ind (i := 19) (by decide)) (fun _ _ _ _ => trivial) (Or.inl ⟨by rfl, ?_⟩) hS ?_
      rotate_left
      · intro X hX
        clear hX
        go_simp
        try with_reducible rfl
      try simp only [List.getElem_toArray, List.getElem_cons_zero, List.getElem_cons_succ]
      simp only [Act.put, List.setIfInBounds_toArray, List.set_cons_zero, List.set_cons_succ]
      replace hS := (one_ind (i := 19) (by decide) _ _).2 hS
      refine anyL_take (fun _ => True) [] (i := 20) (v := ?_) rfl (by kernel_rfl) (by kernel_rfl) (by kernel_rfl) (fun _ _ _ h => h) (by kernel_rfl) (one_ind (i := 20) (by decide)) (fun _ _ _ _ => trivial) (Or.inl ⟨by rfl, ?_⟩) hS ?_
      rotate_left
      · intro X hX
        clear hX
        go_simp
        try with_reducible rfl
      try simp only [List.getElem_toArray, List.getElem_cons_zero, List.getElem_cons_succ]
      simp only [Act.put, List.setIfInBounds_toArray, List.set_cons_zero, List.set_cons_succ]
      replace hS := (one_ind (i := 20) (by decide) _ _).2 hS
      clear hS
      refine anyL_step (i := 21) (by kernel_rfl) rfl (by rfl) (fun K hK => ?_)
      go_simp
      refine hK.out _ _ ⟨fun _ => trivial, ka, kx, ky⟩ ?_
      clear hK K
      try simp only [Act.put, List.setIfInBounds_toArray, List.set_cons_zero, List.set_cons_succ]
      refine anyL_done (by kernel_rfl) ?_ _
      go_wp2_with fail
      go_ret
      exact ⟨rfl, bt, es, S, S', H, by omega⟩
    | some j =>
      have g1 := ka.cell 1
      simp only [List.getElem?_cons_zero, List.getElem?_cons_succ] at g1
      go_wp2_with fail
      clear g0 g1
      refine (Get_yes S g parts es eid j _ H.l hid hpl).mono ?_
      rintro e w6 ⟨A6, c6, rfl, s6, b6⟩
      unfold aggE
      dsimp only [Option.getD, noE] at s6 ⊢
      generalize hpe : es.getD j ⟨0, [], 0, false⟩ = p at *
      have b7 := below_box0 w6 (.cells #[.int .i64 p.id, .slice A6 p.code.length c6, .int .i64 p.rad, .bool p.dead] 33)
      have kx := Blk.new w6 33 [.int .i64 p.id, .slice A6 p.code.length c6, .int .i64 p.rad, .bool p.dead]
      replace ka := (ka.below b6).below b7
      replace s6 := s6.below b7
      replace H := (H.below b6).below b7
      have z6 := b6.size
      have z7 := b7.size
      replace bt := below_then bt hz (below_trans b6 b7)
      clear b6 b7
      have g0 := ka.cell 0
      have g1 := ka.cell 1
      simp only [List.getElem?_cons_zero, List.getElem?_cons_succ] at g0 g1
      have hz7 : B ≤ (w6.alloc (.cells #[.int .i64 p.id, .slice A6 p.code.length c6, .int .i64 p.rad, .bool p.dead] 33)).heap.size := by omega
      go_wp2_with fail
      generalize w6.alloc (.cells #[.int .i64 p.id, .slice A6 p.code.length c6, .int .i64 p.rad, .bool p.dead] 33) = W7 at *
      generalize w6.heap.size = b8 at *
      have HG := RGet_calls S' g' parts es eid W7 H.r (by omega) hcl
      rw [hpl] at HG
      refine HG.mono ?_
      rintro e w8 ⟨A8, c8, rfl, s8, b6⟩
      unfold aggE
      dsimp only [Option.getD, Option.map, noE] at s8 ⊢
      rw [hpe] at s8
      try rw [hpe]
      have b7 := below_box0 w8 (.cells #[.int .i64 p.id, .slice A8 p.code.length c8, .int .i64 p.rad, .bool p.dead] 33)
      have ky := Blk.new w8 33 [.int .i64 p.id, .slice A8 p.code.length c8, .int .i64 p.rad, .bool p.dead]
      replace ka := (ka.below b6).below b7
      replace kx := (kx.below b6).below b7
      replace s6 := (s6.below b6).below b7
      replace s8 := s8.below b7
      replace H := (H.below b6).below b7
      have z8 := b6.size
      have z9 := b7.size
      replace bt := below_then bt hz7 (below_trans b6 b7)
      have hzv : B ≤ (w8.alloc (.cells #[.int .i64 p.id, .slice A8 p.code.length c8, .int .i64 p.rad, .bool p.dead] 33)).heap.size := by omega
      clear b6 b7 g0 g1
      go_wp2_with fail
      generalize w8.alloc (.cells #[.int .i64 p.id, .slice A8 p.code.length c8, .int .i64 p.rad, .bool p.dead] 33) = V at *
      generalize w8.heap.size = b9 at *
      refine region_L (oneQ 99 (fun _ => True) (fun X => Blk X w.heap.size 36 [.int .i64 kind, .int .i64 eid, .slice A ecode.length c, .int .i64 erad, .bool edead] ∧ Blk X b8 33 [.int .i64 p.id, .slice A6 p.code.length c6, .int .i64 p.rad, .bool p.dead] ∧ Blk X b9 33 [.int .i64 p.id, .slice A8 p.code.length c8, .int .i64 p.rad, .bool p.dead])) hmix ?_
      have hS : oneQ 99 (fun _ => True) (fun X => Blk X w.heap.size 36 [.int .i64 kind, .int .i64 eid, .slice A ecode.length c, .int .i64 erad, .bool edead] ∧ Blk X b8 33 [.int .i64 p.id, .slice A6 p.code.length c6, .int .i64 p.rad, .bool p.dead] ∧ Blk X b9 33 [.int .i64 p.id, .slice A8 p.code.length c8, .int .i64 p.rad, .bool p.dead]) (Array.replicate 22 false) V.drew := ⟨fun _ => trivial, ka, kx, ky⟩
      have bd : Below V.heap.size V V.drew := (Below.refl _ _).drew
      replace ka := ka.below bd
      replace kx := kx.below bd
      replace ky := ky.below bd
      replace s6 := s6.below bd
      replace s8 := s8.below bd
      replace H := H.below bd
      replace bt := below_then bt hzv bd
      clear bd
      have hz1 : B ≤ V.drew.heap.size := hzv
      refine anyL_take (fun X => Blk X w.heap.size 36 [.int .i64 kind, .int .i64 eid, .slice A ecode.length c, .int .i64 erad, .bool edead] ∧ Blk X b8 33 [.int .i64 p.id, .slice A6 p.code.length c6, .int .i64 p.rad, .bool p.dead] ∧ Blk X b9 33 [.int .i64 p.id, .slice A8 p.code.length c8, .int .i64 p.rad, .bool p.dead]) [] (i := 0) (v := ?_) rfl (by kernel_rfl) (by kernel_rfl) (by kernel_rfl) (fun _ _ _ h => h) (by kernel_rfl) (one_ind (i := 0) (by decide)) (fun L X h1 h2 => h2.2) (Or.inl ⟨by rfl, ?_⟩) hS ?_
      rotate_left
      · intro X hX
        obtain ⟨k0, k1, k2⟩ := hX; have g0 := k0.cell 0; have g1 := k0.cell 1; have g2 := k0.cell 2; have g3 := k0.cell 3; have g4 := k0.cell 4; have g5 := k1.cell 0; have g6 := k1.cell 1; have g7 := k1.cell 2; have g8 := k1.cell 3; have g9 := k2.cell 0; have g10 := k2.cell 1; have g11 := k2.cell 2; have g12 := k2.cell 3; simp only [List.getElem?_cons_zero, List.getElem?_cons_succ] at g0 g1 g2 g3 g4 g5 g6 g7 g8 g9 g10 g11 g12; clear k0 k1 k2
        go_simp
        try with_reducible rfl
      try simp only [List.getElem_toArray, List.getElem_cons_zero, List.getElem_cons_succ]
      simp only [Act.put, List.setIfInBounds_toArray, List.set_cons_zero, List.set_cons_succ]
      replace hS := (one_ind (i := 0) (by decide) _ _).2 hS
      refine anyL_take (fun X => Blk X w.heap.size 36 [.int .i64 kind, .int .i64 eid, .slice A ecode.length c, .int .i64 erad, .bool edead] ∧ Blk X b8 33 [.int .i64 p.id, .slice A6 p.code.length c6, .int .i64 p.rad, .bool p.dead] ∧ Blk X b9 33 [.int .i64 p.id, .slice A8 p.code.length c8, .int .i64 p.rad, .bool p.dead]) [] (i := 1) (v := ?_) rfl (by kernel_rfl) (by kernel_rfl) (by kernel_rfl) (fun _ _ _ h => h) (by kernel_rfl) (one_ind (i := 1) (by decide)) (fun L X h1 h2 => h2.2) (Or.inl ⟨by rfl, ?_⟩) hS ?_
      rotate_left
      · intro X hX
        obtain ⟨k0, k1, k2⟩ := hX; have g0 := k0.cell 0; have g1 := k0.cell 1; have g2 := k0.cell 2; have g3 := k0.cell 3; have g4 := k0.cell 4; have g5 := k1.cell 0; have g6 := k1.cell 1; have g7 := k1.cell 2; have g8 := k1.cell 3; have g9 := k2.cell 0; have g10 := k2.cell 1; have g11 := k2.cell 2; have g12 := k2.cell 3; simp only [List.getElem?_cons_zero, List.getElem?_cons_succ] at g0 g1 g2 g3 g4 g5 g6 g7 g8 g9 g10 g11 g12; clear k0 k1 k2
        go_simp
        try with_reducible rfl
      try simp only [List.getElem_toArray, List.getElem_cons_zero, List.getElem_cons_succ]
      simp only [Act.put, List.setIfInBounds_toArray, List.set_cons_zero, List.set_cons_succ]
      replace hS := (one_ind (i := 1) (by decide) _ _).2 hS
      clear hS
      refine anyL_step (i := 2) (by kernel_rfl) rfl (by rfl) (fun K hK => ?_)
      go_simp
      refine (Entry_calls p p A6 A8 c6 c8 _ s6 s8).mono ?_
      rintro e u1 ⟨rfl, b1⟩
      rw [decide_eq_true (rfl : p = p)]
      replace ka := ka.below b1
      replace kx := kx.below b1
      replace ky := ky.below b1
      replace H := H.below b1
      replace bt := below_then bt hz1 b1
      dsimp only
      refine hK.out _ _ ⟨fun _ => trivial, ka, kx, ky⟩ ?_
      clear hK K
      try simp only [Act.put, List.setIfInBounds_toArray, List.set_cons_zero, List.set_cons_succ]
      have hS : oneQ 99 (fun _ => True) (fun X => Blk X w.heap.size 36 [.int .i64 kind, .int .i64 eid, .slice A ecode.length c, .int .i64 erad, .bool edead] ∧ Blk X b8 33 [.int .i64 p.id, .slice A6 p.code.length c6, .int .i64 p.rad, .bool p.dead] ∧ Blk X b9 33 [.int .i64 p.id, .slice A8 p.code.length c8, .int .i64 p.rad, .bool p.dead]) ((((Array.replicate 22 false).setIfInBounds 0 true).setIfInBounds 1 true).setIfInBounds 2 true) u1 := ⟨fun _ => trivial, ka, kx, ky⟩
      refine anyL_take (fun _ => True) [] (i := 3) (v := ?_) rfl (by kernel_rfl) (by kernel_rfl) (by kernel_rfl) (fun _ _ _ h => h) (by kernel_rfl) (one_ind (i := 3) (by decide)) (fun _ _ _ _ => trivial) (Or.inl ⟨by rfl, ?_⟩) hS ?_
      rotate_left
      · intro X hX
        clear hX
        go_simp
        try with_reducible rfl
      try simp only [List.getElem_toArray, List.getElem_cons_zero, List.getElem_cons_succ]
      simp only [Act.put, List.setIfInBounds_toArray, List.set_cons_zero, List.set_cons_succ]
      replace hS := (one_ind (i := 3) (by decide) _ _).2 hS
      refine anyL_take (fun _ => True) [] (i := 4) (v := ?_) rfl (by kernel_rfl) (by kernel_rfl) (by kernel_rfl) (fun _ _ _ h => h) (by kernel_rfl) (one_ind (i := 4) (by decide)) (fun _ _ _ _ => trivial) (Or.inl ⟨by rfl, ?_⟩) hS ?_
      rotate_left
      · intro X hX
        clear hX
        go_simp
        try with_reducible rfl
      try simp only [List.getElem_toArray, List.getElem_cons_zero, List.getElem_cons_succ]
      simp only [Act.put, List.setIfInBounds_toArray, List.set_cons_zero, List.set_cons_succ]
      replace hS := (one_ind (i := 4) (by decide) _ _).2 hS
      refine anyL_take (fun _ => True) [] (i := 5) (v := ?_) rfl (by kernel_rfl) (by kernel_rfl) (by kernel_rfl) (fun _ _ _ h => h) (by kernel_rfl) (one_ind (i := 5) (by decide)) (fun _ _ _ _ => trivial) (Or.inl ⟨by rfl, ?_⟩) hS ?_
      rotate_left
      · intro X hX
        clear hX
        go_simp
        try with_reducible rfl
      try simp only [List.getElem_toArray, List.getElem_cons_zero, List.getElem_cons_succ]
      simp only [Act.put, List.setIfInBounds_toArray, List.set_cons_zero, List.set_cons_succ]
      replace hS := (one_ind (i := 5) (by decide) _ _).2 hS
      refine anyL_take (fun _ => True) [] (i := 6) (v := ?_) rfl (by kernel_rfl) (by kernel_rfl) (by kernel_rfl) (fun _ _ _ h => h) (by kernel_rfl) (one_ind (i := 6) (by decide)) (fun _ _ _ _ => trivial) (Or.inl ⟨by rfl, ?_⟩) hS ?_
      rotate_left
      · intro X hX
        clear hX
        go_simp
        try with_reducible rfl
      try simp only [List.getElem_toArray, List.getElem_cons_zero, List.getElem_cons_succ]
      simp only [Act.put, List.setIfInBounds_toArray, List.set_cons_zero, List.set_cons_succ]
      replace hS := (one_ind (i := 6) (by decide) _ _).2 hS
      refine anyL_take (fun _ => True) [] (i := 7) (v := ?_) rfl (by kernel_rfl) (by kernel_rfl) (by kernel_rfl) (fun _ _ _ h => h) (by kernel_rfl) (one_ind (i := 7) (by decide)) (fun _ _ _ _ => trivial) (Or.inl ⟨by rfl, ?_⟩) hS ?_
      rotate_left
      · intro X hX
        clear hX
        go_simp
        try with_reducible rfl
      try simp only [List.getElem_toArray, List.getElem_cons_zero, List.getElem_cons_succ]
      simp only [Act.put, List.setIfInBounds_toArray, List.set_cons_zero, List.set_cons_succ]
      replace hS := (one_ind (i := 7) (by decide) _ _).2 hS
      refine anyL_take (fun _ => True) [] (i := 8) (v := ?_) rfl (by kernel_rfl) (by kernel_rfl) (by kernel_rfl) (fun _ _ _ h => h) (by kernel_rfl) (one_ind (i := 8) (by decide)) (fun _ _ _ _ => trivial) (Or.inl ⟨by rfl, ?_⟩) hS ?_
      rotate_left
      · intro X hX
        clear hX
        go_simp
        try with_reducible rfl
      try simp only [List.getElem_toArray, List.getElem_cons_zero, List.getElem_cons_succ]
      simp only [Act.put, List.setIfInBounds_toArray, List.set_cons_zero, List.set_cons_succ]
      replace hS := (one_ind (i := 8) (by decide) _ _).2 hS
      refine anyL_take (fun _ => True) [] (i := 9) (v := ?_) rfl (by kernel_rfl) (by kernel_rfl) (by kernel_rfl) (fun _ _ _ h => h) (by kernel_rfl) (one_ind (i := 9) (by decide)) (fun _ _ _ _ => trivial) (Or.inl ⟨by rfl, ?_⟩) hS ?_
      rotate_left
      · intro X hX
        clear hX
        go_simp
        try with_reducible rfl
      try simp only [List.getElem_toArray, List.getElem_cons_zero, List.getElem_cons_succ]
      simp only [Act.put, List.setIfInBounds_toArray, List.set_cons_zero, List.set_cons_succ]
      replace hS := (one_ind (i := 9) (by decide) _ _).2 hS
      refine anyL_take (fun _ => True) [] (i := 10) (v := ?_) rfl (by kernel_rfl) (by kernel_rfl) (by kernel_rfl) (fun _ _ _ h => h) (by kernel_rfl) (one_ind (i := 10) (by decide)) (fun _ _ _ _ => trivial) (Or.inl ⟨by rfl, ?_⟩) hS ?_
      rotate_left
      · intro X hX
        clear hX
        go_simp
        try with_reducible rfl
      try simp only [List.getElem_toArray, List.getElem_cons_zero, List.getElem_cons_succ]
      simp only [Act.put, List.setIfInBounds_toArray, List.set_cons_zero, List.set_cons_succ]
      replace hS := (one_ind (i := 10) (by decide) _ _).2 hS
      refine anyL_take (fun _ => True) [] (i := 11) (v := ?_) rfl (by kernel_rfl) (by kernel_rfl) (by kernel_rfl) (fun _ _ _ h => h) (by kernel_rfl) (one_ind (i := 11) (by decide)) (fun _ _ _ _ => trivial) (Or.inl ⟨by rfl, ?_⟩) hS ?_
      rotate_left
      · intro X hX
        clear hX
        go_simp
        try with_reducible rfl
      try simp only [List.getElem_toArray, List.getElem_cons_zero, List.getElem_cons_succ]
      simp only [Act.put, List.setIfInBounds_toArray, List.set_cons_zero, List.set_cons_succ]
      replace hS := (one_ind (i := 11) (by decide) _ _).2 hS
      refine anyL_take (fun X => Blk X w.heap.size 36 [.int .i64 kind, .int .i64 eid, .slice A ecode.length c, .int .i64 erad, .bool edead] ∧ Blk X b8 33 [.int .i64 p.id, .slice A6 p.code.length c6, .int .i64 p.rad, .bool p.dead] ∧ Blk X b9 33 [.int .i64 p.id, .slice A8 p.code.length c8, .int .i64 p.rad, .bool p.dead]) [] (i := 12) (v := ?_) rfl (by kernel_rfl) (by kernel_rfl) (by kernel_rfl) (fun _ _ _ h => h) (by kernel_rfl) (one_ind (i := 12) (by decide)) (fun L X h1 h2 => h2.2) (Or.inl ⟨by rfl, ?_⟩) hS ?_
      rotate_left
      · intro X hX
        obtain ⟨k0, k1, k2⟩ := hX; have g0 := k0.cell 0; have g1 := k0.cell 1; have g2 := k0.cell 2; have g3 := k0.cell 3; have g4 := k0.cell 4; have g5 := k1.cell 0; have g6 := k1.cell 1; have g7 := k1.cell 2; have g8 := k1.cell 3; have g9 := k2.cell 0; have g10 := k2.cell 1; have g11 := k2.cell 2; have g12 := k2.cell 3; simp only [List.getElem?_cons_zero, List.getElem?_cons_succ] at g0 g1 g2 g3 g4 g5 g6 g7 g8 g9 g10 g11 g12; clear k0 k1 k2
        go_simp
        try with_reducible rfl
      try simp only [List.getElem_toArray, List.getElem_cons_zero, List.getElem_cons_succ]
      simp only [Act.put, List.setIfInBounds_toArray, List.set_cons_zero, List.set_cons_succ]
      replace hS := (one_ind (i := 12) (by decide) _ _).2 hS
      refine anyL_take (fun _ => True) [] (i := 14) (v := ?_) rfl (by kernel_rfl) (by kernel_rfl) (by kernel_rfl) (fun _ _ _ h => h) (by kernel_rfl) (one_ind (i := 14) (by decide)) (fun _ _ _ _ => trivial) (Or.inl ⟨by rfl, ?_⟩) hS ?_
      rotate_left
      · intro X hX
        clear hX
        go_simp
        try with_reducible rfl
      try simp only [List.getElem_toArray, List.getElem_cons_zero, List.getElem_cons_succ]
      simp only [Act.put, List.setIfInBounds_toArray, List.set_cons_zero, List.set_cons_succ]
      replace hS := (one_ind (i := 14) (by decide) _ _).2 hS
      refine anyL_take (fun _ => True) [] (i := 15) (v := ?_) rfl (by kernel_rfl) (by kernel_rfl) (by kernel_rfl) (fun _ _ _ h => h) (by kernel_rfl) (one_ind (i := 15) (by decide)) (fun _ _ _ _ => trivial) (Or.inl ⟨by rfl, ?_⟩) hS ?_
      rotate_left
      · intro X hX
        clear hX
        go_simp
        try with_reducible rfl
      try simp only [List.getElem_toArray, List.getElem_cons_zero, List.getElem_cons_succ]
      simp only [Act.put, List.setIfInBounds_toArray, List.set_cons_zero, List.set_cons_succ]
      replace hS := (one_ind (i := 15) (by decide) _ _).2 hS
      refine anyL_take (fun _ => True) [] (i := 16) (v := ?_) rfl (by kernel_rfl) (by kernel_rfl) (by kernel_rfl) (fun _ _ _ h => h) (by kernel_rfl) (one_ind (i := 16) (by decide)) (fun _ _ _ _ => trivial) (Or.inl ⟨by rfl, ?_⟩) hS ?_
      rotate_left
      · intro X hX
        clear hX
        go_simp
        try with_reducible rfl
      try simp only [List.getElem_toArray, List.getElem_cons_zero, List.getElem_cons_succ]
      simp only [Act.put, List.setIfInBounds_toArray, List.set_cons_zero, List.set_cons_succ]
      replace hS := (one_ind (i := 16) (by decide) _ _).2 hS
      refine anyL_take (fun X => Blk X w.heap.size 36 [.int .i64 kind, .int .i64 eid, .slice A ecode.length c, .int .i64 erad, .bool edead] ∧ Blk X b8 33 [.int .i64 p.id, .slice A6 p.code.length c6, .int .i64 p.rad, .bool p.dead] ∧ Blk X b9 33 [.int .i64 p.id, .slice A8 p.code.length c8, .int .i64 p.rad, .bool p.dead]) [] (i := 17) (v := ?_) rfl (by kernel_rfl) (by kernel_rfl) (by kernel_rfl) (fun _ _ _ h => h) (by kernel_rfl) (one_ind (i := 17) (by decide)) (fun L X h1 h2 => h2.2) (Or.inl ⟨by rfl, ?_⟩) hS ?_
      rotate_left
      · intro X hX
        obtain ⟨k0, k1, k2⟩ := hX; have g0 := k0.cell 0; have g1 := k0.cell 1; have g2 := k0.cell 2; have g3 := k0.cell 3; have g4 := k0.cell 4; have g5 := k1.cell 0; have g6 := k1.cell 1; have g7 := k1.cell 2; have g8 := k1.cell 3; have g9 := k2.cell 0; have g10 := k2.cell 1; have g11 := k2.cell 2; have g12 := k2.cell 3; simp only [List.getElem?_cons_zero, List.getElem?_cons_succ] at g0 g1 g2 g3 g4 g5 g6 g7 g8 g9 g10 g11 g12; clear k0 k1 k2
        go_simp
        try with_reducible rfl
      try simp only [List.getElem_toArray, List.getElem_cons_zero, List.getElem_cons_succ]
      simp only [Act.put, List.setIfInBounds_toArray, List.set_cons_zero, List.set_cons_succ]
      replace hS := (one_ind (i := 17) (by decide) _ _).2 hS
      clear hS
      refine anyL_step (i := 13) (by kernel_rfl) rfl (by rfl) (fun K hK => ?_)
      go_simp
      refine (Has_calls S g parts es eid _ H.l hid).mono ?_
      rintro e _ ⟨rfl, rfl⟩
      rw [hpl]
      dsimp only
      refine hK.out _ _ ⟨fun _ => trivial, ka, kx, ky⟩ ?_
      clear hK K
      try simp only [Act.put, List.setIfInBounds_toArray, List.set_cons_zero, List.set_cons_succ]
      refine anyL_step (i := 18) (by kernel_rfl) rfl (by rfl) (fun K hK => ?_)
      go_simp
      refine (RHas_calls S' g' parts es eid _ H.r (by omega)).mono ?_
      rintro e _ ⟨rfl, rfl⟩
      rw [hpl]
      dsimp only
      refine hK.out _ _ ⟨fun _ => trivial, ka, kx, ky⟩ ?_
      clear hK K
      try simp only [Act.put, List.setIfInBounds_toArray, List.set_cons_zero, List.set_cons_succ]
      have hS : oneQ 99 (fun _ => True) (fun X => Blk X w.heap.size 36 [.int .i64 kind, .int .i64 eid, .slice A ecode.length c, .int .i64 erad, .bool edead] ∧ Blk X b8 33 [.int .i64 p.id, .slice A6 p.code.length c6, .int .i64 p.rad, .bool p.dead] ∧ Blk X b9 33 [.int .i64 p.id, .slice A8 p.code.length c8, .int .i64 p.rad, .bool p.dead]) ((((((((((((((((((((Array.replicate 22 false).setIfInBounds 0 true).setIfInBounds 1 true).setIfInBounds 2 true).setIfInBounds 3 true).setIfInBounds 4 true).setIfInBounds 5 true).setIfInBounds 6 true).setIfInBounds 7 true).setIfInBounds 8 true).setIfInBounds 9 true).setIfInBounds 10 true).setIfInBounds 11 true).setIfInBounds 12 true).setIfInBounds 14 true).setIfInBounds 15 true).setIfInBounds 16 true).setIfInBounds 17 true).setIfInBounds 13 true).setIfInBounds 18 true) u1 := ⟨fun _ => trivial, ka, kx, ky⟩
      refine anyL_take (fun _ => True) [] (i := 19) (v := ?_) rfl (by kernel_rfl) (by kernel_rfl) (by kernel_rfl) (fun _ _ _ h => h) (by kernel_rfl) (one_ind (i := 19) (by decide)) (fun _ _ _ _ => trivial) (Or.inl ⟨by rfl, ?_⟩) hS ?_
      rotate_left
      · intro X hX
        clear hX
        go_simp
        try with_reducible rfl
      try simp only [List.getElem_toArray, List.getElem_cons_zero, List.getElem_cons_succ]
      simp only [Act.put, List.setIfInBounds_toArray, List.set_cons_zero, List.set_cons_succ]
      replace hS := (one_ind (i := 19) (by decide) _ _).2 hS
      refine anyL_take (fun _ => True) [] (i := 20) (v := ?_) rfl (by kernel_rfl) (by kernel_rfl) (by kernel_rfl) (fun _ _ _ h => h) (by kernel_rfl) (one_ind (i := 20) (by decide)) (fun _ _ _ _ => trivial) (Or.inl ⟨by rfl, ?_⟩) hS ?_
      rotate_left
      · intro X hX
        clear hX
        go_simp
        try with_reducible rfl
      try simp only [List.getElem_toArray, List.getElem_cons_zero, List.getElem_cons_succ]
      simp only [Act.put, List.setIfInBounds_toArray, List.set_cons_zero, List.set_cons_succ]
      replace hS := (one_ind (i := 20) (by decide) _ _).2 hS
      clear hS
      refine anyL_step (i := 21) (by kernel_rfl) rfl (by rfl) (fun K hK => ?_)
      go_simp
      refine hK.out _ _ ⟨fun _ => trivial, ka, kx, ky⟩ ?_
      clear hK K
      try simp only [Act.put, List.setIfInBounds_toArray, List.set_cons_zero, List.set_cons_succ]
      refine anyL_done (by kernel_rfl) ?_ _
      go_wp2_with fail
      go_ret
      exact ⟨rfl, bt, es, S, S', H, by omega⟩
  · clear g0
    go_wp2_with fail
    refine (LCompact_calls S g parts es _ H.l (by omega)).mono ?_
    rintro e u2 ⟨rfl, L1, kp⟩
    have z2 := kp.size
    have H2 := H.left (by omega) L1 kp (fun k hk => .inl hk)
    replace bt := below_keep bt kp hz H.geL
    clear H L1 kp
    go_wp2_with fail
    refine (RCompact_calls S' g' parts es _ H2.r (by omega) hcl).mono ?_
    rintro e u3 ⟨rfl, L2, kp⟩
    have z3 := kp.size
    have H3 := H2.right (by omega) L2 kp (fun k hk => hk)
    replace bt := below_keep bt kp (by omega) H2.geR
    have nl := liveE_le es
    go_wp2_with fail
    go_ret
    exact ⟨rfl, bt, liveE es, S, _, H3, by omega⟩
end Go.Proofs.Ytikjmhijkegdgaa
