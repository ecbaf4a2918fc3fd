/- The law's example. -/
import Derived.Test.YtikjmhijkegdgaaListComp
import Derived.Test.YtikjmhijkegdgaaLit
namespace Go.Proofs.Ytikjmhijkegdgaa
set_option linter.unusedVariables false
set_option linter.unusedSimpArgs false
open Go.RowKit
abbrev exA : En := ⟨7, [3], 2, false⟩
abbrev exB : En := ⟨9, [0], 0, false⟩
def exK : List En := killE ([exA] ++ [exB]) 0
/-- A list's blocks lie from B on, and outside a part. -/
def Off (B a b : Nat) (S : Nat → Prop) : Prop := ∀ k, S k → B ≤ k ∧ ¬ (a ≤ k ∧ k < b)
theorem Off.grow {B a b : Nat} {S : Nat → Prop} {w w' : World} (h : Off B a b S) (hb : b ≤ w.heap.size) (hB : B ≤ w.heap.size) : Off B a b (grows S w w') := fun k hk => by
  rcases hk with hk | hk
  · exact h k hk
  · exact ⟨by omega, by omega⟩
theorem SlI.keep {w w' : World} {T : Nat → Prop} {k : IntKind} {x : Addr} {c : Nat} {xs : List Int} (h : SlI w k (some x) c xs) (hk : Keep T w w') (ht : ¬ T x.block) (hx : x.block < w.heap.size) : SlI w' k (some x) c xs :=
  h.same fun y hy => by injection hy with hy; subst hy; exact hk.block _ hx ht
/-- A slice of one entry, written out. -/
theorem one_ent (w : World) (e : En) (A : Option Addr) (c : Nat) (h : SlI w .u8 A c e.code) : SlE (w.alloc (.cells #[.int .i64 e.id, .slice A e.code.length c, .int .i64 e.rad, .bool e.dead] 33)) (some ⟨w.heap.size, 0, none⟩) 1 [e] := by
  have k := Blk.new w 33 [.int .i64 e.id, .slice A e.code.length c, .int .i64 e.rad, .bool e.dead]
  have b := below_box0 w (.cells #[.int .i64 e.id, .slice A e.code.length c, .int .i64 e.rad, .bool e.dead] 33)
  refine ⟨[⟨e, A, c⟩], rfl, by simp, by decide, fun q hq => ?_, fun j hj => ?_⟩
  · rw [List.mem_singleton] at hq
    subst hq
    exact ⟨h.below b, fun _ _ => trivial⟩
  · obtain rfl : j = 0 := by simp at hj; exact hj
    exact ⟨_, rfl, k.cell 0, k.cell 1, k.cell 2, k.cell 3⟩
set_option maxHeartbeats 4000000 in
set_option maxRecDepth 100000 in
theorem lives_calls (w : World) : Calls Try.prog 8 #[] w fun e w' => e = .returned (.bool true) ∧ Below w.heap.size w w' := by
  have hmix : Try.prog.follows .mixedOrders = true := by kernel_rfl
  go_enter Try.func8, Try.ntmps8
  go_wp2_with fail
  refine (New_calls 1 _ (by decide) (by decide)).mono ?_
  rintro e w1 ⟨g, rfl, L, b1, hg⟩
  have bw := b1.size
  go_wp2_with fail
  have o1 : Off w.heap.size w1.heap.size (w1.heap.size + 1 + 1 + 1 + 1) (seg w.heap.size w1.heap.size) := fun k hk => ⟨hk.1, by have := hk.2; omega⟩
  generalize seg w.heap.size w1.heap.size = S1 at *
  have c1 := below_box0 w1 (.cells #[.int .u8 3] 5)
  have sa := lit_at (w := w1) (k := .u8) (e := 5) (B := w1.heap.size) [3] rfl (by decide)
  have ka := Blk.new (w1.alloc (.cells #[.int .u8 3] 5)) 33 [.int .i64 7, .slice (some ⟨w1.heap.size, 0, none⟩) 1 1, .int .i64 2, .bool false]
  have c2 := below_box0 (w1.alloc (.cells #[.int .u8 3] 5)) (.cells #[.int .i64 7, .slice (some ⟨w1.heap.size, 0, none⟩) 1 1, .int .i64 2, .bool false] 33)
  have c3 := below_box0 ((w1.alloc (.cells #[.int .u8 3] 5)).alloc (.cells #[.int .i64 7, .slice (some ⟨w1.heap.size, 0, none⟩) 1 1, .int .i64 2, .bool false] 33)) (.cells #[.int .u8 0] 5)
  have sb := lit_at (w := (w1.alloc (.cells #[.int .u8 3] 5)).alloc (.cells #[.int .i64 7, .slice (some ⟨w1.heap.size, 0, none⟩) 1 1, .int .i64 2, .bool false] 33)) (k := .u8) (e := 5) (B := w1.heap.size + 1 + 1) [0] (by simp) (by decide)
  have c4 := below_box0 (((w1.alloc (.cells #[.int .u8 3] 5)).alloc (.cells #[.int .i64 7, .slice (some ⟨w1.heap.size, 0, none⟩) 1 1, .int .i64 2, .bool false] 33)).alloc (.cells #[.int .u8 0] 5)) (.cells #[.int .i64 9, .slice (some ⟨w1.heap.size + 1 + 1, 0, none⟩) 1 1, .int .i64 0, .bool false] 33)
  have kb := Blk.new (((w1.alloc (.cells #[.int .u8 3] 5)).alloc (.cells #[.int .i64 7, .slice (some ⟨w1.heap.size, 0, none⟩) 1 1, .int .i64 2, .bool false] 33)).alloc (.cells #[.int .u8 0] 5)) 33 [.int .i64 9, .slice (some ⟨w1.heap.size + 1 + 1, 0, none⟩) 1 1, .int .i64 0, .bool false]
  replace L := (((L.below c1).below c2).below c3).below c4
  have bt := below_trans (below_trans (below_trans (below_trans b1 c1) c2) c3) c4
  replace sa := ((sa.below c2).below c3).below c4
  replace sb := sb.below c4
  replace ka := (ka.below c3).below c4
  have e1 : (w1.alloc (.cells #[.int .u8 3] 5)).heap.size = w1.heap.size + 1 := by simp
  have e2 : (((w1.alloc (.cells #[.int .u8 3] 5)).alloc (.cells #[.int .i64 7, .slice (some ⟨w1.heap.size, 0, none⟩) 1 1, .int .i64 2, .bool false] 33)).alloc (.cells #[.int .u8 0] 5)).heap.size = w1.heap.size + 1 + 1 + 1 := by simp
  have hz : ((((w1.alloc (.cells #[.int .u8 3] 5)).alloc (.cells #[.int .i64 7, .slice (some ⟨w1.heap.size, 0, none⟩) 1 1, .int .i64 2, .bool false] 33)).alloc (.cells #[.int .u8 0] 5)).alloc (.cells #[.int .i64 9, .slice (some ⟨w1.heap.size + 1 + 1, 0, none⟩) 1 1, .int .i64 0, .bool false] 33)).heap.size = w1.heap.size + 1 + 1 + 1 + 1 := by simp
  rw [e1] at ka
  rw [e2] at kb
  clear c1 c2 c3 c4 e1 e2 b1
  generalize (((w1.alloc (.cells #[.int .u8 3] 5)).alloc (.cells #[.int .i64 7, .slice (some ⟨w1.heap.size, 0, none⟩) 1 1, .int .i64 2, .bool false] 33)).alloc (.cells #[.int .u8 0] 5)).alloc (.cells #[.int .i64 9, .slice (some ⟨w1.heap.size + 1 + 1, 0, none⟩) 1 1, .int .i64 0, .bool false] 33) = W at *
  refine region_L (oneQ 99 (fun _ => True) (fun X => Blk X (w1.heap.size + 1) 33 [.int .i64 7, .slice (some ⟨w1.heap.size, 0, none⟩) 1 1, .int .i64 2, .bool false] ∧ Blk X (w1.heap.size + 1 + 1 + 1) 33 [.int .i64 9, .slice (some ⟨w1.heap.size + 1 + 1, 0, none⟩) 1 1, .int .i64 0, .bool false])) hmix ?_
  have hS : oneQ 99 (fun _ => True) (fun X => Blk X (w1.heap.size + 1) 33 [.int .i64 7, .slice (some ⟨w1.heap.size, 0, none⟩) 1 1, .int .i64 2, .bool false] ∧ Blk X (w1.heap.size + 1 + 1 + 1) 33 [.int .i64 9, .slice (some ⟨w1.heap.size + 1 + 1, 0, none⟩) 1 1, .int .i64 0, .bool false]) (Array.replicate 49 false) W.drew := ⟨fun _ => trivial, ka, kb⟩
  have bd : Below W.heap.size W W.drew := (Below.refl _ _).drew
  replace ka := ka.below bd
  replace kb := kb.below bd
  replace sa := sa.below bd
  replace sb := sb.below bd
  replace L := L.below bd
  replace bt := below_trans bt bd
  have hzd : W.drew.heap.size = W.heap.size := rfl
  rw [← hzd] at hz
  clear bd
  refine anyL_take (fun _ => True) [] (i := 0) (v := ?_) rfl (by kernel_rfl) (by kernel_rfl) (by kernel_rfl) (fun _ _ _ h => h) (by kernel_rfl) (one_ind (i := 0) (by decide)) (fun _ _ _ _ => trivial) (Or.inl ⟨by rfl, ?_⟩) hS ?_
  rotate_left
  · intro X hX
    clear hX
    go_simp
    try with_reducible rfl
  try simp only [List.getElem_toArray, List.getElem_cons_zero, List.getElem_cons_succ]
  simp only [Act.put, List.setIfInBounds_toArray, List.set_cons_zero, List.set_cons_succ]
  replace hS := (one_ind (i := 0) (by decide) _ _).2 hS
  refine anyL_take (fun X => Blk X (w1.heap.size + 1) 33 [.int .i64 7, .slice (some ⟨w1.heap.size, 0, none⟩) 1 1, .int .i64 2, .bool false] ∧ Blk X (w1.heap.size + 1 + 1 + 1) 33 [.int .i64 9, .slice (some ⟨w1.heap.size + 1 + 1, 0, none⟩) 1 1, .int .i64 0, .bool false]) [] (i := 1) (v := ?_) rfl (by kernel_rfl) (by kernel_rfl) (by kernel_rfl) (fun _ _ _ h => h) (by kernel_rfl) (one_ind (i := 1) (by decide)) (fun L X h1 h2 => h2.2) (Or.inl ⟨by rfl, ?_⟩) hS ?_
  rotate_left
  · intro X hX
    obtain ⟨k0, k1⟩ := hX; have g0 := k0.cell 0; have g1 := k0.cell 1; have g2 := k0.cell 2; have g3 := k0.cell 3; have g4 := k1.cell 0; have g5 := k1.cell 1; have g6 := k1.cell 2; have g7 := k1.cell 3; simp only [List.getElem?_cons_zero, List.getElem?_cons_succ] at g0 g1 g2 g3 g4 g5 g6 g7; clear k0 k1
    go_simp
    try with_reducible rfl
  try simp only [List.getElem_toArray, List.getElem_cons_zero, List.getElem_cons_succ]
  simp only [Act.put, List.setIfInBounds_toArray, List.set_cons_zero, List.set_cons_succ]
  replace hS := (one_ind (i := 1) (by decide) _ _).2 hS
  clear hS
  refine anyL_step (i := 2) (by kernel_rfl) rfl (by rfl) (fun K hK => ?_)
  go_simp
  refine (LPut_calls S1 g 1 [] exA (some ⟨w1.heap.size, 0, none⟩) 1 _ L (by decide) (by decide) (by decide) rfl sa (by decide)).mono ?_
  rintro e u1 ⟨rfl, L1, kp⟩
  have o2 := o1.grow (w := W.drew) (w' := u1) (by omega) (by omega)
  have off := o1
  replace ka := ka.keep kp (fun hh => (off _ hh).2 (by omega))
  replace kb := kb.keep kp (fun hh => (off _ hh).2 (by omega))
  replace sa := sa.keep kp (fun hh => (off _ hh).2 (by show w1.heap.size ≤ w1.heap.size ∧ w1.heap.size < w1.heap.size + 1 + 1 + 1 + 1; omega)) (show w1.heap.size < _ by omega)
  replace sb := sb.keep kp (fun hh => (off _ hh).2 (by show w1.heap.size ≤ w1.heap.size + 1 + 1 ∧ w1.heap.size + 1 + 1 < w1.heap.size + 1 + 1 + 1 + 1; omega)) (show w1.heap.size + 1 + 1 < _ by omega)
  have bt' := below_keep bt kp (by omega) (fun k hk => (off k hk).1)
  have lz' := kp.size
  clear bt off
  have bt := bt'
  clear bt'
  generalize grows S1 W.drew u1 = S2 at *
  clear L
  dsimp only
  refine hK.out _ _ ⟨fun _ => trivial, ka, kb⟩ ?_
  clear hK K
  try simp only [Act.put, List.setIfInBounds_toArray, List.set_cons_zero, List.set_cons_succ]
  have hS : oneQ 99 (fun _ => True) (fun X => Blk X (w1.heap.size + 1) 33 [.int .i64 7, .slice (some ⟨w1.heap.size, 0, none⟩) 1 1, .int .i64 2, .bool false] ∧ Blk X (w1.heap.size + 1 + 1 + 1) 33 [.int .i64 9, .slice (some ⟨w1.heap.size + 1 + 1, 0, none⟩) 1 1, .int .i64 0, .bool false]) ((((Array.replicate 49 false).setIfInBounds 0 true).setIfInBounds 1 true).setIfInBounds 2 true) u1 := ⟨fun _ => trivial, ka, kb⟩
  refine anyL_take (fun _ => True) [] (i := 3) (v := ?_) rfl (by kernel_rfl) (by kernel_rfl) (by kernel_rfl) (fun _ _ _ h => h) (by kernel_rfl) (one_ind (i := 3) (by decide)) (fun _ _ _ _ => trivial) (Or.inl ⟨by rfl, ?_⟩) hS ?_
  rotate_left
  · intro X hX
    clear hX
    go_simp
    try with_reducible rfl
  try simp only [List.getElem_toArray, List.getElem_cons_zero, List.getElem_cons_succ]
  simp only [Act.put, List.setIfInBounds_toArray, List.set_cons_zero, List.set_cons_succ]
  replace hS := (one_ind (i := 3) (by decide) _ _).2 hS
  refine anyL_take (fun _ => True) [] (i := 4) (v := ?_) rfl (by kernel_rfl) (by kernel_rfl) (by kernel_rfl) (fun _ _ _ h => h) (by kernel_rfl) (one_ind (i := 4) (by decide)) (fun _ _ _ _ => trivial) (Or.inl ⟨by rfl, ?_⟩) hS ?_
  rotate_left
  · intro X hX
    clear hX
    go_simp
    try with_reducible rfl
  try simp only [List.getElem_toArray, List.getElem_cons_zero, List.getElem_cons_succ]
  simp only [Act.put, List.setIfInBounds_toArray, List.set_cons_zero, List.set_cons_succ]
  replace hS := (one_ind (i := 4) (by decide) _ _).2 hS
  refine anyL_take (fun _ => True) [] (i := 5) (v := ?_) rfl (by kernel_rfl) (by kernel_rfl) (by kernel_rfl) (fun _ _ _ h => h) (by kernel_rfl) (one_ind (i := 5) (by decide)) (fun _ _ _ _ => trivial) (Or.inl ⟨by rfl, ?_⟩) hS ?_
  rotate_left
  · intro X hX
    clear hX
    go_simp
    try with_reducible rfl
  try simp only [List.getElem_toArray, List.getElem_cons_zero, List.getElem_cons_succ]
  simp only [Act.put, List.setIfInBounds_toArray, List.set_cons_zero, List.set_cons_succ]
  replace hS := (one_ind (i := 5) (by decide) _ _).2 hS
  refine anyL_take (fun X => Blk X (w1.heap.size + 1) 33 [.int .i64 7, .slice (some ⟨w1.heap.size, 0, none⟩) 1 1, .int .i64 2, .bool false] ∧ Blk X (w1.heap.size + 1 + 1 + 1) 33 [.int .i64 9, .slice (some ⟨w1.heap.size + 1 + 1, 0, none⟩) 1 1, .int .i64 0, .bool false]) [] (i := 6) (v := ?_) rfl (by kernel_rfl) (by kernel_rfl) (by kernel_rfl) (fun _ _ _ h => h) (by kernel_rfl) (one_ind (i := 6) (by decide)) (fun L X h1 h2 => h2.2) (Or.inl ⟨by rfl, ?_⟩) hS ?_
  rotate_left
  · intro X hX
    obtain ⟨k0, k1⟩ := hX; have g0 := k0.cell 0; have g1 := k0.cell 1; have g2 := k0.cell 2; have g3 := k0.cell 3; have g4 := k1.cell 0; have g5 := k1.cell 1; have g6 := k1.cell 2; have g7 := k1.cell 3; simp only [List.getElem?_cons_zero, List.getElem?_cons_succ] at g0 g1 g2 g3 g4 g5 g6 g7; clear k0 k1
    go_simp
    try with_reducible rfl
  try simp only [List.getElem_toArray, List.getElem_cons_zero, List.getElem_cons_succ]
  simp only [Act.put, List.setIfInBounds_toArray, List.set_cons_zero, List.set_cons_succ]
  replace hS := (one_ind (i := 6) (by decide) _ _).2 hS
  clear hS
  refine anyL_step (i := 7) (by kernel_rfl) rfl (by rfl) (fun K hK => ?_)
  go_simp
  refine (LPut_calls S2 g 1 [exA] exB (some ⟨w1.heap.size + 1 + 1, 0, none⟩) 1 _ L1 (by decide) (by decide) (by decide) (by decide) sb (by decide)).mono ?_
  rintro e u2 ⟨rfl, L2, kp2⟩
  have o3 := o2.grow (w := u1) (w' := u2) (by omega) (by omega)
  have off := o2
  replace ka := ka.keep kp2 (fun hh => (off _ hh).2 (by omega))
  replace kb := kb.keep kp2 (fun hh => (off _ hh).2 (by omega))
  replace sa := sa.keep kp2 (fun hh => (off _ hh).2 (by show w1.heap.size ≤ w1.heap.size ∧ w1.heap.size < w1.heap.size + 1 + 1 + 1 + 1; omega)) (show w1.heap.size < _ by omega)
  replace sb := sb.keep kp2 (fun hh => (off _ hh).2 (by show w1.heap.size ≤ w1.heap.size + 1 + 1 ∧ w1.heap.size + 1 + 1 < w1.heap.size + 1 + 1 + 1 + 1; omega)) (show w1.heap.size + 1 + 1 < _ by omega)
  have bt' := below_keep bt kp2 (by omega) (fun k hk => (off k hk).1)
  have lz' := kp2.size
  clear bt off
  have bt := bt'
  clear bt'
  generalize grows S2 u1 u2 = S3 at *
  clear L1
  dsimp only
  refine hK.out _ _ ⟨fun _ => trivial, ka, kb⟩ ?_
  clear hK K
  try simp only [Act.put, List.setIfInBounds_toArray, List.set_cons_zero, List.set_cons_succ]
  have hS : oneQ 99 (fun _ => True) (fun X => Blk X (w1.heap.size + 1) 33 [.int .i64 7, .slice (some ⟨w1.heap.size, 0, none⟩) 1 1, .int .i64 2, .bool false] ∧ Blk X (w1.heap.size + 1 + 1 + 1) 33 [.int .i64 9, .slice (some ⟨w1.heap.size + 1 + 1, 0, none⟩) 1 1, .int .i64 0, .bool false]) (((((((((Array.replicate 49 false).setIfInBounds 0 true).setIfInBounds 1 true).setIfInBounds 2 true).setIfInBounds 3 true).setIfInBounds 4 true).setIfInBounds 5 true).setIfInBounds 6 true).setIfInBounds 7 true) u2 := ⟨fun _ => trivial, ka, kb⟩
  refine anyL_take (fun _ => True) [] (i := 8) (v := ?_) rfl (by kernel_rfl) (by kernel_rfl) (by kernel_rfl) (fun _ _ _ h => h) (by kernel_rfl) (one_ind (i := 8) (by decide)) (fun _ _ _ _ => trivial) (Or.inl ⟨by rfl, ?_⟩) hS ?_
  rotate_left
  · intro X hX
    clear hX
    go_simp
    try with_reducible rfl
  try simp only [List.getElem_toArray, List.getElem_cons_zero, List.getElem_cons_succ]
  simp only [Act.put, List.setIfInBounds_toArray, List.set_cons_zero, List.set_cons_succ]
  replace hS := (one_ind (i := 8) (by decide) _ _).2 hS
  refine anyL_take (fun _ => True) [] (i := 9) (v := ?_) rfl (by kernel_rfl) (by kernel_rfl) (by kernel_rfl) (fun _ _ _ h => h) (by kernel_rfl) (one_ind (i := 9) (by decide)) (fun _ _ _ _ => trivial) (Or.inl ⟨by rfl, ?_⟩) hS ?_
  rotate_left
  · intro X hX
    clear hX
    go_simp
    try with_reducible rfl
  try simp only [List.getElem_toArray, List.getElem_cons_zero, List.getElem_cons_succ]
  simp only [Act.put, List.setIfInBounds_toArray, List.set_cons_zero, List.set_cons_succ]
  replace hS := (one_ind (i := 9) (by decide) _ _).2 hS
  refine anyL_take (fun _ => True) [] (i := 10) (v := ?_) rfl (by kernel_rfl) (by kernel_rfl) (by kernel_rfl) (fun _ _ _ h => h) (by kernel_rfl) (one_ind (i := 10) (by decide)) (fun _ _ _ _ => trivial) (Or.inl ⟨by rfl, ?_⟩) hS ?_
  rotate_left
  · intro X hX
    clear hX
    go_simp
    try with_reducible rfl
  try simp only [List.getElem_toArray, List.getElem_cons_zero, List.getElem_cons_succ]
  simp only [Act.put, List.setIfInBounds_toArray, List.set_cons_zero, List.set_cons_succ]
  replace hS := (one_ind (i := 10) (by decide) _ _).2 hS
  refine anyL_take (fun _ => True) [] (i := 11) (v := ?_) rfl (by kernel_rfl) (by kernel_rfl) (by kernel_rfl) (fun _ _ _ h => h) (by kernel_rfl) (one_ind (i := 11) (by decide)) (fun _ _ _ _ => trivial) (Or.inl ⟨by rfl, ?_⟩) hS ?_
  rotate_left
  · intro X hX
    clear hX
    go_simp
    try with_reducible rfl
  try simp only [List.getElem_toArray, List.getElem_cons_zero, List.getElem_cons_succ]
  simp only [Act.put, List.setIfInBounds_toArray, List.set_cons_zero, List.set_cons_succ]
  replace hS := (one_ind (i := 11) (by decide) _ _).2 hS
  refine anyL_take (fun X => Blk X (w1.heap.size + 1) 33 [.int .i64 7, .slice (some ⟨w1.heap.size, 0, none⟩) 1 1, .int .i64 2, .bool false] ∧ Blk X (w1.heap.size + 1 + 1 + 1) 33 [.int .i64 9, .slice (some ⟨w1.heap.size + 1 + 1, 0, none⟩) 1 1, .int .i64 0, .bool false]) [] (i := 12) (v := ?_) rfl (by kernel_rfl) (by kernel_rfl) (by kernel_rfl) (fun _ _ _ h => h) (by kernel_rfl) (one_ind (i := 12) (by decide)) (fun L X h1 h2 => h2.2) (Or.inl ⟨by rfl, ?_⟩) hS ?_
  rotate_left
  · intro X hX
    obtain ⟨k0, k1⟩ := hX; have g0 := k0.cell 0; have g1 := k0.cell 1; have g2 := k0.cell 2; have g3 := k0.cell 3; have g4 := k1.cell 0; have g5 := k1.cell 1; have g6 := k1.cell 2; have g7 := k1.cell 3; simp only [List.getElem?_cons_zero, List.getElem?_cons_succ] at g0 g1 g2 g3 g4 g5 g6 g7; clear k0 k1
    go_simp
    try with_reducible rfl
  try simp only [List.getElem_toArray, List.getElem_cons_zero, List.getElem_cons_succ]
  simp only [Act.put, List.setIfInBounds_toArray, List.set_cons_zero, List.set_cons_succ]
  replace hS := (one_ind (i := 12) (by decide) _ _).2 hS
  clear hS
  refine anyL_step (i := 13) (by kernel_rfl) rfl (by rfl) (fun K hK => ?_)
  go_simp
  refine (LPut_there S3 g 1 ([exA] ++ [exB]) exA (some ⟨w1.heap.size, 0, none⟩) 1 _ L2 (by decide) (by decide) (by decide) (by decide)).mono ?_
  rintro e u3 ⟨rfl, b3⟩
  replace ka := ka.below b3
  replace kb := kb.below b3
  replace bt := below_trans bt b3
  replace L2 := L2.below b3
  replace sb := sb.below b3
  have lzb3 := b3.size
  dsimp only
  refine hK.out _ _ ⟨fun _ => trivial, ka, kb⟩ ?_
  clear hK K
  try simp only [Act.put, List.setIfInBounds_toArray, List.set_cons_zero, List.set_cons_succ]
  have hS : oneQ 99 (fun _ => True) (fun X => Blk X (w1.heap.size + 1) 33 [.int .i64 7, .slice (some ⟨w1.heap.size, 0, none⟩) 1 1, .int .i64 2, .bool false] ∧ Blk X (w1.heap.size + 1 + 1 + 1) 33 [.int .i64 9, .slice (some ⟨w1.heap.size + 1 + 1, 0, none⟩) 1 1, .int .i64 0, .bool false]) (((((((((((((((Array.replicate 49 false).setIfInBounds 0 true).setIfInBounds 1 true).setIfInBounds 2 true).setIfInBounds 3 true).setIfInBounds 4 true).setIfInBounds 5 true).setIfInBounds 6 true).setIfInBounds 7 true).setIfInBounds 8 true).setIfInBounds 9 true).setIfInBounds 10 true).setIfInBounds 11 true).setIfInBounds 12 true).setIfInBounds 13 true) u3 := ⟨fun _ => trivial, ka, kb⟩
  refine anyL_take (fun _ => True) [] (i := 14) (v := ?_) rfl (by kernel_rfl) (by kernel_rfl) (by kernel_rfl) (fun _ _ _ h => h) (by kernel_rfl) (one_ind (i := 14) (by decide)) (fun _ _ _ _ => trivial) (Or.inl ⟨by rfl, ?_⟩) hS ?_
  rotate_left
  · intro X hX
    clear hX
    go_simp
    try with_reducible rfl
  try simp only [List.getElem_toArray, List.getElem_cons_zero, List.getElem_cons_succ]
  simp only [Act.put, List.setIfInBounds_toArray, List.set_cons_zero, List.set_cons_succ]
  replace hS := (one_ind (i := 14) (by decide) _ _).2 hS
  refine anyL_take (fun _ => True) [] (i := 15) (v := ?_) rfl (by kernel_rfl) (by kernel_rfl) (by kernel_rfl) (fun _ _ _ h => h) (by kernel_rfl) (one_ind (i := 15) (by decide)) (fun _ _ _ _ => trivial) (Or.inl ⟨by rfl, ?_⟩) hS ?_
  rotate_left
  · intro X hX
    clear hX
    go_simp
    try with_reducible rfl
  try simp only [List.getElem_toArray, List.getElem_cons_zero, List.getElem_cons_succ]
  simp only [Act.put, List.setIfInBounds_toArray, List.set_cons_zero, List.set_cons_succ]
  replace hS := (one_ind (i := 15) (by decide) _ _).2 hS
  refine anyL_take (fun _ => True) [] (i := 16) (v := ?_) rfl (by kernel_rfl) (by kernel_rfl) (by kernel_rfl) (fun _ _ _ h => h) (by kernel_rfl) (one_ind (i := 16) (by decide)) (fun _ _ _ _ => trivial) (Or.inl ⟨by rfl, ?_⟩) hS ?_
  rotate_left
  · intro X hX
    clear hX
    go_simp
    try with_reducible rfl
  try simp only [List.getElem_toArray, List.getElem_cons_zero, List.getElem_cons_succ]
  simp only [Act.put, List.setIfInBounds_toArray, List.set_cons_zero, List.set_cons_succ]
  replace hS := (one_ind (i := 16) (by decide) _ _).2 hS
  refine anyL_take (fun _ => True) [] (i := 17) (v := ?_) rfl (by kernel_rfl) (by kernel_rfl) (by kernel_rfl) (fun _ _ _ h => h) (by kernel_rfl) (one_ind (i := 17) (by decide)) (fun _ _ _ _ => trivial) (Or.inl ⟨by rfl, ?_⟩) hS ?_
  rotate_left
  · intro X hX
    clear hX
    go_simp
    try with_reducible rfl
  try simp only [List.getElem_toArray, List.getElem_cons_zero, List.getElem_cons_succ]
  simp only [Act.put, List.setIfInBounds_toArray, List.set_cons_zero, List.set_cons_succ]
  replace hS := (one_ind (i := 17) (by decide) _ _).2 hS
  clear hS
  refine anyL_step (i := 18) (by kernel_rfl) rfl (by rfl) (fun K hK => ?_)
  go_simp
  refine (LKill_calls S3 g 1 ([exA] ++ [exB]) 7 0 _ L2 (by decide) (by decide)).mono ?_
  rintro e u4 ⟨rfl, L4, kp4⟩
  have off := o3
  replace ka := ka.keep kp4 (fun hh => (off _ hh).2 (by omega))
  replace kb := kb.keep kp4 (fun hh => (off _ hh).2 (by omega))
  replace sb := sb.keep kp4 (fun hh => (off _ hh).2 (by show w1.heap.size ≤ w1.heap.size + 1 + 1 ∧ w1.heap.size + 1 + 1 < w1.heap.size + 1 + 1 + 1 + 1; omega)) (show w1.heap.size + 1 + 1 < _ by omega)
  have bt' := below_keep bt kp4 (by omega) (fun k hk => (off k hk).1)
  have lz' := kp4.size
  clear bt off
  have bt := bt'
  clear bt'
  clear L2
  dsimp only
  refine hK.out _ _ ⟨fun _ => trivial, ka, kb⟩ ?_
  clear hK K
  try simp only [Act.put, List.setIfInBounds_toArray, List.set_cons_zero, List.set_cons_succ]
  have hS : oneQ 99 (fun _ => True) (fun X => Blk X (w1.heap.size + 1) 33 [.int .i64 7, .slice (some ⟨w1.heap.size, 0, none⟩) 1 1, .int .i64 2, .bool false] ∧ Blk X (w1.heap.size + 1 + 1 + 1) 33 [.int .i64 9, .slice (some ⟨w1.heap.size + 1 + 1, 0, none⟩) 1 1, .int .i64 0, .bool false]) ((((((((((((((((((((Array.replicate 49 false).setIfInBounds 0 true).setIfInBounds 1 true).setIfInBounds 2 true).setIfInBounds 3 true).setIfInBounds 4 true).setIfInBounds 5 true).setIfInBounds 6 true).setIfInBounds 7 true).setIfInBounds 8 true).setIfInBounds 9 true).setIfInBounds 10 true).setIfInBounds 11 true).setIfInBounds 12 true).setIfInBounds 13 true).setIfInBounds 14 true).setIfInBounds 15 true).setIfInBounds 16 true).setIfInBounds 17 true).setIfInBounds 18 true) u4 := ⟨fun _ => trivial, ka, kb⟩
  refine anyL_take (fun _ => True) [] (i := 19) (v := ?_) rfl (by kernel_rfl) (by kernel_rfl) (by kernel_rfl) (fun _ _ _ h => h) (by kernel_rfl) (one_ind (i := 19) (by decide)) (fun _ _ _ _ => trivial) (Or.inl ⟨by rfl, ?_⟩) hS ?_
  rotate_left
  · intro X hX
    clear hX
    go_simp
    try with_reducible rfl
  try simp only [List.getElem_toArray, List.getElem_cons_zero, List.getElem_cons_succ]
  simp only [Act.put, List.setIfInBounds_toArray, List.set_cons_zero, List.set_cons_succ]
  replace hS := (one_ind (i := 19) (by decide) _ _).2 hS
  refine anyL_take (fun _ => True) [] (i := 20) (v := ?_) rfl (by kernel_rfl) (by kernel_rfl) (by kernel_rfl) (fun _ _ _ h => h) (by kernel_rfl) (one_ind (i := 20) (by decide)) (fun _ _ _ _ => trivial) (Or.inl ⟨by rfl, ?_⟩) hS ?_
  rotate_left
  · intro X hX
    clear hX
    go_simp
    try with_reducible rfl
  try simp only [List.getElem_toArray, List.getElem_cons_zero, List.getElem_cons_succ]
  simp only [Act.put, List.setIfInBounds_toArray, List.set_cons_zero, List.set_cons_succ]
  replace hS := (one_ind (i := 20) (by decide) _ _).2 hS
  refine anyL_take (fun _ => True) [] (i := 21) (v := ?_) rfl (by kernel_rfl) (by kernel_rfl) (by kernel_rfl) (fun _ _ _ h => h) (by kernel_rfl) (one_ind (i := 21) (by decide)) (fun _ _ _ _ => trivial) (Or.inl ⟨by rfl, ?_⟩) hS ?_
  rotate_left
  · intro X hX
    clear hX
    go_simp
    try with_reducible rfl
  try simp only [List.getElem_toArray, List.getElem_cons_zero, List.getElem_cons_succ]
  simp only [Act.put, List.setIfInBounds_toArray, List.set_cons_zero, List.set_cons_succ]
  replace hS := (one_ind (i := 21) (by decide) _ _).2 hS
  refine anyL_take (fun _ => True) [] (i := 22) (v := ?_) rfl (by kernel_rfl) (by kernel_rfl) (by kernel_rfl) (fun _ _ _ h => h) (by kernel_rfl) (one_ind (i := 22) (by decide)) (fun _ _ _ _ => trivial) (Or.inl ⟨by rfl, ?_⟩) hS ?_
  rotate_left
  · intro X hX
    clear hX
    go_simp
    try with_reducible rfl
  try simp only [List.getElem_toArray, List.getElem_cons_zero, List.getElem_cons_succ]
  simp only [Act.put, List.setIfInBounds_toArray, List.set_cons_zero, List.set_cons_succ]
  replace hS := (one_ind (i := 22) (by decide) _ _).2 hS
  clear hS
  refine anyL_step (i := 23) (by kernel_rfl) rfl (by rfl) (fun K hK => ?_)
  go_simp
  refine (LKill_no S3 g 1 exK 7 _ L4 (by decide) (by decide)).mono ?_
  rintro e u5 ⟨rfl, rfl⟩
  dsimp only
  refine hK.out _ _ ⟨fun _ => trivial, ka, kb⟩ ?_
  clear hK K
  try simp only [Act.put, List.setIfInBounds_toArray, List.set_cons_zero, List.set_cons_succ]
  have hS : oneQ 99 (fun _ => True) (fun X => Blk X (w1.heap.size + 1) 33 [.int .i64 7, .slice (some ⟨w1.heap.size, 0, none⟩) 1 1, .int .i64 2, .bool false] ∧ Blk X (w1.heap.size + 1 + 1 + 1) 33 [.int .i64 9, .slice (some ⟨w1.heap.size + 1 + 1, 0, none⟩) 1 1, .int .i64 0, .bool false]) (((((((((((((((((((((((((Array.replicate 49 false).setIfInBounds 0 true).setIfInBounds 1 true).setIfInBounds 2 true).setIfInBounds 3 true).setIfInBounds 4 true).setIfInBounds 5 true).setIfInBounds 6 true).setIfInBounds 7 true).setIfInBounds 8 true).setIfInBounds 9 true).setIfInBounds 10 true).setIfInBounds 11 true).setIfInBounds 12 true).setIfInBounds 13 true).setIfInBounds 14 true).setIfInBounds 15 true).setIfInBounds 16 true).setIfInBounds 17 true).setIfInBounds 18 true).setIfInBounds 19 true).setIfInBounds 20 true).setIfInBounds 21 true).setIfInBounds 22 true).setIfInBounds 23 true) u4 := ⟨fun _ => trivial, ka, kb⟩
  refine anyL_take (fun _ => True) [] (i := 24) (v := ?_) rfl (by kernel_rfl) (by kernel_rfl) (by kernel_rfl) (fun _ _ _ h => h) (by kernel_rfl) (one_ind (i := 24) (by decide)) (fun _ _ _ _ => trivial) (Or.inl ⟨by rfl, ?_⟩) hS ?_
  rotate_left
  · intro X hX
    clear hX
    go_simp
    try with_reducible rfl
  try simp only [List.getElem_toArray, List.getElem_cons_zero, List.getElem_cons_succ]
  simp only [Act.put, List.setIfInBounds_toArray, List.set_cons_zero, List.set_cons_succ]
  replace hS := (one_ind (i := 24) (by decide) _ _).2 hS
  refine anyL_take (fun _ => True) [] (i := 25) (v := ?_) rfl (by kernel_rfl) (by kernel_rfl) (by kernel_rfl) (fun _ _ _ h => h) (by kernel_rfl) (one_ind (i := 25) (by decide)) (fun _ _ _ _ => trivial) (Or.inl ⟨by rfl, ?_⟩) hS ?_
  rotate_left
  · intro X hX
    clear hX
    go_simp
    try with_reducible rfl
  try simp only [List.getElem_toArray, List.getElem_cons_zero, List.getElem_cons_succ]
  simp only [Act.put, List.setIfInBounds_toArray, List.set_cons_zero, List.set_cons_succ]
  replace hS := (one_ind (i := 25) (by decide) _ _).2 hS
  refine anyL_take (fun _ => True) [] (i := 26) (v := ?_) rfl (by kernel_rfl) (by kernel_rfl) (by kernel_rfl) (fun _ _ _ h => h) (by kernel_rfl) (one_ind (i := 26) (by decide)) (fun _ _ _ _ => trivial) (Or.inl ⟨by rfl, ?_⟩) hS ?_
  rotate_left
  · intro X hX
    clear hX
    go_simp
    try with_reducible rfl
  try simp only [List.getElem_toArray, List.getElem_cons_zero, List.getElem_cons_succ]
  simp only [Act.put, List.setIfInBounds_toArray, List.set_cons_zero, List.set_cons_succ]
  replace hS := (one_ind (i := 26) (by decide) _ _).2 hS
  refine anyL_take (fun _ => True) [] (i := 27) (v := ?_) rfl (by kernel_rfl) (by kernel_rfl) (by kernel_rfl) (fun _ _ _ h => h) (by kernel_rfl) (one_ind (i := 27) (by decide)) (fun _ _ _ _ => trivial) (Or.inl ⟨by rfl, ?_⟩) hS ?_
  rotate_left
  · intro X hX
    clear hX
    go_simp
    try with_reducible rfl
  try simp only [List.getElem_toArray, List.getElem_cons_zero, List.getElem_cons_succ]
  simp only [Act.put, List.setIfInBounds_toArray, List.set_cons_zero, List.set_cons_succ]
  replace hS := (one_ind (i := 27) (by decide) _ _).2 hS
  clear hS
  refine anyL_step (i := 28) (by kernel_rfl) rfl (by rfl) (fun K hK => ?_)
  go_simp
  refine (Count_calls S3 g 1 exK _ L4).mono ?_
  rintro e u6 ⟨rfl, rfl⟩
  rw [show (liveE exK).length = 1 from by decide]
  dsimp only
  refine hK.out _ _ ⟨fun _ => trivial, ka, kb⟩ ?_
  clear hK K
  try simp only [Act.put, List.setIfInBounds_toArray, List.set_cons_zero, List.set_cons_succ]
  have hS : oneQ 99 (fun _ => True) (fun X => Blk X (w1.heap.size + 1) 33 [.int .i64 7, .slice (some ⟨w1.heap.size, 0, none⟩) 1 1, .int .i64 2, .bool false] ∧ Blk X (w1.heap.size + 1 + 1 + 1) 33 [.int .i64 9, .slice (some ⟨w1.heap.size + 1 + 1, 0, none⟩) 1 1, .int .i64 0, .bool false]) ((((((((((((((((((((((((((((((Array.replicate 49 false).setIfInBounds 0 true).setIfInBounds 1 true).setIfInBounds 2 true).setIfInBounds 3 true).setIfInBounds 4 true).setIfInBounds 5 true).setIfInBounds 6 true).setIfInBounds 7 true).setIfInBounds 8 true).setIfInBounds 9 true).setIfInBounds 10 true).setIfInBounds 11 true).setIfInBounds 12 true).setIfInBounds 13 true).setIfInBounds 14 true).setIfInBounds 15 true).setIfInBounds 16 true).setIfInBounds 17 true).setIfInBounds 18 true).setIfInBounds 19 true).setIfInBounds 20 true).setIfInBounds 21 true).setIfInBounds 22 true).setIfInBounds 23 true).setIfInBounds 24 true).setIfInBounds 25 true).setIfInBounds 26 true).setIfInBounds 27 true).setIfInBounds 28 true) u4 := ⟨fun _ => trivial, ka, kb⟩
  refine anyL_take (fun _ => True) [] (i := 29) (v := ?_) rfl (by kernel_rfl) (by kernel_rfl) (by kernel_rfl) (fun _ _ _ h => h) (by kernel_rfl) (one_ind (i := 29) (by decide)) (fun _ _ _ _ => trivial) (Or.inl ⟨by rfl, ?_⟩) hS ?_
  rotate_left
  · intro X hX
    clear hX
    go_simp
    try with_reducible rfl
  try simp only [List.getElem_toArray, List.getElem_cons_zero, List.getElem_cons_succ]
  simp only [Act.put, List.setIfInBounds_toArray, List.set_cons_zero, List.set_cons_succ]
  replace hS := (one_ind (i := 29) (by decide) _ _).2 hS
  refine anyL_take (fun _ => True) [] (i := 30) (v := ?_) rfl (by kernel_rfl) (by kernel_rfl) (by kernel_rfl) (fun _ _ _ h => h) (by kernel_rfl) (one_ind (i := 30) (by decide)) (fun _ _ _ _ => trivial) (Or.inl ⟨by rfl, ?_⟩) hS ?_
  rotate_left
  · intro X hX
    clear hX
    go_simp
    try with_reducible rfl
  try simp only [List.getElem_toArray, List.getElem_cons_zero, List.getElem_cons_succ]
  simp only [Act.put, List.setIfInBounds_toArray, List.set_cons_zero, List.set_cons_succ]
  replace hS := (one_ind (i := 30) (by decide) _ _).2 hS
  refine anyL_take (fun _ => True) [] (i := 31) (v := ?_) rfl (by kernel_rfl) (by kernel_rfl) (by kernel_rfl) (fun _ _ _ h => h) (by kernel_rfl) (one_ind (i := 31) (by decide)) (fun _ _ _ _ => trivial) (Or.inl ⟨by rfl, ?_⟩) hS ?_
  rotate_left
  · intro X hX
    clear hX
    go_simp
    try with_reducible rfl
  try simp only [List.getElem_toArray, List.getElem_cons_zero, List.getElem_cons_succ]
  simp only [Act.put, List.setIfInBounds_toArray, List.set_cons_zero, List.set_cons_succ]
  replace hS := (one_ind (i := 31) (by decide) _ _).2 hS
  refine anyL_take (fun _ => True) [] (i := 32) (v := ?_) rfl (by kernel_rfl) (by kernel_rfl) (by kernel_rfl) (fun _ _ _ h => h) (by kernel_rfl) (one_ind (i := 32) (by decide)) (fun _ _ _ _ => trivial) (Or.inl ⟨by rfl, ?_⟩) hS ?_
  rotate_left
  · intro X hX
    clear hX
    go_simp
    try with_reducible rfl
  try simp only [List.getElem_toArray, List.getElem_cons_zero, List.getElem_cons_succ]
  simp only [Act.put, List.setIfInBounds_toArray, List.set_cons_zero, List.set_cons_succ]
  replace hS := (one_ind (i := 32) (by decide) _ _).2 hS
  clear hS
  refine anyL_step (i := 33) (by kernel_rfl) rfl (by rfl) (fun K hK => ?_)
  go_simp
  refine (Stored_calls S3 g 1 exK _ L4).mono ?_
  rintro e u7 ⟨rfl, rfl⟩
  rw [show exK.length = 2 from by decide]
  dsimp only
  refine hK.out _ _ ⟨fun _ => trivial, ka, kb⟩ ?_
  clear hK K
  try simp only [Act.put, List.setIfInBounds_toArray, List.set_cons_zero, List.set_cons_succ]
  have hS : oneQ 99 (fun _ => True) (fun X => Blk X (w1.heap.size + 1) 33 [.int .i64 7, .slice (some ⟨w1.heap.size, 0, none⟩) 1 1, .int .i64 2, .bool false] ∧ Blk X (w1.heap.size + 1 + 1 + 1) 33 [.int .i64 9, .slice (some ⟨w1.heap.size + 1 + 1, 0, none⟩) 1 1, .int .i64 0, .bool false]) (((((((((((((((((((((((((((((((((((Array.replicate 49 false).setIfInBounds 0 true).setIfInBounds 1 true).setIfInBounds 2 true).setIfInBounds 3 true).setIfInBounds 4 true).setIfInBounds 5 true).setIfInBounds 6 true).setIfInBounds 7 true).setIfInBounds 8 true).setIfInBounds 9 true).setIfInBounds 10 true).setIfInBounds 11 true).setIfInBounds 12 true).setIfInBounds 13 true).setIfInBounds 14 true).setIfInBounds 15 true).setIfInBounds 16 true).setIfInBounds 17 true).setIfInBounds 18 true).setIfInBounds 19 true).setIfInBounds 20 true).setIfInBounds 21 true).setIfInBounds 22 true).setIfInBounds 23 true).setIfInBounds 24 true).setIfInBounds 25 true).setIfInBounds 26 true).setIfInBounds 27 true).setIfInBounds 28 true).setIfInBounds 29 true).setIfInBounds 30 true).setIfInBounds 31 true).setIfInBounds 32 true).setIfInBounds 33 true) u4 := ⟨fun _ => trivial, ka, kb⟩
  refine anyL_take (fun _ => True) [] (i := 34) (v := ?_) rfl (by kernel_rfl) (by kernel_rfl) (by kernel_rfl) (fun _ _ _ h => h) (by kernel_rfl) (one_ind (i := 34) (by decide)) (fun _ _ _ _ => trivial) (Or.inl ⟨by rfl, ?_⟩) hS ?_
  rotate_left
  · intro X hX
    clear hX
    go_simp
    try with_reducible rfl
  try simp only [List.getElem_toArray, List.getElem_cons_zero, List.getElem_cons_succ]
  simp only [Act.put, List.setIfInBounds_toArray, List.set_cons_zero, List.set_cons_succ]
  replace hS := (one_ind (i := 34) (by decide) _ _).2 hS
  refine anyL_take (fun _ => True) [] (i := 35) (v := ?_) rfl (by kernel_rfl) (by kernel_rfl) (by kernel_rfl) (fun _ _ _ h => h) (by kernel_rfl) (one_ind (i := 35) (by decide)) (fun _ _ _ _ => trivial) (Or.inl ⟨by rfl, ?_⟩) hS ?_
  rotate_left
  · intro X hX
    clear hX
    go_simp
    try with_reducible rfl
  try simp only [List.getElem_toArray, List.getElem_cons_zero, List.getElem_cons_succ]
  simp only [Act.put, List.setIfInBounds_toArray, List.set_cons_zero, List.set_cons_succ]
  replace hS := (one_ind (i := 35) (by decide) _ _).2 hS
  refine anyL_take (fun _ => True) [] (i := 36) (v := ?_) rfl (by kernel_rfl) (by kernel_rfl) (by kernel_rfl) (fun _ _ _ h => h) (by kernel_rfl) (one_ind (i := 36) (by decide)) (fun _ _ _ _ => trivial) (Or.inl ⟨by rfl, ?_⟩) hS ?_
  rotate_left
  · intro X hX
    clear hX
    go_simp
    try with_reducible rfl
  try simp only [List.getElem_toArray, List.getElem_cons_zero, List.getElem_cons_succ]
  simp only [Act.put, List.setIfInBounds_toArray, List.set_cons_zero, List.set_cons_succ]
  replace hS := (one_ind (i := 36) (by decide) _ _).2 hS
  refine anyL_take (fun _ => True) [] (i := 37) (v := ?_) rfl (by kernel_rfl) (by kernel_rfl) (by kernel_rfl) (fun _ _ _ h => h) (by kernel_rfl) (one_ind (i := 37) (by decide)) (fun _ _ _ _ => trivial) (Or.inl ⟨by rfl, ?_⟩) hS ?_
  rotate_left
  · intro X hX
    clear hX
    go_simp
    try with_reducible rfl
  try simp only [List.getElem_toArray, List.getElem_cons_zero, List.getElem_cons_succ]
  simp only [Act.put, List.setIfInBounds_toArray, List.set_cons_zero, List.set_cons_succ]
  replace hS := (one_ind (i := 37) (by decide) _ _).2 hS
  clear hS
  refine anyL_step (i := 38) (by kernel_rfl) rfl (by rfl) (fun K hK => ?_)
  go_simp
  refine (Dead_calls S3 g 1 exK _ L4 (by decide)).mono ?_
  rintro e u8 ⟨rfl, rfl⟩
  rw [show (exK.length - (liveE exK).length) = 1 from by decide]
  dsimp only
  refine hK.out _ _ ⟨fun _ => trivial, ka, kb⟩ ?_
  clear hK K
  try simp only [Act.put, List.setIfInBounds_toArray, List.set_cons_zero, List.set_cons_succ]
  have hS : oneQ 99 (fun _ => True) (fun X => Blk X (w1.heap.size + 1) 33 [.int .i64 7, .slice (some ⟨w1.heap.size, 0, none⟩) 1 1, .int .i64 2, .bool false] ∧ Blk X (w1.heap.size + 1 + 1 + 1) 33 [.int .i64 9, .slice (some ⟨w1.heap.size + 1 + 1, 0, none⟩) 1 1, .int .i64 0, .bool false]) ((((((((((((((((((((((((((((((((((((((((Array.replicate 49 false).setIfInBounds 0 true).setIfInBounds 1 true).setIfInBounds 2 true).setIfInBounds 3 true).setIfInBounds 4 true).setIfInBounds 5 true).setIfInBounds 6 true).setIfInBounds 7 true).setIfInBounds 8 true).setIfInBounds 9 true).setIfInBounds 10 true).setIfInBounds 11 true).setIfInBounds 12 true).setIfInBounds 13 true).setIfInBounds 14 true).setIfInBounds 15 true).setIfInBounds 16 true).setIfInBounds 17 true).setIfInBounds 18 true).setIfInBounds 19 true).setIfInBounds 20 true).setIfInBounds 21 true).setIfInBounds 22 true).setIfInBounds 23 true).setIfInBounds 24 true).setIfInBounds 25 true).setIfInBounds 26 true).setIfInBounds 27 true).setIfInBounds 28 true).setIfInBounds 29 true).setIfInBounds 30 true).setIfInBounds 31 true).setIfInBounds 32 true).setIfInBounds 33 true).setIfInBounds 34 true).setIfInBounds 35 true).setIfInBounds 36 true).setIfInBounds 37 true).setIfInBounds 38 true) u4 := ⟨fun _ => trivial, ka, kb⟩
  refine anyL_take (fun _ => True) [] (i := 39) (v := ?_) rfl (by kernel_rfl) (by kernel_rfl) (by kernel_rfl) (fun _ _ _ h => h) (by kernel_rfl) (one_ind (i := 39) (by decide)) (fun _ _ _ _ => trivial) (Or.inl ⟨by rfl, ?_⟩) hS ?_
  rotate_left
  · intro X hX
    clear hX
    go_simp
    try with_reducible rfl
  try simp only [List.getElem_toArray, List.getElem_cons_zero, List.getElem_cons_succ]
  simp only [Act.put, List.setIfInBounds_toArray, List.set_cons_zero, List.set_cons_succ]
  replace hS := (one_ind (i := 39) (by decide) _ _).2 hS
  refine anyL_take (fun _ => True) [] (i := 40) (v := ?_) rfl (by kernel_rfl) (by kernel_rfl) (by kernel_rfl) (fun _ _ _ h => h) (by kernel_rfl) (one_ind (i := 40) (by decide)) (fun _ _ _ _ => trivial) (Or.inl ⟨by rfl, ?_⟩) hS ?_
  rotate_left
  · intro X hX
    clear hX
    go_simp
    try with_reducible rfl
  try simp only [List.getElem_toArray, List.getElem_cons_zero, List.getElem_cons_succ]
  simp only [Act.put, List.setIfInBounds_toArray, List.set_cons_zero, List.set_cons_succ]
  replace hS := (one_ind (i := 40) (by decide) _ _).2 hS
  refine anyL_take (fun _ => True) [] (i := 41) (v := ?_) rfl (by kernel_rfl) (by kernel_rfl) (by kernel_rfl) (fun _ _ _ h => h) (by kernel_rfl) (one_ind (i := 41) (by decide)) (fun _ _ _ _ => trivial) (Or.inl ⟨by rfl, ?_⟩) hS ?_
  rotate_left
  · intro X hX
    clear hX
    go_simp
    try with_reducible rfl
  try simp only [List.getElem_toArray, List.getElem_cons_zero, List.getElem_cons_succ]
  simp only [Act.put, List.setIfInBounds_toArray, List.set_cons_zero, List.set_cons_succ]
  replace hS := (one_ind (i := 41) (by decide) _ _).2 hS
  refine anyL_take (fun _ => True) [] (i := 42) (v := ?_) rfl (by kernel_rfl) (by kernel_rfl) (by kernel_rfl) (fun _ _ _ h => h) (by kernel_rfl) (one_ind (i := 42) (by decide)) (fun _ _ _ _ => trivial) (Or.inl ⟨by rfl, ?_⟩) hS ?_
  rotate_left
  · intro X hX
    clear hX
    go_simp
    try with_reducible rfl
  try simp only [List.getElem_toArray, List.getElem_cons_zero, List.getElem_cons_succ]
  simp only [Act.put, List.setIfInBounds_toArray, List.set_cons_zero, List.set_cons_succ]
  replace hS := (one_ind (i := 42) (by decide) _ _).2 hS
  refine anyL_take (fun X => Blk X (w1.heap.size + 1) 33 [.int .i64 7, .slice (some ⟨w1.heap.size, 0, none⟩) 1 1, .int .i64 2, .bool false] ∧ Blk X (w1.heap.size + 1 + 1 + 1) 33 [.int .i64 9, .slice (some ⟨w1.heap.size + 1 + 1, 0, none⟩) 1 1, .int .i64 0, .bool false]) [] (i := 44) (v := ?_) rfl (by kernel_rfl) (by kernel_rfl) (by kernel_rfl) (fun _ _ _ h => h) (by kernel_rfl) (one_ind (i := 44) (by decide)) (fun L X h1 h2 => h2.2) (Or.inl ⟨by rfl, ?_⟩) hS ?_
  rotate_left
  · intro X hX
    obtain ⟨k0, k1⟩ := hX; have g0 := k0.cell 0; have g1 := k0.cell 1; have g2 := k0.cell 2; have g3 := k0.cell 3; have g4 := k1.cell 0; have g5 := k1.cell 1; have g6 := k1.cell 2; have g7 := k1.cell 3; simp only [List.getElem?_cons_zero, List.getElem?_cons_succ] at g0 g1 g2 g3 g4 g5 g6 g7; clear k0 k1
    go_simp
    try with_reducible rfl
  try simp only [List.getElem_toArray, List.getElem_cons_zero, List.getElem_cons_succ]
  simp only [Act.put, List.setIfInBounds_toArray, List.set_cons_zero, List.set_cons_succ]
  replace hS := (one_ind (i := 44) (by decide) _ _).2 hS
  clear hS
  refine anyL_step2 (i := 43) (j := 45) (by kernel_rfl) rfl rfl (by rfl) (by rfl) (fun K hK => ?_) (fun K hK => ?_)
  · go_simp
    refine (Live_calls S3 g 1 exK _ L4 (by decide)).mono ?_
    intro e u9 hret
    obtain ⟨A9, c9, rfl, s9, b9⟩ := hret.sl
    clear hret
    rw [show liveE exK = [exB] from by decide]
    rw [show liveE exK = [exB] from by decide] at s9
    replace ka := ka.below b9
    replace kb := kb.below b9
    replace bt := below_trans bt b9
    replace sb := sb.below b9
    have lzb9 := b9.size
    dsimp only
    refine hK.out _ _ ⟨fun _ => trivial, ka, kb⟩ ?_
    clear hK K
    try simp only [Act.put, List.setIfInBounds_toArray, List.set_cons_zero, List.set_cons_succ]
    refine anyL_step (i := 45) (by kernel_rfl) rfl (by rfl) (fun K hK => ?_)
    go_simp
    have b10 := below_box0 u9 (.cells #[.int .i64 9, .slice (some ⟨w1.heap.size + 1 + 1, 0, none⟩) 1 1, .int .i64 0, .bool false] 33)
    have sx := one_ent u9 exB (some ⟨w1.heap.size + 1 + 1, 0, none⟩) 1 sb
    replace s9 := s9.below b10
    replace ka := ka.below b10
    replace kb := kb.below b10
    replace bt := below_trans bt b10
    have lzb10 := b10.size
    refine hK.out _ _ ⟨fun _ => trivial, ka, kb⟩ ?_
    clear hK K
    try simp only [Act.put, List.setIfInBounds_toArray, List.set_cons_zero, List.set_cons_succ]
    refine anyL_step (i := 46) (by kernel_rfl) rfl (by rfl) (fun K hK => ?_)
    go_simp
    refine (Entries_calls A9 (some ⟨u9.heap.size, 0, none⟩) c9 1 [exB] [exB] _ s9 sx).mono ?_
    rintro e u11 ⟨rfl, b11⟩
    rw [decide_eq_true (rfl : [exB] = [exB])]
    replace ka := ka.below b11
    replace kb := kb.below b11
    replace bt := below_trans bt b11
    have lzb11 := b11.size
    dsimp only
    refine hK.out _ _ ⟨fun _ => trivial, ka, kb⟩ ?_
    clear hK K
    try simp only [Act.put, List.setIfInBounds_toArray, List.set_cons_zero, List.set_cons_succ]
    have hS : oneQ 99 (fun _ => True) (fun X => Blk X (w1.heap.size + 1) 33 [.int .i64 7, .slice (some ⟨w1.heap.size, 0, none⟩) 1 1, .int .i64 2, .bool false] ∧ Blk X (w1.heap.size + 1 + 1 + 1) 33 [.int .i64 9, .slice (some ⟨w1.heap.size + 1 + 1, 0, none⟩) 1 1, .int .i64 0, .bool false]) ((((((((((((((((((((((((((((((((((((((((((((((((Array.replicate 49 false).setIfInBounds 0 true).setIfInBounds 1 true).setIfInBounds 2 true).setIfInBounds 3 true).setIfInBounds 4 true).setIfInBounds 5 true).setIfInBounds 6 true).setIfInBounds 7 true).setIfInBounds 8 true).setIfInBounds 9 true).setIfInBounds 10 true).setIfInBounds 11 true).setIfInBounds 12 true).setIfInBounds 13 true).setIfInBounds 14 true).setIfInBounds 15 true).setIfInBounds 16 true).setIfInBounds 17 true).setIfInBounds 18 true).setIfInBounds 19 true).setIfInBounds 20 true).setIfInBounds 21 true).setIfInBounds 22 true).setIfInBounds 23 true).setIfInBounds 24 true).setIfInBounds 25 true).setIfInBounds 26 true).setIfInBounds 27 true).setIfInBounds 28 true).setIfInBounds 29 true).setIfInBounds 30 true).setIfInBounds 31 true).setIfInBounds 32 true).setIfInBounds 33 true).setIfInBounds 34 true).setIfInBounds 35 true).setIfInBounds 36 true).setIfInBounds 37 true).setIfInBounds 38 true).setIfInBounds 39 true).setIfInBounds 40 true).setIfInBounds 41 true).setIfInBounds 42 true).setIfInBounds 44 true).setIfInBounds 43 true).setIfInBounds 45 true).setIfInBounds 46 true) u11 := ⟨fun _ => trivial, ka, kb⟩
    refine anyL_take (fun _ => True) [] (i := 47) (v := ?_) rfl (by kernel_rfl) (by kernel_rfl) (by kernel_rfl) (fun _ _ _ h => h) (by kernel_rfl) (one_ind (i := 47) (by decide)) (fun _ _ _ _ => trivial) (Or.inl ⟨by rfl, ?_⟩) hS ?_
    rotate_left
    · intro X hX
      clear hX
      go_simp
      try with_reducible rfl
    try simp only [List.getElem_toArray, List.getElem_cons_zero, List.getElem_cons_succ]
    simp only [Act.put, List.setIfInBounds_toArray, List.set_cons_zero, List.set_cons_succ]
    replace hS := (one_ind (i := 47) (by decide) _ _).2 hS
    clear hS
    refine anyL_step (i := 48) (by kernel_rfl) rfl (by rfl) (fun K hK => ?_)
    go_simp
    refine hK.out _ _ ⟨fun _ => trivial, ka, kb⟩ ?_
    clear hK K
    try simp only [Act.put, List.setIfInBounds_toArray, List.set_cons_zero, List.set_cons_succ]
    refine anyL_done (by kernel_rfl) ?_ _
    go_wp2_with fail
    go_ret
    exact ⟨rfl, bt⟩
  · go_simp
    have b10 := below_box0 u4 (.cells #[.int .i64 9, .slice (some ⟨w1.heap.size + 1 + 1, 0, none⟩) 1 1, .int .i64 0, .bool false] 33)
    have sx := one_ent u4 exB (some ⟨w1.heap.size + 1 + 1, 0, none⟩) 1 sb
    replace ka := ka.below b10
    replace kb := kb.below b10
    replace bt := below_trans bt b10
    replace L4 := L4.below b10
    have lzb10 := b10.size
    refine hK.out _ _ ⟨fun _ => trivial, ka, kb⟩ ?_
    clear hK K
    try simp only [Act.put, List.setIfInBounds_toArray, List.set_cons_zero, List.set_cons_succ]
    refine anyL_step (i := 43) (by kernel_rfl) rfl (by rfl) (fun K hK => ?_)
    go_simp
    refine (Live_calls S3 g 1 exK _ L4 (by decide)).mono ?_
    intro e u9 hret
    obtain ⟨A9, c9, rfl, s9, b9⟩ := hret.sl
    clear hret
    rw [show liveE exK = [exB] from by decide]
    rw [show liveE exK = [exB] from by decide] at s9
    replace ka := ka.below b9
    replace kb := kb.below b9
    replace bt := below_trans bt b9
    replace sx := sx.below b9
    have lzb9 := b9.size
    dsimp only
    refine hK.out _ _ ⟨fun _ => trivial, ka, kb⟩ ?_
    clear hK K
    try simp only [Act.put, List.setIfInBounds_toArray, List.set_cons_zero, List.set_cons_succ]
    refine anyL_step (i := 46) (by kernel_rfl) rfl (by rfl) (fun K hK => ?_)
    go_simp
    refine (Entries_calls A9 (some ⟨u4.heap.size, 0, none⟩) c9 1 [exB] [exB] _ s9 sx).mono ?_
    rintro e u11 ⟨rfl, b11⟩
    rw [decide_eq_true (rfl : [exB] = [exB])]
    replace ka := ka.below b11
    replace kb := kb.below b11
    replace bt := below_trans bt b11
    have lzb11 := b11.size
    dsimp only
    refine hK.out _ _ ⟨fun _ => trivial, ka, kb⟩ ?_
    clear hK K
    try simp only [Act.put, List.setIfInBounds_toArray, List.set_cons_zero, List.set_cons_succ]
    have hS : oneQ 99 (fun _ => True) (fun X => Blk X (w1.heap.size + 1) 33 [.int .i64 7, .slice (some ⟨w1.heap.size, 0, none⟩) 1 1, .int .i64 2, .bool false] ∧ Blk X (w1.heap.size + 1 + 1 + 1) 33 [.int .i64 9, .slice (some ⟨w1.heap.size + 1 + 1, 0, none⟩) 1 1, .int .i64 0, .bool false]) ((((((((((((((((((((((((((((((((((((((((((((((((Array.replicate 49 false).setIfInBounds 0 true).setIfInBounds 1 true).setIfInBounds 2 true).setIfInBounds 3 true).setIfInBounds 4 true).setIfInBounds 5 true).setIfInBounds 6 true).setIfInBounds 7 true).setIfInBounds 8 true).setIfInBounds 9 true).setIfInBounds 10 true).setIfInBounds 11 true).setIfInBounds 12 true).setIfInBounds 13 true).setIfInBounds 14 true).setIfInBounds 15 true).setIfInBounds 16 true).setIfInBounds 17 true).setIfInBounds 18 true).setIfInBounds 19 true).setIfInBounds 20 true).setIfInBounds 21 true).setIfInBounds 22 true).setIfInBounds 23 true).setIfInBounds 24 true).setIfInBounds 25 true).setIfInBounds 26 true).setIfInBounds 27 true).setIfInBounds 28 true).setIfInBounds 29 true).setIfInBounds 30 true).setIfInBounds 31 true).setIfInBounds 32 true).setIfInBounds 33 true).setIfInBounds 34 true).setIfInBounds 35 true).setIfInBounds 36 true).setIfInBounds 37 true).setIfInBounds 38 true).setIfInBounds 39 true).setIfInBounds 40 true).setIfInBounds 41 true).setIfInBounds 42 true).setIfInBounds 44 true).setIfInBounds 45 true).setIfInBounds 43 true).setIfInBounds 46 true) u11 := ⟨fun _ => trivial, ka, kb⟩
    refine anyL_take (fun _ => True) [] (i := 47) (v := ?_) rfl (by kernel_rfl) (by kernel_rfl) (by kernel_rfl) (fun _ _ _ h => h) (by kernel_rfl) (one_ind (i := 47) (by decide)) (fun _ _ _ _ => trivial) (Or.inl ⟨by rfl, ?_⟩) hS ?_
    rotate_left
    · intro X hX
      clear hX
      go_simp
      try with_reducible rfl
    try simp only [List.getElem_toArray, List.getElem_cons_zero, List.getElem_cons_succ]
    simp only [Act.put, List.setIfInBounds_toArray, List.set_cons_zero, List.set_cons_succ]
    replace hS := (one_ind (i := 47) (by decide) _ _).2 hS
    clear hS
    refine anyL_step (i := 48) (by kernel_rfl) rfl (by rfl) (fun K hK => ?_)
    go_simp
    refine hK.out _ _ ⟨fun _ => trivial, ka, kb⟩ ?_
    clear hK K
    try simp only [Act.put, List.setIfInBounds_toArray, List.set_cons_zero, List.set_cons_succ]
    refine anyL_done (by kernel_rfl) ?_ _
    go_wp2_with fail
    go_ret
    exact ⟨rfl, bt⟩
end Go.Proofs.Ytikjmhijkegdgaa
