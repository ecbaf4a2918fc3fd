/- CmdP2: a command's reader: search. -/
import Derived.Test.YtjdablkdndmcgaaCmdP
namespace Go.Proofs.Ytjdablkdndmcgaa
set_option linter.unusedVariables false
set_option linter.unusedSimpArgs false
open Go.RowKit
theorem wrap_i (v : Int) (h0 : 0 ≤ v) (h1 : v < 9223372036854775808) : IntKind.i64.wrap v = v := by
  simp [IntKind.wrap, IntKind.signed, IntKind.bits]
  rw [Int.emod_eq_of_lt h0 (by omega), if_neg (by omega)]
theorem Csearch_calls {w : World} {lo p q s : Nat} {b : List Int} {e : Int} {bad : Bool} {x : Cm} {A : Option Addr} {a : Nat} {B : Option Addr} {c : Nat} (h : PS w lo p q s b e bad x A a B c) (v1 : Int) (b1 : List Int) (e1 : Int) (hq1 : Hid (numP 4 b e = (v1, b1, e1))) (v2 : Int) (b2 : List Int) (e2 : Int) (hq2 : Hid (numP 4 b1 e1 = (v2, b2, e2))) :
    Calls Try.prog 63 #[.pointer (some ⟨q, 0, none⟩), .pointer (some ⟨s, 0, none⟩)] w fun en w' => en = .returned (.tuple #[]) ∧ PS w' lo p q s b2 e2 bad { x with k := v1, p := v2 } A a B c ∧ Below lo w w' := by
  obtain ⟨hb1, i0, _, i1⟩ := numP_bytes hq1.out h.hb
  obtain ⟨_, j0, _, j1⟩ := numP_bytes hq2.out hb1
  have i2 : v1 < 4294967296 := by simpa using i1
  have j2 : v2 < 4294967296 := by simpa using j1
  clear i1 j1
  go_enter Try.func63, Try.ntmps63
  have hmix : Try.prog.follows .mixedOrders = true := by kernel_rfl
  refine region_L (oneQ 99 (fun _ => True) (fun X => X.cell? ⟨q, 0, none⟩ = some (.pointer (some ⟨p, 0, none⟩)))) hmix ?_
  have B0 := below_row (Below.refl lo w) h.le (grown_of_below ((Below.refl w.heap.size w).drew) none) (fun k hk => by cases hk)
  replace h := h.below ((Below.refl _ _).drew)
  generalize w.drew = V at *
  have hS : oneQ 99 (fun _ => True) (fun X => X.cell? ⟨q, 0, none⟩ = some (.pointer (some ⟨p, 0, none⟩))) (Array.replicate 20 false) V := ⟨fun _ => trivial, h.qb.cell 0⟩
  refine anyL_take (fun _ => True) [] (i := 0) (v := ?_) rfl (by kernel_rfl) (by kernel_rfl) (by kernel_rfl) (fun _ _ _ h => h) (by kernel_rfl) (one_ind (i := 0) (by decide)) (fun _ _ _ _ => trivial) (Or.inl ⟨by rfl, ?_⟩) hS ?_
  rotate_left
  · intro X hX
    clear hX
    go_simp
    try with_reducible rfl
  try simp only [List.getElem_toArray, List.getElem_cons_zero, List.getElem_cons_succ]
  simp only [Act.put, List.setIfInBounds_toArray, List.set_cons_zero, List.set_cons_succ]
  replace hS := (one_ind (i := 0) (by decide) _ _).2 hS
  refine anyL_take (fun _ => True) [] (i := 1) (v := ?_) rfl (by kernel_rfl) (by kernel_rfl) (by kernel_rfl) (fun _ _ _ h => h) (by kernel_rfl) (one_ind (i := 1) (by decide)) (fun _ _ _ _ => trivial) (Or.inl ⟨by rfl, ?_⟩) hS ?_
  rotate_left
  · intro X hX
    clear hX
    go_simp
    try with_reducible rfl
  try simp only [List.getElem_toArray, List.getElem_cons_zero, List.getElem_cons_succ]
  simp only [Act.put, List.setIfInBounds_toArray, List.set_cons_zero, List.set_cons_succ]
  replace hS := (one_ind (i := 1) (by decide) _ _).2 hS
  refine anyL_take (fun _ => True) [] (i := 2) (v := ?_) rfl (by kernel_rfl) (by kernel_rfl) (by kernel_rfl) (fun _ _ _ h => h) (by kernel_rfl) (one_ind (i := 2) (by decide)) (fun _ _ _ _ => trivial) (Or.inl ⟨by rfl, ?_⟩) hS ?_
  rotate_left
  · intro X hX
    clear hX
    go_simp
    try with_reducible rfl
  try simp only [List.getElem_toArray, List.getElem_cons_zero, List.getElem_cons_succ]
  simp only [Act.put, List.setIfInBounds_toArray, List.set_cons_zero, List.set_cons_succ]
  replace hS := (one_ind (i := 2) (by decide) _ _).2 hS
  refine anyL_take (fun _ => True) [] (i := 3) (v := ?_) rfl (by kernel_rfl) (by kernel_rfl) (by kernel_rfl) (fun _ _ _ h => h) (by kernel_rfl) (one_ind (i := 3) (by decide)) (fun _ _ _ _ => trivial) (Or.inl ⟨by rfl, ?_⟩) hS ?_
  rotate_left
  · intro X hX
    clear hX
    go_simp
    try with_reducible rfl
  try simp only [List.getElem_toArray, List.getElem_cons_zero, List.getElem_cons_succ]
  simp only [Act.put, List.setIfInBounds_toArray, List.set_cons_zero, List.set_cons_succ]
  replace hS := (one_ind (i := 3) (by decide) _ _).2 hS
  refine anyL_take (fun _ => True) [] (i := 4) (v := ?_) rfl (by kernel_rfl) (by kernel_rfl) (by kernel_rfl) (fun _ _ _ h => h) (by kernel_rfl) (one_ind (i := 4) (by decide)) (fun _ _ _ _ => trivial) (Or.inl ⟨by rfl, ?_⟩) hS ?_
  rotate_left
  · intro X hX
    clear hX
    go_simp
    try with_reducible rfl
  try simp only [List.getElem_toArray, List.getElem_cons_zero, List.getElem_cons_succ]
  simp only [Act.put, List.setIfInBounds_toArray, List.set_cons_zero, List.set_cons_succ]
  replace hS := (one_ind (i := 4) (by decide) _ _).2 hS
  refine anyL_take (fun X => X.cell? ⟨q, 0, none⟩ = some (.pointer (some ⟨p, 0, none⟩))) [] (i := 5) (v := ?_) rfl (by kernel_rfl) (by kernel_rfl) (by kernel_rfl) (fun _ _ _ h => h) (by kernel_rfl) (one_ind (i := 5) (by decide)) (fun L X h1 h2 => h2.2) (Or.inl ⟨by rfl, ?_⟩) hS ?_
  rotate_left
  · intro X hX
    have g1 := hX; clear hX
    go_simp
    try with_reducible rfl
  try simp only [List.getElem_toArray, List.getElem_cons_zero, List.getElem_cons_succ]
  simp only [Act.put, List.setIfInBounds_toArray, List.set_cons_zero, List.set_cons_succ]
  replace hS := (one_ind (i := 5) (by decide) _ _).2 hS
  refine anyL_take (fun _ => True) [] (i := 8) (v := ?_) rfl (by kernel_rfl) (by kernel_rfl) (by kernel_rfl) (fun _ _ _ h => h) (by kernel_rfl) (one_ind (i := 8) (by decide)) (fun _ _ _ _ => trivial) (Or.inl ⟨by rfl, ?_⟩) hS ?_
  rotate_left
  · intro X hX
    clear hX
    go_simp
    try with_reducible rfl
  try simp only [List.getElem_toArray, List.getElem_cons_zero, List.getElem_cons_succ]
  simp only [Act.put, List.setIfInBounds_toArray, List.set_cons_zero, List.set_cons_succ]
  replace hS := (one_ind (i := 8) (by decide) _ _).2 hS
  refine anyL_take (fun _ => True) [] (i := 9) (v := ?_) rfl (by kernel_rfl) (by kernel_rfl) (by kernel_rfl) (fun _ _ _ h => h) (by kernel_rfl) (one_ind (i := 9) (by decide)) (fun _ _ _ _ => trivial) (Or.inl ⟨by rfl, ?_⟩) hS ?_
  rotate_left
  · intro X hX
    clear hX
    go_simp
    try with_reducible rfl
  try simp only [List.getElem_toArray, List.getElem_cons_zero, List.getElem_cons_succ]
  simp only [Act.put, List.setIfInBounds_toArray, List.set_cons_zero, List.set_cons_succ]
  replace hS := (one_ind (i := 9) (by decide) _ _).2 hS
  refine anyL_take (fun _ => True) [] (i := 10) (v := ?_) rfl (by kernel_rfl) (by kernel_rfl) (by kernel_rfl) (fun _ _ _ h => h) (by kernel_rfl) (one_ind (i := 10) (by decide)) (fun _ _ _ _ => trivial) (Or.inl ⟨by rfl, ?_⟩) hS ?_
  rotate_left
  · intro X hX
    clear hX
    go_simp
    try with_reducible rfl
  try simp only [List.getElem_toArray, List.getElem_cons_zero, List.getElem_cons_succ]
  simp only [Act.put, List.setIfInBounds_toArray, List.set_cons_zero, List.set_cons_succ]
  replace hS := (one_ind (i := 10) (by decide) _ _).2 hS
  refine anyL_take (fun X => X.cell? ⟨q, 0, none⟩ = some (.pointer (some ⟨p, 0, none⟩))) [] (i := 11) (v := ?_) rfl (by kernel_rfl) (by kernel_rfl) (by kernel_rfl) (fun _ _ _ h => h) (by kernel_rfl) (one_ind (i := 11) (by decide)) (fun L X h1 h2 => h2.2) (Or.inl ⟨by rfl, ?_⟩) hS ?_
  rotate_left
  · intro X hX
    have g1 := hX; clear hX
    go_simp
    try with_reducible rfl
  try simp only [List.getElem_toArray, List.getElem_cons_zero, List.getElem_cons_succ]
  simp only [Act.put, List.setIfInBounds_toArray, List.set_cons_zero, List.set_cons_succ]
  replace hS := (one_ind (i := 11) (by decide) _ _).2 hS
  clear hS
  refine anyL_step (i := 6) (by kernel_rfl) rfl (by rfl) (fun K hK => ?_)
  go_simp
  refine (Number_p lo p _ _ 4 _ h.r h.hb v1 b1 e1 hq1).mono ?_
  rintro en w1 ⟨rfl, r1, k1⟩
  have B1 := below_row B0 h.le k1 (fun k hk => by injection hk with hk; have := h.lp; omega)
  replace h := h.read r1 (numP_bytes hq1.out h.hb).1 k1
  clear r1 k1
  dsimp only
  refine hK.out _ _ ⟨fun _ => trivial, h.qb.cell 0⟩ ?_
  clear hK K
  try simp only [Act.put, List.setIfInBounds_toArray, List.set_cons_zero, List.set_cons_succ]
  have hS : oneQ 99 (fun _ => True) (fun X => X.cell? ⟨q, 0, none⟩ = some (.pointer (some ⟨p, 0, none⟩))) ((((((((((((Array.replicate 20 false).setIfInBounds 0 true).setIfInBounds 1 true).setIfInBounds 2 true).setIfInBounds 3 true).setIfInBounds 4 true).setIfInBounds 5 true).setIfInBounds 8 true).setIfInBounds 9 true).setIfInBounds 10 true).setIfInBounds 11 true).setIfInBounds 6 true) w1 := ⟨fun _ => trivial, h.qb.cell 0⟩
  refine anyL_take (fun _ => True) [] (i := 7) (v := ?_) rfl (by kernel_rfl) (by kernel_rfl) (by kernel_rfl) (fun _ _ _ h => h) (by kernel_rfl) (one_ind (i := 7) (by decide)) (fun _ _ _ _ => trivial) (Or.inl ⟨by rfl, ?_⟩) hS ?_
  rotate_left
  · intro X hX
    clear hX
    go_simp
    try with_reducible rfl
  try simp only [List.getElem_toArray, List.getElem_cons_zero, List.getElem_cons_succ]
  simp only [Act.put, List.setIfInBounds_toArray, List.set_cons_zero, List.set_cons_succ]
  replace hS := (one_ind (i := 7) (by decide) _ _).2 hS
  rw [wrap_i v1 i0 (by omega)]
  clear hS
  refine anyL_step (i := 12) (by kernel_rfl) rfl (by rfl) (fun K hK => ?_)
  go_simp
  refine (Number_p lo p _ _ 4 _ h.r h.hb v2 b2 e2 hq2).mono ?_
  rintro en w2 ⟨rfl, r2, k2⟩
  have B2 := below_row B1 h.le k2 (fun k hk => by injection hk with hk; have := h.lp; omega)
  replace h := h.read r2 (numP_bytes hq2.out h.hb).1 k2
  clear r2 k2
  dsimp only
  refine hK.out _ _ ⟨fun _ => trivial, h.qb.cell 0⟩ ?_
  clear hK K
  try simp only [Act.put, List.setIfInBounds_toArray, List.set_cons_zero, List.set_cons_succ]
  have hS : oneQ 99 (fun _ => True) (fun X => X.cell? ⟨q, 0, none⟩ = some (.pointer (some ⟨p, 0, none⟩))) ((((((((((((((Array.replicate 20 false).setIfInBounds 0 true).setIfInBounds 1 true).setIfInBounds 2 true).setIfInBounds 3 true).setIfInBounds 4 true).setIfInBounds 5 true).setIfInBounds 8 true).setIfInBounds 9 true).setIfInBounds 10 true).setIfInBounds 11 true).setIfInBounds 6 true).setIfInBounds 7 true).setIfInBounds 12 true) w2 := ⟨fun _ => trivial, h.qb.cell 0⟩
  refine anyL_take (fun _ => True) [] (i := 13) (v := ?_) rfl (by kernel_rfl) (by kernel_rfl) (by kernel_rfl) (fun _ _ _ h => h) (by kernel_rfl) (one_ind (i := 13) (by decide)) (fun _ _ _ _ => trivial) (Or.inl ⟨by rfl, ?_⟩) hS ?_
  rotate_left
  · intro X hX
    clear hX
    go_simp
    try with_reducible rfl
  try simp only [List.getElem_toArray, List.getElem_cons_zero, List.getElem_cons_succ]
  simp only [Act.put, List.setIfInBounds_toArray, List.set_cons_zero, List.set_cons_succ]
  replace hS := (one_ind (i := 13) (by decide) _ _).2 hS
  rw [wrap_i v2 j0 (by omega)]
  refine anyL_take (fun _ => True) [] (i := 14) (v := ?_) rfl (by kernel_rfl) (by kernel_rfl) (by kernel_rfl) (fun _ _ _ h => h) (by kernel_rfl) (one_ind (i := 14) (by decide)) (fun _ _ _ _ => trivial) (Or.inl ⟨by rfl, ?_⟩) hS ?_
  rotate_left
  · intro X hX
    clear hX
    go_simp
    try with_reducible rfl
  try simp only [List.getElem_toArray, List.getElem_cons_zero, List.getElem_cons_succ]
  simp only [Act.put, List.setIfInBounds_toArray, List.set_cons_zero, List.set_cons_succ]
  replace hS := (one_ind (i := 14) (by decide) _ _).2 hS
  refine anyL_take (fun _ => True) [] (i := 15) (v := ?_) rfl (by kernel_rfl) (by kernel_rfl) (by kernel_rfl) (fun _ _ _ h => h) (by kernel_rfl) (one_ind (i := 15) (by decide)) (fun _ _ _ _ => trivial) (Or.inl ⟨by rfl, ?_⟩) hS ?_
  rotate_left
  · intro X hX
    clear hX
    go_simp
    try with_reducible rfl
  try simp only [List.getElem_toArray, List.getElem_cons_zero, List.getElem_cons_succ]
  simp only [Act.put, List.setIfInBounds_toArray, List.set_cons_zero, List.set_cons_succ]
  replace hS := (one_ind (i := 15) (by decide) _ _).2 hS
  have d3 := h.sb.cell 3
  have f3 := h.sb.frozen 3
  simp only [cmC, List.getElem?_cons_zero, List.getElem?_cons_succ] at d3
  have B3 := below_row B2 h.le (grownBy_cell w2 s 3 (.int .i64 v1)) (fun k hk => by injection hk with hk; have := h.lp; have := h.pq; have := h.qs; omega)
  have h3 := h.setN 3 (.int .i64 v1) { x with k := v1 } rfl rfl rfl
  clear hS
  refine anyL_step (i := 16) (by kernel_rfl) rfl (by rfl) (fun K hK => ?_)
  go_simp
  refine hK.out _ _ ⟨fun _ => trivial, h3.qb.cell 0⟩ ?_
  clear hK K
  try simp only [Act.put, List.setIfInBounds_toArray, List.set_cons_zero, List.set_cons_succ]
  replace h := h3
  clear h3 d3 f3
  generalize w2.setCell ⟨s, 3, none⟩ (.int .i64 v1) = w3 at *
  have hS : oneQ 99 (fun _ => True) (fun X => X.cell? ⟨q, 0, none⟩ = some (.pointer (some ⟨p, 0, none⟩))) ((((((((((((((((((Array.replicate 20 false).setIfInBounds 0 true).setIfInBounds 1 true).setIfInBounds 2 true).setIfInBounds 3 true).setIfInBounds 4 true).setIfInBounds 5 true).setIfInBounds 8 true).setIfInBounds 9 true).setIfInBounds 10 true).setIfInBounds 11 true).setIfInBounds 6 true).setIfInBounds 7 true).setIfInBounds 12 true).setIfInBounds 13 true).setIfInBounds 14 true).setIfInBounds 15 true).setIfInBounds 16 true) w3 := ⟨fun _ => trivial, h.qb.cell 0⟩
  refine anyL_take (fun _ => True) [] (i := 17) (v := ?_) rfl (by kernel_rfl) (by kernel_rfl) (by kernel_rfl) (fun _ _ _ h => h) (by kernel_rfl) (one_ind (i := 17) (by decide)) (fun _ _ _ _ => trivial) (Or.inl ⟨by rfl, ?_⟩) hS ?_
  rotate_left
  · intro X hX
    clear hX
    go_simp
    try with_reducible rfl
  try simp only [List.getElem_toArray, List.getElem_cons_zero, List.getElem_cons_succ]
  simp only [Act.put, List.setIfInBounds_toArray, List.set_cons_zero, List.set_cons_succ]
  replace hS := (one_ind (i := 17) (by decide) _ _).2 hS
  refine anyL_take (fun _ => True) [] (i := 18) (v := ?_) rfl (by kernel_rfl) (by kernel_rfl) (by kernel_rfl) (fun _ _ _ h => h) (by kernel_rfl) (one_ind (i := 18) (by decide)) (fun _ _ _ _ => trivial) (Or.inl ⟨by rfl, ?_⟩) hS ?_
  rotate_left
  · intro X hX
    clear hX
    go_simp
    try with_reducible rfl
  try simp only [List.getElem_toArray, List.getElem_cons_zero, List.getElem_cons_succ]
  simp only [Act.put, List.setIfInBounds_toArray, List.set_cons_zero, List.set_cons_succ]
  replace hS := (one_ind (i := 18) (by decide) _ _).2 hS
  have d4 := h.sb.cell 4
  have f4 := h.sb.frozen 4
  simp only [cmC, List.getElem?_cons_zero, List.getElem?_cons_succ] at d4
  have B4 := below_row B3 h.le (grownBy_cell w3 s 4 (.int .i64 v2)) (fun k hk => by injection hk with hk; have := h.lp; have := h.pq; have := h.qs; omega)
  have h4 := h.setN 4 (.int .i64 v2) { x with k := v1, p := v2 } rfl rfl rfl
  clear hS
  refine anyL_step (i := 19) (by kernel_rfl) rfl (by rfl) (fun K hK => ?_)
  go_simp
  refine hK.out _ _ ⟨fun _ => trivial, h4.qb.cell 0⟩ ?_
  clear hK K
  try simp only [Act.put, List.setIfInBounds_toArray, List.set_cons_zero, List.set_cons_succ]
  replace h := h4
  clear h4 d4 f4
  generalize w3.setCell ⟨s, 4, none⟩ (.int .i64 v2) = w4 at *
  refine anyL_done (by kernel_rfl) ?_ _
  go_wp2_with fail
  go_end0
  exact ⟨rfl, h, B4⟩
end Go.Proofs.Ytjdablkdndmcgaa
