import Derived.Test.YtipjmglieedimaaFrameIter
import Derived.Test.YtipjmglieedimaaMemV
import Derived.Test.YtipjmglieedimaaRoundRegion
import Derived.Deep.DrawnRows
namespace Go.Proofs.Ytipjmglieedimaa
set_option linter.unusedVariables false
set_option linter.unusedSimpArgs false
open Go.RowKit Go.Shelf
attribute [local go_sem] Oper.semAt_some
theorem frames_calls (A : Option Addr) (n c : Nat) (w : World) :
    Calls Try.prog 31 #[.slice A n c] w fun e w' => e = .returned (.func (.func 39) #[] #[.pointer (some ⟨w.heap.size, 0, none⟩)]) ∧ w' = w.alloc (.cells #[.slice A n c] 22) := by
  go_enter Try.func31, Try.ntmps31
  go_wp2_with fail
  go_ret
  exact ⟨rfl, rfl⟩
theorem SlI.put {W : World} {k : IntKind} {A : Option Addr} {c : Nat} {xs : List Int} (h : SlI W k A c xs) {l : Nat} {o : Obj} (o' : Obj) (hl : W.heap[l]? = some o) (ho : o.isCells = false) : SlI (W.putObj l o') k A c xs := by
  refine ⟨?_, h.le, h.cap⟩
  rcases h.rd with h1 | ⟨ad, h1, h2⟩
  · exact .inl h1
  · refine .inr ⟨ad, h1, fun j u hj => ?_⟩
    exact cell_kept (h2 j u hj) (grownBy_putObj' W l o') fun r e => by cases e; exact ⟨o, hl, ho⟩
theorem OwnS.put {W : World} {base E : Nat} {k : IntKind} {A : Option Addr} {c : Nat} {xss : List (List Int)} (h : OwnS W base E k A c xss) {l : Nat} {o : Obj} (o' : Obj) (hl : W.heap[l]? = some o) (ho : o.isCells = false) : OwnS (W.putObj l o') base E k A c xss := by
  obtain ⟨vs, h1, h2⟩ := h
  refine ⟨vs, ownsRow_putObj h1 o' hl ho, h2.1, fun j hj => ?_⟩
  obtain ⟨B, d, e1, e2, e3⟩ := h2.2 j hj
  exact ⟨B, d, e1, e2.put o' hl ho, fun x hx => by rw [World.putObj_size]; exact e3 x hx⟩
theorem keeps_below {X Y : World} (h : Below X.heap.size X Y) : KeepsOthers X Y := KeepsOthers.of_grownBy (grown_of_below h none) (fun j o e => by cases e)
theorem keeps_own {X Y : World} {base e size n : Nat} {v : Value} {xs : List Value} (h : X.ownsRow base e size v n xs) (hg : X.grownBy Y v.ownBlock) : KeepsOthers X Y := by
  refine KeepsOthers.of_grownBy hg fun j o hj ho => ?_
  rcases h.2 with ⟨rfl, _⟩ | ⟨g, cap, cur, rfl, _, hh, _⟩
  · cases hj
  · have : g = j := by simpa [Value.ownBlock] using hj
    subst this
    rw [hh] at ho; cases ho; rfl
/-- What stands between two rounds of Scan. -/
def ScanI (w : World) (b : List Int) (k : Nat) (W : World) : Prop :=
  ∃ A1 c1, Boxed W w.heap.size 35 (.slice A1 ((scanR b).take k).length c1) ∧ Boxed W (w.heap.size + 1) 3 (.int .i64 (used ((scanR b).take k))) ∧
    OwnS W (w.heap.size + 3) 22 .u8 A1 c1 ((scanR b).take k) ∧ Below w.heap.size w W
theorem ScanI.grown {w X Y : World} {b : List Int} {k : Nat} (h : ScanI w b k X) (hg : X.grownBy Y (some (w.heap.size + 2))) : ScanI w b k Y := by
  obtain ⟨A1, c1, h1, h2, h3, h4⟩ := h
  exact ⟨A1, c1, h1.kept hg (by simp), h2.kept hg (by simp), h3.kept hg (by omega), h4.grown hg h4.size fun j e => by cases e; omega⟩
theorem ScanI.put {w X : World} {b : List Int} {k l : Nat} {o : Obj} (o' : Obj) (h : ScanI w b k X) (hl : X.heap[l]? = some o) (ho : o.isCells = false) (hlt : w.heap.size + 3 ≤ l) : ScanI w b k (X.putObj l o') := by
  obtain ⟨A1, c1, h1, h2, h3, h4⟩ := h
  exact ⟨A1, c1, h1.kept (grownBy_putObj' X l o') (by simp; omega), h2.kept (grownBy_putObj' X l o') (by simp; omega), h3.put o' hl ho, h4.grown (grownBy_putObj' X l o') h4.size fun j e => by cases e; omega⟩
set_option maxHeartbeats 1000000 in
theorem Scan_calls (A : Option Addr) (c : Nat) (b : List Int) (w : World) (h : SlI w .u8 A c b) (hb : Bytes b) (hl : b.length ≤ 1000000) :
    Calls Try.prog 15 #[.slice A b.length c] w fun e w' => ∃ A' c', e = .returned (.tuple #[.slice A' (scanR b).length c', .int .i64 (used (scanR b))]) ∧ OwnS w' w.heap.size 22 .u8 A' c' (scanR b) ∧ Below w.heap.size w w' := by
  obtain ⟨pA, pc, hp1, hp2⟩ := iter_calls b hb A c h.le h.cap
  have hmix : Try.prog.follows .mixedOrders = true := by kernel_rfl
  refine (callsIn_wide (n := 6)).1 ?_
  refine callsIn_of_wp_marks Try.func15 rfl trivial ?_ rfl
  simp only [Try.ntmps15, List.size_toArray, List.length_cons, List.length_nil, Nat.reduceAdd, Nat.reduceSub, Array.replicate_succ, Array.replicate_zero, List.push_toArray, List.append_toArray, List.nil_append, List.cons_append]
  gi_wp2
  refine ⟨trivial, ?_⟩
  refine (callsIn_wide.2 (frames_calls A b.length c _)).mono ?_
  rintro e w1 ⟨rfl, rfl⟩
  gi_wp2
  have hsz : (((w.alloc (.cells #[.slice none 0 0] 35)).alloc (.cells #[.int .i64 0] 3)).alloc (.cells #[.slice A b.length c] 22)).heap.size = w.heap.size + 3 := by simp
  have hbW : Below w.heap.size w (((w.alloc (.cells #[.slice none 0 0] 35)).alloc (.cells #[.int .i64 0] 3)).alloc (.cells #[.slice A b.length c] 22)) := below_alloc (below_alloc (below_alloc (Below.refl _ _) _) _) _
  have x0 : Boxed (((w.alloc (.cells #[.slice none 0 0] 35)).alloc (.cells #[.int .i64 0] 3)).alloc (.cells #[.slice A b.length c] 22)) w.heap.size 35 (.slice none 0 0) := ((Boxed.new w _ _).alloc _).alloc _
  have x1 : Boxed (((w.alloc (.cells #[.slice none 0 0] 35)).alloc (.cells #[.int .i64 0] 3)).alloc (.cells #[.slice A b.length c] 22)) (w.heap.size + 1) 3 (.int .i64 0) := by
    have := (Boxed.new (w.alloc (.cells #[.slice none 0 0] 35)) 3 (.int .i64 0)).alloc (.cells #[.slice A b.length c] 22)
    rwa [World.size_alloc] at this
  have x2 : Boxed (((w.alloc (.cells #[.slice none 0 0] 35)).alloc (.cells #[.int .i64 0] 3)).alloc (.cells #[.slice A b.length c] 22)) (w.heap.size + 2) 22 (.slice A b.length c) := by
    have := Boxed.new ((w.alloc (.cells #[.slice none 0 0] 35)).alloc (.cells #[.int .i64 0] 3)) 22 (.slice A b.length c)
    rwa [World.size_alloc, World.size_alloc] at this
  generalize ((w.alloc (.cells #[.slice none 0 0] 35)).alloc (.cells #[.int .i64 0] 3)).alloc (.cells #[.slice A b.length c] 22) = W0 at *
  have start : ScanI w b 0 W0 := ⟨none, 0, x0, x1, OwnS.nil _ _ _ _, hbW⟩
  have slow : ∀ W, Below w.heap.size w W → SlI W .u8 A c b := fun W hh => h.below hh
  refine range_box (F := Fence.wide) rfl (by omega) (gf := 39) (lb := #[.pointer (some ⟨w.heap.size + 2, 0, none⟩)]) rfl trivial (enters_of Try.func39 (by kernel_rfl) rfl)
    (fun k => #[.slice (pA k) ((scanR b).getD k []).length (pc k)]) (fun _ => rfl) (scanR b).length (w.heap.size + 2) (KpB w.heap.size (w.heap.size + 2))
    (fun X Y Z h1 h2 => ⟨h1.1.trans h2.1, h2.2.trans h1.2⟩) ?kPut ?kNew (by omega) ?iter (ScanI w b) (fun s X Y h1 h2 => h1.grown h2) (fun s W l o o' h1 h2 h3 h4 => h2.put o' h3 h4 (by omega)) start
    (fun k => { tmps := #[.slice A b.length c, undef, .pointer (some ⟨w.heap.size, 0, none⟩), .pointer (some ⟨w.heap.size + 1, 0, none⟩), .slice (pA k) ((scanR b).getD k []).length (pc k), .slice A b.length c, .func (.func 39) #[] #[.pointer (some ⟨w.heap.size + 2, 0, none⟩)], .slice (pA k) ((scanR b).getD k []).length (pc k), undef, undef, undef, undef, undef, undef, undef, undef, undef, undef, undef, undef], defers := [] }) ?assigns ?rounds ?done
  case kPut =>
    intro W l o o' h1 h2 h3
    exact ⟨(Below.refl _ _).grown (grownBy_putObj' W l o') (by have := (Array.getElem?_eq_some_iff.1 h2).1; omega) (fun k e => by cases e; omega), World.putObj_heap_other (by omega)⟩
  case kNew =>
    intro W o h1
    exact ⟨(Below.refl _ _).alloc (by omega) o, Below.heap_alloc _ _ _ (by omega)⟩
  case iter =>
    intro l J W h1 h2 h3 h4
    exact hp2 5 w.heap.size (w.heap.size + 2) W0 (by omega) (by omega) x2 (fun W' hh => slow W' (hbW.trans hh)) l J W h1 h2 h3 h4
  case assigns =>
    intro l k W K hK
    gi_wp2
    exact hK
  case rounds =>
    rintro l k W ⟨A1, c1, y0, y1, yo, yb⟩ hk hsz2
    have sp := hp1 k hk W (slow W yb)
    have hpl := scanR_part hb hk
    have hus := used_take_succ hk
    have hul := (scanR_spec hb (k := k + 1) (by omega)).1
    have htk : (scanR b).take (k + 1) = (scanR b).take k ++ [(scanR b).getD k []] := by rw [List.take_add_one, List.getElem?_eq_getElem hk, List.getD_eq_getElem?_getD, List.getElem?_eq_getElem hk]; rfl
    have hkl : 8 * ((scanR b).take k).length ≤ b.length := Nat.le_trans (used_len _) (scanR_spec hb (k := k) (by omega)).1
    unfold ScanI
    rw [htk, used_app]
    obtain ⟨vs, ov, rv⟩ := yo
    rw [← rv.1] at y0 hkl
    generalize (scanR b).take k = tk at *
    generalize (scanR b).getD k [] = pk at *
    generalize pA k = qA at *
    generalize pc k = qc at *
    have hu1 : used [pk] = 8 + pk.length := by simp [used]
    rw [hu1]
    generalize used tk = uk at *
    have hpk : (0 : Int) ≤ (uk : Int) + 8 + (pk.length : Int) ∧ (uk : Int) + 8 + (pk.length : Int) ≤ 1000000 := by omega
    clear hus hu1 htk
    gi_wp2
    refine region_roundL (two 10 11 (fun X => Boxed X w.heap.size 35 (.slice A1 vs.length c1)) (fun X => Boxed X (w.heap.size + 1) 3 (.int .i64 (uk : Int)))) hmix (by kernel_rfl) (by rintro ⟨_, _, hh⟩; cases hh.1) ?_
    have hS : two 10 11 (fun X => Boxed X w.heap.size 35 (.slice A1 vs.length c1)) (fun X => Boxed X (w.heap.size + 1) 3 (.int .i64 (uk : Int))) (Array.replicate 12 false) W.drew := ⟨fun _ => y0, fun _ => y1⟩
    have wr1 : IntKind.i64.wrap ((uk : Int) + 8) = (uk : Int) + 8 := IntWalk.i64_in _ (by omega)
    have wr2 : IntKind.i64.wrap ((uk : Int) + 8 + (pk.length : Int)) = (uk : Int) + 8 + (pk.length : Int) := IntWalk.i64_in _ (by omega)
    refine anyL_take (fun X => Boxed X w.heap.size 35 (.slice A1 vs.length c1)) [10] (i := 0) (v := ?_) rfl (by kernel_rfl) (by kernel_rfl) (by kernel_rfl) (fun _ _ _ h => h) (by kernel_rfl) (two_ind (by decide) (by decide)) (fun L X h1 h2 => h2.1 (h1 10 (by simp))) (Or.inl ⟨by rfl, ?_⟩) hS ?_
    rotate_left
    · intro X hX
      have g0 := Boxed.cell hX
      go_simp
      try with_reducible rfl
    simp only [Act.put, List.setIfInBounds_toArray, List.set_cons_zero, List.set_cons_succ]
    replace hS := (two_ind (i := 0) (by decide) (by decide) _ _).2 hS
    refine anyL_take (fun _ => True) [] (i := 1) (v := ?_) rfl (by kernel_rfl) (by kernel_rfl) (by kernel_rfl) (fun _ _ _ h => h) (by kernel_rfl) (two_ind (by decide) (by decide)) (fun _ _ _ _ => trivial) (Or.inl ⟨by rfl, ?_⟩) hS ?_
    rotate_left
    · intro X hX
      clear hX
      go_simp
      try with_reducible rfl
    simp only [Act.put, List.setIfInBounds_toArray, List.set_cons_zero, List.set_cons_succ]
    replace hS := (two_ind (i := 1) (by decide) (by decide) _ _).2 hS
    refine anyL_take (fun X => Boxed X (w.heap.size + 1) 3 (.int .i64 (uk : Int))) [11] (i := 5) (v := ?_) rfl (by kernel_rfl) (by kernel_rfl) (by kernel_rfl) (fun _ _ _ h => h) (by kernel_rfl) (two_ind (by decide) (by decide)) (fun L X h1 h2 => h2.2 (h1 11 (by simp))) (Or.inl ⟨by rfl, ?_⟩) hS ?_
    rotate_left
    · intro X hX
      have g0 := Boxed.cell hX
      go_simp
      try with_reducible rfl
    simp only [Act.put, List.setIfInBounds_toArray, List.set_cons_zero, List.set_cons_succ]
    replace hS := (two_ind (i := 5) (by decide) (by decide) _ _).2 hS
    refine anyL_take (fun _ => True) [] (i := 7) (v := ?_) rfl (by kernel_rfl) (by kernel_rfl) (by kernel_rfl) (fun _ _ _ h => h) (by kernel_rfl) (two_ind (by decide) (by decide)) (fun _ _ _ _ => trivial) (Or.inl ⟨by rfl, ?_⟩) hS ?_
    rotate_left
    · intro X hX
      clear hX
      go_simp
      try with_reducible rfl
    simp only [Act.put, List.setIfInBounds_toArray, List.set_cons_zero, List.set_cons_succ]
    replace hS := (two_ind (i := 7) (by decide) (by decide) _ _).2 hS
    refine anyL_take (fun _ => True) [] (i := 6) (v := ?_) rfl (by kernel_rfl) (by kernel_rfl) (by kernel_rfl) (fun _ _ _ h => h) (by kernel_rfl) (two_ind (by decide) (by decide)) (fun _ _ _ _ => trivial) (Or.inl ⟨by rfl, ?_⟩) hS ?_
    rotate_left
    · intro X hX
      clear hX
      go_simp
      try with_reducible rfl
    simp only [Act.put, List.setIfInBounds_toArray, List.set_cons_zero, List.set_cons_succ]
    replace hS := (two_ind (i := 6) (by decide) (by decide) _ _).2 hS
    refine anyL_take (fun _ => True) [] (i := 8) (v := ?_) rfl (by kernel_rfl) (by kernel_rfl) (by kernel_rfl) (fun _ _ _ h => h) (by kernel_rfl) (two_ind (by decide) (by decide)) (fun _ _ _ _ => trivial) (Or.inl ⟨by rfl, ?_⟩) hS ?_
    rotate_left
    · intro X hX
      clear hX
      go_simp
      try with_reducible rfl
    simp only [Act.put, List.setIfInBounds_toArray, List.set_cons_zero, List.set_cons_succ]
    replace hS := (two_ind (i := 8) (by decide) (by decide) _ _).2 hS
    refine anyL_take (fun _ => True) [] (i := 9) (v := ?_) rfl (by kernel_rfl) (by kernel_rfl) (by kernel_rfl) (fun _ _ _ h => h) (by kernel_rfl) (two_ind (by decide) (by decide)) (fun _ _ _ _ => trivial) (Or.inl ⟨by rfl, ?_⟩) hS ?_
    rotate_left
    · intro X hX
      clear hX
      go_simp
      try with_reducible rfl
    simp only [Act.put, List.setIfInBounds_toArray, List.set_cons_zero, List.set_cons_succ]
    replace hS := (two_ind (i := 9) (by decide) (by decide) _ _).2 hS
    clear wr1 wr2
    have bd : Below W.heap.size W W.drew := (Below.refl _ _).drew
    refine anyL_step (i := 2) (by kernel_rfl) rfl (by rfl) (fun K hK => ?_)
    go_simp
    refine (Clone_byte_calls qA qc pk _ (sp.below bd) (by omega)).mono ?_
    rintro e w1 ⟨A2, c2, rfl, o2, b2⟩
    have bw1 := below_trans bd b2
    have z0 : Boxed w1 w.heap.size 35 (.slice A1 vs.length c1) := y0.kept (grown_of_below bw1 none) (by simp)
    have z1 : Boxed w1 (w.heap.size + 1) 3 (.int .i64 (uk : Int)) := y1.kept (grown_of_below bw1 none) (by simp)
    have ov1 := own_below ov bw1
    have rv1 := rv.below bw1
    have yb1 := yb.trans (bw1.mono yb.size)
    have lW : w.heap.size + 3 ≤ W.heap.size := by omega
    have lW1 : W.heap.size ≤ w1.heap.size := bw1.size
    dsimp only
    refine hK.out _ _ ⟨fun _ => z0, fun _ => z1⟩ ?_
    clear hK K hS
    try simp only [Act.put, List.setIfInBounds_toArray, List.set_cons_zero, List.set_cons_succ]
    refine anyL_step (i := 3) (by kernel_rfl) rfl (by rfl) (fun K hK => ?_)
    go_simp
    refine hK.out _ _ ⟨fun _ => z0.alloc _, fun _ => z1.alloc _⟩ ?_
    clear hK K
    try simp only [Act.put, List.setIfInBounds_toArray, List.set_cons_zero, List.set_cons_succ]
    refine anyL_step (i := 4) (by kernel_rfl) rfl (by rfl) (fun K hK => ?_)
    refine wp_app_vals (w.heap.size + 3) _ _ 35 22 (.slice none 0 0) 24 rfl Try.underlying35 (by kernel_rfl) (by decide) rfl A1 c1 vs [.slice A2 pk.length c2] ⟨w1.heap.size, 0, none⟩ 1 rfl rfl (ov1.alloc _) (by simp) (World.news_of_block (cs := #[.slice A2 pk.length c2]) (t := 22) (fr := (0, 0)) (heap_alloc_new w1 _)) (by simp [Value.oneCell']) (by simp; omega) (by simp; omega) ?_
    intro B1 d1 w3 o3 hg hat
    have nb : ∀ j, j < w.heap.size + 3 → some j ≠ (Value.slice A1 vs.length c1).ownBlock := fun j hj hh => by have := own_base ov1 j hh.symm; omega
    have q0 : Boxed w3 w.heap.size 35 (.slice A1 vs.length c1) := (z0.alloc _).kept hg (nb _ (by omega))
    have q1 : Boxed w3 (w.heap.size + 1) 3 (.int .i64 (uk : Int)) := (z1.alloc _).kept hg (nb _ (by omega))
    have hA2 : ∀ x, A2 = some x → W.heap.size ≤ x.block ∧ x.block < w1.heap.size := fun x hx => by
      rcases o2.2 with ⟨h1, _⟩ | ⟨g, cap, cur, h1, h2, _⟩
      · injection h1 with h1; rw [h1] at hx; cases hx
      · injection h1 with h1 _ _
        rw [h1] at hx
        have h3 := o2.lt g (by rw [h1]; simp [Value.ownBlock])
        cases hx
        exact h3
    have hold : ∀ j, (Value.slice A1 vs.length c1).ownBlock = some j → j < W.heap.size := fun j hj => (ov.lt j hj).2
    have zS : OwnS w3 (w.heap.size + 3) 22 .u8 B1 d1 (tk ++ [pk]) := OwnS.app (W := w1.alloc (.cells #[.slice A2 pk.length c2] 22)) (H := w1.heap.size + 1)
      ((rv1.below (below_alloc (Below.refl _ _) _)).weaken fun j hj => ⟨hj.1, by simp; omega, hj.2.2⟩) ((OwnI.sl o2).below (below_alloc (Below.refl _ _) _))
      (fun x hx => ⟨by have := hA2 x hx; omega, by have := hA2 x hx; simp; omega, fun hh => by have := hA2 x hx; have := hold _ hh.symm; omega⟩) (by simp) o3 hg (by simpa using hat)
    have yb3 : Below w.heap.size w w3 := (yb1.alloc (by omega) _).grown hg (by simp; omega) (fun j hj => by have := own_base ov1 j hj; omega)
    have kp : KpB w.heap.size (w.heap.size + 2) W w3 := by
      refine ⟨((bw1.mono (by omega)).alloc (by omega) _).grown hg (by simp; omega) (fun j hj => by have := own_base ov1 j hj; omega), ?_⟩
      have e1 := hg.block (w.heap.size + 2) (by simp; omega) (nb _ (by omega))
      have e2 := Below.heap_alloc w1 (.cells #[.slice A2 pk.length c2] 22) (w.heap.size + 2) (by omega)
      exact (e1.trans e2).trans (bw1.block _ (by omega))
    have ko : KeepsOthers W w3 := ((keeps_below bw1).trans (KeepsOthers.alloc _ _)).trans (keeps_own (ov1.alloc _) hg)
    refine hK.out _ _ ⟨fun _ => q0, fun _ => q1⟩ ?_
    clear hK K hg hat z0 z1 ov1 rv1 o2 b2 bw1 hA2 nb
    try simp only [Act.put, List.setIfInBounds_toArray, List.set_cons_zero, List.set_cons_succ]
    have g0 := q0.cell
    have f0 := q0.frozen
    refine anyL_step (i := 10) (by kernel_rfl) rfl (by rfl) (fun K hK => ?_)
    go_simp
    have h0 := q0.set (.slice B1 (vs.length + 1) d1)
    have h1 : Boxed (w3.setCell ⟨w.heap.size, 0, none⟩ (.slice B1 (vs.length + 1) d1)) (w.heap.size + 1) 3 (.int .i64 (uk : Int)) := q1.other (by omega) _
    refine hK.out _ _ ⟨fun hh => absurd hh (by decide), fun _ => h1⟩ ?_
    clear hK K
    try simp only [Act.put, List.setIfInBounds_toArray, List.set_cons_zero, List.set_cons_succ]
    have g1 := h1.cell
    have f1 := h1.frozen
    refine anyL_step (i := 11) (by kernel_rfl) rfl (by rfl) (fun K hK => ?_)
    go_simp
    refine hK.out _ _ ⟨fun hh => absurd hh (by decide), fun hh => absurd hh (by decide)⟩ ?_
    clear hK K
    refine anyL_done (by kernel_rfl) ?_ _
    refine ⟨rfl, ?_, ?_, B1, d1, ?_, ?_, ?_, ?_⟩
    · exact ((ko.trans (KeepsOthers.setCell _ _ _)).trans (KeepsOthers.setCell _ _ _)).from _
    · refine ⟨(kp.1.setCell (p := ⟨w.heap.size, 0, none⟩) (Nat.le_refl _) _).setCell (p := ⟨w.heap.size + 1, 0, none⟩) (by simp) _, ?_⟩
      have e1 := (grownBy_setCell' w3 w.heap.size (.slice B1 (vs.length + 1) d1)).block (w.heap.size + 2) (by have := yb3.size; have := kp.1.size; omega) (by simp)
      have e2 := (grownBy_setCell' (w3.setCell ⟨w.heap.size, 0, none⟩ (.slice B1 (vs.length + 1) d1)) (w.heap.size + 1) (.int .i64 ((uk : Int) + 8 + (pk.length : Int)))).block (w.heap.size + 2) (by have := kp.1.size; simp; omega) (by simp)
      exact (e2.trans e1).trans kp.2
    · have := h0.other (B' := w.heap.size + 1) (by omega) (.int .i64 ((uk : Int) + 8 + (pk.length : Int)))
      rw [List.length_append, List.length_singleton, ← rv.1]; exact this
    · have := h1.set (.int .i64 ((uk : Int) + 8 + (pk.length : Int)))
      have e : ((uk + (8 + pk.length) : Nat) : Int) = (uk : Int) + 8 + (pk.length : Int) := by push_cast; omega
      rw [e]; exact this
    · exact (zS.kept (grownBy_setCell' _ _ _) (by omega)).kept (grownBy_setCell' _ _ _) (by omega)
    · exact (yb3.setCell (p := ⟨w.heap.size, 0, none⟩) (Nat.le_refl _) _).setCell (p := ⟨w.heap.size + 1, 0, none⟩) (by simp) _
  case done =>
    rintro D W hD ⟨A1, c1, y0, y1, yo, yb⟩ hdef
    rw [List.take_length] at y0 y1 yo
    have hc0 := y0.cell
    have hf0 := y0.frozen
    have hc1 := y1.cell
    have hf1 := y1.frozen
    gi_wp2
    have e0 := y0.set (.slice A1 (scanR b).length c1)
    have e1 : Boxed ((W.setCell ⟨w.heap.size, 0, none⟩ (.slice A1 (scanR b).length c1)).setCell ⟨w.heap.size + 1, 0, none⟩ (.int .i64 (used (scanR b) : Int))).drew w.heap.size 35 (.slice A1 (scanR b).length c1) := e0.other (by omega) _
    have e2 : Boxed ((W.setCell ⟨w.heap.size, 0, none⟩ (.slice A1 (scanR b).length c1)).setCell ⟨w.heap.size + 1, 0, none⟩ (.int .i64 (used (scanR b) : Int))).drew (w.heap.size + 1) 3 (.int .i64 (used (scanR b) : Int)) := (y1.other (by omega) _).set _
    have e3 : OwnS ((W.setCell ⟨w.heap.size, 0, none⟩ (.slice A1 (scanR b).length c1)).setCell ⟨w.heap.size + 1, 0, none⟩ (.int .i64 (used (scanR b) : Int))).drew (w.heap.size + 3) 22 .u8 A1 c1 (scanR b) :=
      ((yo.kept (grownBy_setCell' _ _ _) (by omega)).kept (grownBy_setCell' _ _ _) (by omega)).below (Below.refl _ _).drew
    have e4 : Below w.heap.size w ((W.setCell ⟨w.heap.size, 0, none⟩ (.slice A1 (scanR b).length c1)).setCell ⟨w.heap.size + 1, 0, none⟩ (.int .i64 (used (scanR b) : Int))).drew :=
      ((yb.setCell (p := ⟨w.heap.size, 0, none⟩) (Nat.le_refl _) _).setCell (p := ⟨w.heap.size + 1, 0, none⟩) (by simp) _).drew
    have e5 : ((W.setCell ⟨w.heap.size, 0, none⟩ (.slice A1 (scanR b).length c1)).setCell ⟨w.heap.size + 1, 0, none⟩ (.int .i64 (used (scanR b) : Int))).drew.heap[D]? = some (.deferred (some [])) := by
      have := ((KeepsOthers.setCell W ⟨w.heap.size, 0, none⟩ (.slice A1 (scanR b).length c1)).trans (KeepsOthers.setCell _ ⟨w.heap.size + 1, 0, none⟩ (.int .i64 (used (scanR b) : Int)))).trans (KeepsOthers.drew _)
      exact this.same D _ hdef rfl
    gi_region_with_o (fail)
    all_goals
      clear hc0 hf0 hc1 hf1 y0 y1 yo yb hdef e0
      generalize ((W.setCell ⟨w.heap.size, 0, none⟩ (.slice A1 (scanR b).length c1)).setCell ⟨w.heap.size + 1, 0, none⟩ (.int .i64 (used (scanR b) : Int))).drew = W4 at *
      have u0 := (e1.kept (grownBy_putObj' W4 D (.deferred none)) (by simp; omega)).cell
      have u1 := (e2.kept (grownBy_putObj' W4 D (.deferred none)) (by simp; omega)).cell
      have u2 := e3.put (.deferred none) e5 rfl
      have u3 : Below w.heap.size w (W4.putObj D (.deferred none)) := e4.grown (grownBy_putObj' W4 D (.deferred none)) e4.size fun j e => by cases e; omega
      gi_wp2
      refine ⟨by simp, .inl ⟨_, _, rfl, run_takeDeferred e5, ?_⟩⟩
      exact ⟨.tuple #[.slice A1 (scanR b).length c1, .int .i64 (used (scanR b) : Int)], by simp [results, Try.results15, go_sem, u0, u1], A1, c1, rfl, u2.mono (by omega), u3⟩
end Go.Proofs.Ytipjmglieedimaa
