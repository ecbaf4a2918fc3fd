/- wayfinderkit: OwnBook; the law's book. -/
import Derived.Test.YthpgaggceefamaaKitB
import Derived.Test.YthpgaggceefamaaRoundRegion
import Derived.Test.YthpgaggceefamaaLit
import Derived.RangeFuncNested
import Derived.Deep.DrawnRows
namespace Go.Proofs.Ythpgaggceefamaa
set_option linter.unusedVariables false
set_option linter.unusedSimpArgs false
open Go.RowKit
/-- What is known of a cell until its store, number s, has come up; and what is known throughout. -/
def oneQ (s : Nat) (p q : World → Prop) (L : Array Bool) (w : World) : Prop := (L.getD s true = false → p w) ∧ q w
theorem one_ind {s i : Nat} {p q : World → Prop} (h1 : i ≠ s) (L : Array Bool) (w : World) : oneQ s p q (L.setIfInBounds i true) w ↔ oneQ s p q L w := by
  unfold oneQ; rw [getD_set_ne true h1]
/-- A result that lies in a cell: a struct of one field. -/
theorem ret_box {P : Program} {fn : Func} {p : Tmp} {ty : TypeId} {a : Act} {w : World} {Q : Ending → World → Prop} (h : fn.results = #[.cell p ty]) {g : Nat} {v : Value} (hp : a.tmps.getD p undef = .pointer (some ⟨g, 0, none⟩)) (hb : Boxed w g ty v)
    {d : TypeDesc} (hu : P.underlying ty = some d) (hd : (match d with | .struct _ | .array _ _ => true | _ => false) = true) (hi : (P.info? ty).map (·.size) = some 1) (hq : Q (.returned (.agg #[v])) w) (hdf : a.defers = [] := by rfl) : bodyPost P fn Q .ret a w :=
  bodyPost_ret (v := .agg #[v]) (results_cell_row h _ w g ty #[v] (0, 0) d hp hb hu hd hi) hdf hq
theorem OwnB.kept {w w' : World} {base E : Nat} {k : IntKind} {A : Option Addr} {c : Nat} {b : List (List (List Int))} {r : Nat} (h : OwnB w base E k A c b) (hg : w.grownBy w' (some r)) (hr : r < base) : OwnB w' base E k A c b := by
  obtain ⟨vs, h1, h2⟩ := h
  have := hg.size
  refine ⟨vs, h1.kept hg ?_, (h2.kept hg fun b hb => by simp; omega).weaken fun b hh => ⟨hh.1, by omega, hh.2.2⟩⟩
  cases hv : (Value.slice A vs.length c).ownBlock with
  | none => exact .inl rfl
  | some g => right; have := own_base h1 g hv; simp; omega
set_option maxHeartbeats 1000000 in
theorem OwnBook_calls (A : Option Addr) (c : Nat) (b : List (List (List Int))) (w : World) (h : SlB w .i32 A c b) (hl : b.length ≤ 1000) (hl2 : ∀ j, j < b.length → (b.getD j []).length ≤ 1000) (hl3 : ∀ j, j < b.length → ∀ i, i < (b.getD j []).length → ((b.getD j []).getD i []).length ≤ 1000) :
    Calls Try.prog 31 #[.agg #[.slice A b.length c]] w fun e w' => ∃ A' c', e = .returned (.agg #[.slice A' b.length c']) ∧ SlB w' .i32 A' c' b ∧ Below w.heap.size w w' := by
  have hm := h.len
  have hmix : Try.prog.follows .mixedOrders = true := by kernel_rfl
  go_enter Try.func31, Try.ntmps31
  go_wp2_with fail
  go_loopg [4] (b.length + 1) (fun gk i w' => ∃ (j : Nat) (A1 : Option Addr) (c1 : Nat), i = .int .i64 (j : Int) ∧ j ≤ b.length ∧ b.length < j + gk ∧ Boxed w' (w.heap.size + 2) 24 (.slice A1 j c1) ∧
      Boxed w' (w.heap.size + 1) 24 (.slice none 0 0) ∧ Boxed w' w.heap.size 24 (.slice A b.length c) ∧ OwnB w' (w.heap.size + 3) 41 .i32 A1 c1 (b.take j) ∧ Below w.heap.size w w')
  case atStart =>
    refine ⟨0, none, 0, rfl, by omega, by omega, ?_, ?_, ?_, by rw [List.take_zero]; exact OwnB.nil _ _ _ _, below_alloc (below_alloc (below_alloc (Below.refl _ _) _) _) _⟩
    · have := Boxed.new ((w.alloc (.cells #[.slice A b.length c] 24)).alloc (.cells #[.slice none 0 0] 24)) 24 (.slice none 0 0)
      rwa [World.size_alloc, World.size_alloc] at this
    · have := (Boxed.new (w.alloc (.cells #[.slice A b.length c] 24)) 24 (.slice none 0 0)).alloc (.cells #[.slice none 0 0] 24)
      rwa [World.size_alloc] at this
    · exact ((Boxed.new w 24 (.slice A b.length c)).alloc _).alloc _
  case round =>
    obtain ⟨j, A1, c1, rfl, hj, hg, y2, y1, y0, yo, bw⟩ := hrel
    have g0 := y0.cell
    by_cases hlt : j < b.length
    · have i1 : (j : Int) < (b.length : Int) := by omega
      obtain ⟨ad, B, d, rfl, hx0, hxs0⟩ := h.get j hlt
      have hx := cell_below bw _ _ hx0
      have hxs := hxs0.below bw
      clear hxs0
      have hle := hl2 j hlt
      have hle2 := hl3 j hlt
      have htk : b.take (j + 1) = b.take j ++ [b.getD j []] := by rw [List.take_add_one, List.getElem?_eq_getElem hlt, List.getD_eq_getElem?_getD, List.getElem?_eq_getElem hlt]; rfl
      have HT := Lib.hid htk
      clear htk
      obtain ⟨vs, ov, rv⟩ := yo
      have hvl : vs.length = j := by rw [rv.1, List.length_take]; omega
      generalize b.getD j [] = p at *
      generalize b.take j = tk at *
      subst hvl
      generalize hjj : vs.length = j at *
      have bsz := bw.size
      have lsz := (Array.getElem?_eq_some_iff.1 y2).1
      go_wp2_with fail
      refine region_L (oneQ 11 (fun X => Boxed X (w.heap.size + 2) 24 (.slice A1 j c1)) (fun X => Boxed X w.heap.size 24 (.slice (some ad) b.length c) ∧ X.cell? (ad.add j) = some (.slice B p.length d))) hmix ?_
      have hS : oneQ 11 (fun X => Boxed X (w.heap.size + 2) 24 (.slice A1 j c1)) (fun X => Boxed X w.heap.size 24 (.slice (some ad) b.length c) ∧ X.cell? (ad.add j) = some (.slice B p.length d)) (Array.replicate 12 false) wr.drew := ⟨fun _ => y2, y0, hx⟩
      refine anyL_take (fun _ => True) [] (i := 0) (v := ?_) rfl (by kernel_rfl) (by kernel_rfl) (by kernel_rfl) (fun _ _ _ h => h) (by kernel_rfl) (one_ind (i := 0) (by decide)) (fun _ _ _ _ => trivial) (Or.inl ⟨by rfl, ?_⟩) hS ?_
      rotate_left
      · intro X hX
        clear hX
        go_simp
        try with_reducible rfl
      simp only [Act.put, List.setIfInBounds_toArray, List.set_cons_zero, List.set_cons_succ]
      replace hS := (one_ind (i := 0) (by decide) _ _).2 hS
      refine anyL_take (fun X => Boxed X (w.heap.size + 2) 24 (.slice A1 j c1)) [11] (i := 1) (v := ?_) rfl (by kernel_rfl) (by kernel_rfl) (by kernel_rfl) (fun _ _ _ h => h) (by kernel_rfl) (one_ind (i := 1) (by decide)) (fun L X h1 h2 => h2.1 (h1 11 (by simp))) (Or.inl ⟨by rfl, ?_⟩) hS ?_
      rotate_left
      · intro X hX
        have g0 := Boxed.cell hX
        go_simp
        try with_reducible rfl
      simp only [Act.put, List.setIfInBounds_toArray, List.set_cons_zero, List.set_cons_succ]
      replace hS := (one_ind (i := 1) (by decide) _ _).2 hS
      refine anyL_take (fun _ => True) [] (i := 2) (v := ?_) rfl (by kernel_rfl) (by kernel_rfl) (by kernel_rfl) (fun _ _ _ h => h) (by kernel_rfl) (one_ind (i := 2) (by decide)) (fun _ _ _ _ => trivial) (Or.inl ⟨by rfl, ?_⟩) hS ?_
      rotate_left
      · intro X hX
        clear hX
        go_simp
        try with_reducible rfl
      simp only [Act.put, List.setIfInBounds_toArray, List.set_cons_zero, List.set_cons_succ]
      replace hS := (one_ind (i := 2) (by decide) _ _).2 hS
      refine anyL_take (fun X => Boxed X w.heap.size 24 (.slice (some ad) b.length c) ∧ X.cell? (ad.add j) = some (.slice B p.length d)) [] (i := 3) (v := ?_) rfl (by kernel_rfl) (by kernel_rfl) (by kernel_rfl) (fun _ _ _ h => h) (by kernel_rfl) (one_ind (i := 3) (by decide)) (fun L X h1 h2 => h2.2) (Or.inl ⟨by rfl, ?_⟩) hS ?_
      rotate_left
      · intro X hX
        obtain ⟨g0, g1⟩ := hX; have g0 := Boxed.cell g0
        go_simp
        try with_reducible rfl
      simp only [Act.put, List.setIfInBounds_toArray, List.set_cons_zero, List.set_cons_succ]
      replace hS := (one_ind (i := 3) (by decide) _ _).2 hS
      refine anyL_take (fun _ => True) [] (i := 4) (v := ?_) rfl (by kernel_rfl) (by kernel_rfl) (by kernel_rfl) (fun _ _ _ h => h) (by kernel_rfl) (one_ind (i := 4) (by decide)) (fun _ _ _ _ => trivial) (Or.inl ⟨by rfl, ?_⟩) hS ?_
      rotate_left
      · intro X hX
        clear hX
        go_simp
        try with_reducible rfl
      simp only [Act.put, List.setIfInBounds_toArray, List.set_cons_zero, List.set_cons_succ]
      replace hS := (one_ind (i := 4) (by decide) _ _).2 hS
      refine anyL_take (fun _ => True) [] (i := 5) (v := ?_) rfl (by kernel_rfl) (by kernel_rfl) (by kernel_rfl) (fun _ _ _ h => h) (by kernel_rfl) (one_ind (i := 5) (by decide)) (fun _ _ _ _ => trivial) (Or.inl ⟨by rfl, ?_⟩) hS ?_
      rotate_left
      · intro X hX
        clear hX
        go_simp
        try with_reducible rfl
      simp only [Act.put, List.setIfInBounds_toArray, List.set_cons_zero, List.set_cons_succ]
      replace hS := (one_ind (i := 5) (by decide) _ _).2 hS
      refine anyL_take (fun X => Boxed X w.heap.size 24 (.slice (some ad) b.length c) ∧ X.cell? (ad.add j) = some (.slice B p.length d)) [] (i := 6) (v := ?_) rfl (by kernel_rfl) (by kernel_rfl) (by kernel_rfl) (fun _ _ _ h => h) (by kernel_rfl) (one_ind (i := 6) (by decide)) (fun L X h1 h2 => h2.2) (Or.inl ⟨by rfl, ?_⟩) hS ?_
      rotate_left
      · intro X hX
        obtain ⟨g0, g1⟩ := hX; have g0 := Boxed.cell g0
        go_simp
        try with_reducible rfl
      simp only [Act.put, List.setIfInBounds_toArray, List.set_cons_zero, List.set_cons_succ]
      replace hS := (one_ind (i := 6) (by decide) _ _).2 hS
      have bd : Below wr.heap.size wr wr.drew := (Below.refl _ _).drew
      refine anyL_step (i := 7) (by kernel_rfl) rfl (by rfl) (fun K hK => ?_)
      go_simp
      refine (OwnLists_int32_calls B d p _ (hxs.below bd) (by omega) (fun i hi => Nat.le_trans (hle2 i hi) (by omega))).mono ?_
      rintro e w1 ⟨A2, c2, rfl, o2, b2⟩
      have bw1 := below_trans bd b2
      have z2 : Boxed w1 (w.heap.size + 2) 24 (.slice A1 j c1) := y2.kept (grown_of_below bw1 none) (by simp)
      have z1 : Boxed w1 (w.heap.size + 1) 24 (.slice none 0 0) := y1.kept (grown_of_below bw1 none) (by simp)
      have z0 : Boxed w1 w.heap.size 24 (.slice (some ad) b.length c) := y0.kept (grown_of_below bw1 none) (by simp)
      have zx := cell_below (below_trans bw bw1) _ _ hx0
      have ov1 := own_below ov bw1
      have rv1 := rv.below bw1
      have yb1 := below_trans bw bw1
      have lW1 : wr.heap.size ≤ w1.heap.size := bw1.size
      have hq : ∀ W, Below w.heap.size w W → W.cell? (ad.add j) = some (.slice B p.length d) := fun W hW => cell_below hW _ _ hx0
      dsimp only
      refine hK.out _ _ ⟨fun _ => z2, z0, zx⟩ ?_
      clear hK K hS
      try simp only [Act.put, List.setIfInBounds_toArray, List.set_cons_zero, List.set_cons_succ]
      refine anyL_step (i := 8) (by kernel_rfl) rfl (by rfl) (fun K hK => ?_)
      go_simp
      have yb2 := below_alloc yb1 (.cells #[.slice A2 p.length c2] 41)
      refine hK.out _ _ ⟨fun _ => z2.alloc _, z0.alloc _, hq _ yb2⟩ ?_
      clear hK K
      try simp only [Act.put, List.setIfInBounds_toArray, List.set_cons_zero, List.set_cons_succ]
      refine anyL_step (i := 9) (by kernel_rfl) rfl (by rfl) (fun K hK => ?_)
      subst hjj
      refine wp_app_vals (w.heap.size + 3) _ _ 22 41 (.slice none 0 0) 24 rfl Try.underlying22 (by kernel_rfl) (by decide) rfl A1 c1 vs [.slice A2 p.length c2] ⟨w1.heap.size, 0, none⟩ 1 rfl rfl (ov1.alloc _) (by simp) (World.news_of_block (cs := #[.slice A2 p.length c2]) (t := 41) (fr := (0, 0)) (heap_alloc_new w1 _)) (by simp [Value.oneCell']) (by simp; omega) (by simp; omega) ?_
      intro B1 d1 w3 o3 hg3 hat
      have nb : ∀ j, j < w.heap.size + 3 → some j ≠ (Value.slice A1 vs.length c1).ownBlock := fun j hj hh => by have := own_base ov1 j hh.symm; omega
      have q2 : Boxed w3 (w.heap.size + 2) 24 (.slice A1 vs.length c1) := (z2.alloc _).kept hg3 (nb _ (by omega))
      have q1 : Boxed w3 (w.heap.size + 1) 24 (.slice none 0 0) := (z1.alloc _).kept hg3 (nb _ (by omega))
      have q0 : Boxed w3 w.heap.size 24 (.slice (some ad) b.length c) := (z0.alloc _).kept hg3 (nb _ (by omega))
      have zS := ownB_app1 (W0 := wr) (w1 := w1) rv1 (by simpa using o2) (fun k hk => (ov.lt k hk).2) (by omega) o3 hg3 (by simpa using hat) lW1
      have yb3 : Below w.heap.size w w3 := (yb1.alloc (by omega) _).grown hg3 (by simp; omega) (fun j hj => by have := own_base ov1 j hj; omega)
      rw [← HT.out] at zS
      refine hK.out _ _ ⟨fun _ => q2, q0, hq _ yb3⟩ ?_
      clear hK K hg3 hat z0 z1 z2 ov1 rv1 o2 b2 bw1 nb yb2 yb1 zx
      try simp only [Act.put, List.setIfInBounds_toArray, List.set_cons_zero, List.set_cons_succ]
      have g2 := q2.cell
      have f2 := q2.frozen
      refine anyL_step (i := 10) (by kernel_rfl) rfl (by rfl) (fun K hK => ?_)
      go_simp
      refine hK.out _ _ ⟨fun _ => q2, q0, hq _ yb3⟩ ?_
      clear hK K
      try simp only [Act.put, List.setIfInBounds_toArray, List.set_cons_zero, List.set_cons_succ]
      refine anyL_step (i := 11) (by kernel_rfl) rfl (by rfl) (fun K hK => ?_)
      go_simp
      have r2 := q2.set (.slice B1 (vs.length + 1) d1)
      have r1 : Boxed (w3.setCell ⟨w.heap.size + 2, 0, none⟩ (.slice B1 (vs.length + 1) d1)) (w.heap.size + 1) 24 (.slice none 0 0) := q1.other (by omega) _
      have r0 : Boxed (w3.setCell ⟨w.heap.size + 2, 0, none⟩ (.slice B1 (vs.length + 1) d1)) w.heap.size 24 (.slice (some ad) b.length c) := q0.other (by omega) _
      have zb := yb3.setCell (p := ⟨w.heap.size + 2, 0, none⟩) (by simp) (.slice B1 (vs.length + 1) d1)
      have zo := zS.kept (grownBy_setCell' w3 (w.heap.size + 2) (.slice B1 (vs.length + 1) d1)) (by omega)
      refine hK.out _ _ ⟨fun hh => absurd hh (by decide), r0, hq _ zb⟩ ?_
      clear hK K
      refine anyL_done (by kernel_rfl) ?_ _
      generalize w3.setCell ⟨w.heap.size + 2, 0, none⟩ (.slice B1 (vs.length + 1) d1) = w4 at *
      go_wp2_with fail
      go_roundg (gk - 1)
      case measure => omega
      case rel => exact ⟨vs.length + 1, B1, d1, by simp, by omega, by omega, r2, r1, r0, zo, zb⟩
    · obtain rfl : j = b.length := by omega
      have i1 : ¬ (b.length : Int) < (b.length : Int) := by omega
      have g1 := y1.cell
      have f1 := y1.frozen
      have g2 := y2.cell
      rw [List.take_length] at yo
      go_wp2_with fail
      (try simp only [Exit.inBlock, Exit.then])
      refine ret_box rfl rfl (y1.set (.slice A1 b.length c1)) Try.underlying24 rfl (by kernel_rfl) ?_
      exact ⟨A1, c1, rfl, (yo.kept (grownBy_setCell' wr (w.heap.size + 1) (.slice A1 b.length c1)) (by omega)).sl, bw.setCell (p := ⟨w.heap.size + 1, 0, none⟩) (by simp) _⟩
end Go.Proofs.Ythpgaggceefamaa
