/- CmdRD: the reference's Doubles. -/
import Derived.Test.YtjdablkdndmcgaaCmdRB
import Derived.Test.YtjdablkdndmcgaaFloD
import Derived.Test.YtjdablkdndmcgaaBranch
namespace Go.Proofs.Ytjdablkdndmcgaa
set_option linter.unusedVariables false
set_option linter.unusedSimpArgs false
open Go.RowKit
theorem wrap_fr (f : Nat) (h : f ≤ 15) : IntKind.u8.wrap (IntKind.i64.wrap ((f : Int) + 1)) = ((f : Int) + 1) := by
  rw [wrap_i _ (by omega) (by omega)]
  simp [IntKind.wrap, IntKind.signed, IntKind.bits]
  omega
set_option maxHeartbeats 2000000 in
set_option maxRecDepth 20000 in
theorem RDoubles_calls (x : Cm) (A : Option Addr) (a : Nat) (B : Option Addr) (b : Nat) (f' : Int) (w : World) (hk : CmK w x A a B b) (hx : CmB x) (r : List Int) (hr : Hid (doublesR x f' = r)) (er : Int) (he : Hid ((if doublesOk x f' then 0 else 2) = er)) :
    Calls Try.prog 27 #[.agg (cmC x A a B b).toArray, .int .i64 f'] w fun e w' => ∃ V cv, e = .returned (.tuple #[.slice V r.length cv, .int .i64 er]) ∧ SlI w' .u8 V cv r ∧ Below w.heap.size w w' := by
  have hmix : Try.prog.follows .mixedOrders = true := by kernel_rfl
  have h0 : Blk (w.alloc (.cells (cmC x A a B b).toArray 34)) w.heap.size 34 (cmC x A a B b) := Blk.new w _ _
  have B0 := below_box0 w (.cells (cmC x A a B b).toArray 34)
  obtain ⟨l0, l1', l2', l3', l4, l5⟩ := load_cm h0
  have HX := Lib.hid (And.intro h0 B0)
  clear h0 B0
  simp only [cmC] at l0 l1' l2' l3' l4 l5 ⊢
  have bad : ¬ doublesOk x f' → r = [] ∧ er = 2 := fun h => by
    have e1 := he.out
    rw [if_neg h] at e1
    have e2 := hr.out
    unfold doublesR at e2
    rw [if_neg h] at e2
    exact ⟨e2.symm, e1.symm⟩
  replace bad := Lib.hid bad
  by_cases hok : cmOk x
  case neg =>
    obtain ⟨rfl, rfl⟩ := bad.out (fun h => hok h.1)
    clear hr he bad
    go_enter Try.func27, Try.ntmps27
    go_wp2_with fail
    refine (RCheck_calls x A a B b _).mono ?_
    rintro e w1 ⟨rfl, b1⟩
    rw [if_neg hok]
    have HB := Lib.hid (below_row HX.out.2 HX.out.2.size (grown_of_below b1 none) (fun k hk => by cases hk))
    clear b1 l0 l1' l2' l3' l4 l5
    go_wp2_with fail
    go_ret2
    exact ⟨none, 0, rfl, SlI.nil _ _, HB.out⟩
  by_cases hf1 : f' < 0
  · obtain ⟨rfl, rfl⟩ := bad.out (fun h => by have := h.2.1.1; omega)
    clear hr he bad
    go_enter Try.func27, Try.ntmps27
    go_wp2_with fail
    refine (RCheck_calls x A a B b _).mono ?_
    rintro e w1 ⟨rfl, b1⟩
    rw [if_pos hok]
    have HB := Lib.hid (below_row HX.out.2 HX.out.2.size (grown_of_below b1 none) (fun k hk => by cases hk))
    clear b1 l0 l1' l2' l3' l4 l5
    go_wp2_with fail
    go_ret2
    exact ⟨none, 0, rfl, SlI.nil _ _, HB.out⟩
  by_cases hf2 : 15 < f'
  · obtain ⟨rfl, rfl⟩ := bad.out (fun h => by have := h.2.1.2; omega)
    clear hr he bad
    go_enter Try.func27, Try.ntmps27
    go_wp2_with fail
    refine (RCheck_calls x A a B b _).mono ?_
    rintro e w1 ⟨rfl, b1⟩
    rw [if_pos hok]
    have HB := Lib.hid (below_row HX.out.2 HX.out.2.size (grown_of_below b1 none) (fun k hk => by cases hk))
    clear b1 l0 l1' l2' l3' l4 l5
    go_wp2_with fail
    go_ret2
    exact ⟨none, 0, rfl, SlI.nil _ _, HB.out⟩
  obtain ⟨f, rfl⟩ := Int.eq_ofNat_of_zero_le (show 0 ≤ f' by omega)
  have hf15 : f ≤ 15 := by omega
  cases h2 : hasN x.op 2 with
  | false =>
    obtain ⟨rfl, rfl⟩ := bad.out (fun h => by have := h.2.2; rw [h2] at this; cases this)
    clear hr he bad
    go_enter Try.func27, Try.ntmps27
    go_wp2_with fail
    refine (RCheck_calls x A a B b _).mono ?_
    rintro e w1 ⟨rfl, b1⟩
    rw [if_pos hok]
    have HB := Lib.hid (below_row HX.out.2 HX.out.2.size (grown_of_below b1 none) (fun k hk => by cases hk))
    have h1 := HX.out.1.below b1
    clear b1 l0 l1' l2' l3' l4 l5
    have l0 := h1.cell 0
    simp only [cmC, List.getElem?_cons_zero] at l0
    clear h1 HX
    go_wp2_with fail
    refine (RhasVec_h x.op _).mono ?_
    rintro e W ⟨rfl, hW⟩
    subst hW
    rw [h2]
    go_wp2_with fail
    go_ret2
    exact ⟨none, 0, rfl, SlI.nil _ _, HB.out⟩
  | true =>
    have hd : doublesOk x f := ⟨hok, ⟨by omega, by omega⟩, h2⟩
    have e1 := he.out
    rw [if_pos hd] at e1
    have e2 := hr.out
    unfold doublesR at e2
    rw [if_pos hd, show ((f : Nat) : Int).toNat = f from rfl] at e2
    subst e1
    have hok' := hok
    unfold cmOk at hok'
    obtain ⟨_, _, ov, _, _⟩ := hok'
    have hv : x.v.length ≤ 1024 := by split at ov <;> simp_all
    clear ov
    obtain ⟨z1, hz1⟩ : ∃ z, z = [x.op] ++ idB x := ⟨_, rfl⟩
    obtain ⟨z2, hz2⟩ : ∃ z, z = z1 ++ vecB x (f + 1) := ⟨_, rfl⟩
    have hz4 : r = z2 ++ kB x ++ dB x := by rw [← e2, hz2, hz1]; rfl
    have l1 : z1.length ≤ 100 := by
      rw [hz1]; unfold idB
      split <;> simp [lowB_length]
    have lf := numB_len (f + 1) x.v
    have l2 : z2.length ≤ 10000 := by
      rw [hz2]; unfold vecB
      rw [h2, if_pos rfl]
      simp only [List.length_append, lowB_length, List.length_cons, List.length_nil]; omega
    obtain ⟨y2, hy2⟩ : ∃ y, y = z1 ++ [((f : Int) + 1)] ++ lowB x.v.length 2 := ⟨_, rfl⟩
    have e1 : z2 = y2 ++ x.v.flatMap (numB (f + 1)) := by rw [hz2, hy2]; unfold vecB; rw [h2, if_pos rfl]; simp
    have ly2 : y2.length = z1.length + 3 := by rw [hy2]; simp [lowB_length]
    clear lf hr he e2 hd bad
    replace hz1 := Lib.hid hz1
    replace hz2 := Lib.hid hz2
    replace hz4 := Lib.hid hz4
    replace e1 := Lib.hid e1
    replace hy2 := Lib.hid hy2
    replace ly2 := Lib.hid ly2
    go_enter Try.func27, Try.ntmps27
    go_wp2_with fail
    refine (RCheck_calls x A a B b _).mono ?_
    rintro e w1 ⟨rfl, b1⟩
    rw [if_pos hok]
    have HB := Lib.hid (And.intro (HX.out.1.below b1) (below_row HX.out.2 HX.out.2.size (grown_of_below b1 none) (fun k hk => by cases hk)))
    clear l0 l1' l2' l3' l4 l5 b1 HX
    obtain ⟨l0, l1', l2', l3', l4, l5⟩ := load_cm HB.out.1
    go_wp2_with fail
    refine (RhasVec_h x.op _).mono ?_
    rintro e W3 ⟨rfl, hW3⟩
    subst hW3
    rw [h2]
    go_upto_region 3 with fail
    go_cut [6] (fun s6 w' => ∃ D2 d2, s6 = .slice D2 y2.length d2 ∧ PB w w' x A a B b y2 D2 d2)
    case first =>
      refine region_L (oneQ 99 (fun _ => True) (fun X => X.cell? ⟨w.heap.size, 0, none⟩ = some (.int .i64 x.op) ∧ X.cell? ⟨w.heap.size, 1, none⟩ = some (.int .i64 x.id) ∧ X.cell? ⟨w.heap.size, 2, none⟩ = some (.slice A x.v.length a) ∧ X.cell? ⟨w.heap.size, 3, none⟩ = some (.int .i64 x.k) ∧ X.cell? ⟨w.heap.size, 4, none⟩ = some (.int .i64 x.p) ∧ X.cell? ⟨w.heap.size, 5, none⟩ = some (.slice B x.d.length b))) hmix ?_
      have h : Blk W3.drew w.heap.size 34 (cmC x A a B b) ∧ Below w.heap.size w W3.drew := ⟨HB.out.1.below ((Below.refl W3.heap.size W3).drew), below_row HB.out.2 HB.out.2.size (grown_of_below ((Below.refl W3.heap.size W3).drew) none) (fun k hk => by cases hk)⟩
      clear l0 l1' l2' l3' l4 l5
      generalize W3.drew = V0 at *
      have hS : oneQ 99 (fun _ => True) (fun X => X.cell? ⟨w.heap.size, 0, none⟩ = some (.int .i64 x.op) ∧ X.cell? ⟨w.heap.size, 1, none⟩ = some (.int .i64 x.id) ∧ X.cell? ⟨w.heap.size, 2, none⟩ = some (.slice A x.v.length a) ∧ X.cell? ⟨w.heap.size, 3, none⟩ = some (.int .i64 x.k) ∧ X.cell? ⟨w.heap.size, 4, none⟩ = some (.int .i64 x.p) ∧ X.cell? ⟨w.heap.size, 5, none⟩ = some (.slice B x.d.length b)) (Array.replicate 13 false) V0 := ⟨fun _ => trivial, load_cm h.1⟩
      refine anyL_take (fun X => X.cell? ⟨w.heap.size, 0, none⟩ = some (.int .i64 x.op) ∧ X.cell? ⟨w.heap.size, 1, none⟩ = some (.int .i64 x.id) ∧ X.cell? ⟨w.heap.size, 2, none⟩ = some (.slice A x.v.length a) ∧ X.cell? ⟨w.heap.size, 3, none⟩ = some (.int .i64 x.k) ∧ X.cell? ⟨w.heap.size, 4, none⟩ = some (.int .i64 x.p) ∧ X.cell? ⟨w.heap.size, 5, none⟩ = some (.slice B x.d.length b)) [] (i := 0) (v := ?_) rfl (by kernel_rfl) (by kernel_rfl) (by kernel_rfl) (fun _ _ _ h => h) (by kernel_rfl) (one_ind (i := 0) (by decide)) (fun L X h1 h2 => h2.2) (Or.inl ⟨by rfl, ?_⟩) hS ?_
      rotate_left
      · intro X hX
        obtain ⟨g0, g1, g2, g3, g4, g5⟩ := hX
        go_simp
        try with_reducible rfl
      try simp only [List.getElem_toArray, List.getElem_cons_zero, List.getElem_cons_succ]
      simp only [Act.put, List.setIfInBounds_toArray, List.set_cons_zero, List.set_cons_succ]
      replace hS := (one_ind (i := 0) (by decide) _ _).2 hS
      refine anyL_take (fun _ => True) [] (i := 2) (v := ?_) rfl (by kernel_rfl) (by kernel_rfl) (by kernel_rfl) (fun _ _ _ h => h) (by kernel_rfl) (one_ind (i := 2) (by decide)) (fun _ _ _ _ => trivial) (Or.inl ⟨by rfl, ?_⟩) hS ?_
      rotate_left
      · intro X hX
        clear hX
        go_simp
        try with_reducible rfl
      try simp only [List.getElem_toArray, List.getElem_cons_zero, List.getElem_cons_succ]
      simp only [Act.put, List.setIfInBounds_toArray, List.set_cons_zero, List.set_cons_succ]
      replace hS := (one_ind (i := 2) (by decide) _ _).2 hS
      refine anyL_take (fun _ => True) [] (i := 3) (v := ?_) rfl (by kernel_rfl) (by kernel_rfl) (by kernel_rfl) (fun _ _ _ h => h) (by kernel_rfl) (one_ind (i := 3) (by decide)) (fun _ _ _ _ => trivial) (Or.inl ⟨by rfl, ?_⟩) hS ?_
      rotate_left
      · intro X hX
        clear hX
        go_simp
        try with_reducible rfl
      try simp only [List.getElem_toArray, List.getElem_cons_zero, List.getElem_cons_succ]
      simp only [Act.put, List.setIfInBounds_toArray, List.set_cons_zero, List.set_cons_succ]
      replace hS := (one_ind (i := 3) (by decide) _ _).2 hS
      refine anyL_take (fun _ => True) [] (i := 4) (v := ?_) rfl (by kernel_rfl) (by kernel_rfl) (by kernel_rfl) (fun _ _ _ h => h) (by kernel_rfl) (one_ind (i := 4) (by decide)) (fun _ _ _ _ => trivial) (Or.inl ⟨by rfl, ?_⟩) hS ?_
      rotate_left
      · intro X hX
        clear hX
        go_simp
        try with_reducible rfl
      try simp only [List.getElem_toArray, List.getElem_cons_zero, List.getElem_cons_succ]
      simp only [Act.put, List.setIfInBounds_toArray, List.set_cons_zero, List.set_cons_succ]
      replace hS := (one_ind (i := 4) (by decide) _ _).2 hS
      rw [wrap_fr f hf15]
      refine anyL_take (fun _ => True) [] (i := 7) (v := ?_) rfl (by kernel_rfl) (by kernel_rfl) (by kernel_rfl) (fun _ _ _ h => h) (by kernel_rfl) (one_ind (i := 7) (by decide)) (fun _ _ _ _ => trivial) (Or.inl ⟨by rfl, ?_⟩) hS ?_
      rotate_left
      · intro X hX
        clear hX
        go_simp
        try with_reducible rfl
      try simp only [List.getElem_toArray, List.getElem_cons_zero, List.getElem_cons_succ]
      simp only [Act.put, List.setIfInBounds_toArray, List.set_cons_zero, List.set_cons_succ]
      replace hS := (one_ind (i := 7) (by decide) _ _).2 hS
      refine anyL_take (fun X => X.cell? ⟨w.heap.size, 0, none⟩ = some (.int .i64 x.op) ∧ X.cell? ⟨w.heap.size, 1, none⟩ = some (.int .i64 x.id) ∧ X.cell? ⟨w.heap.size, 2, none⟩ = some (.slice A x.v.length a) ∧ X.cell? ⟨w.heap.size, 3, none⟩ = some (.int .i64 x.k) ∧ X.cell? ⟨w.heap.size, 4, none⟩ = some (.int .i64 x.p) ∧ X.cell? ⟨w.heap.size, 5, none⟩ = some (.slice B x.d.length b)) [] (i := 8) (v := ?_) rfl (by kernel_rfl) (by kernel_rfl) (by kernel_rfl) (fun _ _ _ h => h) (by kernel_rfl) (one_ind (i := 8) (by decide)) (fun L X h1 h2 => h2.2) (Or.inl ⟨by rfl, ?_⟩) hS ?_
      rotate_left
      · intro X hX
        obtain ⟨g0, g1, g2, g3, g4, g5⟩ := hX
        go_simp
        try with_reducible rfl
      try simp only [List.getElem_toArray, List.getElem_cons_zero, List.getElem_cons_succ]
      simp only [Act.put, List.setIfInBounds_toArray, List.set_cons_zero, List.set_cons_succ]
      replace hS := (one_ind (i := 8) (by decide) _ _).2 hS
      refine anyL_take (fun _ => True) [] (i := 9) (v := ?_) rfl (by kernel_rfl) (by kernel_rfl) (by kernel_rfl) (fun _ _ _ h => h) (by kernel_rfl) (one_ind (i := 9) (by decide)) (fun _ _ _ _ => trivial) (Or.inl ⟨by rfl, ?_⟩) hS ?_
      rotate_left
      · intro X hX
        clear hX
        go_simp
        try with_reducible rfl
      try simp only [List.getElem_toArray, List.getElem_cons_zero, List.getElem_cons_succ]
      simp only [Act.put, List.setIfInBounds_toArray, List.set_cons_zero, List.set_cons_succ]
      replace hS := (one_ind (i := 9) (by decide) _ _).2 hS
      refine anyL_take (fun _ => True) [] (i := 10) (v := ?_) rfl (by kernel_rfl) (by kernel_rfl) (by kernel_rfl) (fun _ _ _ h => h) (by kernel_rfl) (one_ind (i := 10) (by decide)) (fun _ _ _ _ => trivial) (Or.inl ⟨by rfl, ?_⟩) hS ?_
      rotate_left
      · intro X hX
        clear hX
        go_simp
        try with_reducible rfl
      try simp only [List.getElem_toArray, List.getElem_cons_zero, List.getElem_cons_succ]
      simp only [Act.put, List.setIfInBounds_toArray, List.set_cons_zero, List.set_cons_succ]
      replace hS := (one_ind (i := 10) (by decide) _ _).2 hS
      rw [wrap_nat x.v.length (by omega)]
      clear hS
      refine anyL_step2 (i := 1) (j := 5) (by kernel_rfl) rfl rfl (by rfl) (by rfl) (fun K hK => ?_) (fun K hK => ?_)
      · go_simp
        refine (head_calls x A a B b _ hok hx z1 hz1).mono ?_
        rintro e w2 ⟨V, cv, rfl, o2, b2⟩
        have h2 : PB w w2 x A a B b z1 V cv := ⟨own_mono o2 h.1.lt, h.1.below b2, below_row h.2 h.2.size (grown_of_below b2 none) (fun k hk => by cases hk)⟩
        clear o2 b2
        dsimp only
        refine hK.out _ _ ⟨fun _ => trivial, load_cm h2.c⟩ ?_
        clear hK K
        try simp only [Act.put, List.setIfInBounds_toArray, List.set_cons_zero, List.set_cons_succ]
        have hb2 := h2.below (below_box0 w2 (.cells #[.int .u8 ((f : Int) + 1)] 5))
        have hel : Rd (w2.alloc (.cells #[.int .u8 ((f : Int) + 1)] 5)) (some ⟨w2.heap.size, 0, none⟩) (nums .u8 [((f : Int) + 1)]) := .inr ⟨_, rfl, World.news_of_block (cs := #[.int .u8 ((f : Int) + 1)]) (t := 5) (fr := (0, 0)) (heap_alloc_new w2 _)⟩
        refine anyL_step (i := 5) (by kernel_rfl) rfl (by rfl) (fun K hK => ?_)
        go_simp
        refine hK.out _ _ ⟨fun _ => trivial, load_cm hb2.c⟩ ?_
        clear hK K
        try simp only [Act.put, List.setIfInBounds_toArray, List.set_cons_zero, List.set_cons_succ]
        generalize hV1 : w2.alloc (.cells #[.int .u8 ((f : Int) + 1)] 5) = V1 at *
        obtain ⟨y1, hy1⟩ : ∃ y, y = z1 ++ [((f : Int) + 1)] := ⟨_, rfl⟩
        refine anyL_step (i := 6) (by kernel_rfl) rfl (by rfl) (fun K hK => ?_)
        refine wp_app_row (w.heap.size + 1) _ _ 25 5 .u8 1 rfl Try.underlying25 (by kernel_rfl) (by decide) V cv z1 [((f : Int) + 1)] (some ⟨w2.heap.size, 0, none⟩) 1 rfl rfl hb2.o hel hb2.size (by simp; omega) ?_
        intro D1 d1 w3 o3 hg3 _ _
        rw [← hy1] at o3 ⊢
        replace hy1 := Lib.hid hy1
        have h3 := hb2.app hg3 o3
        refine hK.out _ _ ⟨fun _ => trivial, load_cm h3.c⟩ ?_
        clear hK K
        try simp only [Act.put, List.setIfInBounds_toArray, List.set_cons_zero, List.set_cons_succ]
        refine anyL_step (i := 11) (by kernel_rfl) rfl (by rfl) (fun K hK => ?_)
        go_simp
        refine (RPut_is D1 d1 y1 x.v.length 2 _ (OwnI.sl h3.o) (by rw [hy1.out]; simp; omega) y2 (Lib.hid (by rw [show many8 2 = 2 from rfl, hy1.out, hy2.out]))).mono ?_
        rintro e w4 ⟨D2, d2, rfl, o4, b4⟩
        have h4 := h3.next b4 o4
        dsimp only
        refine hK.out _ _ ⟨fun _ => trivial, load_cm h4.c⟩ ?_
        clear hK K
        try simp only [Act.put, List.setIfInBounds_toArray, List.set_cons_zero, List.set_cons_succ]
        have hS : oneQ 99 (fun _ => True) (fun X => X.cell? ⟨w.heap.size, 0, none⟩ = some (.int .i64 x.op) ∧ X.cell? ⟨w.heap.size, 1, none⟩ = some (.int .i64 x.id) ∧ X.cell? ⟨w.heap.size, 2, none⟩ = some (.slice A x.v.length a) ∧ X.cell? ⟨w.heap.size, 3, none⟩ = some (.int .i64 x.k) ∧ X.cell? ⟨w.heap.size, 4, none⟩ = some (.int .i64 x.p) ∧ X.cell? ⟨w.heap.size, 5, none⟩ = some (.slice B x.d.length b)) (((((((((((((Array.replicate 13 false).setIfInBounds 0 true).setIfInBounds 2 true).setIfInBounds 3 true).setIfInBounds 4 true).setIfInBounds 7 true).setIfInBounds 8 true).setIfInBounds 9 true).setIfInBounds 10 true).setIfInBounds 1 true).setIfInBounds 5 true).setIfInBounds 6 true).setIfInBounds 11 true) w4 := ⟨fun _ => trivial, load_cm h4.c⟩
        refine anyL_take (fun _ => True) [] (i := 12) (v := ?_) rfl (by kernel_rfl) (by kernel_rfl) (by kernel_rfl) (fun _ _ _ h => h) (by kernel_rfl) (one_ind (i := 12) (by decide)) (fun _ _ _ _ => trivial) (Or.inl ⟨by rfl, ?_⟩) hS ?_
        rotate_left
        · intro X hX
          clear hX
          go_simp
          try with_reducible rfl
        try simp only [List.getElem_toArray, List.getElem_cons_zero, List.getElem_cons_succ]
        simp only [Act.put, List.setIfInBounds_toArray, List.set_cons_zero, List.set_cons_succ]
        replace hS := (one_ind (i := 12) (by decide) _ _).2 hS
        clear hS
        refine anyL_done (by kernel_rfl) ?_ _
        go_wp2_with fail
        go_meet
        exact ⟨D2, d2, rfl, h4⟩
      · have hq2 : Blk (V0.alloc (.cells #[.int .u8 ((f : Int) + 1)] 5)) w.heap.size 34 (cmC x A a B b) ∧ Below w.heap.size w (V0.alloc (.cells #[.int .u8 ((f : Int) + 1)] 5)) := ⟨h.1.below (below_box0 V0 _), below_row h.2 h.2.size (grown_of_below (below_box0 V0 _) none) (fun k hk => by cases hk)⟩
        have hel0 : Rd (V0.alloc (.cells #[.int .u8 ((f : Int) + 1)] 5)) (some ⟨V0.heap.size, 0, none⟩) (nums .u8 [((f : Int) + 1)]) := .inr ⟨_, rfl, World.news_of_block (cs := #[.int .u8 ((f : Int) + 1)]) (t := 5) (fr := (0, 0)) (heap_alloc_new V0 _)⟩
        go_simp
        refine hK.out _ _ ⟨fun _ => trivial, load_cm hq2.1⟩ ?_
        clear hK K
        try simp only [Act.put, List.setIfInBounds_toArray, List.set_cons_zero, List.set_cons_succ]
        generalize hV1 : V0.alloc (.cells #[.int .u8 ((f : Int) + 1)] 5) = V1 at *
        refine anyL_step (i := 1) (by kernel_rfl) rfl (by rfl) (fun K hK => ?_)
        go_simp
        refine (head_calls x A a B b _ hok hx z1 hz1).mono ?_
        rintro e w2 ⟨V, cv, rfl, o2, b2⟩
        have hb2 : PB w w2 x A a B b z1 V cv := ⟨own_mono o2 hq2.1.lt, hq2.1.below b2, below_row hq2.2 hq2.2.size (grown_of_below b2 none) (fun k hk => by cases hk)⟩
        have hel := hel0.below b2
        clear o2 b2
        dsimp only
        refine hK.out _ _ ⟨fun _ => trivial, load_cm hb2.c⟩ ?_
        clear hK K
        try simp only [Act.put, List.setIfInBounds_toArray, List.set_cons_zero, List.set_cons_succ]
        obtain ⟨y1, hy1⟩ : ∃ y, y = z1 ++ [((f : Int) + 1)] := ⟨_, rfl⟩
        refine anyL_step (i := 6) (by kernel_rfl) rfl (by rfl) (fun K hK => ?_)
        refine wp_app_row (w.heap.size + 1) _ _ 25 5 .u8 1 rfl Try.underlying25 (by kernel_rfl) (by decide) V cv z1 [((f : Int) + 1)] (some ⟨V0.heap.size, 0, none⟩) 1 rfl rfl hb2.o hel hb2.size (by simp; omega) ?_
        intro D1 d1 w3 o3 hg3 _ _
        rw [← hy1] at o3 ⊢
        replace hy1 := Lib.hid hy1
        have h3 := hb2.app hg3 o3
        refine hK.out _ _ ⟨fun _ => trivial, load_cm h3.c⟩ ?_
        clear hK K
        try simp only [Act.put, List.setIfInBounds_toArray, List.set_cons_zero, List.set_cons_succ]
        refine anyL_step (i := 11) (by kernel_rfl) rfl (by rfl) (fun K hK => ?_)
        go_simp
        refine (RPut_is D1 d1 y1 x.v.length 2 _ (OwnI.sl h3.o) (by rw [hy1.out]; simp; omega) y2 (Lib.hid (by rw [show many8 2 = 2 from rfl, hy1.out, hy2.out]))).mono ?_
        rintro e w4 ⟨D2, d2, rfl, o4, b4⟩
        have h4 := h3.next b4 o4
        dsimp only
        refine hK.out _ _ ⟨fun _ => trivial, load_cm h4.c⟩ ?_
        clear hK K
        try simp only [Act.put, List.setIfInBounds_toArray, List.set_cons_zero, List.set_cons_succ]
        have hS : oneQ 99 (fun _ => True) (fun X => X.cell? ⟨w.heap.size, 0, none⟩ = some (.int .i64 x.op) ∧ X.cell? ⟨w.heap.size, 1, none⟩ = some (.int .i64 x.id) ∧ X.cell? ⟨w.heap.size, 2, none⟩ = some (.slice A x.v.length a) ∧ X.cell? ⟨w.heap.size, 3, none⟩ = some (.int .i64 x.k) ∧ X.cell? ⟨w.heap.size, 4, none⟩ = some (.int .i64 x.p) ∧ X.cell? ⟨w.heap.size, 5, none⟩ = some (.slice B x.d.length b)) (((((((((((((Array.replicate 13 false).setIfInBounds 0 true).setIfInBounds 2 true).setIfInBounds 3 true).setIfInBounds 4 true).setIfInBounds 7 true).setIfInBounds 8 true).setIfInBounds 9 true).setIfInBounds 10 true).setIfInBounds 5 true).setIfInBounds 1 true).setIfInBounds 6 true).setIfInBounds 11 true) w4 := ⟨fun _ => trivial, load_cm h4.c⟩
        refine anyL_take (fun _ => True) [] (i := 12) (v := ?_) rfl (by kernel_rfl) (by kernel_rfl) (by kernel_rfl) (fun _ _ _ h => h) (by kernel_rfl) (one_ind (i := 12) (by decide)) (fun _ _ _ _ => trivial) (Or.inl ⟨by rfl, ?_⟩) hS ?_
        rotate_left
        · intro X hX
          clear hX
          go_simp
          try with_reducible rfl
        try simp only [List.getElem_toArray, List.getElem_cons_zero, List.getElem_cons_succ]
        simp only [Act.put, List.setIfInBounds_toArray, List.set_cons_zero, List.set_cons_succ]
        replace hS := (one_ind (i := 12) (by decide) _ _).2 hS
        clear hS
        refine anyL_done (by kernel_rfl) ?_ _
        go_wp2_with fail
        go_meet
        exact ⟨D2, d2, rfl, h4⟩
    case rest =>
      clear HB l0 l1' l2' l3' l4 l5
      obtain ⟨D2, d2, rfl, h4⟩ := hcut
      have H4 := Lib.hid h4
      clear h4
      go_wp2_with fail
      go_loopg [7, 6, 8, 9] (x.v.length + 1) (fun gk i s6 _ _ w' => ∃ (j : Nat) (V : Option Addr) (cv : Nat) (zs : List Int), i = .int .i64 (j : Int) ∧ s6 = .slice V zs.length cv ∧ j ≤ x.v.length ∧ x.v.length < j + gk ∧ zs = y2 ++ (x.v.take j).flatMap (numB (f + 1)) ∧ PB w w' x A a B b zs V cv)
      case atStart => exact ⟨0, D2, d2, y2, rfl, rfl, by omega, by omega, by simp, H4.out⟩
      case round =>
        obtain ⟨j, V, cv, zs, rfl, rfl, hj, hg, hz, hP⟩ := hrel
        clear H4
        obtain ⟨l0, l1', l2', l3', l4, l5⟩ := load_cm hP.c
        by_cases hjl : j < x.v.length
        · have hjl' : (j : Int) < (x.v.length : Int) := by omega
          obtain ⟨go, hgo⟩ : ∃ go, go = gk := ⟨_, rfl⟩
          subst hgo
          obtain ⟨ad, hA, hc⟩ := (hk.v.below hP.b).get j hjl
          subst hA
          obtain ⟨n, hn⟩ : ∃ n, n = x.v.getD j 0 := ⟨_, rfl⟩
          rw [← hn] at hc
          have hnb : -32768 ≤ n ∧ n ≤ 32767 := by
            rw [hn, List.getD_eq_getElem?_getD, List.getElem?_eq_getElem hjl]; exact hx.v _ (List.getElem_mem hjl)
          obtain ⟨n0, n1⟩ := hnb
          have hzn : zs ++ numB (f + 1) n = y2 ++ (x.v.take (j + 1)).flatMap (numB (f + 1)) := by
            rw [List.take_add_one, List.flatMap_append, ← List.append_assoc, ← hz, List.getElem?_eq_getElem hjl, hn]
            simp [List.getD_eq_getElem?_getD, List.getElem?_eq_getElem hjl]
          have hzl : zs.length ≤ 9000 := by
            have := numB_len (f + 1) (x.v.take j)
            rw [hz, List.length_append, ly2.out]
            rw [List.length_take] at this
            omega
          replace hz := Lib.hid hz
          replace hzn := Lib.hid hzn
          replace hn := Lib.hid hn
          replace hzl := Lib.hid hzl
          have HP := Lib.hid hP
          clear hP
          obtain ⟨zn, hzn2⟩ : ∃ zn, zn = zs ++ numB (f + 1) n := ⟨_, rfl⟩
          have hput : zs ++ lowB (ldx n f : Int) 8 = zn := by rw [hzn2]; unfold numB; rw [if_neg (by omega)]; rfl
          replace hput := Lib.hid hput
          replace hzn2 := Lib.hid hzn2
          go_wp2_with fail
          obtain ⟨wl, rfl⟩ : ∃ W, W = wr := ⟨_, rfl⟩
          go_loopg [8, 9] (f + 1) (fun gk2 s8 s9 w' => ∃ k : Nat, s8 = .float .f64 (ldx n k) ∧ s9 = .int .i64 (k : Int) ∧ k ≤ f ∧ f < k + gk2 ∧ w' = wl)
          case atStart => exact ⟨0, by rw [ldx_zero]; rfl, rfl, by omega, by omega, rfl⟩
          case round =>
            obtain ⟨k, rfl, rfl, hkf, hg2, rfl⟩ := hrel
            by_cases hkl : k < f
            · have hkl' : (k : Int) < (f : Int) := by omega
              have hdiv : ∀ W, (binOp .quo 82 (.float .f64 (ldx n k)) (.float .f64 4611686018427387904)).run Try.prog W = .ok (.float .f64 (ldx n (k + 1))) W := fun W => run_float_arith W .quo _ .f64 _ _ _ (half_ldx n k n0 n1 (by omega))
              go_wp2_with fail
              go_roundg (gk - 1)
              case measure => omega
              case rel => exact ⟨k + 1, rfl, by simp, by omega, by omega, rfl⟩
            obtain rfl : k = f := by omega
            clear hkl hg2 hkf
            have htb := fun W => tobits (ldx n k) W
            go_wp2_with fail
            refine (RPut_is V cv zs (ldx n k : Int) 8 _ (OwnI.sl HP.out.o) (by have := hzl.out; omega) zn (Lib.hid (by rw [show many8 8 = 8 from rfl]; exact hput.out))).mono ?_
            rintro e w5 ⟨D3, d3, rfl, o5, b5⟩
            have H5 := Lib.hid (HP.out.next b5 o5)
            clear o5 b5 HP hc l0 l1' l2' l3' l4 l5 htb
            go_wp2_with fail
            go_roundg (go - 1)
            case measure => omega
            case rel => exact ⟨j + 1, D3, d3, zn, by simp, rfl, by omega, by omega, by rw [hzn2.out]; exact hzn.out, H5.out⟩
        obtain rfl : j = x.v.length := by omega
        rw [List.take_of_length_le (Nat.le_refl _)] at hz
        have hzz : zs = z2 := by rw [hz, e1.out]
        subst hzz
        clear hz hjl
        have HP := Lib.hid hP
        clear hP
        go_wp2_with fail
        refine (tail_calls V cv zs x A a B b _ (OwnI.sl HP.out.o) ⟨hk.v.below HP.out.b, hk.d.below HP.out.b⟩ hok (by omega) r hz4).mono ?_
        rintro e w6 ⟨V6, c6, rfl, s6, b6⟩
        have HF := Lib.hid (And.intro s6 (below_row HP.out.b HP.out.b.size (grown_of_below b6 none) (fun k hk => by cases hk)))
        clear HP s6 b6 l0 l1' l2' l3' l4 l5
        go_wp2_with fail
        go_ret2
        exact ⟨V6, c6, rfl, HF.out.1, HF.out.2⟩
end Go.Proofs.Ytjdablkdndmcgaa
