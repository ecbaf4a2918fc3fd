/- CmdRB: the reference's Bytes. -/
import Derived.Test.YtjdablkdndmcgaaCmdRT
import Derived.Test.YtjdablkdndmcgaaCmdD
namespace Go.Proofs.Ytjdablkdndmcgaa
set_option linter.unusedVariables false
set_option linter.unusedSimpArgs false
open Go.RowKit
theorem numB_len (how : Nat) (v : List Int) : (v.flatMap (numB how)).length ≤ 8 * v.length := by
  induction v with
  | nil => simp
  | cons y v ih =>
    simp only [List.flatMap_cons, List.length_append, List.length_cons]
    have : (numB how y).length ≤ 8 := by unfold numB; split <;> simp [lowB_length]
    omega
set_option maxHeartbeats 2000000 in
set_option maxRecDepth 20000 in
theorem RBytes_calls (x : Cm) (A : Option Addr) (a : Nat) (B : Option Addr) (b : Nat) (w : World) (hk : CmK w x A a B b) (hx : CmB x) (r : List Int) (hr : Hid (bytesR x = r)) (er : Int) (he : Hid ((if cmOk x then 0 else 2) = er)) :
    Calls Try.prog 26 #[.agg (cmC x A a B b).toArray] w fun e w' => ∃ V cv, e = .returned (.tuple #[.slice V r.length cv, .int .i64 er]) ∧ SlI w' .u8 V cv r ∧ Below w.heap.size w w' := by
  have hmix : Try.prog.follows .mixedOrders = true := by kernel_rfl
  have h0 : Blk (w.alloc (.cells (cmC x A a B b).toArray 34)) w.heap.size 34 (cmC x A a B b) := Blk.new w _ _
  have B0 := below_box0 w (.cells (cmC x A a B b).toArray 34)
  obtain ⟨l0, l1', l2', l3', l4, l5⟩ := load_cm h0
  have HX := Lib.hid (And.intro h0 B0)
  clear h0 B0
  simp only [cmC] at l0 l1' l2' l3' l4 l5 ⊢
  by_cases hok : cmOk x
  case neg =>
    have e1 := he.out
    rw [if_neg hok] at e1
    have e2 := hr.out
    unfold bytesR at e2
    rw [if_neg hok] at e2
    subst e1
    subst e2
    go_enter Try.func26, Try.ntmps26
    go_wp2_with fail
    refine (RCheck_calls x A a B b _).mono ?_
    rintro e w1 ⟨rfl, b1⟩
    rw [if_neg hok]
    have HB := Lib.hid (below_row HX.out.2 HX.out.2.size (grown_of_below b1 none) (fun k hk => by cases hk))
    clear b1 l0 l1' l2' l3' l4 l5
    go_wp2_with fail
    go_ret2
    exact ⟨none, 0, rfl, SlI.nil _ _, HB.out⟩
  have e1 := he.out
  rw [if_pos hok] at e1
  have e2 := hr.out
  unfold bytesR at e2
  rw [if_pos hok] at e2
  subst e1
  have hok' := hok
  unfold cmOk at hok'
  obtain ⟨_, _, ov, _, _⟩ := hok'
  have hv : x.v.length ≤ 1024 := by split at ov <;> simp_all
  clear ov
  obtain ⟨z1, hz1⟩ : ∃ z, z = [x.op] ++ idB x := ⟨_, rfl⟩
  obtain ⟨z2, hz2⟩ : ∃ z, z = z1 ++ vecB x 0 := ⟨_, rfl⟩
  have hz4 : r = z2 ++ kB x ++ dB x := by rw [← e2, hz2, hz1]; rfl
  have l1 : z1.length ≤ 100 := by
    rw [hz1]; unfold idB
    split <;> simp [lowB_length]
  have lf := numB_len 0 x.v
  have l2 : z2.length ≤ 10000 := by
    rw [hz2]; unfold vecB
    split
    · simp only [List.length_append, lowB_length, List.length_cons, List.length_nil]; omega
    · simp only [List.length_append, List.length_nil]; omega
  clear lf hr he e2
  replace hz1 := Lib.hid hz1
  replace hz2 := Lib.hid hz2
  replace hz4 := Lib.hid hz4
  go_enter Try.func26, Try.ntmps26
  go_wp2_with fail
  refine (RCheck_calls x A a B b _).mono ?_
  rintro e w1 ⟨rfl, b1⟩
  rw [if_pos hok]
  have HB := Lib.hid (And.intro (HX.out.1.below b1) (below_row HX.out.2 HX.out.2.size (grown_of_below b1 none) (fun k hk => by cases hk)))
  clear l0 l1' l2' l3' l4 l5 b1 HX
  obtain ⟨l0, l1', l2', l3', l4, l5⟩ := load_cm HB.out.1
  go_wp2_with fail
  refine (head_calls x A a B b _ hok hx z1 hz1).mono ?_
  rintro e w2 ⟨V, cv, rfl, o2, b2⟩
  have HP : Hid (PB w w2 x A a B b z1 V cv) := Lib.hid ⟨own_mono o2 HB.out.1.lt, HB.out.1.below b2, below_row HB.out.2 HB.out.2.size (grown_of_below b2 none) (fun k hk => by cases hk)⟩
  clear l0 l1' l2' l3' l4 l5 HB o2 b2
  obtain ⟨l0, l1', l2', l3', l4, l5⟩ := load_cm HP.out.c
  go_wp2_with fail
  refine (RhasVec_h x.op _).mono ?_
  rintro e W3 ⟨rfl, hW3⟩
  subst hW3
  go_upto_if 13 with fail
  go_cut [4] (fun s4 w' => ∃ V cv, s4 = .slice V z2.length cv ∧ PB w w' x A a B b z2 V cv)
  case first =>
    cases h2 : hasN x.op 2 with
    | false =>
      have e1 : z2 = z1 := by rw [hz2.out]; unfold vecB; rw [h2]; simp
      go_wp2_with fail
      go_meet
      exact ⟨_, _, by rw [e1], by rw [e1]; exact HP.out⟩
    | true =>
      obtain ⟨y2, hy2⟩ : ∃ y, y = z1 ++ [(0 : Int)] ++ lowB x.v.length 2 := ⟨_, rfl⟩
      have e1 : z2 = y2 ++ x.v.flatMap (numB 0) := by rw [hz2.out, hy2]; unfold vecB; rw [h2, if_pos rfl]; simp
      have ly2 : y2.length = z1.length + 3 := by rw [hy2]; simp [lowB_length]
      replace e1 := Lib.hid e1
      replace hy2 := Lib.hid hy2
      replace ly2 := Lib.hid ly2
      go_wp2_with fail
      refine region_L (oneQ 99 (fun _ => True) (fun X => X.cell? ⟨w.heap.size, 2, none⟩ = some (.slice A x.v.length a))) hmix ?_
      have h := HP.out.below ((Below.refl W3.heap.size W3).drew)
      clear l0 l1' l2' l3' l4 l5
      generalize W3.drew = V0 at *
      have hS : oneQ 99 (fun _ => True) (fun X => X.cell? ⟨w.heap.size, 2, none⟩ = some (.slice A x.v.length a)) (Array.replicate 9 false) V0 := ⟨fun _ => trivial, h.c.cell 2⟩
      refine anyL_take (fun _ => True) [] (i := 0) (v := ?_) rfl (by kernel_rfl) (by kernel_rfl) (by kernel_rfl) (fun _ _ _ h => h) (by kernel_rfl) (one_ind (i := 0) (by decide)) (fun _ _ _ _ => trivial) (Or.inl ⟨by rfl, ?_⟩) hS ?_
      rotate_left
      · intro X hX
        clear hX
        go_simp
        try with_reducible rfl
      try simp only [List.getElem_toArray, List.getElem_cons_zero, List.getElem_cons_succ]
      simp only [Act.put, List.setIfInBounds_toArray, List.set_cons_zero, List.set_cons_succ]
      replace hS := (one_ind (i := 0) (by decide) _ _).2 hS
      refine anyL_take (fun _ => True) [] (i := 3) (v := ?_) rfl (by kernel_rfl) (by kernel_rfl) (by kernel_rfl) (fun _ _ _ h => h) (by kernel_rfl) (one_ind (i := 3) (by decide)) (fun _ _ _ _ => trivial) (Or.inl ⟨by rfl, ?_⟩) hS ?_
      rotate_left
      · intro X hX
        clear hX
        go_simp
        try with_reducible rfl
      try simp only [List.getElem_toArray, List.getElem_cons_zero, List.getElem_cons_succ]
      simp only [Act.put, List.setIfInBounds_toArray, List.set_cons_zero, List.set_cons_succ]
      replace hS := (one_ind (i := 3) (by decide) _ _).2 hS
      refine anyL_take (fun X => X.cell? ⟨w.heap.size, 2, none⟩ = some (.slice A x.v.length a)) [] (i := 4) (v := ?_) rfl (by kernel_rfl) (by kernel_rfl) (by kernel_rfl) (fun _ _ _ h => h) (by kernel_rfl) (one_ind (i := 4) (by decide)) (fun L X h1 h2 => h2.2) (Or.inl ⟨by rfl, ?_⟩) hS ?_
      rotate_left
      · intro X hX
        have g1 := hX; clear hX
        go_simp
        try with_reducible rfl
      try simp only [List.getElem_toArray, List.getElem_cons_zero, List.getElem_cons_succ]
      simp only [Act.put, List.setIfInBounds_toArray, List.set_cons_zero, List.set_cons_succ]
      replace hS := (one_ind (i := 4) (by decide) _ _).2 hS
      refine anyL_take (fun _ => True) [] (i := 5) (v := ?_) rfl (by kernel_rfl) (by kernel_rfl) (by kernel_rfl) (fun _ _ _ h => h) (by kernel_rfl) (one_ind (i := 5) (by decide)) (fun _ _ _ _ => trivial) (Or.inl ⟨by rfl, ?_⟩) hS ?_
      rotate_left
      · intro X hX
        clear hX
        go_simp
        try with_reducible rfl
      try simp only [List.getElem_toArray, List.getElem_cons_zero, List.getElem_cons_succ]
      simp only [Act.put, List.setIfInBounds_toArray, List.set_cons_zero, List.set_cons_succ]
      replace hS := (one_ind (i := 5) (by decide) _ _).2 hS
      refine anyL_take (fun _ => True) [] (i := 6) (v := ?_) rfl (by kernel_rfl) (by kernel_rfl) (by kernel_rfl) (fun _ _ _ h => h) (by kernel_rfl) (one_ind (i := 6) (by decide)) (fun _ _ _ _ => trivial) (Or.inl ⟨by rfl, ?_⟩) hS ?_
      rotate_left
      · intro X hX
        clear hX
        go_simp
        try with_reducible rfl
      try simp only [List.getElem_toArray, List.getElem_cons_zero, List.getElem_cons_succ]
      simp only [Act.put, List.setIfInBounds_toArray, List.set_cons_zero, List.set_cons_succ]
      replace hS := (one_ind (i := 6) (by decide) _ _).2 hS
      rw [wrap_nat x.v.length (by omega)]
      have hb2 := h.below (below_box0 V0 (.cells #[.int .u8 0] 5))
      have hel : Rd (V0.alloc (.cells #[.int .u8 0] 5)) (some ⟨V0.heap.size, 0, none⟩) (nums .u8 [0]) := .inr ⟨_, rfl, World.news_of_block (cs := #[.int .u8 0]) (t := 5) (fr := (0, 0)) (heap_alloc_new V0 _)⟩
      clear hS
      refine anyL_step (i := 1) (by kernel_rfl) rfl (by rfl) (fun K hK => ?_)
      go_simp
      refine hK.out _ _ ⟨fun _ => trivial, hb2.c.cell 2⟩ ?_
      clear hK K
      try simp only [Act.put, List.setIfInBounds_toArray, List.set_cons_zero, List.set_cons_succ]
      generalize hV1 : V0.alloc (.cells #[.int .u8 0] 5) = V1 at *
      obtain ⟨y1, hy1⟩ : ∃ y, y = z1 ++ [(0 : Int)] := ⟨_, rfl⟩
      refine anyL_step (i := 2) (by kernel_rfl) rfl (by rfl) (fun K hK => ?_)
      refine wp_app_row (w.heap.size + 1) _ _ 25 5 .u8 1 rfl Try.underlying25 (by kernel_rfl) (by decide) V cv z1 [(0 : Int)] (some ⟨V0.heap.size, 0, none⟩) 1 rfl rfl hb2.o hel hb2.size (by simp; omega) ?_
      intro D1 d1 w3 o3 hg3 _ _
      rw [← hy1] at o3 ⊢
      replace hy1 := Lib.hid hy1
      have h3 := hb2.app hg3 o3
      refine hK.out _ _ ⟨fun _ => trivial, h3.c.cell 2⟩ ?_
      clear hK K
      try simp only [Act.put, List.setIfInBounds_toArray, List.set_cons_zero, List.set_cons_succ]
      refine anyL_step (i := 7) (by kernel_rfl) rfl (by rfl) (fun K hK => ?_)
      go_simp
      refine (RPut_is D1 d1 y1 x.v.length 2 _ (OwnI.sl h3.o) (by rw [hy1.out]; simp; omega) y2 (Lib.hid (by rw [show many8 2 = 2 from rfl, hy1.out, hy2.out]))).mono ?_
      rintro e w4 ⟨D2, d2, rfl, o4, b4⟩
      have h4 := h3.next b4 o4
      dsimp only
      refine hK.out _ _ ⟨fun _ => trivial, h4.c.cell 2⟩ ?_
      clear hK K
      try simp only [Act.put, List.setIfInBounds_toArray, List.set_cons_zero, List.set_cons_succ]
      have hS : oneQ 99 (fun _ => True) (fun X => X.cell? ⟨w.heap.size, 2, none⟩ = some (.slice A x.v.length a)) (((((((((Array.replicate 9 false).setIfInBounds 0 true).setIfInBounds 3 true).setIfInBounds 4 true).setIfInBounds 5 true).setIfInBounds 6 true).setIfInBounds 1 true).setIfInBounds 2 true).setIfInBounds 7 true) w4 := ⟨fun _ => trivial, h4.c.cell 2⟩
      refine anyL_take (fun _ => True) [] (i := 8) (v := ?_) rfl (by kernel_rfl) (by kernel_rfl) (by kernel_rfl) (fun _ _ _ h => h) (by kernel_rfl) (one_ind (i := 8) (by decide)) (fun _ _ _ _ => trivial) (Or.inl ⟨by rfl, ?_⟩) hS ?_
      rotate_left
      · intro X hX
        clear hX
        go_simp
        try with_reducible rfl
      try simp only [List.getElem_toArray, List.getElem_cons_zero, List.getElem_cons_succ]
      simp only [Act.put, List.setIfInBounds_toArray, List.set_cons_zero, List.set_cons_succ]
      replace hS := (one_ind (i := 8) (by decide) _ _).2 hS
      clear hS
      refine anyL_done (by kernel_rfl) ?_ _
      have H4 := Lib.hid h4
      clear h h3 h4 hb2 hel hg3 o3 hy1 HP o4 b4
      go_wp2_with fail
      go_loopg [5, 4] (x.v.length + 1) (fun gk i s4 w' => ∃ (j : Nat) (V : Option Addr) (cv : Nat) (zs : List Int), i = .int .i64 (j : Int) ∧ s4 = .slice V zs.length cv ∧ j ≤ x.v.length ∧ x.v.length < j + gk ∧ zs = y2 ++ (x.v.take j).flatMap (numB 0) ∧ PB w w' x A a B b zs V cv)
      case atStart => exact ⟨0, D2, d2, y2, rfl, rfl, by omega, by omega, by simp, H4.out⟩
      case round =>
        obtain ⟨j, V, cv, zs, rfl, rfl, hj, hg, hz, hP⟩ := hrel
        clear H4
        obtain ⟨l0, l1', l2', l3', l4, l5⟩ := load_cm hP.c
        by_cases hjl : j < x.v.length
        · have hjl' : (j : Int) < (x.v.length : Int) := by omega
          obtain ⟨ad, hA, hc⟩ := (hk.v.below hP.b).get j hjl
          subst hA
          obtain ⟨n, hn⟩ : ∃ n, n = x.v.getD j 0 := ⟨_, rfl⟩
          rw [← hn] at hc
          have hnb : -32768 ≤ n ∧ n ≤ 32767 := by
            rw [hn, List.getD_eq_getElem?_getD, List.getElem?_eq_getElem hjl]; exact hx.v _ (List.getElem_mem hjl)
          obtain ⟨n0, n1⟩ := hnb
          have hzn : zs ++ numB 0 n = y2 ++ (x.v.take (j + 1)).flatMap (numB 0) := by
            rw [List.take_add_one, List.flatMap_append, ← List.append_assoc, ← hz, List.getElem?_eq_getElem hjl, hn]
            simp [List.getD_eq_getElem?_getD, List.getElem?_eq_getElem hjl]
          have hzl : zs.length ≤ 9000 := by
            have := numB_len 0 (x.v.take j)
            rw [hz, List.length_append, ly2.out]
            rw [List.length_take] at this
            omega
          replace hz := Lib.hid hz
          replace hzn := Lib.hid hzn
          replace hn := Lib.hid hn
          replace hzl := Lib.hid hzl
          have HP := Lib.hid hP
          clear hP
          obtain ⟨zn, hzn2⟩ : ∃ zn, zn = zs ++ numB 0 n := ⟨_, rfl⟩
          have hput : zs ++ lowB (IntKind.u64.wrap n) 2 = zn := by rw [hzn2]; unfold numB; rw [if_pos rfl]
          replace hput := Lib.hid hput
          replace hzn2 := Lib.hid hzn2
          go_wp2_with fail
          refine (RPut_is V cv zs (IntKind.u64.wrap n) 2 _ (OwnI.sl HP.out.o) (by have := hzl.out; omega) zn (Lib.hid (by rw [show many8 2 = 2 from rfl]; exact hput.out))).mono ?_
          rintro e w5 ⟨D3, d3, rfl, o5, b5⟩
          have H5 := Lib.hid (HP.out.next b5 o5)
          clear o5 b5 HP hc l0 l1' l2' l3' l4 l5
          go_wp2_with fail
          go_roundg (gk - 1)
          case measure => omega
          case rel => exact ⟨j + 1, D3, d3, zn, by simp, rfl, by omega, by omega, by rw [hzn2.out]; exact hzn.out, H5.out⟩
        obtain rfl : j = x.v.length := by omega
        rw [List.take_of_length_le (Nat.le_refl _)] at hz
        have hzz : zs = z2 := by rw [hz, e1.out]
        subst hzz
        clear hz
        have HP := Lib.hid hP
        clear hP
        go_wp2_with fail
        go_meet
        exact ⟨V, cv, rfl, HP.out⟩
  case rest =>
    clear HP l0 l1' l2' l3' l4 l5
    obtain ⟨V, cv, rfl, hP⟩ := hcut
    obtain ⟨l0, l1', l2', l3', l4, l5⟩ := load_cm hP.c
    have HP := Lib.hid hP
    clear hP
    go_wp2_with fail
    refine (tail_calls V cv z2 x A a B b _ (OwnI.sl HP.out.o) ⟨hk.v.below HP.out.b, hk.d.below HP.out.b⟩ hok (by omega) r hz4).mono ?_
    rintro e w6 ⟨V6, c6, rfl, s6, b6⟩
    have HF := Lib.hid (And.intro s6 (below_row HP.out.b HP.out.b.size (grown_of_below b6 none) (fun k hk => by cases hk)))
    clear HP s6 b6 l0 l1' l2' l3' l4 l5
    go_wp2_with fail
    go_ret2
    exact ⟨V6, c6, rfl, HF.out.1, HF.out.2⟩
end Go.Proofs.Ytjdablkdndmcgaa
