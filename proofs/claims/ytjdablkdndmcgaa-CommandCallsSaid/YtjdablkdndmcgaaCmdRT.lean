/- CmdRT: the reference's head, tail. -/
import Derived.Test.YtjdablkdndmcgaaCmdRC
import Derived.Test.YtjdablkdndmcgaaCmdB
namespace Go.Proofs.Ytjdablkdndmcgaa
set_option linter.unusedVariables false
set_option linter.unusedSimpArgs false
open Go.RowKit
/-- Where the reference stands: the bytes so far, and the command in its box. -/
structure PR (w0 w1 : World) (x : Cm) (A : Option Addr) (a : Nat) (B : Option Addr) (b : Nat) (zs : List Int) (V : Option Addr) (cv : Nat) : Prop where
  s : SlI w1 .u8 V cv zs
  c : Blk w1 w0.heap.size 34 (cmC x A a B b)
  b : Below w0.heap.size w0 w1
theorem PR.next {w0 w1 w2 : World} {x : Cm} {A : Option Addr} {a : Nat} {B : Option Addr} {b : Nat} {zs zs' : List Int} {V V' : Option Addr} {cv cv' : Nat} (h : PR w0 w1 x A a B b zs V cv) (hb : Below w1.heap.size w1 w2) (ho : OwnI w2 w1.heap.size 5 .u8 V' cv' zs') : PR w0 w2 x A a B b zs' V' cv' :=
  ⟨OwnI.sl ho, h.c.below hb, below_row h.b h.b.size (grown_of_below hb none) (fun k hk => by cases hk)⟩
theorem PR.below {w0 w1 w2 : World} {x : Cm} {A : Option Addr} {a : Nat} {B : Option Addr} {b : Nat} {zs : List Int} {V : Option Addr} {cv : Nat} (h : PR w0 w1 x A a B b zs V cv) (hb : Below w1.heap.size w1 w2) : PR w0 w2 x A a B b zs V cv :=
  ⟨h.s.below hb, h.c.below hb, below_row h.b h.b.size (grown_of_below hb none) (fun k hk => by cases hk)⟩
set_option maxHeartbeats 1000000 in
set_option maxRecDepth 20000 in
theorem head_calls (x : Cm) (A : Option Addr) (a : Nat) (B : Option Addr) (b : Nat) (w : World) (hok : cmOk x) (hx : CmB x) (z1 : List Int) (hz1 : Hid (z1 = [x.op] ++ idB x)) :
    Calls Try.prog 52 #[.agg (cmC x A a B b).toArray] w fun e w' => RetOwn 5 .u8 z1 w e w' := by
  have hok' := hok
  unfold cmOk at hok'
  obtain ⟨⟨o1, o2⟩, oid, _, _, _⟩ := hok'
  have hid : hasN x.op 1 = true → 1 ≤ x.id := fun h => by
    rw [has_id] at h; simp at h; rw [if_pos (by omega)] at oid; exact oid
  clear oid hok
  have h0 : Blk (w.alloc (.cells (cmC x A a B b).toArray 34)) w.heap.size 34 (cmC x A a B b) := Blk.new w _ _
  have B0 := below_box0 w (.cells (cmC x A a B b).toArray 34)
  have B1 := below_box0 (w.alloc (.cells (cmC x A a B b).toArray 34)) (.cells (nums .u8 [x.op]).toArray 5)
  have H : PB w ((w.alloc (.cells (cmC x A a B b).toArray 34)).alloc (.cells (nums .u8 [x.op]).toArray 5)) x A a B b [x.op] (some ⟨w.heap.size + 1, 0, none⟩) 1 :=
    ⟨by
      have := World.ownsRow_lit (base := (w.alloc (.cells (cmC x A a B b).toArray 34)).heap.size) (e := 5) (size := 1) (w.alloc (.cells (cmC x A a B b).toArray 34)) (nums .u8 [x.op]).toArray 1 (Nat.le_refl _) (by decide) (by rfl)
      simp at this
      exact this, h0.below B1, below_row B0 B0.size (grown_of_below B1 none) (fun k hk => by cases hk)⟩
  obtain ⟨l0, l1', l2', l3', l4, l5⟩ := load_cm (h0)
  replace H := Lib.hid H
  clear h0 B0 B1
  simp only [cmC] at l0 l1' l2' l3' l4 l5 ⊢
  go_enter Try.func52, Try.ntmps52
  go_wp2_with fail
  refine (RhasID_h x.op _).mono ?_
  rintro e W1 ⟨rfl, hW1⟩
  subst hW1
  cases h1 : hasN x.op 1 with
  | false =>
    have e1 : z1 = [x.op] := by rw [hz1.out]; unfold idB; rw [h1]; simp
    go_wp2_with fail
    go_ret
    refine ⟨_, _, by rw [e1]; rfl, ?_, H.out.b⟩
    rw [e1]
    exact own_mono H.out.o (by omega)
  | true =>
    have e1 : [x.op] ++ lowB x.id 8 = z1 := by rw [hz1.out]; unfold idB; rw [h1, if_pos rfl]
    have hid1 := hid h1
    have hid2 := hx.id
    replace e1 := Lib.hid e1
    go_wp2_with fail
    refine (RPut_is (some ⟨w.heap.size + 1, 0, none⟩) 1 [x.op] x.id 8 _ (OwnI.sl H.out.o) (show 1 ≤ 140737488355320 by decide) z1 (Lib.hid (by rw [show many8 8 = 8 from rfl]; exact e1.out))).mono ?_
    rintro e w1 ⟨V, cv, rfl, o1', b1⟩
    have HN := Lib.hid (H.out.next b1 o1')
    clear o1' b1
    go_wp2_with fail
    go_ret
    exact ⟨V, cv, rfl, own_mono HN.out.o (by omega), HN.out.b⟩
set_option maxHeartbeats 1000000 in
set_option maxRecDepth 20000 in
theorem tail_calls (V : Option Addr) (cv : Nat) (z2 : List Int) (x : Cm) (A : Option Addr) (a : Nat) (B : Option Addr) (b : Nat) (w : World) (hV : SlI w .u8 V cv z2) (hk : CmK w x A a B b) (hok : cmOk x) (l2 : z2.length ≤ 20000) (r : List Int) (hr : Hid (r = z2 ++ kB x ++ dB x)) :
    Calls Try.prog 54 #[.slice V z2.length cv, .agg (cmC x A a B b).toArray] w fun e w' => ∃ V' cv', e = .returned (.slice V' r.length cv') ∧ SlI w' .u8 V' cv' r ∧ Below w.heap.size w w' := by
  have hmix : Try.prog.follows .mixedOrders = true := by kernel_rfl
  have hok' := hok
  unfold cmOk at hok'
  obtain ⟨⟨o1, o2⟩, _, _, ok, od⟩ := hok'
  have hd : x.d.length ≤ 4096 := by split at od <;> simp_all
  have hkk : (0 ≤ x.k ∧ x.k ≤ 2147483647) ∧ 0 ≤ x.p ∧ x.p ≤ 2147483647 := by
    split at ok
    · exact ok
    · omega
  clear ok od hok
  obtain ⟨z3, hz3⟩ : ∃ z, z = z2 ++ kB x := ⟨_, rfl⟩
  have hz4 : r = z3 ++ dB x := by rw [hr.out, hz3]
  have l3 : z3.length ≤ 21000 := by
    rw [hz3]; unfold kB
    split <;> simp only [List.length_append, lowB_length, List.length_nil] <;> omega
  clear hr
  replace hz3 := Lib.hid hz3
  replace hz4 := Lib.hid hz4
  have h0 : Blk (w.alloc (.cells (cmC x A a B b).toArray 34)) w.heap.size 34 (cmC x A a B b) := Blk.new w _ _
  have B0 := below_box0 w (.cells (cmC x A a B b).toArray 34)
  have HP : PR w (w.alloc (.cells (cmC x A a B b).toArray 34)) x A a B b z2 V cv := ⟨hV.below B0, h0, B0⟩
  obtain ⟨l0, l1', l2', l3', l4, l5⟩ := load_cm (h0)
  replace HP := Lib.hid HP
  clear h0 B0 hV
  simp only [cmC] at l0 l1' l2' l3' l4 l5 ⊢
  go_enter Try.func54, Try.ntmps54
  go_wp2_with fail
  refine (RhasK_h x.op _).mono ?_
  rintro e W3 ⟨rfl, hW3⟩
  subst hW3
  go_upto_if 8 with fail
  go_cut [0] (fun s0 w' => ∃ V cv, s0 = .slice V z3.length cv ∧ PR w w' x A a B b z3 V cv)
  case first =>
    cases h3 : hasN x.op 4 with
    | false =>
      have e1 : z3 = z2 := by rw [hz3.out]; unfold kB; rw [h3]; simp
      go_wp2_with fail
      go_meet
      exact ⟨_, _, by rw [e1], by rw [e1]; exact HP.out⟩
    | true =>
      obtain ⟨y2, hy2⟩ : ∃ y, y = z2 ++ lowB x.k 4 := ⟨_, rfl⟩
      have e1 : y2 ++ lowB x.p 4 = z3 := by rw [hz3.out, hy2]; unfold kB; rw [h3, if_pos rfl]; simp
      have ly2 : y2.length = z2.length + 4 := by rw [hy2]; simp [lowB_length]
      replace e1 := Lib.hid e1
      replace hy2 := Lib.hid hy2
      replace ly2 := Lib.hid ly2
      obtain ⟨W3, hW3⟩ : ∃ W, W = w.alloc (.cells #[.int .i64 x.op, .int .i64 x.id, .slice A x.v.length a, .int .i64 x.k, .int .i64 x.p, .slice B x.d.length b] 34) := ⟨_, rfl⟩
      replace HP : Hid (PR w W3 x A a B b z2 V cv) := hW3 ▸ HP
      go_wp2_with fail
      rw [← hW3] at l0 l1' l2' l3' l4 l5 ⊢
      clear hW3
      refine region_L (oneQ 99 (fun _ => True) (fun X => X.cell? ⟨w.heap.size, 3, none⟩ = some (.int .i64 x.k) ∧ X.cell? ⟨w.heap.size, 4, none⟩ = some (.int .i64 x.p))) hmix ?_
      have h := HP.out.below ((Below.refl W3.heap.size W3).drew)
      clear l0 l1' l2' l3' l4 l5
      generalize W3.drew = V0 at *
      have hS : oneQ 99 (fun _ => True) (fun X => X.cell? ⟨w.heap.size, 3, none⟩ = some (.int .i64 x.k) ∧ X.cell? ⟨w.heap.size, 4, none⟩ = some (.int .i64 x.p)) (Array.replicate 10 false) V0 := ⟨fun _ => trivial, ⟨h.c.cell 3, h.c.cell 4⟩⟩
      refine anyL_take (fun _ => True) [] (i := 0) (v := ?_) rfl (by kernel_rfl) (by kernel_rfl) (by kernel_rfl) (fun _ _ _ h => h) (by kernel_rfl) (one_ind (i := 0) (by decide)) (fun _ _ _ _ => trivial) (Or.inl ⟨by rfl, ?_⟩) hS ?_
      rotate_left
      · intro X hX
        clear hX
        go_simp
        try with_reducible rfl
      try simp only [List.getElem_toArray, List.getElem_cons_zero, List.getElem_cons_succ]
      simp only [Act.put, List.setIfInBounds_toArray, List.set_cons_zero, List.set_cons_succ]
      replace hS := (one_ind (i := 0) (by decide) _ _).2 hS
      refine anyL_take (fun _ => True) [] (i := 1) (v := ?_) rfl (by kernel_rfl) (by kernel_rfl) (by kernel_rfl) (fun _ _ _ h => h) (by kernel_rfl) (one_ind (i := 1) (by decide)) (fun _ _ _ _ => trivial) (Or.inl ⟨by rfl, ?_⟩) hS ?_
      rotate_left
      · intro X hX
        clear hX
        go_simp
        try with_reducible rfl
      try simp only [List.getElem_toArray, List.getElem_cons_zero, List.getElem_cons_succ]
      simp only [Act.put, List.setIfInBounds_toArray, List.set_cons_zero, List.set_cons_succ]
      replace hS := (one_ind (i := 1) (by decide) _ _).2 hS
      refine anyL_take (fun X => X.cell? ⟨w.heap.size, 3, none⟩ = some (.int .i64 x.k) ∧ X.cell? ⟨w.heap.size, 4, none⟩ = some (.int .i64 x.p)) [] (i := 2) (v := ?_) rfl (by kernel_rfl) (by kernel_rfl) (by kernel_rfl) (fun _ _ _ h => h) (by kernel_rfl) (one_ind (i := 2) (by decide)) (fun L X h1 h2 => h2.2) (Or.inl ⟨by rfl, ?_⟩) hS ?_
      rotate_left
      · intro X hX
        obtain ⟨g1, g2⟩ := hX
        go_simp
        try with_reducible rfl
      try simp only [List.getElem_toArray, List.getElem_cons_zero, List.getElem_cons_succ]
      simp only [Act.put, List.setIfInBounds_toArray, List.set_cons_zero, List.set_cons_succ]
      replace hS := (one_ind (i := 2) (by decide) _ _).2 hS
      refine anyL_take (fun _ => True) [] (i := 3) (v := ?_) rfl (by kernel_rfl) (by kernel_rfl) (by kernel_rfl) (fun _ _ _ h => h) (by kernel_rfl) (one_ind (i := 3) (by decide)) (fun _ _ _ _ => trivial) (Or.inl ⟨by rfl, ?_⟩) hS ?_
      rotate_left
      · intro X hX
        clear hX
        go_simp
        try with_reducible rfl
      try simp only [List.getElem_toArray, List.getElem_cons_zero, List.getElem_cons_succ]
      simp only [Act.put, List.setIfInBounds_toArray, List.set_cons_zero, List.set_cons_succ]
      replace hS := (one_ind (i := 3) (by decide) _ _).2 hS
      rw [wrap_in x.k (by omega) (by omega)]
      refine anyL_take (fun _ => True) [] (i := 5) (v := ?_) rfl (by kernel_rfl) (by kernel_rfl) (by kernel_rfl) (fun _ _ _ h => h) (by kernel_rfl) (one_ind (i := 5) (by decide)) (fun _ _ _ _ => trivial) (Or.inl ⟨by rfl, ?_⟩) hS ?_
      rotate_left
      · intro X hX
        clear hX
        go_simp
        try with_reducible rfl
      try simp only [List.getElem_toArray, List.getElem_cons_zero, List.getElem_cons_succ]
      simp only [Act.put, List.setIfInBounds_toArray, List.set_cons_zero, List.set_cons_succ]
      replace hS := (one_ind (i := 5) (by decide) _ _).2 hS
      refine anyL_take (fun X => X.cell? ⟨w.heap.size, 3, none⟩ = some (.int .i64 x.k) ∧ X.cell? ⟨w.heap.size, 4, none⟩ = some (.int .i64 x.p)) [] (i := 6) (v := ?_) rfl (by kernel_rfl) (by kernel_rfl) (by kernel_rfl) (fun _ _ _ h => h) (by kernel_rfl) (one_ind (i := 6) (by decide)) (fun L X h1 h2 => h2.2) (Or.inl ⟨by rfl, ?_⟩) hS ?_
      rotate_left
      · intro X hX
        obtain ⟨g1, g2⟩ := hX
        go_simp
        try with_reducible rfl
      try simp only [List.getElem_toArray, List.getElem_cons_zero, List.getElem_cons_succ]
      simp only [Act.put, List.setIfInBounds_toArray, List.set_cons_zero, List.set_cons_succ]
      replace hS := (one_ind (i := 6) (by decide) _ _).2 hS
      refine anyL_take (fun _ => True) [] (i := 7) (v := ?_) rfl (by kernel_rfl) (by kernel_rfl) (by kernel_rfl) (fun _ _ _ h => h) (by kernel_rfl) (one_ind (i := 7) (by decide)) (fun _ _ _ _ => trivial) (Or.inl ⟨by rfl, ?_⟩) hS ?_
      rotate_left
      · intro X hX
        clear hX
        go_simp
        try with_reducible rfl
      try simp only [List.getElem_toArray, List.getElem_cons_zero, List.getElem_cons_succ]
      simp only [Act.put, List.setIfInBounds_toArray, List.set_cons_zero, List.set_cons_succ]
      replace hS := (one_ind (i := 7) (by decide) _ _).2 hS
      rw [wrap_in x.p (by omega) (by omega)]
      clear hS
      refine anyL_step (i := 4) (by kernel_rfl) rfl (by rfl) (fun K hK => ?_)
      go_simp
      refine (RPut_is V cv z2 x.k 4 _ h.s (by omega) y2 (Lib.hid (by rw [show many8 4 = 4 from rfl, hy2.out]))).mono ?_
      rintro e w4 ⟨D1, d1, rfl, o4, b4⟩
      have h3 := h.next b4 o4
      dsimp only
      refine hK.out _ _ ⟨fun _ => trivial, ⟨h3.c.cell 3, h3.c.cell 4⟩⟩ ?_
      clear hK K
      try simp only [Act.put, List.setIfInBounds_toArray, List.set_cons_zero, List.set_cons_succ]
      refine anyL_step (i := 8) (by kernel_rfl) rfl (by rfl) (fun K hK => ?_)
      go_simp
      refine (RPut_is D1 d1 y2 x.p 4 _ h3.s (by have := ly2.out; omega) z3 (Lib.hid (by rw [show many8 4 = 4 from rfl, e1.out]))).mono ?_
      rintro e w5 ⟨D2, d2, rfl, o5, b5⟩
      have h4 := h3.next b5 o5
      dsimp only
      refine hK.out _ _ ⟨fun _ => trivial, ⟨h4.c.cell 3, h4.c.cell 4⟩⟩ ?_
      clear hK K
      try simp only [Act.put, List.setIfInBounds_toArray, List.set_cons_zero, List.set_cons_succ]
      have hS : oneQ 99 (fun _ => True) (fun X => X.cell? ⟨w.heap.size, 3, none⟩ = some (.int .i64 x.k) ∧ X.cell? ⟨w.heap.size, 4, none⟩ = some (.int .i64 x.p)) ((((((((((Array.replicate 10 false).setIfInBounds 0 true).setIfInBounds 1 true).setIfInBounds 2 true).setIfInBounds 3 true).setIfInBounds 5 true).setIfInBounds 6 true).setIfInBounds 7 true).setIfInBounds 4 true).setIfInBounds 8 true) w5 := ⟨fun _ => trivial, ⟨h4.c.cell 3, h4.c.cell 4⟩⟩
      refine anyL_take (fun _ => True) [] (i := 9) (v := ?_) rfl (by kernel_rfl) (by kernel_rfl) (by kernel_rfl) (fun _ _ _ h => h) (by kernel_rfl) (one_ind (i := 9) (by decide)) (fun _ _ _ _ => trivial) (Or.inl ⟨by rfl, ?_⟩) hS ?_
      rotate_left
      · intro X hX
        clear hX
        go_simp
        try with_reducible rfl
      try simp only [List.getElem_toArray, List.getElem_cons_zero, List.getElem_cons_succ]
      simp only [Act.put, List.setIfInBounds_toArray, List.set_cons_zero, List.set_cons_succ]
      replace hS := (one_ind (i := 9) (by decide) _ _).2 hS
      clear hS
      refine anyL_done (by kernel_rfl) ?_ _
      clear h HP
      go_wp2_with fail
      go_meet
      exact ⟨D2, d2, rfl, h4⟩
  case rest =>
    clear HP l0 l1' l2' l3' l4 l5
    obtain ⟨V, cv, rfl, hP⟩ := hcut
    obtain ⟨l0, l1', l2', l3', l4, l5⟩ := load_cm hP.c
    have HP := Lib.hid hP
    clear hP
    go_upto_if 20 with fail
    go_cut [0] (fun s0 w' => ∃ V cv, s0 = .slice V r.length cv ∧ PR w w' x A a B b r V cv)
    case first =>
      cases h4 : hasN x.op 8 with
      | false =>
        have e8 := Lib.hid (show (x.op == 8) = false by rw [has_draws] at h4; simpa using h4)
        rw [e8.out]
        have e1 : r = z3 := by rw [hz4.out]; unfold dB; rw [h4]; simp
        go_wp2_with fail
        go_meet
        exact ⟨_, _, by rw [e1], by rw [e1]; exact HP.out⟩
      | true =>
        have e8 := Lib.hid (show (x.op == 8) = true by rw [has_draws] at h4; simpa using h4)
        rw [e8.out]
        obtain ⟨y2, hy2⟩ : ∃ y, y = z3 ++ lowB x.d.length 2 := ⟨_, rfl⟩
        have e1 : r = y2 ++ x.d.flatMap (fun y => lowB y 8) := by rw [hz4.out, hy2]; unfold dB; rw [h4, if_pos rfl]; simp
        have ly2 : y2.length = z3.length + 2 := by rw [hy2]; simp [lowB_length]
        replace e1 := Lib.hid e1
        replace hy2 := Lib.hid hy2
        replace ly2 := Lib.hid ly2
        go_wp2_with fail
        refine (RPut_is V cv z3 x.d.length 2 _ HP.out.s (by omega) y2 (Lib.hid (by rw [show many8 2 = 2 from rfl, hy2.out]))).mono ?_
        rintro e w4 ⟨D2, d2, rfl, o4, b4⟩
        have H4 := Lib.hid (HP.out.next b4 o4)
        clear o4 b4 HP l0 l1' l2' l3' l4 l5
        go_wp2_with fail
        go_loopg [5, 0] (x.d.length + 1) (fun gk i s0 w' => ∃ (j : Nat) (V : Option Addr) (cv : Nat) (zs : List Int), i = .int .i64 (j : Int) ∧ s0 = .slice V zs.length cv ∧ j ≤ x.d.length ∧ x.d.length < j + gk ∧ zs = y2 ++ (x.d.take j).flatMap (fun y => lowB y 8) ∧ PR w w' x A a B b zs V cv)
        case atStart => exact ⟨0, D2, d2, y2, rfl, rfl, by omega, by omega, by simp, H4.out⟩
        case round =>
          obtain ⟨j, V, cv, zs, rfl, rfl, hj, hg, hz, hP⟩ := hrel
          clear H4
          obtain ⟨l0, l1', l2', l3', l4, l5⟩ := load_cm hP.c
          by_cases hjl : j < x.d.length
          · have hjl' : (j : Int) < (x.d.length : Int) := by omega
            obtain ⟨ad, hA, hc⟩ := (hk.d.below hP.b).get j hjl
            subst hA
            obtain ⟨n, hn⟩ : ∃ n, n = x.d.getD j 0 := ⟨_, rfl⟩
            rw [← hn] at hc
            have hzn : zs ++ lowB n 8 = y2 ++ (x.d.take (j + 1)).flatMap (fun y => lowB y 8) := by
              rw [List.take_add_one, List.flatMap_append, ← List.append_assoc, ← hz, List.getElem?_eq_getElem hjl, hn]
              simp [List.getD_eq_getElem?_getD, List.getElem?_eq_getElem hjl]
            have hzl : zs.length ≤ 60000 := by
              have lf : ∀ v : List Int, (v.flatMap (fun y => lowB y 8)).length = 8 * v.length := fun v => by
                induction v with
                | nil => simp
                | cons y v ih => simp only [List.flatMap_cons, List.length_append, List.length_cons, lowB_length, ih]; omega
              have := lf (x.d.take j)
              rw [hz, List.length_append, ly2.out, this, List.length_take]
              omega
            replace hz := Lib.hid hz
            replace hzn := Lib.hid hzn
            replace hn := Lib.hid hn
            replace hzl := Lib.hid hzl
            have HP := Lib.hid hP
            clear hP
            obtain ⟨zn, hzn2⟩ : ∃ zn, zn = zs ++ lowB n 8 := ⟨_, rfl⟩
            replace hzn2 := Lib.hid hzn2
            go_wp2_with fail
            refine (RPut_is V cv zs n 8 _ HP.out.s (by have := hzl.out; omega) zn (Lib.hid (by rw [show many8 8 = 8 from rfl]; exact hzn2.out.symm))).mono ?_
            rintro e w5 ⟨D3, d3, rfl, o5, b5⟩
            have H5 := Lib.hid (HP.out.next b5 o5)
            clear o5 b5 HP hc l0 l1' l2' l3' l4 l5
            go_wp2_with fail
            go_roundg (gk - 1)
            case measure => omega
            case rel => exact ⟨j + 1, D3, d3, zn, by simp, rfl, by omega, by omega, by rw [hzn2.out]; exact hzn.out, H5.out⟩
          obtain rfl : j = x.d.length := by omega
          rw [List.take_of_length_le (Nat.le_refl _)] at hz
          have hzz : zs = r := by rw [hz, e1.out]
          subst hzz
          clear hz
          have HP := Lib.hid hP
          clear hP
          go_wp2_with fail
          go_meet
          exact ⟨V, cv, rfl, HP.out⟩
    case rest =>
      clear HP l0 l1' l2' l3' l4 l5
      obtain ⟨V, cv, rfl, hP⟩ := hcut
      have HP := Lib.hid hP
      clear hP
      go_wp2_with fail
      go_ret
      exact ⟨V, cv, rfl, HP.out.s, HP.out.b⟩
end Go.Proofs.Ytjdablkdndmcgaa
