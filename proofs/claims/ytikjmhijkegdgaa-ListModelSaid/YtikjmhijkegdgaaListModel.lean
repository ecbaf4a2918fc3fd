/- ListModel. -/
import Derived.Test.YtikjmhijkegdgaaListRow2
import Derived.Test.YtikjmhijkegdgaaSizedE
import Derived.Deep.CutBlock
import Derived.Deep.DeepCutAuto
namespace Go.Proofs.Ytikjmhijkegdgaa
set_option linter.unusedVariables false
set_option linter.unusedSimpArgs false
open Go.RowKit
theorem sliced_zero (A : Option Addr) (m c s : Nat) : sliced A 0 m c s = .slice A m c := by
  unfold sliced
  cases A <;> simp [Addr.add]
theorem cutS_h {P : Program} (t e : TypeId) (kh : IntKind) {i : TypeInfo} (ht : P.underlying t = some (.slice e)) (hi : P.info? e = some i) (A : Option Addr) (n c m : Nat) (hm : m ≤ n) (hc : n ≤ c) :
    ∀ W : World, (Instr.slice t (.slice A n c) none (some (.int kh (m : Int))) none).run P W = .ok (.slice A m c) W := by
  intro W
  have hel : P.elem t = e := by simp [Program.elem, ht]
  have hu : P.underlying t = some (.slice (P.elem t)) := by rw [hel]; exact ht
  rw [run_slice_h W t A n c hu kh (m : Int) (Int.natCast_nonneg _) (by omega), hel]
  simp [sizeOf, typeInfo, hi, Result.andThen, sliced_zero]
set_option maxHeartbeats 8000000 in
set_option maxRecDepth 100000 in
theorem ListModel_calls (parts : Int) (A : Option Addr) (c : Nat) (xs : List Ac) (w : World) (hw : (Lit.int .i64 parts).wf = true) (h : SlA w A c xs) :
    Calls Try.prog 3 #[.int .i64 parts, .slice A xs.length c] w fun e w' => e = .returned (.bool true) ∧ Below w.heap.size w w' := by
  have hmix : Try.prog.follows .mixedOrders = true := by kernel_rfl
  have hm : xs.length ≤ 9223372036854775807 := Nat.le_trans h.1 (Nat.le_trans h.2.1 (by decide))
  go_enter Try.func3, Try.ntmps3
  go_wp2_with fail
  refine (lives_calls _).mono ?_
  rintro e w0 ⟨rfl, b0⟩
  go_wp2_with fail
  refine (Pick_calls parts 8 _ (by decide) (by decide)).mono ?_
  rintro e _ ⟨rfl, rfl⟩
  have p0 := Int.emod_nonneg parts (show (8 : Int) ≠ 0 by decide)
  have p1 := Int.emod_lt_of_pos parts (show (0 : Int) < 8 by decide)
  generalize parts % 8 = r at *
  go_wp2_with fail
  refine (light_calls A c xs _ (h.below b0)).mono ?_
  rintro e _ ⟨rfl, rfl⟩
  by_cases hl : lightA xs
  case neg =>
    rw [decide_eq_false hl]
    go_wp2_with fail
    go_ret
    exact ⟨rfl, b0⟩
  rw [decide_eq_true hl]
  have hxs := hl.2
  have HL := Lib.hid hl.1
  clear hl
  obtain ⟨pn, hpn⟩ : ∃ pn : Nat, (pn : Int) = 1 + r := ⟨(1 + r).toNat, by omega⟩
  have hn1 : 1 ≤ pn := by omega
  have hn2 : pn ≤ 8 := by omega
  go_wp2_with fail
  simp only [← hpn]
  refine (New_calls (pn : Int) _ (by omega) (by omega)).mono ?_
  rintro e w1 ⟨g, rfl, L, b1, hg⟩
  have bt := below_trans b0 b1
  have z1 := bt.size
  have o1 : ∀ k, seg w0.heap.size w1.heap.size k → w.heap.size ≤ k ∧ k < w1.heap.size := fun k hk => ⟨by have := hk.1; have := b0.size; omega, hk.2⟩
  generalize seg w0.heap.size w1.heap.size = S1 at *
  clear b0 b1 hg p0 p1 hpn hw
  go_wp2_with fail
  go_loopg [7, 8, 9, 10, 11, 12, 13, 14] (xs.length + 1) (fun gk row dd i u10 u11 u12 u13 u14 w' => ∃ (j : Nat) (S : Nat → Prop) (es : List En) (R : Option Addr) (rc : Nat) (rs : List HE), row = .slice R rs.length rc ∧ dd = .int .i64 ((es.length - (liveE es).length : Nat) : Int) ∧ i = .int .i64 (j : Int) ∧ j ≤ xs.length ∧ xs.length < j + gk ∧ LIST w' S g (pn : Int) es ∧ es.length ≤ j ∧ Hid (∀ e ∈ es, e.code.length = pn) ∧ Hid (ents rs = liveE es) ∧ RowL w' w.heap.size S R rc rs ∧ Below w.heap.size w w' ∧ (∀ k, S k → w.heap.size ≤ k ∧ k < w'.heap.size))
  case atStart => exact ⟨0, S1, [], none, 0, [], rfl, rfl, rfl, by omega, by omega, L, Nat.le_refl _, (fun e he => by cases he), rfl, RowL.nil _ _ _, bt, o1⟩
  case round =>
    clear L bt z1 o1
    obtain ⟨j, S, es, R, rc, rs, rfl, rfl, rfl, hj, hgk, LS, hel, hcp, hrs, RW, bw, oS⟩ := hrel
    have zw := bw.size
    obtain ⟨G, hG⟩ : ∃ G, Hid (G = gk) := ⟨gk, rfl⟩
    by_cases hlt : j < xs.length
    case neg =>
      have i2 : ¬ (j : Int) < (xs.length : Int) := by omega
      have hrl := Lib.hid (show (liveE es).length = rs.length from by rw [← hrs.out, ents_length])
      go_wp2_with fail
      refine (Live_calls S g (pn : Int) es _ LS (by omega)).mono ?_
      intro e w4 hr
      obtain ⟨A4, c4, rfl, s4, b4⟩ := hr.sl
      have s5 := (RW.below b4).sl
      rw [hrs.out] at s5
      clear hr
      go_wp2_with fail
      rw [← hrl.out]
      refine (Entries_calls A4 R c4 rc (liveE es) (liveE es) _ s4 s5).mono ?_
      rintro e w5 ⟨rfl, b5⟩
      rw [decide_eq_true (rfl : liveE es = liveE es)]
      go_wp2_with fail
      go_ret
      exact ⟨rfl, below_then bw zw (below_trans b4 b5)⟩
    have hRb := Lib.hid RW.own.lt
    have hgk2 : xs.length < j + 1 + (G - 1) := by have := hG.out; omega
    replace RW := RW.widen
    have i2 : (j : Int) < (xs.length : Int) := by omega
    obtain ⟨ad, rfl, ha, ok, hkw⟩ := (h.below bw).at j hlt
    have hq := HL.out (xs.getD j default) (by rw [List.getD_eq_getElem?_getD, List.getElem?_eq_getElem hlt]; exact List.getElem_mem hlt)
    generalize xs.getD j default = a at *
    obtain ⟨kind, ⟨⟨eid, ecode, erad, edead⟩, eA, ec⟩⟩ := a
    obtain ⟨x0, y0, y1, y2, y3⟩ := ha
    dsimp only at x0 y0 y1 y2 y3 ok hq hkw
    obtain ⟨ok1, ok2, ok3, ok4⟩ := ok
    dsimp only at ok1 ok2 ok3 ok4
    go_wp2_with fail
    refine (OwnEntry_calls ⟨eid, ecode, erad, edead⟩ eA ec _ ok1 (by show ecode.length * 1 ≤ _; omega)).mono ?_
    rintro e w2 ⟨A2, c2, rfl, o2, b2⟩
    unfold aggE
    dsimp only
    have z2 := b2.size
    have b3 := below_box0 w2 (.cells #[.int .i64 eid, .slice A2 ecode.length c2, .int .i64 erad, .bool edead] 33)
    have kb := Blk.new w2 33 [.int .i64 eid, .slice A2 ecode.length c2, .int .i64 erad, .bool edead]
    have o3 := own_below o2 b3
    have ob := own_block o2
    have z3 : (w2.alloc (.cells #[.int .i64 eid, .slice A2 ecode.length c2, .int .i64 erad, .bool edead] 33)).heap.size = w2.heap.size + 1 := by simp
    have H0 : OwnI (w2.alloc (.cells #[.int .i64 eid, .slice A2 ecode.length c2, .int .i64 erad, .bool edead] 33)) wr.heap.size 5 .u8 A2 c2 ecode := o3
    have bw3 := below_trans b2 b3
    clear b2 b3 o2 o3
    go_wp2_with fail
    obtain ⟨Wo, rfl⟩ : ∃ Wo, Wo = wr := ⟨_, rfl⟩
    generalize w2.heap.size = bx at *
    go_loopg [] (pn + 1) (fun gk w' => ∃ (cs : List Int) (A' : Option Addr) (c' : Nat), Blk w' bx 33 [.int .i64 eid, .slice A' cs.length c', .int .i64 erad, .bool edead] ∧ OwnI w' Wo.heap.size 5 .u8 A' c' cs ∧ (∀ x, A' = some x → x.block ≠ bx) ∧ pn + 1 ≤ cs.length + gk ∧ cs.length ≤ 2008 ∧ Below Wo.heap.size Wo w')
    case atStart => exact ⟨ecode, A2, c2, kb, H0, fun x hx => by have := ob x hx; omega, by omega, by omega, bw3⟩
    case round =>
      clear kb H0 ob bw3
      obtain ⟨cs, A3, c3, kb, oc, hne, hg2, hcs, bv⟩ := hrel
      have k0 := kb.cell 0
      have k1 := kb.cell 1
      have k2 := kb.cell 2
      have k3 := kb.cell 3
      have f1 := kb.frozen 1
      simp only [List.getElem?_cons_zero, List.getElem?_cons_succ] at k0 k1 k2 k3
      by_cases hsm : cs.length < pn
      · have i3 : (cs.length : Int) < (pn : Int) := by omega
        have bxl := kb.lt
        go_wp2_with (at_builtin; refine app_one Wo.heap.size rfl _ _ 31 5 .u8 1 rfl Try.underlying31 (by kernel_rfl) (by decide) A3 c3 cs 1 rfl rfl oc (by have := bv.size; omega) (by omega) ?_)
        intro A4 c4 v4 o4 hg4 hat
        have ownb : ∀ (X : Option Addr) (n d : Nat), (∀ x, X = some x → x.block ≠ bx) → some bx ≠ (Value.slice X n d).ownBlock := fun X n d hX hh => by
          cases X with
          | none => simp [Value.ownBlock] at hh
          | some x => simp [Value.ownBlock] at hh; exact hX x rfl hh.symm
        have hne3 := ownb A3 cs.length c3 hne
        have kb4 := kb.kept hg4 hne3
        have hl1 : (cs ++ [(1 : Int)]).length = cs.length + 1 := by simp
        have hs4 := hg4.size
        have bvs := bv.size
        have ob4 := own_block o4
        have bv4 : Below Wo.heap.size Wo v4 := bv.grown hg4 bvs (fun k hk => own_base oc k hk)
        have hne4 : ∀ x, A4 = some x → x.block ≠ bx := fun x hx hh => by
          subst hx
          have e4 : (Value.slice (some x) (cs.length + 1) c4).ownBlock = some bx := by simp [Value.ownBlock, hh]
          rcases hat with ha | ha
          · exact hne3 (e4.symm.trans ha)
          · rw [e4] at ha; injection ha with ha; omega
        have l0 := kb4.cell 0
        have l1 := kb4.cell 1
        have l2 := kb4.cell 2
        have l3 := kb4.cell 3
        have f4 := kb4.frozen 1
        simp only [List.getElem?_cons_zero, List.getElem?_cons_succ] at l0 l1 l2 l3
        clear k0 k1 k2 k3 f1 kb hat hne
        go_wp2_with fail
        have gst := grownBy_cell v4 bx 1 (.slice A4 (cs.length + 1) c4)
        have o5 := o4.kept gst (by
          have := ownb A4 (cs ++ [(1 : Int)]).length c4 hne4
          cases hv : (Value.slice A4 (cs ++ [(1 : Int)]).length c4).ownBlock with
          | none => exact .inl rfl
          | some q => right; rw [hv] at this; exact fun hh => this hh.symm)
        go_roundg (gk - 1)
        case measure => omega
        case rel => exact ⟨cs ++ [1], A4, c4, by rw [hl1]; exact kb4.set 1 _, o5, hne4, by rw [hl1]; omega, by rw [hl1]; omega, bv4.setCell (p := ⟨bx, 1, none⟩) (by show Wo.heap.size ≤ bx; omega) _⟩
      · have i3 : ¬ (cs.length : Int) < (pn : Int) := by omega
        have q0 := Int.emod_nonneg (eid.tmod 1000) (show (9 : Int) ≠ 0 by decide)
        have q1 := Int.emod_lt_of_pos (eid.tmod 1000) (show (0 : Int) < 9 by decide)
        have q2 := Int.emod_nonneg (erad.tmod 1000) (show (1000 : Int) ≠ 0 by decide)
        have q3 := Int.emod_lt_of_pos (erad.tmod 1000) (show (0 : Int) < 1000 by decide)
        have ccap := (OwnI.sl oc).le
        have hpc : pn ≤ c3 := by omega
        have cutH := cutS_h (P := Try.prog) 31 5 .i64 Try.underlying31 (i := _) rfl A3 cs.length c3 pn (by omega) ccap
        go_wp2_with fail
        have bd : Below wr.heap.size wr wr.drew := (Below.refl _ _).drew
        clear k0 k1 k2 k3 f1
        obtain ⟨V, hV⟩ : ∃ V, V = wr := ⟨_, rfl⟩
        subst hV
        replace kb := kb.below bd
        replace oc := own_below oc bd
        replace bv := below_trans bv bd
        clear bd
        refine region_L (oneQ 14 (fun X => Blk X bx 33 [.int .i64 eid, .slice A3 cs.length c3, .int .i64 erad, .bool edead]) (fun _ => True)) hmix ?_
        have hS : oneQ 14 (fun X => Blk X bx 33 [.int .i64 eid, .slice A3 cs.length c3, .int .i64 erad, .bool edead]) (fun _ => True) (Array.replicate 21 false) V.drew := ⟨fun _ => kb, trivial⟩
        refine anyL_take (fun _ => True) [] (i := 0) (v := ?_) rfl (by kernel_rfl) (by kernel_rfl) (by kernel_rfl) (fun _ _ _ h => h) (by kernel_rfl) (one_ind (i := 0) (by decide)) (fun _ _ _ _ => trivial) (Or.inl ⟨by rfl, ?_⟩) hS ?_
        rotate_left
        · intro X hX
          clear hX
          go_simp
          try with_reducible rfl
        try simp only [List.getElem_toArray, List.getElem_cons_zero, List.getElem_cons_succ]
        simp only [Act.put, List.setIfInBounds_toArray, List.set_cons_zero, List.set_cons_succ]
        replace hS := (one_ind (i := 0) (by decide) _ _).2 hS
        refine anyL_take (fun X => Blk X bx 33 [.int .i64 eid, .slice A3 cs.length c3, .int .i64 erad, .bool edead]) [14] (i := 1) (v := ?_) rfl (by kernel_rfl) (by kernel_rfl) (by kernel_rfl) (fun _ _ _ h => h) (by kernel_rfl) (one_ind (i := 1) (by decide)) (fun L X h1 h2 => h2.1 (h1 14 (by simp))) (Or.inl ⟨by rfl, ?_⟩) hS ?_
        rotate_left
        · intro X hX
          have g0 := hX.cell 0; have g1 := hX.cell 1; have g2 := hX.cell 2; have g3 := hX.cell 3; simp only [List.getElem?_cons_zero, List.getElem?_cons_succ] at g0 g1 g2 g3; clear hX
          go_simp
          try with_reducible rfl
        try simp only [List.getElem_toArray, List.getElem_cons_zero, List.getElem_cons_succ]
        simp only [Act.put, List.setIfInBounds_toArray, List.set_cons_zero, List.set_cons_succ]
        replace hS := (one_ind (i := 1) (by decide) _ _).2 hS
        refine anyL_take (fun _ => True) [] (i := 2) (v := ?_) rfl (by kernel_rfl) (by kernel_rfl) (by kernel_rfl) (fun _ _ _ h => h) (by kernel_rfl) (one_ind (i := 2) (by decide)) (fun _ _ _ _ => trivial) (Or.inl ⟨by rfl, ?_⟩) hS ?_
        rotate_left
        · intro X hX
          clear hX
          go_simp
          try with_reducible rfl
        try simp only [List.getElem_toArray, List.getElem_cons_zero, List.getElem_cons_succ]
        simp only [Act.put, List.setIfInBounds_toArray, List.set_cons_zero, List.set_cons_succ]
        replace hS := (one_ind (i := 2) (by decide) _ _).2 hS
        refine anyL_take (fun _ => True) [] (i := 3) (v := ?_) rfl (by kernel_rfl) (by kernel_rfl) (by kernel_rfl) (fun _ _ _ h => h) (by kernel_rfl) (one_ind (i := 3) (by decide)) (fun _ _ _ _ => trivial) (Or.inl ⟨by rfl, ?_⟩) hS ?_
        rotate_left
        · intro X hX
          clear hX
          go_simp
          try with_reducible rfl
        try simp only [List.getElem_toArray, List.getElem_cons_zero, List.getElem_cons_succ]
        simp only [Act.put, List.setIfInBounds_toArray, List.set_cons_zero, List.set_cons_succ]
        replace hS := (one_ind (i := 3) (by decide) _ _).2 hS
        refine anyL_take (fun _ => True) [] (i := 4) (v := ?_) rfl (by kernel_rfl) (by kernel_rfl) (by kernel_rfl) (fun _ _ _ h => h) (by kernel_rfl) (one_ind (i := 4) (by decide)) (fun _ _ _ _ => trivial) (Or.inl ⟨by rfl, ?_⟩) hS ?_
        rotate_left
        · intro X hX
          clear hX
          go_simp
          try with_reducible rfl
        try simp only [List.getElem_toArray, List.getElem_cons_zero, List.getElem_cons_succ]
        simp only [Act.put, List.setIfInBounds_toArray, List.set_cons_zero, List.set_cons_succ]
        replace hS := (one_ind (i := 4) (by decide) _ _).2 hS
        refine anyL_take (fun X => Blk X bx 33 [.int .i64 eid, .slice A3 cs.length c3, .int .i64 erad, .bool edead]) [14] (i := 5) (v := ?_) rfl (by kernel_rfl) (by kernel_rfl) (by kernel_rfl) (fun _ _ _ h => h) (by kernel_rfl) (one_ind (i := 5) (by decide)) (fun L X h1 h2 => h2.1 (h1 14 (by simp))) (Or.inl ⟨by rfl, ?_⟩) hS ?_
        rotate_left
        · intro X hX
          have g0 := hX.cell 0; have g1 := hX.cell 1; have g2 := hX.cell 2; have g3 := hX.cell 3; simp only [List.getElem?_cons_zero, List.getElem?_cons_succ] at g0 g1 g2 g3; clear hX
          go_simp
          try with_reducible rfl
        try simp only [List.getElem_toArray, List.getElem_cons_zero, List.getElem_cons_succ]
        simp only [Act.put, List.setIfInBounds_toArray, List.set_cons_zero, List.set_cons_succ]
        replace hS := (one_ind (i := 5) (by decide) _ _).2 hS
        refine anyL_take (fun _ => True) [] (i := 6) (v := ?_) rfl (by kernel_rfl) (by kernel_rfl) (by kernel_rfl) (fun _ _ _ h => h) (by kernel_rfl) (one_ind (i := 6) (by decide)) (fun _ _ _ _ => trivial) (Or.inl ⟨by rfl, ?_⟩) hS ?_
        rotate_left
        · intro X hX
          clear hX
          go_simp
          try with_reducible rfl
        try simp only [List.getElem_toArray, List.getElem_cons_zero, List.getElem_cons_succ]
        simp only [Act.put, List.setIfInBounds_toArray, List.set_cons_zero, List.set_cons_succ]
        replace hS := (one_ind (i := 6) (by decide) _ _).2 hS
        refine anyL_take (fun _ => True) [] (i := 9) (v := ?_) rfl (by kernel_rfl) (by kernel_rfl) (by kernel_rfl) (fun _ _ _ h => h) (by kernel_rfl) (one_ind (i := 9) (by decide)) (fun _ _ _ _ => trivial) (Or.inl ⟨by rfl, ?_⟩) hS ?_
        rotate_left
        · intro X hX
          clear hX
          go_simp
          try with_reducible rfl
        try simp only [List.getElem_toArray, List.getElem_cons_zero, List.getElem_cons_succ]
        simp only [Act.put, List.setIfInBounds_toArray, List.set_cons_zero, List.set_cons_succ]
        replace hS := (one_ind (i := 9) (by decide) _ _).2 hS
        refine anyL_take (fun X => Blk X bx 33 [.int .i64 eid, .slice A3 cs.length c3, .int .i64 erad, .bool edead]) [14] (i := 10) (v := ?_) rfl (by kernel_rfl) (by kernel_rfl) (by kernel_rfl) (fun _ _ _ h => h) (by kernel_rfl) (one_ind (i := 10) (by decide)) (fun L X h1 h2 => h2.1 (h1 14 (by simp))) (Or.inl ⟨by rfl, ?_⟩) hS ?_
        rotate_left
        · intro X hX
          have g0 := hX.cell 0; have g1 := hX.cell 1; have g2 := hX.cell 2; have g3 := hX.cell 3; simp only [List.getElem?_cons_zero, List.getElem?_cons_succ] at g0 g1 g2 g3; clear hX
          go_simp
          try with_reducible rfl
        try simp only [List.getElem_toArray, List.getElem_cons_zero, List.getElem_cons_succ]
        simp only [Act.put, List.setIfInBounds_toArray, List.set_cons_zero, List.set_cons_succ]
        replace hS := (one_ind (i := 10) (by decide) _ _).2 hS
        refine anyL_take (fun _ => True) [] (i := 11) (v := ?_) rfl (by kernel_rfl) (by kernel_rfl) (by kernel_rfl) (fun _ _ _ h => h) (by kernel_rfl) (one_ind (i := 11) (by decide)) (fun _ _ _ _ => trivial) (Or.inl ⟨by rfl, ?_⟩) hS ?_
        rotate_left
        · intro X hX
          clear hX
          go_simp
          try with_reducible rfl
        try simp only [List.getElem_toArray, List.getElem_cons_zero, List.getElem_cons_succ]
        simp only [Act.put, List.setIfInBounds_toArray, List.set_cons_zero, List.set_cons_succ]
        replace hS := (one_ind (i := 11) (by decide) _ _).2 hS
        refine anyL_take (fun _ => True) [] (i := 13) (v := ?_) rfl (by kernel_rfl) (by kernel_rfl) (by kernel_rfl) (fun _ _ _ h => h) (by kernel_rfl) (one_ind (i := 13) (by decide)) (fun _ _ _ _ => trivial) (Or.inl ⟨by rfl, ?_⟩) hS ?_
        rotate_left
        · intro X hX
          clear hX
          go_simp
          try with_reducible rfl
        try simp only [List.getElem_toArray, List.getElem_cons_zero, List.getElem_cons_succ]
        simp only [Act.put, List.setIfInBounds_toArray, List.set_cons_zero, List.set_cons_succ]
        replace hS := (one_ind (i := 13) (by decide) _ _).2 hS
        clear hS
        refine anyL_step (i := 7) (by kernel_rfl) rfl (by rfl) (fun K hK => ?_)
        go_simp
        refine (Pick_calls (eid.tmod 1000) 9 _ (by decide) (by decide)).mono ?_
        rintro e _ ⟨rfl, rfl⟩
        generalize (eid.tmod 1000) % 9 = id9 at *
        dsimp only
        refine hK.out _ _ ⟨fun _ => kb, trivial⟩ ?_
        clear hK K
        try simp only [Act.put, List.setIfInBounds_toArray, List.set_cons_zero, List.set_cons_succ]
        have hS : oneQ 14 (fun X => Blk X bx 33 [.int .i64 eid, .slice A3 cs.length c3, .int .i64 erad, .bool edead]) (fun _ => True) (((((((((((((Array.replicate 21 false).setIfInBounds 0 true).setIfInBounds 1 true).setIfInBounds 2 true).setIfInBounds 3 true).setIfInBounds 4 true).setIfInBounds 5 true).setIfInBounds 6 true).setIfInBounds 9 true).setIfInBounds 10 true).setIfInBounds 11 true).setIfInBounds 13 true).setIfInBounds 7 true) V.drew := ⟨fun _ => kb, trivial⟩
        refine anyL_take (fun _ => True) [] (i := 8) (v := ?_) rfl (by kernel_rfl) (by kernel_rfl) (by kernel_rfl) (fun _ _ _ h => h) (by kernel_rfl) (one_ind (i := 8) (by decide)) (fun _ _ _ _ => trivial) (Or.inl ⟨by rfl, ?_⟩) hS ?_
        rotate_left
        · intro X hX
          clear hX
          go_simp
          try with_reducible rfl
        try simp only [List.getElem_toArray, List.getElem_cons_zero, List.getElem_cons_succ]
        simp only [Act.put, List.setIfInBounds_toArray, List.set_cons_zero, List.set_cons_succ]
        replace hS := (one_ind (i := 8) (by decide) _ _).2 hS
        clear hS
        refine anyL_step (i := 12) (by kernel_rfl) rfl (by rfl) (fun K hK => ?_)
        go_simp
        refine (Pick_calls (erad.tmod 1000) 1000 _ (by decide) (by decide)).mono ?_
        rintro e _ ⟨rfl, rfl⟩
        generalize (erad.tmod 1000) % 1000 = rad9 at *
        dsimp only
        refine hK.out _ _ ⟨fun _ => kb, trivial⟩ ?_
        clear hK K
        try simp only [Act.put, List.setIfInBounds_toArray, List.set_cons_zero, List.set_cons_succ]
        have hS : oneQ 14 (fun X => Blk X bx 33 [.int .i64 eid, .slice A3 cs.length c3, .int .i64 erad, .bool edead]) (fun _ => True) (((((((((((((((Array.replicate 21 false).setIfInBounds 0 true).setIfInBounds 1 true).setIfInBounds 2 true).setIfInBounds 3 true).setIfInBounds 4 true).setIfInBounds 5 true).setIfInBounds 6 true).setIfInBounds 9 true).setIfInBounds 10 true).setIfInBounds 11 true).setIfInBounds 13 true).setIfInBounds 7 true).setIfInBounds 8 true).setIfInBounds 12 true) V.drew := ⟨fun _ => kb, trivial⟩
        have kV : Blk V bx 33 [.int .i64 eid, .slice A3 cs.length c3, .int .i64 erad, .bool edead] := kb
        have s0 := kV.cell 0
        have s1 := kV.cell 1
        have s2 := kV.cell 2
        have s3 := kV.cell 3
        have u0 := kV.frozen 0
        have u1 := kV.frozen 1
        have u2 := kV.frozen 2
        have u3 := kV.frozen 3
        simp only [List.getElem?_cons_zero, List.getElem?_cons_succ] at s0 s1 s2 s3
        clear hS
        refine anyL_step (i := 14) (by kernel_rfl) rfl (by rfl) (fun K hK => ?_)
        go_simp
        refine hK.out _ _ ⟨fun hh => absurd hh (by decide), trivial⟩ ?_
        clear hK K
        try simp only [Act.put, List.setIfInBounds_toArray, List.set_cons_zero, List.set_cons_succ]
        have hS : oneQ 14 (fun X => Blk X bx 33 [.int .i64 eid, .slice A3 cs.length c3, .int .i64 erad, .bool edead]) (fun _ => True) ((((((((((((((((Array.replicate 21 false).setIfInBounds 0 true).setIfInBounds 1 true).setIfInBounds 2 true).setIfInBounds 3 true).setIfInBounds 4 true).setIfInBounds 5 true).setIfInBounds 6 true).setIfInBounds 9 true).setIfInBounds 10 true).setIfInBounds 11 true).setIfInBounds 13 true).setIfInBounds 7 true).setIfInBounds 8 true).setIfInBounds 12 true).setIfInBounds 14 true) (V.setCell ⟨bx, 1, none⟩ (.slice A3 pn c3)).drew := ⟨fun hh => absurd hh (by decide), trivial⟩
        refine anyL_take (fun _ => True) [] (i := 15) (v := ?_) rfl (by kernel_rfl) (by kernel_rfl) (by kernel_rfl) (fun _ _ _ h => h) (by kernel_rfl) (one_ind (i := 15) (by decide)) (fun _ _ _ _ => trivial) (Or.inl ⟨by rfl, ?_⟩) hS ?_
        rotate_left
        · intro X hX
          clear hX
          go_simp
          try with_reducible rfl
        try simp only [List.getElem_toArray, List.getElem_cons_zero, List.getElem_cons_succ]
        simp only [Act.put, List.setIfInBounds_toArray, List.set_cons_zero, List.set_cons_succ]
        replace hS := (one_ind (i := 15) (by decide) _ _).2 hS
        clear hS
        refine anyL_step (i := 16) (by kernel_rfl) rfl (by rfl) (fun K hK => ?_)
        go_simp
        refine hK.out _ _ ⟨fun hh => absurd hh (by decide), trivial⟩ ?_
        clear hK K
        try simp only [Act.put, List.setIfInBounds_toArray, List.set_cons_zero, List.set_cons_succ]
        have hS : oneQ 14 (fun X => Blk X bx 33 [.int .i64 eid, .slice A3 cs.length c3, .int .i64 erad, .bool edead]) (fun _ => True) ((((((((((((((((((Array.replicate 21 false).setIfInBounds 0 true).setIfInBounds 1 true).setIfInBounds 2 true).setIfInBounds 3 true).setIfInBounds 4 true).setIfInBounds 5 true).setIfInBounds 6 true).setIfInBounds 9 true).setIfInBounds 10 true).setIfInBounds 11 true).setIfInBounds 13 true).setIfInBounds 7 true).setIfInBounds 8 true).setIfInBounds 12 true).setIfInBounds 14 true).setIfInBounds 15 true).setIfInBounds 16 true) ((V.setCell ⟨bx, 1, none⟩ (.slice A3 pn c3)).setCell ⟨bx, 3, none⟩ (.bool false)).drew := ⟨fun hh => absurd hh (by decide), trivial⟩
        refine anyL_take (fun _ => True) [] (i := 17) (v := ?_) rfl (by kernel_rfl) (by kernel_rfl) (by kernel_rfl) (fun _ _ _ h => h) (by kernel_rfl) (one_ind (i := 17) (by decide)) (fun _ _ _ _ => trivial) (Or.inl ⟨by rfl, ?_⟩) hS ?_
        rotate_left
        · intro X hX
          clear hX
          go_simp
          try with_reducible rfl
        try simp only [List.getElem_toArray, List.getElem_cons_zero, List.getElem_cons_succ]
        simp only [Act.put, List.setIfInBounds_toArray, List.set_cons_zero, List.set_cons_succ]
        replace hS := (one_ind (i := 17) (by decide) _ _).2 hS
        clear hS
        refine anyL_step (i := 18) (by kernel_rfl) rfl (by rfl) (fun K hK => ?_)
        go_simp
        refine hK.out _ _ ⟨fun hh => absurd hh (by decide), trivial⟩ ?_
        clear hK K
        try simp only [Act.put, List.setIfInBounds_toArray, List.set_cons_zero, List.set_cons_succ]
        have hS : oneQ 14 (fun X => Blk X bx 33 [.int .i64 eid, .slice A3 cs.length c3, .int .i64 erad, .bool edead]) (fun _ => True) ((((((((((((((((((((Array.replicate 21 false).setIfInBounds 0 true).setIfInBounds 1 true).setIfInBounds 2 true).setIfInBounds 3 true).setIfInBounds 4 true).setIfInBounds 5 true).setIfInBounds 6 true).setIfInBounds 9 true).setIfInBounds 10 true).setIfInBounds 11 true).setIfInBounds 13 true).setIfInBounds 7 true).setIfInBounds 8 true).setIfInBounds 12 true).setIfInBounds 14 true).setIfInBounds 15 true).setIfInBounds 16 true).setIfInBounds 17 true).setIfInBounds 18 true) (((V.setCell ⟨bx, 1, none⟩ (.slice A3 pn c3)).setCell ⟨bx, 3, none⟩ (.bool false)).setCell ⟨bx, 0, none⟩ (.int .i64 (IntKind.i64.wrap (1 + id9)))).drew := ⟨fun hh => absurd hh (by decide), trivial⟩
        refine anyL_take (fun _ => True) [] (i := 19) (v := ?_) rfl (by kernel_rfl) (by kernel_rfl) (by kernel_rfl) (fun _ _ _ h => h) (by kernel_rfl) (one_ind (i := 19) (by decide)) (fun _ _ _ _ => trivial) (Or.inl ⟨by rfl, ?_⟩) hS ?_
        rotate_left
        · intro X hX
          clear hX
          go_simp
          try with_reducible rfl
        try simp only [List.getElem_toArray, List.getElem_cons_zero, List.getElem_cons_succ]
        simp only [Act.put, List.setIfInBounds_toArray, List.set_cons_zero, List.set_cons_succ]
        replace hS := (one_ind (i := 19) (by decide) _ _).2 hS
        clear hS
        refine anyL_step (i := 20) (by kernel_rfl) rfl (by rfl) (fun K hK => ?_)
        go_simp
        refine hK.out _ _ ⟨fun hh => absurd hh (by decide), trivial⟩ ?_
        clear hK K
        try simp only [Act.put, List.setIfInBounds_toArray, List.set_cons_zero, List.set_cons_succ]
        have hS : oneQ 14 (fun X => Blk X bx 33 [.int .i64 eid, .slice A3 cs.length c3, .int .i64 erad, .bool edead]) (fun _ => True) ((((((((((((((((((((((Array.replicate 21 false).setIfInBounds 0 true).setIfInBounds 1 true).setIfInBounds 2 true).setIfInBounds 3 true).setIfInBounds 4 true).setIfInBounds 5 true).setIfInBounds 6 true).setIfInBounds 9 true).setIfInBounds 10 true).setIfInBounds 11 true).setIfInBounds 13 true).setIfInBounds 7 true).setIfInBounds 8 true).setIfInBounds 12 true).setIfInBounds 14 true).setIfInBounds 15 true).setIfInBounds 16 true).setIfInBounds 17 true).setIfInBounds 18 true).setIfInBounds 19 true).setIfInBounds 20 true) ((((V.setCell ⟨bx, 1, none⟩ (.slice A3 pn c3)).setCell ⟨bx, 3, none⟩ (.bool false)).setCell ⟨bx, 0, none⟩ (.int .i64 (IntKind.i64.wrap (1 + id9)))).setCell ⟨bx, 2, none⟩ (.int .i64 rad9)).drew := ⟨fun hh => absurd hh (by decide), trivial⟩
        clear hS
        refine anyL_done (by kernel_rfl) ?_ _
        rw [show IntKind.i64.wrap (1 + id9) = 1 + id9 from by rw [IntKind.wrap_i64]; omega]
        have g4 := grownBy4 V bx 1 3 0 2 (.slice A3 pn c3) (.bool false) (.int .i64 (1 + id9)) (.int .i64 rad9)
        have ownb : some bx ≠ (Value.slice A3 cs.length c3).ownBlock := fun hh => by
          cases A3 with
          | none => simp [Value.ownBlock] at hh
          | some x => simp [Value.ownBlock] at hh; exact hne x rfl hh.symm
        have ocV : OwnI V Wo.heap.size 5 .u8 A3 c3 cs := oc
        have oc4 := ocV.kept g4 (by
          cases hv : (Value.slice A3 cs.length c3).ownBlock with
          | none => exact .inl rfl
          | some q => right; rw [hv] at ownb; exact fun hh => ownb hh.symm)
        have kb4 : Blk ((((V.setCell ⟨bx, 1, none⟩ (.slice A3 pn c3)).setCell ⟨bx, 3, none⟩ (.bool false)).setCell ⟨bx, 0, none⟩ (.int .i64 (1 + id9))).setCell ⟨bx, 2, none⟩ (.int .i64 rad9)) bx 33 [.int .i64 (1 + id9), .slice A3 pn c3, .int .i64 rad9, .bool false] := (((kV.set 1 (.slice A3 pn c3)).set 3 (.bool false)).set 0 (.int .i64 (1 + id9))).set 2 (.int .i64 rad9)
        have bvV : Below Wo.heap.size Wo V := ⟨bv.os, bv.tape, bv.output, bv.size, bv.block⟩
        have hbxo : Wo.heap.size ≤ bx := by omega
        have bv4 := (((bvV.setCell (p := ⟨bx, 1, none⟩) hbxo (.slice A3 pn c3)).setCell (p := ⟨bx, 3, none⟩) hbxo (.bool false)).setCell (p := ⟨bx, 0, none⟩) hbxo (.int .i64 (1 + id9))).setCell (p := ⟨bx, 2, none⟩) hbxo (.int .i64 rad9)
        clear kV kb s0 s1 s2 s3 u0 u1 u2 u3 g4 oc ocV bv bvV
        generalize (((V.setCell ⟨bx, 1, none⟩ (.slice A3 pn c3)).setCell ⟨bx, 3, none⟩ (.bool false)).setCell ⟨bx, 0, none⟩ (.int .i64 (1 + id9))).setCell ⟨bx, 2, none⟩ (.int .i64 rad9) = W4 at *
        have bd : Below W4.heap.size W4 W4.drew := (Below.refl _ _).drew
        replace kb4 := kb4.below bd
        replace oc4 := own_below oc4 bd
        replace bv4 := below_trans bv4 bd
        clear bd
        generalize W4.drew = W3 at *
        have hidw : Hid (1 ≤ 1 + id9 ∧ 1 + id9 ≤ 9) := ⟨by omega, by omega⟩
        have hradw : Hid (0 ≤ rad9 ∧ rad9 ≤ 999) := ⟨by omega, by omega⟩
        generalize 1 + id9 = ai at *
        have RW3 := RW.below bv4
        have hrl := Lib.hid (show (ents rs).length = rs.length from ents_length rs)
        have hrs200 : rs.length ≤ 200 := by
          have h1 : rs.length = (liveE es).length := by rw [← hrl.out, hrs.out]
          have := liveE_le es
          omega
        clear q0 q1 q2 q3
        go_wp2_with fail
        go_loopg [11, 12] (rs.length + 1) (fun gk kk n w' => ∃ t : Nat, n = .int .i64 (t : Int) ∧ t ≤ rs.length ∧ rs.length < t + gk ∧ Hid ((kk = .int .i64 (-1) ∧ ∀ s, s < t → ((ents rs).getD s ⟨0, [], 0, false⟩).id ≠ ai) ∨ (∃ s : Nat, s < t ∧ kk = .int .i64 (s : Int) ∧ ((ents rs).getD s ⟨0, [], 0, false⟩).id = ai)) ∧ Below W3.heap.size W3 w')
        case atStart => exact ⟨0, rfl, by omega, by omega, .inl ⟨rfl, fun s hs => absurd hs (by omega)⟩, Below.refl _ _⟩
        case round =>
          obtain ⟨t, rfl, ht, hg3, HK, b5⟩ := hrel
          by_cases hlt3 : t < rs.length
          · have i4 : (t : Int) < (rs.length : Int) := by omega
            obtain ⟨ae, B1, d1, hR, hx, _⟩ := ((RW3.below b5).sl).get t (by rw [hrl.out]; exact hlt3)
            obtain ⟨v0, _, _, _⟩ := hx
            have k0 := (kb4.below b5).cell 0
            simp only [List.getElem?_cons_zero] at k0
            have HK1 := Lib.hid (fun (hh : ((ents rs).getD t ⟨0, [], 0, false⟩).id = ai) => (⟨t, Nat.lt_succ_self t, rfl, hh⟩ : ∃ s : Nat, s < t + 1 ∧ Value.int .i64 (t : Int) = .int .i64 (s : Int) ∧ ((ents rs).getD s ⟨0, [], 0, false⟩).id = ai))
            have HK2 := Lib.hid (fun (kk : Value) (hk : (kk = .int .i64 (-1) ∧ ∀ s, s < t → ((ents rs).getD s ⟨0, [], 0, false⟩).id ≠ ai) ∨ (∃ s : Nat, s < t ∧ kk = .int .i64 (s : Int) ∧ ((ents rs).getD s ⟨0, [], 0, false⟩).id = ai)) (hh : ((ents rs).getD t ⟨0, [], 0, false⟩).id ≠ ai) => show (kk = .int .i64 (-1) ∧ ∀ s, s < t + 1 → ((ents rs).getD s ⟨0, [], 0, false⟩).id ≠ ai) ∨ (∃ s : Nat, s < t + 1 ∧ kk = .int .i64 (s : Int) ∧ ((ents rs).getD s ⟨0, [], 0, false⟩).id = ai) from by
              rcases hk with ⟨e1, e2⟩ | ⟨s, e1, e2, e3⟩
              · refine .inl ⟨e1, fun s hs => ?_⟩
                rcases Nat.lt_or_ge s t with h1 | h1
                · exact e2 s h1
                · obtain rfl : s = t := by omega
                  exact hh
              · exact .inr ⟨s, by omega, e2, e3⟩)
            have HK3 := Lib.hid (HK2.out _ HK.out)
            clear HK2 HK
            generalize ((ents rs).getD t ⟨0, [], 0, false⟩).id = pid at *
            by_cases hi : pid = ai
            · have hib : (pid == ai) = true := by simp [hi]
              have HK4 := Lib.hid (HK1.out hi)
              clear HK1 HK3 hi
              subst hR
              go_wp2_with fail
              go_quiet (fail)
              go_wp2_with fail
              go_roundg (gk - 1)
              case measure => omega
              case rel => exact ⟨t + 1, by simp, by omega, by omega, .inr HK4.out, below_drewN b5 _⟩
            · have hib : (pid == ai) = false := by simp [hi]
              have HK4 := Lib.hid (HK3.out hi)
              clear HK1 HK3 hi
              subst hR
              go_wp2_with fail
              go_quiet (fail)
              go_wp2_with fail
              go_roundg (gk - 1)
              case measure => omega
              case rel => exact ⟨t + 1, by simp, by omega, by omega, HK4.out, below_drewN b5 _⟩
          · have i4 : ¬ (t : Int) < (rs.length : Int) := by omega
            obtain rfl : t = rs.length := by omega
            have x0' := cell_below b5 _ _ (cell_below bv4 _ _ x0)
            replace kb4 := kb4.below b5
            replace oc4 := own_below oc4 b5
            replace RW3 := RW3.below b5
            have L3 := (LS.below bv4).below b5
            have b6 := below_trans bv4 b5
            clear b5 bv4 LS RW
            have m0 := Int.emod_nonneg kind (show (4 : Int) ≠ 0 by decide)
            have m1 := Int.emod_lt_of_pos kind (show (0 : Int) < 4 by decide)
            go_wp2_with fail
            refine (Pick_calls kind 4 _ (by decide) (by decide)).mono ?_
            rintro e _ ⟨rfl, rfl⟩
            generalize kind % 4 = kr at *
            have hkr : kr = 0 ∨ kr = 1 ∨ kr = 2 ∨ kr = 3 := by omega
            clear m0 m1 x0'
            go_upto_block 6 with fail
            go_cut [7, 8] (fun row dd w' => ∃ (S2 : Nat → Prop) (es2 : List En) (R2 : Option Addr) (rc2 : Nat) (rs2 : List HE), row = .slice R2 rs2.length rc2 ∧ dd = .int .i64 ((es2.length - (liveE es2).length : Nat) : Int) ∧ LIST w' S2 g (pn : Int) es2 ∧ es2.length ≤ j + 1 ∧ Hid (∀ e ∈ es2, e.code.length = pn) ∧ Hid (ents rs2 = liveE es2) ∧ RowL w' w.heap.size S2 R2 rc2 rs2 ∧ Below w.heap.size w w' ∧ (∀ k, S2 k → w.heap.size ≤ k ∧ k < w'.heap.size))
            case first =>
              rcases hkr with rfl | rfl | rfl | rfl
              · have hp8 : (cs.take pn).length = pn := by rw [List.length_take]; omega
                have hsl3 := (OwnI.sl oc4).take pn c3 hpc (Nat.le_refl _)
                have hcode : ∃ code, code = cs.take pn := ⟨_, rfl⟩
                obtain ⟨code, hcode⟩ := hcode
                rw [← hcode] at hp8 hsl3
                have HC := Lib.hid hcode
                clear hcode
                obtain ⟨g3, rfl, hg3l, hg3h⟩ := own_form oc4 (by omega)
                have hnb : g3 ≠ bx := hne _ rfl
                have hok : okE (pn : Int) ⟨ai, code, rad9, false⟩ := ⟨hidw.out.1, by show ((code.length : Nat) : Int) = _; rw [hp8], hradw.out.1, by have := hradw.out.2; show rad9 ≤ _; omega, rfl⟩
                have hwf : (Lit.int .i64 ai).wf = true := by have := hidw.out; simp [Lit.wf, IntKind.min, IntKind.max, IntKind.signed, IntKind.bits]; omega
                have hbxo : Wo.heap.size ≤ bx := by omega
                have hSlt := Lib.hid (show ∀ k, Wo.heap.size ≤ k → ¬ S k from fun k hk hs => by have := (oS k hs).2; omega)
                have PUT := LPut_any S g (pn : Int) es ⟨ai, code, rad9, false⟩ (some ⟨g3, 0, none⟩) c3 _ L3 (by omega) (by show code.length ≤ _; omega) hwf hsl3 (by omega)
                unfold RetP at PUT
                unfold aggE at PUT
                dsimp only at PUT
                rw [hp8] at PUT
                have q0 := kb4.cell 0
                have q1 := kb4.cell 1
                have q2 := kb4.cell 2
                have q3 := kb4.cell 3
                simp only [List.getElem?_cons_zero, List.getElem?_cons_succ] at q0 q1 q2 q3
                rcases HK.out with ⟨e11, hno⟩ | ⟨s, hs, e11, hsid⟩
                · subst e11
                  have hpl : place es ai = none := kill_no (fun t ht => by have := hno t (by rw [← hrl.out, hrs.out]; exact ht); rwa [hrs.out] at this)
                  have hR : putR (pn : Int) es ⟨ai, code, rad9, false⟩ = 0 := by unfold putR; rw [if_pos hok, if_pos hpl]
                  have hE : putE (pn : Int) es ⟨ai, code, rad9, false⟩ = es ++ [⟨ai, code, rad9, false⟩] := by unfold putE; rw [if_pos ⟨hok, hpl⟩]
                  rw [hR, hE] at PUT
                  clear hR hE hpl hno HK hok
                  have OWN := fun (w8 : World) (hsl : SlI w8 .u8 (some ⟨g3, 0, none⟩) c3 code) => OwnEntry_calls ⟨ai, code, rad9, false⟩ (some ⟨g3, 0, none⟩) c3 w8 hsl (by show code.length * 1 ≤ _; omega)
                  unfold aggE at OWN
                  dsimp only at OWN
                  simp only [hp8] at OWN
                  replace hp8 := Lib.hid hp8
                  go_wp2_with fail
                  refine PUT.mono ?_
                  rintro e w5 ⟨S5, rfl, L5, kp5, hS5⟩
                  have zk5 := kp5.size
                  have kb5 := kb4.keep kp5 (hSlt.out bx hbxo)
                  have oc5 := row_same oc4 (fun k hk => kp5.block k (oc4.lt k hk).2 (hSlt.out k (own_base oc4 k hk)))
                  have hsl5 : SlI w5 .u8 (some ⟨g3, 0, none⟩) c3 code := hsl3.same fun x hx => by injection hx with hx; subst hx; exact kp5.block g3 hg3h (hSlt.out g3 hg3l)
                  have RW5 : RowL w5 w.heap.size (fun k => S5 k ∨ k = g3) R rc rs := (RW3.keep (kp5.more fun k hk => .inl hk) (S1 := fun k => (S k ∨ Wo.heap.size ≤ k) ∨ wr.heap.size ≤ k) (fun k hk => hk)).less fun k hk => by
                    rcases hk with hk | rfl
                    · rcases hS5 k hk with h | h
                      · exact .inl (.inl h)
                      · exact .inr h.1
                    · exact .inl (.inr hg3l)
                  have b5 := below_keep (below_then bw zw b6) kp5 (by have := b6.size; omega) (fun k hk => (oS k hk).1)
                  have oS5 : ∀ k, S5 k → w.heap.size ≤ k ∧ k < w5.heap.size := fun k hk => by
                    have := b6.size
                    rcases hS5 k hk with h | h
                    · have := oS k h; omega
                    · omega
                  have hg5 : ¬ S5 g3 := fun hk => by
                    rcases hS5 g3 hk with h | h
                    · exact hSlt.out g3 hg3l h
                    · omega
                  have hq := kb5.cell 0
                  have r0 := kb5.cell 0
                  have r1 := kb5.cell 1
                  have r2 := kb5.cell 2
                  have r3 := kb5.cell 3
                  simp only [List.getElem?_cons_zero, List.getElem?_cons_succ] at r0 r1 r2 r3
                  clear hq q0 q1 q2 q3 kb4 oc4 L3 RW3 kp5 hsl3 PUT oS hS5
                  go_wp2_with fail
                  refine (OWN _ hsl5).mono ?_
                  rintro e w6 ⟨A6, c6, rfl, o6, d6⟩
                  clear OWN r0 r1 r2 r3
                  have zd6 := d6.size
                  have bb := below_box0 w6 (.cells #[.int .i64 ai, .slice A6 pn c6, .int .i64 rad9, .bool false] 33)
                  have z := below_trans d6 bb
                  have RW6 := RW5.below z
                  have L6 := L5.below z
                  have oc6 := own_below oc5 z
                  have kb6 := kb5.below z
                  have b6' := below_then b5 (by omega) z
                  have ob6 := own_block o6
                  have hva : (w6.alloc (.cells #[.int .i64 ai, .slice A6 pn c6, .int .i64 rad9, .bool false] 33)).heap.size = w6.heap.size + 1 := by simp
                  have hnews : Rd (w6.alloc (.cells #[.int .i64 ai, .slice A6 pn c6, .int .i64 rad9, .bool false] 33)) (some ⟨w6.heap.size, 0, none⟩) (flat [(⟨⟨ai, code, rad9, false⟩, A6, c6⟩ : HE)]) := .inr ⟨_, rfl, by
                    have := World.news_of_block (cs := #[.int .i64 ai, .slice A6 pn c6, .int .i64 rad9, .bool false]) (t := 33) (fr := (0, 0)) (heap_alloc_new w6 (.cells #[.int .i64 ai, .slice A6 pn c6, .int .i64 rad9, .bool false] 33))
                    intro j u hu
                    refine this j u ?_
                    simpa [flat, cells4, hp8.out] using hu⟩
                  have o6b : SlI (w6.alloc (.cells #[.int .i64 ai, .slice A6 pn c6, .int .i64 rad9, .bool false] 33)) .u8 A6 c6 code := (OwnI.sl o6).below bb
                  have hzw := zw
                  go_wp2_with (at_builtin; refine app_ents w.heap.size rfl _ _ 30 33 zeroE 48 rfl Try.underlying30 (by kernel_rfl) (by decide) rfl R rc rs.length 1 rs [(⟨⟨ai, code, rad9, false⟩, A6, c6⟩ : HE)] (some ⟨w6.heap.size, 0, none⟩) 1 rfl rfl rfl rfl RW6.own hnews (by omega) (by simp; omega) ?_)
                  intro R3 rc3 v3 h3 hg3 hat3
                  have hl3 : (rs ++ [(⟨⟨ai, code, rad9, false⟩, A6, c6⟩ : HE)]).length = rs.length + 1 := by simp
                  have hsz3 := hg3.size
                  have RWp := RW5.push (by omega) (fun k hk => by rcases hk with hk | rfl; exact (oS5 k hk).2; omega) z o6b (fun x hx => by have := ob6 x hx; omega) (show v3.ownsRow w.heap.size 33 4 (.slice R3 (rs ++ [(⟨⟨ai, code, rad9, false⟩, A6, c6⟩ : HE)]).length rc3) (rs ++ [(⟨⟨ai, code, rad9, false⟩, A6, c6⟩ : HE)]).length (flat (rs ++ [(⟨⟨ai, code, rad9, false⟩, A6, c6⟩ : HE)])) from by rw [hl3]; exact h3) hg3 (by rw [hl3, hva]; exact hat3)
                  have hnr : ∀ k, Wo.heap.size ≤ k → some k ≠ (Value.slice R rs.length rc).ownBlock := fun k hk hh => by have := (hRb.out k hh.symm).2; omega
                  have L7 := L6.same hg3.size fun k hk hs => hg3.block k hk fun e => RW6.off k e.symm (.inl hs)
                  have kb7 := kb6.kept hg3 (hnr bx hbxo)
                  have oc7 := oc6.kept hg3 (.inr (hnr g3 hg3l))
                  have b7 : Below w.heap.size w v3 := b6'.grown hg3 b6'.size (fun k hk => own_base RW6.own k hk)
                  have y1 := kb7.cell 1
                  simp only [List.getElem?_cons_zero, List.getElem?_cons_succ] at y1
                  obtain ⟨y4, y5⟩ := OwnI.cell oc7 0 (by omega)
                  have i5 : (0 : Int) < (pn : Int) := by omega
                  have HL3 := Lib.hid hl3
                  clear hl3 RW6 L6 oc6 kb6 b6' hnews o6b oc5 kb5 RW5 L5 hsl5 h3 hat3
                  try rw [HL3.out]
                  generalize cs.getD 0 0 = v0 at *
                  go_wp2_with fail
                  go_meet
                  refine ⟨S5, es ++ [⟨ai, code, rad9, false⟩], R3, rc3, rs ++ [(⟨⟨ai, code, rad9, false⟩, A6, c6⟩ : HE)], by rw [HL3.out], ?_, L7.same (by simp) (fun k hk hs => heap_setCell_other v3 ⟨g3, 0, none⟩ k _ (fun e => hg5 (by subst e; exact hs))), by rw [List.length_append]; simp; omega, ?_, ?_, (RWp.keep ((Keep.cell v3 g3 0 _).more fun k hk => .inr hk) (fun k hk => .inl hk)).less (fun k hk => .inl hk), b7.setCell (p := ⟨g3, 0, none⟩) (by show w.heap.size ≤ g3; omega) _, fun k hk => ?_⟩
                  · rw [liveE_append, liveE_one rfl, List.length_append, List.length_append]; simp
                  · intro e he
                    rcases List.mem_append.1 he with he | he
                    · exact hcp.out e he
                    · rw [List.mem_singleton] at he; subst he; exact hp8.out
                  · show ents (rs ++ [(⟨⟨ai, code, rad9, false⟩, A6, c6⟩ : HE)]) = _
                    rw [liveE_append, liveE_one rfl, ← hrs.out]; simp [ents]
                  · have := oS5 k hk; simp; omega
                · subst e11
                  have hmem : s < (liveE es).length := by have h1 := hrl.out; rw [hrs.out] at h1; omega
                  have hpl : place es ai ≠ none := fun h0 => by
                    have := (kill_erase (id := ai) L3.good hmem (by rw [← hrs.out]; exact hsid)).1
                    unfold killR at this; rw [h0] at this; cases this
                  have hR : putR (pn : Int) es ⟨ai, code, rad9, false⟩ = 8 := by unfold putR; rw [if_pos hok, if_neg hpl]
                  have hE : putE (pn : Int) es ⟨ai, code, rad9, false⟩ = es := by unfold putE; rw [if_neg fun hh => hpl hh.2]
                  rw [hR, hE] at PUT
                  have hsn : ¬ (s : Int) < 0 := by omega
                  clear hR hE hpl HK hok hsid hmem
                  replace hp8 := Lib.hid hp8
                  go_wp2_with fail
                  refine PUT.mono ?_
                  rintro e w5 ⟨S5, rfl, L5, kp5, hS5⟩
                  have zk5 := kp5.size
                  have RW5 : RowL w5 w.heap.size S5 R rc rs := (RW3.keep (kp5.more fun k hk => .inl hk) (S1 := fun k => (S k ∨ Wo.heap.size ≤ k) ∨ wr.heap.size ≤ k) (fun k hk => hk)).less fun k hk => by
                    rcases hS5 k hk with h | h
                    · exact .inl (.inl h)
                    · exact .inr h.1
                  have b5 := below_keep (below_then bw zw b6) kp5 (by have := b6.size; omega) (fun k hk => (oS k hk).1)
                  have oS5 : ∀ k, S5 k → w.heap.size ≤ k ∧ k < w5.heap.size := fun k hk => by
                    have := b6.size
                    rcases hS5 k hk with h | h
                    · have := oS k h; omega
                    · omega
                  clear q0 q1 q2 q3 kb4 oc4 L3 RW3 kp5 hsl3 PUT oS hS5
                  go_wp2_with fail
                  go_meet
                  exact ⟨S5, es, R, rc, rs, rfl, rfl, L5, by omega, hcp, hrs, RW5, b5, oS5⟩
              · have hp8 : (cs.take pn).length = pn := by rw [List.length_take]; omega
                have hsl3 := (OwnI.sl oc4).take pn c3 hpc (Nat.le_refl _)
                have hcode : ∃ code, code = cs.take pn := ⟨_, rfl⟩
                obtain ⟨code, hcode⟩ := hcode
                rw [← hcode] at hp8 hsl3
                have HC := Lib.hid hcode
                clear hcode
                obtain ⟨g3, rfl, hg3l, hg3h⟩ := own_form oc4 (by omega)
                have hnb : g3 ≠ bx := hne _ rfl
                have hok : okE (pn : Int) ⟨ai, code, rad9, false⟩ := ⟨hidw.out.1, by show ((code.length : Nat) : Int) = _; rw [hp8], hradw.out.1, by have := hradw.out.2; show rad9 ≤ _; omega, rfl⟩
                have hwf : (Lit.int .i64 ai).wf = true := by have := hidw.out; simp [Lit.wf, IntKind.min, IntKind.max, IntKind.signed, IntKind.bits]; omega
                have hbxo : Wo.heap.size ≤ bx := by omega
                have hSlt := Lib.hid (show ∀ k, Wo.heap.size ≤ k → ¬ S k from fun k hk hs => by have := (oS k hs).2; omega)
                have PUT := LPut_any S g (pn : Int) es ⟨ai, code, rad9, false⟩ (some ⟨g3, 0, none⟩) c3 _ L3 (by omega) (by show code.length ≤ _; omega) hwf hsl3 (by omega)
                unfold RetP at PUT
                unfold aggE at PUT
                dsimp only at PUT
                rw [hp8] at PUT
                have q0 := kb4.cell 0
                have q1 := kb4.cell 1
                have q2 := kb4.cell 2
                have q3 := kb4.cell 3
                simp only [List.getElem?_cons_zero, List.getElem?_cons_succ] at q0 q1 q2 q3
                rcases HK.out with ⟨e11, hno⟩ | ⟨s, hs, e11, hsid⟩
                · subst e11
                  have hpl : place es ai = none := kill_no (fun t ht => by have := hno t (by rw [← hrl.out, hrs.out]; exact ht); rwa [hrs.out] at this)
                  have hR : putR (pn : Int) es ⟨ai, code, rad9, false⟩ = 0 := by unfold putR; rw [if_pos hok, if_pos hpl]
                  have hE : putE (pn : Int) es ⟨ai, code, rad9, false⟩ = es ++ [⟨ai, code, rad9, false⟩] := by unfold putE; rw [if_pos ⟨hok, hpl⟩]
                  rw [hR, hE] at PUT
                  clear hR hE hpl hno HK hok
                  have OWN := fun (w8 : World) (hsl : SlI w8 .u8 (some ⟨g3, 0, none⟩) c3 code) => OwnEntry_calls ⟨ai, code, rad9, false⟩ (some ⟨g3, 0, none⟩) c3 w8 hsl (by show code.length * 1 ≤ _; omega)
                  unfold aggE at OWN
                  dsimp only at OWN
                  simp only [hp8] at OWN
                  replace hp8 := Lib.hid hp8
                  go_wp2_with fail
                  refine PUT.mono ?_
                  rintro e w5 ⟨S5, rfl, L5, kp5, hS5⟩
                  have zk5 := kp5.size
                  have kb5 := kb4.keep kp5 (hSlt.out bx hbxo)
                  have oc5 := row_same oc4 (fun k hk => kp5.block k (oc4.lt k hk).2 (hSlt.out k (own_base oc4 k hk)))
                  have hsl5 : SlI w5 .u8 (some ⟨g3, 0, none⟩) c3 code := hsl3.same fun x hx => by injection hx with hx; subst hx; exact kp5.block g3 hg3h (hSlt.out g3 hg3l)
                  have RW5 : RowL w5 w.heap.size (fun k => S5 k ∨ k = g3) R rc rs := (RW3.keep (kp5.more fun k hk => .inl hk) (S1 := fun k => (S k ∨ Wo.heap.size ≤ k) ∨ wr.heap.size ≤ k) (fun k hk => hk)).less fun k hk => by
                    rcases hk with hk | rfl
                    · rcases hS5 k hk with h | h
                      · exact .inl (.inl h)
                      · exact .inr h.1
                    · exact .inl (.inr hg3l)
                  have b5 := below_keep (below_then bw zw b6) kp5 (by have := b6.size; omega) (fun k hk => (oS k hk).1)
                  have oS5 : ∀ k, S5 k → w.heap.size ≤ k ∧ k < w5.heap.size := fun k hk => by
                    have := b6.size
                    rcases hS5 k hk with h | h
                    · have := oS k h; omega
                    · omega
                  have hg5 : ¬ S5 g3 := fun hk => by
                    rcases hS5 g3 hk with h | h
                    · exact hSlt.out g3 hg3l h
                    · omega
                  have hq := kb5.cell 0
                  have r0 := kb5.cell 0
                  have r1 := kb5.cell 1
                  have r2 := kb5.cell 2
                  have r3 := kb5.cell 3
                  simp only [List.getElem?_cons_zero, List.getElem?_cons_succ] at r0 r1 r2 r3
                  clear hq q0 q1 q2 q3 kb4 oc4 L3 RW3 kp5 hsl3 PUT oS hS5
                  go_wp2_with fail
                  refine (OWN _ hsl5).mono ?_
                  rintro e w6 ⟨A6, c6, rfl, o6, d6⟩
                  clear OWN r0 r1 r2 r3
                  have zd6 := d6.size
                  have bb := below_box0 w6 (.cells #[.int .i64 ai, .slice A6 pn c6, .int .i64 rad9, .bool false] 33)
                  have z := below_trans d6 bb
                  have RW6 := RW5.below z
                  have L6 := L5.below z
                  have oc6 := own_below oc5 z
                  have kb6 := kb5.below z
                  have b6' := below_then b5 (by omega) z
                  have ob6 := own_block o6
                  have hva : (w6.alloc (.cells #[.int .i64 ai, .slice A6 pn c6, .int .i64 rad9, .bool false] 33)).heap.size = w6.heap.size + 1 := by simp
                  have hnews : Rd (w6.alloc (.cells #[.int .i64 ai, .slice A6 pn c6, .int .i64 rad9, .bool false] 33)) (some ⟨w6.heap.size, 0, none⟩) (flat [(⟨⟨ai, code, rad9, false⟩, A6, c6⟩ : HE)]) := .inr ⟨_, rfl, by
                    have := World.news_of_block (cs := #[.int .i64 ai, .slice A6 pn c6, .int .i64 rad9, .bool false]) (t := 33) (fr := (0, 0)) (heap_alloc_new w6 (.cells #[.int .i64 ai, .slice A6 pn c6, .int .i64 rad9, .bool false] 33))
                    intro j u hu
                    refine this j u ?_
                    simpa [flat, cells4, hp8.out] using hu⟩
                  have o6b : SlI (w6.alloc (.cells #[.int .i64 ai, .slice A6 pn c6, .int .i64 rad9, .bool false] 33)) .u8 A6 c6 code := (OwnI.sl o6).below bb
                  have hzw := zw
                  go_wp2_with (at_builtin; refine app_ents w.heap.size rfl _ _ 30 33 zeroE 48 rfl Try.underlying30 (by kernel_rfl) (by decide) rfl R rc rs.length 1 rs [(⟨⟨ai, code, rad9, false⟩, A6, c6⟩ : HE)] (some ⟨w6.heap.size, 0, none⟩) 1 rfl rfl rfl rfl RW6.own hnews (by omega) (by simp; omega) ?_)
                  intro R3 rc3 v3 h3 hg3 hat3
                  have hl3 : (rs ++ [(⟨⟨ai, code, rad9, false⟩, A6, c6⟩ : HE)]).length = rs.length + 1 := by simp
                  have hsz3 := hg3.size
                  have RWp := RW5.push (by omega) (fun k hk => by rcases hk with hk | rfl; exact (oS5 k hk).2; omega) z o6b (fun x hx => by have := ob6 x hx; omega) (show v3.ownsRow w.heap.size 33 4 (.slice R3 (rs ++ [(⟨⟨ai, code, rad9, false⟩, A6, c6⟩ : HE)]).length rc3) (rs ++ [(⟨⟨ai, code, rad9, false⟩, A6, c6⟩ : HE)]).length (flat (rs ++ [(⟨⟨ai, code, rad9, false⟩, A6, c6⟩ : HE)])) from by rw [hl3]; exact h3) hg3 (by rw [hl3, hva]; exact hat3)
                  have hnr : ∀ k, Wo.heap.size ≤ k → some k ≠ (Value.slice R rs.length rc).ownBlock := fun k hk hh => by have := (hRb.out k hh.symm).2; omega
                  have L7 := L6.same hg3.size fun k hk hs => hg3.block k hk fun e => RW6.off k e.symm (.inl hs)
                  have kb7 := kb6.kept hg3 (hnr bx hbxo)
                  have oc7 := oc6.kept hg3 (.inr (hnr g3 hg3l))
                  have b7 : Below w.heap.size w v3 := b6'.grown hg3 b6'.size (fun k hk => own_base RW6.own k hk)
                  have y1 := kb7.cell 1
                  simp only [List.getElem?_cons_zero, List.getElem?_cons_succ] at y1
                  obtain ⟨y4, y5⟩ := OwnI.cell oc7 0 (by omega)
                  have i5 : (0 : Int) < (pn : Int) := by omega
                  have HL3 := Lib.hid hl3
                  clear hl3 RW6 L6 oc6 kb6 b6' hnews o6b oc5 kb5 RW5 L5 hsl5 h3 hat3
                  try rw [HL3.out]
                  generalize cs.getD 0 0 = v0 at *
                  go_wp2_with fail
                  go_meet
                  refine ⟨S5, es ++ [⟨ai, code, rad9, false⟩], R3, rc3, rs ++ [(⟨⟨ai, code, rad9, false⟩, A6, c6⟩ : HE)], by rw [HL3.out], ?_, L7.same (by simp) (fun k hk hs => heap_setCell_other v3 ⟨g3, 0, none⟩ k _ (fun e => hg5 (by subst e; exact hs))), by rw [List.length_append]; simp; omega, ?_, ?_, (RWp.keep ((Keep.cell v3 g3 0 _).more fun k hk => .inr hk) (fun k hk => .inl hk)).less (fun k hk => .inl hk), b7.setCell (p := ⟨g3, 0, none⟩) (by show w.heap.size ≤ g3; omega) _, fun k hk => ?_⟩
                  · rw [liveE_append, liveE_one rfl, List.length_append, List.length_append]; simp
                  · intro e he
                    rcases List.mem_append.1 he with he | he
                    · exact hcp.out e he
                    · rw [List.mem_singleton] at he; subst he; exact hp8.out
                  · show ents (rs ++ [(⟨⟨ai, code, rad9, false⟩, A6, c6⟩ : HE)]) = _
                    rw [liveE_append, liveE_one rfl, ← hrs.out]; simp [ents]
                  · have := oS5 k hk; simp; omega
                · subst e11
                  have hmem : s < (liveE es).length := by have h1 := hrl.out; rw [hrs.out] at h1; omega
                  have hpl : place es ai ≠ none := fun h0 => by
                    have := (kill_erase (id := ai) L3.good hmem (by rw [← hrs.out]; exact hsid)).1
                    unfold killR at this; rw [h0] at this; cases this
                  have hR : putR (pn : Int) es ⟨ai, code, rad9, false⟩ = 8 := by unfold putR; rw [if_pos hok, if_neg hpl]
                  have hE : putE (pn : Int) es ⟨ai, code, rad9, false⟩ = es := by unfold putE; rw [if_neg fun hh => hpl hh.2]
                  rw [hR, hE] at PUT
                  have hsn : ¬ (s : Int) < 0 := by omega
                  clear hR hE hpl HK hok hsid hmem
                  replace hp8 := Lib.hid hp8
                  go_wp2_with fail
                  refine PUT.mono ?_
                  rintro e w5 ⟨S5, rfl, L5, kp5, hS5⟩
                  have zk5 := kp5.size
                  have RW5 : RowL w5 w.heap.size S5 R rc rs := (RW3.keep (kp5.more fun k hk => .inl hk) (S1 := fun k => (S k ∨ Wo.heap.size ≤ k) ∨ wr.heap.size ≤ k) (fun k hk => hk)).less fun k hk => by
                    rcases hS5 k hk with h | h
                    · exact .inl (.inl h)
                    · exact .inr h.1
                  have b5 := below_keep (below_then bw zw b6) kp5 (by have := b6.size; omega) (fun k hk => (oS k hk).1)
                  have oS5 : ∀ k, S5 k → w.heap.size ≤ k ∧ k < w5.heap.size := fun k hk => by
                    have := b6.size
                    rcases hS5 k hk with h | h
                    · have := oS k h; omega
                    · omega
                  clear q0 q1 q2 q3 kb4 oc4 L3 RW3 kp5 hsl3 PUT oS hS5
                  go_wp2_with fail
                  go_meet
                  exact ⟨S5, es, R, rc, rs, rfl, rfl, L5, by omega, hcp, hrs, RW5, b5, oS5⟩
              · have hwf : (Lit.int .i64 ai).wf = true := by have := hidw.out; simp [Lit.wf, IntKind.min, IntKind.max, IntKind.signed, IntKind.bits]; omega
                have KILL := LKill_any S g (pn : Int) es ai _ L3 hwf
                have q0 := kb4.cell 0
                simp only [List.getElem?_cons_zero, List.getElem?_cons_succ] at q0
                rcases HK.out with ⟨e11, hno⟩ | ⟨s, hs, e11, hsid⟩
                · subst e11
                  have hpl : place es ai = none := kill_no (fun t ht => by have := hno t (by rw [← hrl.out, hrs.out]; exact ht); rwa [hrs.out] at this)
                  have hR : killR es ai = 6 := by unfold killR; rw [hpl]
                  have hE : kill1 es ai = es := by unfold kill1; rw [hpl]
                  rw [hR, hE] at KILL
                  clear hR hE hpl hno HK
                  go_wp2_with fail
                  refine KILL.mono ?_
                  rintro e w5 ⟨rfl, L5, kp5⟩
                  have zk5 := kp5.size
                  have RW5 : RowL w5 w.heap.size S R rc rs := (RW3.keep (kp5.more fun k hk => .inl hk) (fun k hk => .inl hk)).less fun k hk => .inl hk
                  have b5 := below_keep (below_then bw zw b6) kp5 (by have := b6.size; omega) (fun k hk => (oS k hk).1)
                  have oS5 : ∀ k, S k → w.heap.size ≤ k ∧ k < w5.heap.size := fun k hk => by have := b6.size; have := oS k hk; omega
                  clear q0 kb4 oc4 L3 RW3 kp5 KILL oS
                  go_wp2_with fail
                  go_meet
                  exact ⟨S, es, R, rc, rs, rfl, rfl, L5, by omega, hcp, hrs, RW5, b5, oS5⟩
                · subst e11
                  have hmem : s < (liveE es).length := by have h1 := hrl.out; rw [hrs.out] at h1; omega
                  have HKE := Lib.hid (kill_erase (id := ai) L3.good hmem (by rw [← hrs.out]; exact hsid)).2
                  have hR := (kill_erase (id := ai) L3.good hmem (by rw [← hrs.out]; exact hsid)).1
                  rw [hR] at KILL
                  have hsn : ¬ (s : Int) < 0 := by omega
                  have hsg : (s : Int) ≥ 0 := by omega
                  have hwr : IntKind.i64.wrap ((s : Int) + 1) = (s : Int) + 1 := by rw [IntKind.wrap_i64]; omega
                  have hrcc := RW3.sl.len
                  rw [hrl.out] at hrcc
                  have hcutH := cutE_h R rs.length rc s (by omega) hrcc.1
                  obtain ⟨RL, hcutL, hRL⟩ := cutE_l R rc (s + 1) rs ((s : Int) + 1) (by simp) (by omega) hrcc.1
                  replace hRL := Lib.hid hRL
                  clear hR HK hsid
                  replace hmem := Lib.hid hmem
                  go_wp2_with fail
                  refine KILL.mono ?_
                  rintro e w5 ⟨rfl, L5, kp5⟩
                  have zk5 := kp5.size
                  have RW5 : RowL w5 w.heap.size S R rc rs := (RW3.keep (kp5.more fun k hk => .inl hk) (fun k hk => .inl hk)).less fun k hk => .inl hk
                  have b5 := below_keep (below_then bw zw b6) kp5 (by have := b6.size; omega) (fun k hk => (oS k hk).1)
                  have oS5 : ∀ k, S k → w.heap.size ≤ k ∧ k < w5.heap.size := fun k hk => by have := b6.size; have := oS k hk; omega
                  have zb5 := b5.size
                  clear q0 kb4 oc4 L3 RW3 kp5 KILL oS
                  go_wp2_with fail
                  refine region_L (oneQ 99 (fun _ => True) (fun _ => True)) hmix ?_
                  have bd : Below w5.heap.size w5 w5.drew := (Below.refl _ _).drew
                  replace RW5 := RW5.below bd
                  replace L5 := L5.below bd
                  replace b5 := below_then b5 (by omega) bd
                  have zd5 := bd.size
                  clear bd
                  generalize w5.drew = V at *
                  have hS : oneQ 99 (fun _ => True) (fun _ => True) (Array.replicate 11 false) V := ⟨fun _ => trivial, trivial⟩
                  refine anyL_take (fun _ => True) [] (i := 1) (v := ?_) rfl (by kernel_rfl) (by kernel_rfl) (by kernel_rfl) (fun _ _ _ h => h) (by kernel_rfl) (one_ind (i := 1) (by decide)) (fun _ _ _ _ => trivial) (Or.inl ⟨by rfl, ?_⟩) hS ?_
                  rotate_left
                  · intro X hX
                    clear hX
                    go_simp
                    try with_reducible rfl
                  try simp only [List.getElem_toArray, List.getElem_cons_zero, List.getElem_cons_succ]
                  simp only [Act.put, List.setIfInBounds_toArray, List.set_cons_zero, List.set_cons_succ]
                  replace hS := (one_ind (i := 1) (by decide) _ _).2 hS
                  refine anyL_take (fun _ => True) [] (i := 2) (v := ?_) rfl (by kernel_rfl) (by kernel_rfl) (by kernel_rfl) (fun _ _ _ h => h) (by kernel_rfl) (one_ind (i := 2) (by decide)) (fun _ _ _ _ => trivial) (Or.inl ⟨by rfl, ?_⟩) hS ?_
                  rotate_left
                  · intro X hX
                    clear hX
                    go_simp
                    try with_reducible rfl
                  try simp only [List.getElem_toArray, List.getElem_cons_zero, List.getElem_cons_succ]
                  simp only [Act.put, List.setIfInBounds_toArray, List.set_cons_zero, List.set_cons_succ]
                  replace hS := (one_ind (i := 2) (by decide) _ _).2 hS
                  refine anyL_take (fun _ => True) [] (i := 3) (v := ?_) rfl (by kernel_rfl) (by kernel_rfl) (by kernel_rfl) (fun _ _ _ h => h) (by kernel_rfl) (one_ind (i := 3) (by decide)) (fun _ _ _ _ => trivial) (Or.inl ⟨by rfl, ?_⟩) hS ?_
                  rotate_left
                  · intro X hX
                    clear hX
                    go_simp
                    try with_reducible rfl
                  try simp only [List.getElem_toArray, List.getElem_cons_zero, List.getElem_cons_succ]
                  simp only [Act.put, List.setIfInBounds_toArray, List.set_cons_zero, List.set_cons_succ]
                  replace hS := (one_ind (i := 3) (by decide) _ _).2 hS
                  refine anyL_take (fun _ => True) [] (i := 5) (v := ?_) rfl (by kernel_rfl) (by kernel_rfl) (by kernel_rfl) (fun _ _ _ h => h) (by kernel_rfl) (one_ind (i := 5) (by decide)) (fun _ _ _ _ => trivial) (Or.inl ⟨by rfl, ?_⟩) hS ?_
                  rotate_left
                  · intro X hX
                    clear hX
                    go_simp
                    try with_reducible rfl
                  try simp only [List.getElem_toArray, List.getElem_cons_zero, List.getElem_cons_succ]
                  simp only [Act.put, List.setIfInBounds_toArray, List.set_cons_zero, List.set_cons_succ]
                  replace hS := (one_ind (i := 5) (by decide) _ _).2 hS
                  refine anyL_take (fun _ => True) [] (i := 6) (v := ?_) rfl (by kernel_rfl) (by kernel_rfl) (by kernel_rfl) (fun _ _ _ h => h) (by kernel_rfl) (one_ind (i := 6) (by decide)) (fun _ _ _ _ => trivial) (Or.inl ⟨by rfl, ?_⟩) hS ?_
                  rotate_left
                  · intro X hX
                    clear hX
                    go_simp
                    try with_reducible rfl
                  try simp only [List.getElem_toArray, List.getElem_cons_zero, List.getElem_cons_succ]
                  simp only [Act.put, List.setIfInBounds_toArray, List.set_cons_zero, List.set_cons_succ]
                  replace hS := (one_ind (i := 6) (by decide) _ _).2 hS
                  refine anyL_take (fun _ => True) [] (i := 7) (v := ?_) rfl (by kernel_rfl) (by kernel_rfl) (by kernel_rfl) (fun _ _ _ h => h) (by kernel_rfl) (one_ind (i := 7) (by decide)) (fun _ _ _ _ => trivial) (Or.inl ⟨by rfl, ?_⟩) hS ?_
                  rotate_left
                  · intro X hX
                    clear hX
                    go_simp
                    try with_reducible rfl
                  try simp only [List.getElem_toArray, List.getElem_cons_zero, List.getElem_cons_succ]
                  simp only [Act.put, List.setIfInBounds_toArray, List.set_cons_zero, List.set_cons_succ]
                  replace hS := (one_ind (i := 7) (by decide) _ _).2 hS
                  refine anyL_take (fun _ => True) [] (i := 8) (v := ?_) rfl (by kernel_rfl) (by kernel_rfl) (by kernel_rfl) (fun _ _ _ h => h) (by kernel_rfl) (one_ind (i := 8) (by decide)) (fun _ _ _ _ => trivial) (Or.inl ⟨by rfl, ?_⟩) hS ?_
                  rotate_left
                  · intro X hX
                    clear hX
                    go_simp
                    try with_reducible rfl
                  try simp only [List.getElem_toArray, List.getElem_cons_zero, List.getElem_cons_succ]
                  simp only [Act.put, List.setIfInBounds_toArray, List.set_cons_zero, List.set_cons_succ]
                  replace hS := (one_ind (i := 8) (by decide) _ _).2 hS
                  clear hS
                  refine anyL_step (i := 0) (by kernel_rfl) rfl (by rfl) (fun K hK => ?_)
                  go_simp
                  refine hK.out _ _ ⟨fun _ => trivial, trivial⟩ ?_
                  clear hK K
                  try simp only [Act.put, List.setIfInBounds_toArray, List.set_cons_zero, List.set_cons_succ]
                  have e0 := rowE_empty V V.heap.size 33 (Nat.le_refl _)
                  have bb := below_box0 V (.cells #[] 33)
                  have sx5 := OwnX.sl ⟨RW5.own, RW5.codes⟩
                  refine anyL_step (i := 4) (by kernel_rfl) rfl (by rfl) (fun K hK => ?_)
                  refine wp_app_ents V.heap.size _ _ 30 33 zeroE 48 rfl Try.underlying30 (by kernel_rfl) (by decide) rfl (some ⟨V.heap.size, 0, none⟩) 0 0 s [] (rs.take s) R rc rfl rfl rfl (by rw [List.length_take]; omega) e0 ((sx5.below bb).rdTake s) (by simp) (by simp; omega) ?_
                  intro B1 d1 vA oA hgA hat
                  simp only [List.nil_append] at oA hat ⊢
                  have bA := below_grown bb hgA e0 (Nat.le_refl _)
                  have hla : (rs.take s).length = s := by rw [List.length_take]; omega
                  refine hK.out _ _ ⟨fun _ => trivial, trivial⟩ ?_
                  clear hK K
                  try simp only [Act.put, List.setIfInBounds_toArray, List.set_cons_zero, List.set_cons_succ]
                  refine anyL_step (i := 9) (by kernel_rfl) rfl (by rfl) (fun K hK => ?_)
                  refine wp_app_ents V.heap.size _ _ 30 33 zeroE 48 rfl Try.underlying30 (by kernel_rfl) (by decide) rfl B1 d1 (rs.take s).length (rs.length - (s + 1)) (rs.take s) (rs.drop (s + 1)) RL (rc - (s + 1)) rfl rfl rfl (by rw [List.length_drop]) oA (hRL _ _ (sx5.below bA)) bA.size (by rw [List.length_drop, hla]; omega) ?_
                  intro B2 d2 vB oB hgB hatB
                  have bB := below_grown bA hgB oA (Nat.le_refl _)
                  refine hK.out _ _ ⟨fun _ => trivial, trivial⟩ ?_
                  clear hK K
                  try simp only [Act.put, List.setIfInBounds_toArray, List.set_cons_zero, List.set_cons_succ]
                  have hS : oneQ 99 (fun _ => True) (fun _ => True) (((((((((((Array.replicate 11 false).setIfInBounds 1 true).setIfInBounds 2 true).setIfInBounds 3 true).setIfInBounds 5 true).setIfInBounds 6 true).setIfInBounds 7 true).setIfInBounds 8 true).setIfInBounds 0 true).setIfInBounds 4 true).setIfInBounds 9 true) vB := ⟨fun _ => trivial, trivial⟩
                  refine anyL_take (fun _ => True) [] (i := 10) (v := ?_) rfl (by kernel_rfl) (by kernel_rfl) (by kernel_rfl) (fun _ _ _ h => h) (by kernel_rfl) (one_ind (i := 10) (by decide)) (fun _ _ _ _ => trivial) (Or.inl ⟨by rfl, ?_⟩) hS ?_
                  rotate_left
                  · intro X hX
                    clear hX
                    go_simp
                    try with_reducible rfl
                  try simp only [List.getElem_toArray, List.getElem_cons_zero, List.getElem_cons_succ]
                  simp only [Act.put, List.setIfInBounds_toArray, List.set_cons_zero, List.set_cons_succ]
                  replace hS := (one_ind (i := 10) (by decide) _ _).2 hS
                  clear hS
                  refine anyL_done (by kernel_rfl) ?_ _
                  have hlen : (rs.take s ++ rs.drop (s + 1)).length + 1 = rs.length := by rw [List.length_append, List.length_drop, hla]; omega
                  have RWp := RW5.cut (by omega) (fun k hk => by have := oS5 k hk; omega) bB (ys := rs.take s ++ rs.drop (s + 1)) (fun q hq => by
                    rcases List.mem_append.1 hq with hq | hq
                    · exact List.mem_of_mem_take hq
                    · exact List.mem_of_mem_drop hq) oB
                  have L7 := L5.below bB
                  have b7 := below_then b5 (by omega) bB
                  have HDD := Lib.hid (show ((es.length - (liveE es).length : Nat) : Int) + 1 = (((kill1 es ai).length - (liveE (kill1 es ai)).length : Nat) : Int) by
                    rw [kill1_length, HKE.out, List.length_append, List.length_take, List.length_drop]
                    have := liveE_le es; have := hmem.out; omega)
                  have HLEN := Lib.hid hlen
                  have zB := bB.size
                  have HLA := Lib.hid hla
                  clear hlen hla hcutH hcutL oA oB hgA hgB hat hatB RW5 L5 b5 sx5 e0 bb bA bB
                  go_wp2_with fail
                  go_meet
                  refine ⟨S, kill1 es ai, B2, d2, rs.take s ++ rs.drop (s + 1), by rw [List.length_append, List.length_drop, HLA.out], by rw [HDD.out], L7, by rw [kill1_length]; omega, ?_, ?_, RWp, b7, fun k hk => by have := oS5 k hk; omega⟩
                  · intro e he
                    unfold kill1 at he
                    split at he
                    · exact hcp.out e he
                    · rename_i jj hjj
                      unfold killE at he
                      rcases List.mem_or_eq_of_mem_set he with he | he
                      · exact hcp.out e he
                      · subst he
                        show (es.getD jj ⟨0, [], 0, false⟩).code.length = pn
                        refine hcp.out _ ?_
                        rw [List.getD_eq_getElem?_getD, List.getElem?_eq_getElem (place_lt hjj).1]; exact List.getElem_mem _
                  · show ents (rs.take s ++ rs.drop (s + 1)) = _
                    rw [HKE.out, ← hrs.out]; simp [ents]
              · go_wp2_with fail
                refine (LCompact_calls S g (pn : Int) es _ L3 (by omega)).mono ?_
                rintro e w7 ⟨rfl, L7, kp7⟩
                have RW7 := RW3.keep (kp7.more fun k hk => .inl hk) (S1 := S) (fun k hk => .inl (.inl hk))
                have b7 := below_keep (below_then bw zw b6) kp7 (by have := b6.size; omega) (fun k hk => (oS k hk).1)
                have oS7 : ∀ k, S k → w.heap.size ≤ k ∧ k < w7.heap.size := fun k hk => by have := oS k hk; have := b6.size; have := kp7.size; omega
                have hrs7 : Hid (ents rs = liveE (liveE es)) := by rw [liveE_idem]; exact hrs.out
                have hel7 := liveE_le es
                have hcp7 : Hid (∀ e ∈ liveE es, e.code.length = pn) := fun e he => hcp.out e (List.mem_filter.1 he).1
                clear L3 RW3 b6 kp7 oS hrs kb4 oc4
                go_wp2_with fail
                have hz0 : (0 : Int) = (((liveE es).length - (liveE (liveE es)).length : Nat) : Int) := by rw [liveE_idem]; omega
                go_meet
                exact ⟨S, liveE es, R, rc, rs, rfl, by rw [hz0], L7, by omega, hcp7, hrs7, RW7, b7, oS7⟩
            case rest =>
              clear L3 RW3 b6 oS hrs kb4 oc4 hcp HK hel hrl hrs200
              obtain ⟨S2, es2, R2, rc2, rs2, rfl, rfl, L7, hel, hcp, hrs, RW7, b7, oS7⟩ := hcut
              have zw7 := b7.size
              have HCL := Lib.hid (show ∀ q ∈ liveE es2, 1 ≤ q.code.length from fun q hq => by rw [hcp.out q (List.mem_filter.1 hq).1]; exact hn1)
              have hrl7 := Lib.hid (show (liveE es2).length = rs2.length from by rw [← hrs.out, ents_length])
              have hle7 := liveE_le es2
              have hsum : ((liveE es2).length : Int) + ((es2.length - (liveE es2).length : Nat) : Int) = (es2.length : Int) := by omega
              go_wp2_with fail
              refine (Live_calls S2 g (pn : Int) es2 _ L7 (by omega)).mono ?_
              rintro e w8 ⟨A8, c8, ys, rfl, hye, sx8, co8, b8, hA8⟩
              have s8 : SlE w8 A8 c8 (liveE es2) := ⟨ys, hye.symm, sx8.weaken fun _ _ => trivial⟩
              have L8 := L7.below b8
              have RW8 := RW7.below b8
              have s9 := RW8.sl
              rw [hrs.out] at s9
              have HYL := Lib.hid (show ys.length = (liveE es2).length from by rw [← hye, ents_length])
              have hbl : ∀ q ∈ ys, 1 ≤ q.e.code.length := fun q hq => HCL.out q.e (by rw [← hye]; exact List.mem_map.2 ⟨q, hq, rfl⟩)
              have hnew : newE wc.heap.size w8 A8 = newE wc.heap.size w8 A8 := rfl
              have bp8 : Bumps w8 wc.heap.size A8 ys := Bumps.new sx8 co8 hbl
              clear hbl hnew hye sx8 co8 hA8
              go_wp2_with fail
              rw [← hrl7.out]
              refine (Entries_calls A8 R2 c8 rc2 (liveE es2) (liveE es2) _ s8 s9).mono ?_
              rintro e w9 ⟨rfl, b9⟩
              rw [decide_eq_true (rfl : liveE es2 = liveE es2)]
              have L9 := L8.below b9
              have bp9 := bp8.below b9
              have b89 := below_trans b8 b9
              clear s8 s9 b9 b8 bp8 L8 RW8
              go_wp2_with fail
              refine (Count_calls S2 g (pn : Int) es2 _ L9).mono ?_
              rintro e _ ⟨rfl, rfl⟩
              go_wp2_with fail
              refine (Dead_calls S2 g (pn : Int) es2 _ L9 (by omega)).mono ?_
              rintro e _ ⟨rfl, rfl⟩
              go_wp2_with fail
              refine (Stored_calls S2 g (pn : Int) es2 _ L9).mono ?_
              rintro e _ ⟨rfl, rfl⟩
              go_wp2_with fail
              generalize hN : (liveE es2).length = N at *
              have HN := Lib.hid hN
              clear hN
              go_loopg [14] (N + 1) (fun gk n w' => ∃ t : Nat, n = .int .i64 (t : Int) ∧ t ≤ N ∧ N < t + gk ∧ Bumps w' wc.heap.size A8 ys ∧ Below wc.heap.size wc w')
              case atStart => exact ⟨0, rfl, by omega, by omega, bp9, b89⟩
              case round =>
                clear bp9 b89 L9
                obtain ⟨t, rfl, ht, hg4, bp, bb⟩ := hrel
                by_cases hlt4 : t < N
                · have i5 : (t : Int) < (N : Int) := by omega
                  obtain ⟨ad8, rfl, hx8⟩ := bp.1 t (by rw [HYL.out]; exact hlt4)
                  obtain ⟨hl8, g8, v8, hq8, hc8, hf8, hB8, hn8⟩ := bp.2 _ (getD_mem' ys t (by rw [HYL.out]; exact hlt4))
                  have e8 := hx8.2.1
                  rw [hq8] at e8
                  generalize (ys.getD t default).c = cq at *
                  generalize (ys.getD t default).e.code.length = lq at *
                  have i6 : (0 : Int) < (lq : Int) := by omega
                  clear hx8 hq8
                  replace hn8 := Lib.hid hn8
                  go_wp2_with fail
                  go_roundg (gk - 1)
                  case measure => omega
                  case rel => exact ⟨t + 1, by simp, by omega, by omega, bp.set g8 _ hn8.out, bb.setCell (p := ⟨g8, 0, none⟩) hB8 _⟩
                · have i5 : ¬ (t : Int) < (N : Int) := by omega
                  have zbb := bb.size
                  go_wp2_with fail
                  go_roundg (G - 1)
                  case measure => have := hG.out; omega
                  case rel =>
                    refine ⟨j + 1, S2, es2, R2, rc2, rs2, by rw [hrl7.out], by rw [HN.out], by simp, by omega, hgk2, L7.below bb, by omega, hcp, hrs, RW7.below bb, below_then b7 zw7 bb, fun k hk => by have := oS7 k hk; omega⟩
end Go.Proofs.Ytikjmhijkegdgaa
