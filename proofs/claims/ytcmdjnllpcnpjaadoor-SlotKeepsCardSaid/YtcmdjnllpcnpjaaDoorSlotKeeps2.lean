/- SlotKeeps: the walk. -/
import Derived.Test.YtcmdjnllpcnpjaaDoorSlotKeeps
import Derived.Deep.CutBlock
import Derived.Deep.DeepCutAuto
namespace Go.Proofs.YtcmdjnllpcnpjaaDoor
set_option linter.unusedVariables false
set_option linter.unusedSimpArgs false
open Go.RowKit
set_option maxHeartbeats 8000000 in
set_option maxRecDepth 100000 in
theorem SlotKeeps_row (d r : Int) (A0 : Option Addr) (c0 : Nat) (xs : List Ak) (w : World) (hT : TabG w) (hd : (Lit.int .i64 d).wf = true) (hr : (Lit.int .i64 r).wf = true) (hx : SlK w A0 c0 xs) :
    Calls Tryd.prog 4 #[.int .i64 d, .int .i64 r, .slice A0 xs.length c0] w fun e w' => e = .returned (.bool true) ∧ Below w.heap.size w w' := by
  have hm : xs.length ≤ 9223372036854775807 := Nat.le_trans hx.1 (Nat.le_trans hx.2.1 (by decide))
  have hmm := @run_makeMap Tryd.prog
  go_enter Tryd.func4, Tryd.ntmps4
  go_wp2_with fail
  refine (lives_calls w hT).mono ?_
  rintro e w1 ⟨rfl, b1⟩
  go_wp2_with fail
  refine (light_calls A0 c0 xs _ (hx.below b1)).mono ?_
  rintro e _ ⟨rfl, rfl⟩
  by_cases hl : lightK xs
  case neg =>
    rw [decide_eq_false hl]
    go_wp2_with fail
    go_ret
    exact ⟨rfl, b1⟩
  rw [decide_eq_true hl]
  have hxs := hl.2
  have HL := Lib.hid hl.1
  clear hl
  go_wp2_with fail
  refine (Pick_calls d 8 _ (by decide) (by decide)).mono ?_
  rintro e _ ⟨rfl, rfl⟩
  have p0 := Int.emod_nonneg d (show (8 : Int) ≠ 0 by decide)
  have p1 := Int.emod_lt_of_pos d (show (0 : Int) < 8 by decide)
  obtain ⟨dim, hdim⟩ : ∃ n : Nat, (n : Int) = 1 + d % 8 := ⟨(1 + d % 8).toNat, by omega⟩
  have hd1 : 1 ≤ dim := by omega
  have hd2 : dim ≤ 8 := by omega
  go_wp2_with fail
  refine (Pick_calls r 40 _ (by decide) (by decide)).mono ?_
  rintro e _ ⟨rfl, rfl⟩
  have q0 := Int.emod_nonneg r (show (40 : Int) ≠ 0 by decide)
  have q1 := Int.emod_lt_of_pos r (show (0 : Int) < 40 by decide)
  obtain ⟨room, hroom⟩ : ∃ n : Nat, (n : Int) = 1 + r % 40 := ⟨(1 + r % 40).toNat, by omega⟩
  have hr1 : 1 ≤ room := by omega
  have hr2 : room ≤ 40 := by omega
  go_wp2_with fail
  simp only [← hroom, ← hdim]
  clear hroom hdim p0 p1 q0 q1 hd hr
  refine (New_mine dim room hT b1 hd1 (by omega) hr1 (by omega)).mono ?_
  rintro e w2 ⟨g, S, rfl, M2, b2, lo2⟩
  have H2 : KeepI w (w2.alloc (.map #[] 0)) g dim room [] [] [] S w2.heap.size (fun _ => none) 0 (fun _ => False) :=
    ⟨M2.below (below_box0 _ _), MapS.new w2, ⟨M2.B.size, fun hh => by have := (M2.lo _ hh).2; omega⟩, (fun m v h => by simp at h), (fun _ _ => rfl), fun k hk => hk.elim⟩
  clear M2 b2 lo2 b1
  go_wp2_with fail
  generalize w2.heap.size = bm at *
  go_loopg [10, 11, 12, 13, 14, 15, 16, 17, 18, 19] (xs.length + 1) (fun gk i u11 u12 u13 u14 u15 u16 u17 u18 u19 w' => ∃ (j n : Nat) (st : St) (tr : List Int) (S : Nat → Prop) (f : Int → Option Value), i = .int .i64 (j : Int) ∧ j ≤ xs.length ∧ xs.length < j + gk ∧ st.length ≤ room ∧ tr.length ≤ j ∧ n ≤ j ∧ KeepI w w' g dim room st st tr S bm f n (fun _ => False))
  case atStart => exact ⟨0, 0, [], [], S, fun _ => none, rfl, by omega, by omega, by simp, by simp, by omega, H2⟩
  case round =>
    clear H2
    obtain ⟨j, n, st, tr, S, f, rfl, hj, hgk, hst, htr, hn, H⟩ := hrel
    obtain ⟨G, hG⟩ : ∃ G, Hid (G = gk) := ⟨gk, rfl⟩
    by_cases hlt : j < xs.length
    case neg =>
      have i2 : ¬ (j : Int) < (xs.length : Int) := by omega
      have BW := H.ms.B
      clear H
      go_wp2_with fail
      go_ret
      exact ⟨rfl, BW⟩
    have hgk2 : xs.length < j + 1 + (G - 1) := by have := hG.out; omega
    have i2 : (j : Int) < (xs.length : Int) := by omega
    obtain ⟨ad, rfl, ha, hok⟩ := (hx.below H.ms.B).at j hlt
    have hvl := HL.out _ (getD_memK hlt)
    have HX := Lib.hid (fun W (hb : Below w.heap.size w W) => ((hx.below hb).at j hlt))
    generalize xs.getD j default = a at *
    obtain ⟨x0, x1, x2⟩ := ha
    go_wp2_with fail
    refine (Pick_calls a.n room _ (by omega) (by omega)).mono ?_
    rintro e _ ⟨rfl, rfl⟩
    have q0 := Int.emod_nonneg a.n (show (room : Int) ≠ 0 by omega)
    have q1 := Int.emod_lt_of_pos a.n (show (0 : Int) < room by omega)
    obtain ⟨nn, hnn⟩ : ∃ k : Nat, (k : Int) = a.n % (room : Int) := ⟨(a.n % (room : Int)).toNat, by omega⟩
    rw [← hnn] at q0 q1 ⊢
    clear hnn
    have hwn : (Lit.int .i64 (nn : Int)).wf = true := by simp [Lit.wf, IntKind.min, IntKind.max, IntKind.signed, IntKind.bits]; omega
    go_wp2_with fail
    refine (Pick_calls a.kind 3 _ (by decide) (by decide)).mono ?_
    rintro e _ ⟨rfl, rfl⟩
    have m0 := Int.emod_nonneg a.kind (show (3 : Int) ≠ 0 by decide)
    have m1 := Int.emod_lt_of_pos a.kind (show (0 : Int) < 3 by decide)
    generalize a.kind % 3 = kr at *
    have hkr : kr = 0 ∨ kr = 1 ∨ kr = 2 := by omega
    clear m0 m1
    go_upto_block 2 with fail
    go_cut [12, 13, 14, 15, 16, 17] (fun u12 u13 u14 u15 u16 u17 w' => ∃ (n : Nat) (st : St) (S : Nat → Prop) (f : Int → Option Value), st.length ≤ room ∧ n ≤ j + 1 ∧ KeepI w w' g dim room st st tr S bm f n (fun _ => False))
    case first =>
      rcases hkr with rfl | rfl | rfl
      · go_wp2_with (refine wp_make rfl _ _ 32 rfl 31 .i16 2 Tryd.underlying32 (by kernel_rfl) .i64 .i64 (dim : Int) dim rfl rfl rfl (by omega) (by unfold maxLen; omega) ?_)
        intro w3 o3 b3
        have hgv : wr.heap.size < w3.heap.size := (own_block o3 _ rfl).2
        have H3 := H.fresh b3 (Nat.le_refl _) hgv
        have hz3 : (List.replicate dim (0 : Int)).length = dim := List.length_replicate
        generalize List.replicate dim (0 : Int) = vs3 at *
        replace hz3 := Lib.hid hz3
        have hbm : bm ≠ wr.heap.size := by have := (H3.zz _ rfl).2.2.2; exact fun e => this e.symm
        generalize wr.heap.size = gv at *
        clear H b3 hgv x0 x1 x2
        go_wp2_with fail
        go_loopg [13] (dim + 1) (fun gk i w' => ∃ (k : Nat) (vs : List Int), i = .int .i64 (k : Int) ∧ k ≤ dim ∧ k ≤ a.v.length ∧ dim < k + gk ∧ vs.length = dim ∧ OwnI w' gv 31 .i16 (some ⟨gv, 0, none⟩) dim vs ∧ KeepI w w' g dim room st st tr S bm f n (fun k => k = gv))
        case atStart => exact ⟨0, vs3, rfl, by omega, by omega, by omega, hz3.out, o3, H3⟩
        case round =>
          clear o3 H3 hz3
          obtain ⟨k, vs, rfl, hk1, hk2, hg3, hvs, ov, H3⟩ := hrel
          replace hvs := Lib.hid hvs
          obtain ⟨ad', had, ha, hok'⟩ := HX.out _ H3.ms.B
          injection had with had
          subst had
          obtain ⟨x0, x1, x2⟩ := ha
          by_cases hkd : k < dim
          · by_cases hkv : k < a.v.length
            · have i3 : (k : Int) < (dim : Int) := by omega
              have i4 : (k : Int) < (a.v.length : Int) := by omega
              obtain ⟨av, hav, hcv⟩ := hok'.1.get k hkv
              obtain ⟨y0, y1⟩ := OwnI.cell ov k (by rw [hvs.out]; exact hkd)
              rw [hav] at x2
              generalize a.v.getD k 0 = xv at *
              have hset := OwnI.put ov k xv
              have Hw := H3.write (Keep.cell wr gv k (.int .i16 xv))
              have hfar := fun v : Value => World.cell?_setCell_far wr ⟨gv, k, none⟩ (av.add k) v
              go_wp2_with fail
              go_roundg (gk - 1)
              case measure => omega
              case rel => exact ⟨k + 1, vs.set k xv, by simp, by omega, by omega, by omega, by rw [List.length_set]; exact hvs.out, hset, Hw⟩
            · have i3 : (k : Int) < (dim : Int) := by omega
              have i4 : ¬ (k : Int) < (a.v.length : Int) := by omega
              go_wp2_with fail
              have hvd := hvs.out
              have PT := Put_mine (some ⟨gv, 0, none⟩) dim vs H3.ms (OwnI.sl ov) (away_one (H3.zz gv rfl).2.2.1 (H3.zz gv rfl).1 |> fun h x hx => (h x hx).1) (by omega)
              have hput : putX dim room st vs = if leastS st < room then 0 else 7 := by unfold putX; rw [if_neg (by simp [hvd])]
              have hri := room_iff hst
              have hci := cnt_le st
              rw [hvd] at PT
              refine PT.mono ?_
              rintro e w4 ⟨S4, rfl, M4, K4, hS4⟩
              have H4 := H3.stepS M4 K4 hS4
              have ov4 := own_away ov K4 (away_one (H3.zz gv rfl).2.2.1 (H3.zz gv rfl).1)
              have hln := fun ty => H4.mp.len ty
              clear PT M4 K4 hS4 ov H3
              by_cases hf : leastS st < room
              · have hok : okP dim room st vs := ⟨hvd, hf⟩
                rw [hput, if_pos hf, show putN dim room st vs = (leastS st : Nat) from by unfold putN; rw [if_pos hok]]
                rw [show putE dim room st vs = putS st vs from by unfold putE; rw [if_pos hok]] at H4
                have i5 : ((cntS st : Int) == (room : Int)) = false := by rw [beq_eq_false_iff_ne]; have := hri.1 hf; omega
                have hpl : (putS st vs).length ≤ room := by rw [putS_length]; omega
                have hcp := cnt_put st vs
                replace hpl := Lib.hid hpl
                replace hcp := Lib.hid hcp
                clear hput hok hri
                have hneq := fun (W : World) (x : Option Addr) (l c : Nat) => run_neq_slice_nil_any (P := Tryd.prog) W 32 31 x l c 0 0 Tryd.underlying32
                have hlb := Lib.hid (fun j => used_below (st := st) (j := j))
                have hlf := Lib.hid (least_free st)
                have hll := least_le st
                have HPG := Lib.hid (putS_get st vs)
                have HHP := Lib.hid (hasI_put st vs)
                generalize leastS st = q at *
                go_wp2_with fail
                go_loopg [16] (q + 1) (fun gk i w' => ∃ k : Nat, i = .int .i64 (k : Int) ∧ k ≤ q ∧ q < k + gk ∧ w4 = w')
                case atStart => exact ⟨0, rfl, by omega, by omega, rfl⟩
                case round =>
                  obtain ⟨k, rfl, hkq, hg5, rfl⟩ := hrel
                  have hwk : (Lit.int .i64 (k : Int)).wf = true := by simp [Lit.wf, IntKind.min, IntKind.max, IntKind.signed, IntKind.bits]; omega
                  have hlk := H4.mp.look (k : Int) hwk
                  by_cases hlt5 : k < q
                  · obtain ⟨xk, ck, e1, _⟩ := H4.yes (id := (k : Int)) (by rw [hasI_nat]; exact hlb.out k hlt5)
                    rw [e1] at hlk
                    clear e1
                    go_wp2_with fail
                    go_roundg (gk - 1)
                    case measure => omega
                    case rel => exact ⟨k + 1, by simp, by omega, by omega, rfl⟩
                  · obtain rfl : k = q := by omega
                    have hno := H4.nope (id := (k : Int)) (by rw [hasI_nat]; exact hlf.out)
                    rw [hno.1] at hlk
                    clear hlt5
                    go_wp2_with fail
                    have OW := Own_int16_calls (some ⟨gv, 0, none⟩) dim vs w4 (OwnI.sl ov4) (by rw [hvd]; omega)
                    rw [hvd] at OW
                    refine OW.mono ?_
                    rintro e w6 ⟨A6, c6, rfl, o6, b6⟩
                    have H6 := H4.below b6
                    have ov6 := own_below ov4 b6
                    have hf6 := H6.no (k : Int) (by rw [hasI_nat]; exact hlf.out)
                    obtain ⟨g6, rfl, hg6a, hg6b⟩ := own_form o6 (by rw [hvd]; omega)
                    obtain ⟨w7, hrun, mp7, hgr7⟩ := H6.mp.store (by omega) (k : Int) (.slice (some ⟨g6, 0, none⟩) dim c6) hwk hf6
                    have hz6 := b6.size
                    have hbl := H4.mp.lt
                    have H7 := H6.map (sm' := putS st vs) hgr7 (by rw [hcp.out]; exact mp7) (fun id hid => by
                        obtain ⟨e1, e2⟩ := HHP.out id hid
                        unfold upS; rw [if_neg e2]; exact H6.no id e1) (fun m v hmv => by
                        rw [HPG.out] at hmv
                        split at hmv
                        · rename_i em
                          subst em
                          injection hmv with hmv
                          subst hmv
                          refine .inr ⟨by omega, ⟨g6, 0, none⟩, c6, by unfold upS; rw [if_pos rfl, hvd], OwnI.sl o6, fun hh => ?_, hg6b, ?_, ?_⟩
                          · have h1 := (H4.ms.lo _ hh).2
                            have h2 : w4.heap.size ≤ g6 := hg6a
                            have h3 : (⟨g6, 0, none⟩ : Addr).block = g6 := rfl
                            omega
                          · show g6 ≠ bm; omega
                          · show ¬ g6 = gv; have := (H4.zz gv rfl).1; omega
                        · rename_i em
                          exact .inl ⟨hmv, by unfold upS; rw [if_neg (by omega)]⟩)
                    have ov7 := ov6.kept hgr7 (.inr (by intro e; injection e with e; exact hbm e.symm))
                    have z7 := OwnI.cell ov7 0 (by rw [hvd]; omega)
                    obtain ⟨z1, z2⟩ := z7
                    have i6 : (0 : Int) < (dim : Int) := by omega
                    generalize vs.getD 0 0 = v0 at *
                    clear OW hlk hneq hln H4 H6 ov4 ov6 o6 b6 mp7 hgr7
                    replace hf6 := Lib.hid hf6
                    go_wp2_with fail
                    go_meet
                    exact ⟨n + 1, putS st vs, S4, _, hpl.out, by omega, (H7.write (Keep.cell w7 gv 0 _)).drop⟩
              · have hok : ¬ okP dim room st vs := fun hh => hf hh.2
                rw [hput, if_neg hf, show putN dim room st vs = 0 from by unfold putN; rw [if_neg hok]]
                rw [show putE dim room st vs = st from by unfold putE; rw [if_neg hok]] at H4
                have i5 : ((cntS st : Int) == (room : Int)) = true := by
                  have h1 : ¬ cntS st < room := fun hh => hf (hri.2 hh)
                  simp; omega
                clear hput hok hri
                go_wp2_with fail
                go_roundg (G - 1)
                case measure => have := hG.out; omega
                case rel => exact ⟨j + 1, n, st, tr, S4, f, by simp, by omega, hgk2, hst, by omega, by omega, H4.drop⟩
          · have i3 : ¬ (k : Int) < (dim : Int) := by omega
            go_wp2_with fail
            have hvd := hvs.out
            have PT := Put_mine (some ⟨gv, 0, none⟩) dim vs H3.ms (OwnI.sl ov) (away_one (H3.zz gv rfl).2.2.1 (H3.zz gv rfl).1 |> fun h x hx => (h x hx).1) (by omega)
            have hput : putX dim room st vs = if leastS st < room then 0 else 7 := by unfold putX; rw [if_neg (by simp [hvd])]
            have hri := room_iff hst
            have hci := cnt_le st
            rw [hvd] at PT
            refine PT.mono ?_
            rintro e w4 ⟨S4, rfl, M4, K4, hS4⟩
            have H4 := H3.stepS M4 K4 hS4
            have ov4 := own_away ov K4 (away_one (H3.zz gv rfl).2.2.1 (H3.zz gv rfl).1)
            have hln := fun ty => H4.mp.len ty
            clear PT M4 K4 hS4 ov H3
            by_cases hf : leastS st < room
            · have hok : okP dim room st vs := ⟨hvd, hf⟩
              rw [hput, if_pos hf, show putN dim room st vs = (leastS st : Nat) from by unfold putN; rw [if_pos hok]]
              rw [show putE dim room st vs = putS st vs from by unfold putE; rw [if_pos hok]] at H4
              have i5 : ((cntS st : Int) == (room : Int)) = false := by rw [beq_eq_false_iff_ne]; have := hri.1 hf; omega
              have hpl : (putS st vs).length ≤ room := by rw [putS_length]; omega
              have hcp := cnt_put st vs
              replace hpl := Lib.hid hpl
              replace hcp := Lib.hid hcp
              clear hput hok hri
              have hneq := fun (W : World) (x : Option Addr) (l c : Nat) => run_neq_slice_nil_any (P := Tryd.prog) W 32 31 x l c 0 0 Tryd.underlying32
              have hlb := Lib.hid (fun j => used_below (st := st) (j := j))
              have hlf := Lib.hid (least_free st)
              have hll := least_le st
              have HPG := Lib.hid (putS_get st vs)
              have HHP := Lib.hid (hasI_put st vs)
              generalize leastS st = q at *
              go_wp2_with fail
              go_loopg [16] (q + 1) (fun gk i w' => ∃ k : Nat, i = .int .i64 (k : Int) ∧ k ≤ q ∧ q < k + gk ∧ w4 = w')
              case atStart => exact ⟨0, rfl, by omega, by omega, rfl⟩
              case round =>
                obtain ⟨k, rfl, hkq, hg5, rfl⟩ := hrel
                have hwk : (Lit.int .i64 (k : Int)).wf = true := by simp [Lit.wf, IntKind.min, IntKind.max, IntKind.signed, IntKind.bits]; omega
                have hlk := H4.mp.look (k : Int) hwk
                by_cases hlt5 : k < q
                · obtain ⟨xk, ck, e1, _⟩ := H4.yes (id := (k : Int)) (by rw [hasI_nat]; exact hlb.out k hlt5)
                  rw [e1] at hlk
                  clear e1
                  go_wp2_with fail
                  go_roundg (gk - 1)
                  case measure => omega
                  case rel => exact ⟨k + 1, by simp, by omega, by omega, rfl⟩
                · obtain rfl : k = q := by omega
                  have hno := H4.nope (id := (k : Int)) (by rw [hasI_nat]; exact hlf.out)
                  rw [hno.1] at hlk
                  clear hlt5
                  go_wp2_with fail
                  have OW := Own_int16_calls (some ⟨gv, 0, none⟩) dim vs w4 (OwnI.sl ov4) (by rw [hvd]; omega)
                  rw [hvd] at OW
                  refine OW.mono ?_
                  rintro e w6 ⟨A6, c6, rfl, o6, b6⟩
                  have H6 := H4.below b6
                  have ov6 := own_below ov4 b6
                  have hf6 := H6.no (k : Int) (by rw [hasI_nat]; exact hlf.out)
                  obtain ⟨g6, rfl, hg6a, hg6b⟩ := own_form o6 (by rw [hvd]; omega)
                  obtain ⟨w7, hrun, mp7, hgr7⟩ := H6.mp.store (by omega) (k : Int) (.slice (some ⟨g6, 0, none⟩) dim c6) hwk hf6
                  have hz6 := b6.size
                  have hbl := H4.mp.lt
                  have H7 := H6.map (sm' := putS st vs) hgr7 (by rw [hcp.out]; exact mp7) (fun id hid => by
                      obtain ⟨e1, e2⟩ := HHP.out id hid
                      unfold upS; rw [if_neg e2]; exact H6.no id e1) (fun m v hmv => by
                      rw [HPG.out] at hmv
                      split at hmv
                      · rename_i em
                        subst em
                        injection hmv with hmv
                        subst hmv
                        refine .inr ⟨by omega, ⟨g6, 0, none⟩, c6, by unfold upS; rw [if_pos rfl, hvd], OwnI.sl o6, fun hh => ?_, hg6b, ?_, ?_⟩
                        · have h1 := (H4.ms.lo _ hh).2
                          have h2 : w4.heap.size ≤ g6 := hg6a
                          have h3 : (⟨g6, 0, none⟩ : Addr).block = g6 := rfl
                          omega
                        · show g6 ≠ bm; omega
                        · show ¬ g6 = gv; have := (H4.zz gv rfl).1; omega
                      · rename_i em
                        exact .inl ⟨hmv, by unfold upS; rw [if_neg (by omega)]⟩)
                  have ov7 := ov6.kept hgr7 (.inr (by intro e; injection e with e; exact hbm e.symm))
                  have z7 := OwnI.cell ov7 0 (by rw [hvd]; omega)
                  obtain ⟨z1, z2⟩ := z7
                  have i6 : (0 : Int) < (dim : Int) := by omega
                  generalize vs.getD 0 0 = v0 at *
                  clear OW hlk hneq hln H4 H6 ov4 ov6 o6 b6 mp7 hgr7
                  replace hf6 := Lib.hid hf6
                  go_wp2_with fail
                  go_meet
                  exact ⟨n + 1, putS st vs, S4, _, hpl.out, by omega, (H7.write (Keep.cell w7 gv 0 _)).drop⟩
            · have hok : ¬ okP dim room st vs := fun hh => hf hh.2
              rw [hput, if_neg hf, show putN dim room st vs = 0 from by unfold putN; rw [if_neg hok]]
              rw [show putE dim room st vs = st from by unfold putE; rw [if_neg hok]] at H4
              have i5 : ((cntS st : Int) == (room : Int)) = true := by
                have h1 : ¬ cntS st < room := fun hh => hf (hri.2 hh)
                simp; omega
              clear hput hok hri
              go_wp2_with fail
              go_roundg (G - 1)
              case measure => have := hG.out; omega
              case rel => exact ⟨j + 1, n, st, tr, S4, f, by simp, by omega, hgk2, hst, by omega, by omega, H4.drop⟩
      · go_wp2_with (refine wp_make rfl _ _ 32 rfl 31 .i16 2 Tryd.underlying32 (by kernel_rfl) .i64 .i64 (dim : Int) dim rfl rfl rfl (by omega) (by unfold maxLen; omega) ?_)
        intro w3 o3 b3
        have hgv : wr.heap.size < w3.heap.size := (own_block o3 _ rfl).2
        have H3 := H.fresh b3 (Nat.le_refl _) hgv
        have hz3 : (List.replicate dim (0 : Int)).length = dim := List.length_replicate
        generalize List.replicate dim (0 : Int) = vs3 at *
        replace hz3 := Lib.hid hz3
        have hbm : bm ≠ wr.heap.size := by have := (H3.zz _ rfl).2.2.2; exact fun e => this e.symm
        generalize wr.heap.size = gv at *
        clear H b3 hgv x0 x1 x2
        go_wp2_with fail
        go_loopg [13] (dim + 1) (fun gk i w' => ∃ (k : Nat) (vs : List Int), i = .int .i64 (k : Int) ∧ k ≤ dim ∧ k ≤ a.v.length ∧ dim < k + gk ∧ vs.length = dim ∧ OwnI w' gv 31 .i16 (some ⟨gv, 0, none⟩) dim vs ∧ KeepI w w' g dim room st st tr S bm f n (fun k => k = gv))
        case atStart => exact ⟨0, vs3, rfl, by omega, by omega, by omega, hz3.out, o3, H3⟩
        case round =>
          clear o3 H3 hz3
          obtain ⟨k, vs, rfl, hk1, hk2, hg3, hvs, ov, H3⟩ := hrel
          replace hvs := Lib.hid hvs
          obtain ⟨ad', had, ha, hok'⟩ := HX.out _ H3.ms.B
          injection had with had
          subst had
          obtain ⟨x0, x1, x2⟩ := ha
          by_cases hkd : k < dim
          · by_cases hkv : k < a.v.length
            · have i3 : (k : Int) < (dim : Int) := by omega
              have i4 : (k : Int) < (a.v.length : Int) := by omega
              obtain ⟨av, hav, hcv⟩ := hok'.1.get k hkv
              obtain ⟨y0, y1⟩ := OwnI.cell ov k (by rw [hvs.out]; exact hkd)
              rw [hav] at x2
              generalize a.v.getD k 0 = xv at *
              have hset := OwnI.put ov k xv
              have Hw := H3.write (Keep.cell wr gv k (.int .i16 xv))
              have hfar := fun v : Value => World.cell?_setCell_far wr ⟨gv, k, none⟩ (av.add k) v
              go_wp2_with fail
              go_roundg (gk - 1)
              case measure => omega
              case rel => exact ⟨k + 1, vs.set k xv, by simp, by omega, by omega, by omega, by rw [List.length_set]; exact hvs.out, hset, Hw⟩
            · have i3 : (k : Int) < (dim : Int) := by omega
              have i4 : ¬ (k : Int) < (a.v.length : Int) := by omega
              go_wp2_with fail
              have hvd := hvs.out
              have PT := Put_mine (some ⟨gv, 0, none⟩) dim vs H3.ms (OwnI.sl ov) (away_one (H3.zz gv rfl).2.2.1 (H3.zz gv rfl).1 |> fun h x hx => (h x hx).1) (by omega)
              have hput : putX dim room st vs = if leastS st < room then 0 else 7 := by unfold putX; rw [if_neg (by simp [hvd])]
              have hri := room_iff hst
              have hci := cnt_le st
              rw [hvd] at PT
              refine PT.mono ?_
              rintro e w4 ⟨S4, rfl, M4, K4, hS4⟩
              have H4 := H3.stepS M4 K4 hS4
              have ov4 := own_away ov K4 (away_one (H3.zz gv rfl).2.2.1 (H3.zz gv rfl).1)
              have hln := fun ty => H4.mp.len ty
              clear PT M4 K4 hS4 ov H3
              by_cases hf : leastS st < room
              · have hok : okP dim room st vs := ⟨hvd, hf⟩
                rw [hput, if_pos hf, show putN dim room st vs = (leastS st : Nat) from by unfold putN; rw [if_pos hok]]
                rw [show putE dim room st vs = putS st vs from by unfold putE; rw [if_pos hok]] at H4
                have i5 : ((cntS st : Int) == (room : Int)) = false := by rw [beq_eq_false_iff_ne]; have := hri.1 hf; omega
                have hpl : (putS st vs).length ≤ room := by rw [putS_length]; omega
                have hcp := cnt_put st vs
                replace hpl := Lib.hid hpl
                replace hcp := Lib.hid hcp
                clear hput hok hri
                have hneq := fun (W : World) (x : Option Addr) (l c : Nat) => run_neq_slice_nil_any (P := Tryd.prog) W 32 31 x l c 0 0 Tryd.underlying32
                have hlb := Lib.hid (fun j => used_below (st := st) (j := j))
                have hlf := Lib.hid (least_free st)
                have hll := least_le st
                have HPG := Lib.hid (putS_get st vs)
                have HHP := Lib.hid (hasI_put st vs)
                generalize leastS st = q at *
                go_wp2_with fail
                go_loopg [16] (q + 1) (fun gk i w' => ∃ k : Nat, i = .int .i64 (k : Int) ∧ k ≤ q ∧ q < k + gk ∧ w4 = w')
                case atStart => exact ⟨0, rfl, by omega, by omega, rfl⟩
                case round =>
                  obtain ⟨k, rfl, hkq, hg5, rfl⟩ := hrel
                  have hwk : (Lit.int .i64 (k : Int)).wf = true := by simp [Lit.wf, IntKind.min, IntKind.max, IntKind.signed, IntKind.bits]; omega
                  have hlk := H4.mp.look (k : Int) hwk
                  by_cases hlt5 : k < q
                  · obtain ⟨xk, ck, e1, _⟩ := H4.yes (id := (k : Int)) (by rw [hasI_nat]; exact hlb.out k hlt5)
                    rw [e1] at hlk
                    clear e1
                    go_wp2_with fail
                    go_roundg (gk - 1)
                    case measure => omega
                    case rel => exact ⟨k + 1, by simp, by omega, by omega, rfl⟩
                  · obtain rfl : k = q := by omega
                    have hno := H4.nope (id := (k : Int)) (by rw [hasI_nat]; exact hlf.out)
                    rw [hno.1] at hlk
                    clear hlt5
                    go_wp2_with fail
                    have OW := Own_int16_calls (some ⟨gv, 0, none⟩) dim vs w4 (OwnI.sl ov4) (by rw [hvd]; omega)
                    rw [hvd] at OW
                    refine OW.mono ?_
                    rintro e w6 ⟨A6, c6, rfl, o6, b6⟩
                    have H6 := H4.below b6
                    have ov6 := own_below ov4 b6
                    have hf6 := H6.no (k : Int) (by rw [hasI_nat]; exact hlf.out)
                    obtain ⟨g6, rfl, hg6a, hg6b⟩ := own_form o6 (by rw [hvd]; omega)
                    obtain ⟨w7, hrun, mp7, hgr7⟩ := H6.mp.store (by omega) (k : Int) (.slice (some ⟨g6, 0, none⟩) dim c6) hwk hf6
                    have hz6 := b6.size
                    have hbl := H4.mp.lt
                    have H7 := H6.map (sm' := putS st vs) hgr7 (by rw [hcp.out]; exact mp7) (fun id hid => by
                        obtain ⟨e1, e2⟩ := HHP.out id hid
                        unfold upS; rw [if_neg e2]; exact H6.no id e1) (fun m v hmv => by
                        rw [HPG.out] at hmv
                        split at hmv
                        · rename_i em
                          subst em
                          injection hmv with hmv
                          subst hmv
                          refine .inr ⟨by omega, ⟨g6, 0, none⟩, c6, by unfold upS; rw [if_pos rfl, hvd], OwnI.sl o6, fun hh => ?_, hg6b, ?_, ?_⟩
                          · have h1 := (H4.ms.lo _ hh).2
                            have h2 : w4.heap.size ≤ g6 := hg6a
                            have h3 : (⟨g6, 0, none⟩ : Addr).block = g6 := rfl
                            omega
                          · show g6 ≠ bm; omega
                          · show ¬ g6 = gv; have := (H4.zz gv rfl).1; omega
                        · rename_i em
                          exact .inl ⟨hmv, by unfold upS; rw [if_neg (by omega)]⟩)
                    have ov7 := ov6.kept hgr7 (.inr (by intro e; injection e with e; exact hbm e.symm))
                    have z7 := OwnI.cell ov7 0 (by rw [hvd]; omega)
                    obtain ⟨z1, z2⟩ := z7
                    have i6 : (0 : Int) < (dim : Int) := by omega
                    generalize vs.getD 0 0 = v0 at *
                    clear OW hlk hneq hln H4 H6 ov4 ov6 o6 b6 mp7 hgr7
                    replace hf6 := Lib.hid hf6
                    go_wp2_with fail
                    go_meet
                    exact ⟨n + 1, putS st vs, S4, _, hpl.out, by omega, (H7.write (Keep.cell w7 gv 0 _)).drop⟩
              · have hok : ¬ okP dim room st vs := fun hh => hf hh.2
                rw [hput, if_neg hf, show putN dim room st vs = 0 from by unfold putN; rw [if_neg hok]]
                rw [show putE dim room st vs = st from by unfold putE; rw [if_neg hok]] at H4
                have i5 : ((cntS st : Int) == (room : Int)) = true := by
                  have h1 : ¬ cntS st < room := fun hh => hf (hri.2 hh)
                  simp; omega
                clear hput hok hri
                go_wp2_with fail
                go_roundg (G - 1)
                case measure => have := hG.out; omega
                case rel => exact ⟨j + 1, n, st, tr, S4, f, by simp, by omega, hgk2, hst, by omega, by omega, H4.drop⟩
          · have i3 : ¬ (k : Int) < (dim : Int) := by omega
            go_wp2_with fail
            have hvd := hvs.out
            have PT := Put_mine (some ⟨gv, 0, none⟩) dim vs H3.ms (OwnI.sl ov) (away_one (H3.zz gv rfl).2.2.1 (H3.zz gv rfl).1 |> fun h x hx => (h x hx).1) (by omega)
            have hput : putX dim room st vs = if leastS st < room then 0 else 7 := by unfold putX; rw [if_neg (by simp [hvd])]
            have hri := room_iff hst
            have hci := cnt_le st
            rw [hvd] at PT
            refine PT.mono ?_
            rintro e w4 ⟨S4, rfl, M4, K4, hS4⟩
            have H4 := H3.stepS M4 K4 hS4
            have ov4 := own_away ov K4 (away_one (H3.zz gv rfl).2.2.1 (H3.zz gv rfl).1)
            have hln := fun ty => H4.mp.len ty
            clear PT M4 K4 hS4 ov H3
            by_cases hf : leastS st < room
            · have hok : okP dim room st vs := ⟨hvd, hf⟩
              rw [hput, if_pos hf, show putN dim room st vs = (leastS st : Nat) from by unfold putN; rw [if_pos hok]]
              rw [show putE dim room st vs = putS st vs from by unfold putE; rw [if_pos hok]] at H4
              have i5 : ((cntS st : Int) == (room : Int)) = false := by rw [beq_eq_false_iff_ne]; have := hri.1 hf; omega
              have hpl : (putS st vs).length ≤ room := by rw [putS_length]; omega
              have hcp := cnt_put st vs
              replace hpl := Lib.hid hpl
              replace hcp := Lib.hid hcp
              clear hput hok hri
              have hneq := fun (W : World) (x : Option Addr) (l c : Nat) => run_neq_slice_nil_any (P := Tryd.prog) W 32 31 x l c 0 0 Tryd.underlying32
              have hlb := Lib.hid (fun j => used_below (st := st) (j := j))
              have hlf := Lib.hid (least_free st)
              have hll := least_le st
              have HPG := Lib.hid (putS_get st vs)
              have HHP := Lib.hid (hasI_put st vs)
              generalize leastS st = q at *
              go_wp2_with fail
              go_loopg [16] (q + 1) (fun gk i w' => ∃ k : Nat, i = .int .i64 (k : Int) ∧ k ≤ q ∧ q < k + gk ∧ w4 = w')
              case atStart => exact ⟨0, rfl, by omega, by omega, rfl⟩
              case round =>
                obtain ⟨k, rfl, hkq, hg5, rfl⟩ := hrel
                have hwk : (Lit.int .i64 (k : Int)).wf = true := by simp [Lit.wf, IntKind.min, IntKind.max, IntKind.signed, IntKind.bits]; omega
                have hlk := H4.mp.look (k : Int) hwk
                by_cases hlt5 : k < q
                · obtain ⟨xk, ck, e1, _⟩ := H4.yes (id := (k : Int)) (by rw [hasI_nat]; exact hlb.out k hlt5)
                  rw [e1] at hlk
                  clear e1
                  go_wp2_with fail
                  go_roundg (gk - 1)
                  case measure => omega
                  case rel => exact ⟨k + 1, by simp, by omega, by omega, rfl⟩
                · obtain rfl : k = q := by omega
                  have hno := H4.nope (id := (k : Int)) (by rw [hasI_nat]; exact hlf.out)
                  rw [hno.1] at hlk
                  clear hlt5
                  go_wp2_with fail
                  have OW := Own_int16_calls (some ⟨gv, 0, none⟩) dim vs w4 (OwnI.sl ov4) (by rw [hvd]; omega)
                  rw [hvd] at OW
                  refine OW.mono ?_
                  rintro e w6 ⟨A6, c6, rfl, o6, b6⟩
                  have H6 := H4.below b6
                  have ov6 := own_below ov4 b6
                  have hf6 := H6.no (k : Int) (by rw [hasI_nat]; exact hlf.out)
                  obtain ⟨g6, rfl, hg6a, hg6b⟩ := own_form o6 (by rw [hvd]; omega)
                  obtain ⟨w7, hrun, mp7, hgr7⟩ := H6.mp.store (by omega) (k : Int) (.slice (some ⟨g6, 0, none⟩) dim c6) hwk hf6
                  have hz6 := b6.size
                  have hbl := H4.mp.lt
                  have H7 := H6.map (sm' := putS st vs) hgr7 (by rw [hcp.out]; exact mp7) (fun id hid => by
                      obtain ⟨e1, e2⟩ := HHP.out id hid
                      unfold upS; rw [if_neg e2]; exact H6.no id e1) (fun m v hmv => by
                      rw [HPG.out] at hmv
                      split at hmv
                      · rename_i em
                        subst em
                        injection hmv with hmv
                        subst hmv
                        refine .inr ⟨by omega, ⟨g6, 0, none⟩, c6, by unfold upS; rw [if_pos rfl, hvd], OwnI.sl o6, fun hh => ?_, hg6b, ?_, ?_⟩
                        · have h1 := (H4.ms.lo _ hh).2
                          have h2 : w4.heap.size ≤ g6 := hg6a
                          have h3 : (⟨g6, 0, none⟩ : Addr).block = g6 := rfl
                          omega
                        · show g6 ≠ bm; omega
                        · show ¬ g6 = gv; have := (H4.zz gv rfl).1; omega
                      · rename_i em
                        exact .inl ⟨hmv, by unfold upS; rw [if_neg (by omega)]⟩)
                  have ov7 := ov6.kept hgr7 (.inr (by intro e; injection e with e; exact hbm e.symm))
                  have z7 := OwnI.cell ov7 0 (by rw [hvd]; omega)
                  obtain ⟨z1, z2⟩ := z7
                  have i6 : (0 : Int) < (dim : Int) := by omega
                  generalize vs.getD 0 0 = v0 at *
                  clear OW hlk hneq hln H4 H6 ov4 ov6 o6 b6 mp7 hgr7
                  replace hf6 := Lib.hid hf6
                  go_wp2_with fail
                  go_meet
                  exact ⟨n + 1, putS st vs, S4, _, hpl.out, by omega, (H7.write (Keep.cell w7 gv 0 _)).drop⟩
            · have hok : ¬ okP dim room st vs := fun hh => hf hh.2
              rw [hput, if_neg hf, show putN dim room st vs = 0 from by unfold putN; rw [if_neg hok]]
              rw [show putE dim room st vs = st from by unfold putE; rw [if_neg hok]] at H4
              have i5 : ((cntS st : Int) == (room : Int)) = true := by
                have h1 : ¬ cntS st < room := fun hh => hf (hri.2 hh)
                simp; omega
              clear hput hok hri
              go_wp2_with fail
              go_roundg (G - 1)
              case measure => have := hG.out; omega
              case rel => exact ⟨j + 1, n, st, tr, S4, f, by simp, by omega, hgk2, hst, by omega, by omega, H4.drop⟩
      · have FR := Free_mine (nn : Int) H.ms (by omega) (by omega)
        have hneq := fun (W : World) (x : Option Addr) (l c : Nat) => run_neq_slice_nil_any (P := Tryd.prog) W 32 31 x l c 0 0 Tryd.underlying32
        go_wp2_with fail
        refine FR.mono ?_
        rintro e w4 ⟨rfl, M4, K4⟩
        have H4 := H.stepS M4 K4 (fun k hk => .inl hk)
        clear FR M4 K4 H
        have hlk := H4.mp.look (nn : Int) hwn
        obtain ⟨w7, hrun, mp7, hgr7⟩ := H4.mp.drop (nn : Int) hwn 0
        cases hu : hasI st (nn : Int) with
        | true =>
          have hus : used st nn = true := by rw [← hasI_nat]; exact hu
          have hfe : freeE st (nn : Int) = freeS st nn := by unfold freeE; rw [hu]; simp
          rw [hfe] at H4
          obtain ⟨xk, ck, e1, _⟩ := H4.yes hu
          have hsome : (f (nn : Int)).isSome = true := by
            cases hfn : f (nn : Int) with
            | none => rw [hfn] at e1; cases e1
            | some v => rfl
          rw [hsome, if_pos rfl] at mp7
          rw [e1] at hlk
          have hcf := cnt_free st nn hus
          have H7 := H4.map (sm' := freeS st nn) hgr7 (by rw [show cntS (freeS st nn) = cntS st - 1 by omega]; exact mp7) (fun id hid => by
              unfold upS
              split
              · rfl
              · rename_i ne
                refine H4.no id ?_
                rcases Int.lt_or_le id 0 with h1 | h1
                · exact hasI_neg h1
                · obtain ⟨m, rfl⟩ := Int.eq_ofNat_of_zero_le h1
                  rw [hasI_nat, freeS_used] at hid
                  rw [hasI_nat]
                  have : ¬ m = nn := by omega
                  simpa [this] using hid) (fun m v hmv => by
              rw [freeS_get] at hmv
              split at hmv
              · cases hmv
              · rename_i em
                exact .inl ⟨hmv, by unfold upS; rw [if_neg (by omega)]⟩)
          have hfl : (freeS st nn).length ≤ room := by rw [freeS_length]; exact hst
          replace hfl := Lib.hid hfl
          clear hus hfe e1 hsome mp7 hcf hgr7 H4 hu
          simp only [if_true]
          go_wp2_with fail
          go_meet
          exact ⟨n, freeS st nn, S, _, hfl.out, by omega, H7⟩
        | false =>
          have hfe : freeE st (nn : Int) = st := by unfold freeE; rw [hu]; rfl
          rw [hfe] at H4
          have hno := H4.nope hu
          rw [hno.1] at hlk
          have hfn := H4.no (nn : Int) hu
          rw [hfn] at mp7
          have H7 := H4.map (sm' := st) hgr7 mp7 (fun id hid => by
              unfold upS
              split
              · rfl
              · exact H4.no id hid) (fun m v hmv => by
              refine .inl ⟨hmv, ?_⟩
              unfold upS
              split
              · rename_i em
                exfalso
                obtain ⟨_, x, c, h1, _⟩ := H4.el m v hmv
                rw [em, hfn] at h1; cases h1
              · rfl)
          clear hfe mp7 hgr7 H4 hu hno
          replace hfn := Lib.hid hfn
          simp only [Bool.false_eq_true, if_false]
          go_wp2_with fail
          go_meet
          exact ⟨n, st, S, _, hst, by omega, H7⟩
    case rest =>
      clear H hst hn
      obtain ⟨n, st, S, f, hst, hn, H⟩ := hcut
      have GT := Get_mine (nn : Int) H.ms (by omega) (by omega) (by omega)
      have hneq := fun (W : World) (x : Option Addr) (l c : Nat) => run_neq_slice_nil_any (P := Tryd.prog) W 32 31 x l c 0 0 Tryd.underlying32
      go_wp2_with fail
      refine GT.mono ?_
      rintro e w5 ⟨S5, A5, c5, rfl, M5, o5, K5, hS5, aw5⟩
      have H5 := H.stepS M5 K5 hS5
      have hlk := H5.mp.look (nn : Int) hwn
      have hln := fun ty => H5.mp.len ty
      have s5 := OwnI.sl o5
      have htr5 : (getT st tr (nn : Int)).length ≤ j + 1 := by unfold getT; split <;> (try simp) <;> omega
      replace htr5 := Lib.hid htr5
      clear GT
      cases hu : hasI st (nn : Int) with
      | true =>
        obtain ⟨xk, ck, e1, sk⟩ := H5.yes hu
        rw [e1] at hlk
        have hpos : 1 ≤ (getV st (nn : Int)).length := by
          have hus : used st nn = true := by rw [← hasI_nat]; exact hu
          obtain ⟨v, hv⟩ := used_some hus
          have := (H5.el nn v hv).1
          have hg : getV st (nn : Int) = v := by unfold getV; rw [hu, if_pos rfl, Int.toNat_natCast, hv]; rfl
          rw [hg]; exact this
        have SM := Same_int16_b A5 (some xk) c5 ck (getV st (nn : Int)) (getV st (nn : Int)) w5 s5 sk
        rw [decide_eq_true (rfl : getV st (nn : Int) = getV st (nn : Int))] at SM
        obtain ⟨gx, rfl, hgx1, hgx2⟩ := own_form o5 (by omega)
        have HF := H.stepF M5 K5 hS5 hgx1 hgx2 (aw5 _ rfl).1
        have hgl := s5.len
        clear H H5 s5 sk e1 hu M5 hS5 aw5
        generalize getV st (nn : Int) = v at *
        simp only [if_true]
        go_wp2_with fail
        refine SM.mono ?_
        rintro e w6 ⟨rfl, b6⟩
        have H6 := HF.below b6
        have o6 := own_below o5 b6
        have hln6 := fun ty => H6.mp.len ty
        have CN := SCount_calls S5 g dim room st _ w6 H6.ms.M
        clear SM HF o5 hlk hln K5
        go_wp2_with fail
        refine CN.mono ?_
        rintro e _ ⟨rfl, rfl⟩
        obtain ⟨z1, z2⟩ := OwnI.cell o6 0 (by omega)
        have i6 : (v.length : Int) > 0 := by omega
        have i7 : (0 : Int) < (v.length : Int) := by omega
        generalize v.getD 0 0 = v0 at *
        clear CN o6
        go_wp2_with fail
        go_roundg (G - 1)
        case measure => have := hG.out; omega
        case rel => exact ⟨j + 1, n, st, _, S5, f, by simp, by omega, hgk2, hst, htr5.out, by omega, (H6.write (Keep.cell w6 gx 0 _)).drop⟩
      | false =>
        have hno := H5.nope hu
        rw [hno.1] at hlk
        rw [hno.2] at s5 ⊢
        have SM := Same_int16_b A5 none c5 0 [] [] w5 s5 (SlI.nil _ _)
        rw [decide_eq_true (rfl : ([] : List Int) = [])] at SM
        clear H s5 o5 hno hu M5 hS5 aw5 K5
        simp only [Bool.false_eq_true, if_false, List.length_nil] at SM ⊢
        go_wp2_with fail
        refine SM.mono ?_
        rintro e w6 ⟨rfl, b6⟩
        have H6 := H5.below b6
        have hln6 := fun ty => H6.mp.len ty
        have CN := SCount_calls S5 g dim room st _ w6 H6.ms.M
        clear SM H5 hlk hln
        go_wp2_with fail
        refine CN.mono ?_
        rintro e _ ⟨rfl, rfl⟩
        clear CN
        go_wp2_with fail
        go_roundg (G - 1)
        case measure => have := hG.out; omega
        case rel => exact ⟨j + 1, n, st, _, S5, f, by simp, by omega, hgk2, hst, htr5.out, by omega, H6⟩
end Go.Proofs.YtcmdjnllpcnpjaaDoor
