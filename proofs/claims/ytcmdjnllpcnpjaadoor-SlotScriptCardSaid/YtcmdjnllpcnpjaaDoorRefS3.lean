/- The reference's slots: Put. -/
import Derived.Test.YtcmdjnllpcnpjaaDoorRefS2
import Derived.Test.YtcmdjnllpcnpjaaDoorOneQ
import Derived.Test.YtcmdjnllpcnpjaaDoorSlotKeeps
namespace Go.Proofs.YtcmdjnllpcnpjaaDoor
set_option linter.unusedVariables false
set_option linter.unusedSimpArgs false
open Go.RowKit
/-- The vectors' row is another one. -/
theorem RSM.growV {w w' : World} {Wr El : Nat → Prop} {g dim room : Nat} {st st1 : St} {tr : List Int} {vs vs1 : List Value} {V V1 : Option Addr} {vc vc1 : Nat} {T : Option Addr} {tc q : Nat} (h : RSM w Wr El g dim room st tr vs V vc T tc) (ho : OwnV w' 0 32 V1 vc1 vs1) (hg : w.grownBy w' (Value.slice V vs.length vc).ownBlock)
    (hat : (Value.slice V1 vs1.length vc1).ownBlock = (Value.slice V vs.length vc).ownBlock ∨ (Value.slice V1 vs1.length vc1).ownBlock = some q) (hq : w.heap.size ≤ q) (he : ∀ k, El k → k < w.heap.size) (hel : RowsO w El vs1 st1) :
    RSM (w'.setCell ⟨g, 2, none⟩ (.slice V1 vs1.length vc1)) (fun k => Wr k ∨ (w.heap.size ≤ k ∧ k < w'.heap.size)) El g dim room st1 tr vs1 V1 vc1 T tc ∧ Keep Wr w (w'.setCell ⟨g, 2, none⟩ (.slice V1 vs1.length vc1)) := by
  have hgn : some g ≠ (Value.slice V vs.length vc).ownBlock := fun e => (h.wv g e.symm).2 rfl
  have hgl := h.blk.lt
  have new : ∀ k, (Value.slice V1 vs1.length vc1).ownBlock = some k → (Wr k ∨ (w.heap.size ≤ k ∧ k < w'.heap.size)) ∧ k ≠ g := fun k hk => by
    rcases hat with e | e
    · rw [e] at hk; exact ⟨.inl (h.wv k hk).1, (h.wv k hk).2⟩
    · have hl := (ho.lt _ hk).2
      rw [e] at hk; injection hk with hk; subst hk
      exact ⟨.inr ⟨hq, hl⟩, by omega⟩
  have K : Keep Wr w (w'.setCell ⟨g, 2, none⟩ (.slice V1 vs1.length vc1)) := (Keep.of_grown hg fun k hk => (h.wv k hk).1).trans (Keep.cell w' g 2 _) fun k _ e => by subst e; exact h.wg
  refine ⟨?_, K⟩
  exact { blk := (h.blk.kept hg hgn).set 2 _
          ov := row_same ho fun k hk => heap_setCell_other w' ⟨g, 2, none⟩ k _ (new k hk).2
          ot := row_same (row_same h.ot fun k hk => hg.block k (h.ot.lt k hk).2 fun e => (h.wt k hk).2.2 e.symm) fun k hk => heap_setCell_other w' ⟨g, 2, none⟩ k _ (h.wt k hk).2.1
          el := hel.keep K h.ap fun _ hk => hk
          wg := .inl h.wg, wv := new
          wt := fun k hk => ⟨.inl (h.wt k hk).1, (h.wt k hk).2.1, fun e => by
            rcases hat with e2 | e2
            · rw [e2] at e; exact (h.wt k hk).2.2 e
            · rw [e2] at e; injection e with e; have := (h.ot.lt k hk).2; omega⟩
          ap := fun k hk hh => (by rcases hh with hh | hh; exact h.ap k hk hh; have := he k hk; omega) }
theorem RSM.weaken {w : World} {Wr Wr' El : Nat → Prop} {g dim room : Nat} {st : St} {tr : List Int} {vs : List Value} {V : Option Addr} {vc : Nat} {T : Option Addr} {tc : Nat} (h : RSM w Wr El g dim room st tr vs V vc T tc) (hw : ∀ k, Wr k → Wr' k) (hp : ∀ k, El k → ¬ Wr' k) : RSM w Wr' El g dim room st tr vs V vc T tc :=
  { h with wg := hw _ h.wg, wv := fun k hk => ⟨hw _ (h.wv k hk).1, (h.wv k hk).2⟩, wt := fun k hk => ⟨hw _ (h.wt k hk).1, (h.wt k hk).2⟩, ap := hp }
/-- A vector laid into the row. -/
theorem RSM.setV {w : World} {Wr El El' : Nat → Prop} {g dim room gv : Nat} {st : St} {tr : List Int} {vs : List Value} {vc : Nat} {T : Option Addr} {tc : Nat} (h : RSM w Wr El g dim room st tr vs (some ⟨gv, 0, none⟩) vc T tc) (m : Nat) (hm : m < st.length) (v : List Int) (x : Addr) (c : Nat) (hs : SlI w .i16 (some x) c v) (hx : El' x.block ∧ x.block < w.heap.size) (he : ∀ k, El k → El' k) (hp : ∀ k, El' k → ¬ Wr k) :
    RSM (w.setCell ⟨gv, m, none⟩ (.slice (some x) v.length c)) Wr El' g dim room (st.set m (some v)) tr (vs.set m (.slice (some x) v.length c)) (some ⟨gv, 0, none⟩) vc T tc := by
  have hwv := h.wv gv rfl
  have hlt : (vs.set m (.slice (some x) v.length c)).length = vs.length := List.length_set
  have hst := h.ov.stored m (.slice (some x) v.length c)
  have K := Keep.cell w gv m (.slice (some x) v.length c)
  exact { blk := by rw [hlt]; exact h.blk.other (fun e => hwv.2 e.symm) _
          ov := by unfold OwnV; rw [hlt]; exact hst.1
          ot := row_same h.ot fun q hq => heap_setCell_other w ⟨gv, m, none⟩ q _ fun e => (h.wt q hq).2.2 (by subst e; rfl)
          el := (h.el.keep K (fun q hq e => h.ap q hq (by subst e; exact hwv.1)) he).set m (some v) _ hm ⟨(fun e => by cases e), (fun u hu => by
            injection hu with hu
            subst hu
            exact ⟨x, c, rfl, hs.keep K (away_one (fun e => hp _ hx.1 (by rw [e]; exact hwv.1)) hx.2), hx.1, by simpa using hx.2⟩)⟩
          wg := h.wg, wv := by rw [hlt]; exact h.wv, wt := by rw [hlt]; exact h.wt, ap := hp }
def RetRP (Wr El : Nat → Prop) (g dim room : Nat) (st : St) (tr : List Int) (v : List Int) (w : World) (e : Ending) (w' : World) : Prop :=
  ∃ W' E', e = .returned (.tuple #[.int .i64 (putN dim room st v), .int .i64 (putX dim room st v)]) ∧ RS w' W' E' g dim room (putE dim room st v) tr ∧ Keep Wr w w' ∧ (∀ k, W' k → Wr k ∨ (w.heap.size ≤ k ∧ k < w'.heap.size)) ∧ ∀ k, E' k → El k ∨ (w.heap.size ≤ k ∧ k < w'.heap.size)
set_option maxHeartbeats 4000000 in
set_option maxRecDepth 100000 in
theorem RPut_calls (Wr El : Nat → Prop) (g dim room : Nat) (st : St) (tr : List Int) (A : Option Addr) (c : Nat) (v : List Int) (w : World) (h : RS w Wr El g dim room st tr) (hv : SlI w .i16 A c v) (hva : ∀ x, A = some x → 0 < v.length → ¬ Wr x.block) (hls : st.length ≤ 1000) (he : ∀ k, El k → k < w.heap.size) (hwl : ∀ k, Wr k → k < w.heap.size) :
    Calls Tryd.prog 24 #[PtrS g, .slice A v.length c] w (RetRP Wr El g dim room st tr v w) := by
  have hmix : Tryd.prog.follows .mixedOrders = true := by kernel_rfl
  obtain ⟨hd, hdv, vs, V, vc, T, tc, h⟩ := h
  obtain ⟨c0, c1, c2, c3⟩ := h.cells
  have CK := RCheck_calls A c v dim w hv
  have hneq := fun (W : World) (x : Option Addr) (l c : Nat) => run_neq_slice_nil_any (P := Tryd.prog) W 32 31 x l c 0 0 Tryd.underlying32
  by_cases hl : v.length = dim
  case neg =>
    rw [show ckR v dim = 2 from by unfold ckR; rw [if_pos (.inr (.inr (by omega)))]] at CK
    have hok : ¬ okP dim room st v := fun hh => hl hh.1
    have HR := Lib.hid (show RS w Wr El g dim room st tr from ⟨hd, hdv, vs, V, vc, T, tc, h⟩)
    unfold RetRP
    rw [show putN dim room st v = 0 from by unfold putN; rw [if_neg hok], show putX dim room st v = 2 from by unfold putX; rw [if_pos hl], show putE dim room st v = st from by unfold putE; rw [if_neg hok]]
    clear h hl hok hd hdv
    unfold PtrS
    go_enter Tryd.func24, Tryd.ntmps24
    go_wp2_with fail
    refine CK.mono ?_
    rintro e _ ⟨rfl, rfl⟩
    go_wp2_with fail
    go_ret2
    exact ⟨Wr, El, rfl, HR.out, Keep.refl _ _, fun k hk => .inl hk, fun k hk => .inl hk⟩
  rw [show ckR v dim = 0 from by unfold ckR; rw [if_neg (by omega)]] at CK
  have hlen := Lib.hid h.el.1
  have hvl : vs.length ≤ 1000 := by rw [hlen.out]; exact hls
  replace hl := Lib.hid hl
  have HD := Lib.hid hd
  have hd1 := hd.1.2
  have hd0 := hd.1.1
  have hle := least_le st
  have hlb := Lib.hid (fun j => used_below (st := st) (j := j))
  have hlf := Lib.hid (least_free st)
  have HN := Lib.hid (show putN dim room st v = if leastS st < room then ((leastS st : Nat) : Int) else 0 by
    unfold putN okP; by_cases q : leastS st < room <;> simp [q, hl.out])
  have HX := Lib.hid (show putX dim room st v = if leastS st < room then 0 else 7 by unfold putX; rw [if_neg (by simp [hl.out])])
  have HE := Lib.hid (show putE dim room st v = if leastS st < room then putS st v else st by
    unfold putE okP; by_cases q : leastS st < room <;> simp [q, hl.out])
  have HPS := Lib.hid (show putS st v = if leastS st < st.length then st.set (leastS st) (some v) else st ++ [some v] from by unfold putS; rfl)
  have HPG := Lib.hid (putS_get st v)
  clear hd
  generalize hq : leastS st = q at *
  replace hq := Lib.hid hq
  unfold PtrS
  go_enter Tryd.func24, Tryd.ntmps24
  go_wp2_with fail
  refine CK.mono ?_
  rintro e _ ⟨rfl, rfl⟩
  clear CK
  go_upto_block 0 with fail
  go_cut [7] (fun s7 wx => s7 = .int .i64 (q : Int) ∧ wx = w)
  case first =>
    go_wp2_with fail
    go_loopg [7] (q + 1) (fun gk i w' => ∃ k : Nat, i = .int .i64 (k : Int) ∧ k ≤ q ∧ q < k + gk ∧ w = w')
    case atStart => exact ⟨0, rfl, by omega, by omega, rfl⟩
    case round =>
      obtain ⟨k, rfl, hk, hg, rfl⟩ := hrel
      by_cases hkq : k < q
      · have hku := hlb.out k hkq
        obtain ⟨ad, A1, n1, c1', hVa, hc, hA, _⟩ := h.at k (by omega)
        subst hVa
        rw [hku] at hA
        cases A1 with
        | none => cases hA
        | some x1 =>
          have i1 : (k : Int) < (vs.length : Int) := by rw [hlen.out]; omega
          clear hA hku
          go_wp2_with fail
          go_roundg (gk - 1)
          case measure => omega
          case rel => exact ⟨k + 1, by simp, by omega, by omega, rfl⟩
      obtain rfl : k = q := by omega
      clear hkq
      rcases Nat.lt_or_ge k st.length with h1 | h1
      · obtain ⟨ad, A1, n1, c1', hVa, hc, hA, _⟩ := h.at k h1
        subst hVa
        rw [hlf.out] at hA
        have i1 : (k : Int) < (vs.length : Int) := by rw [hlen.out]; omega
        cases A1 with
        | some x1 => cases hA
        | none =>
          clear hA
          go_wp2_with fail
          go_meet
          exact ⟨rfl, rfl⟩
      · have i1 : ¬ (k : Int) < (vs.length : Int) := by rw [hlen.out]; omega
        go_wp2_with fail
        go_meet
        exact ⟨rfl, rfl⟩
  case rest =>
    obtain ⟨rfl, rfl⟩ := hcut
    obtain ⟨Wo, rfl⟩ : ∃ Wo, Wo = wc := ⟨_, rfl⟩
    by_cases hrm : q < room
    case neg =>
      have i2 : (q : Int) ≥ (room : Int) := by omega
      have HR := Lib.hid (show RS Wo Wr El g dim room st tr from ⟨HD.out, hdv, vs, V, vc, T, tc, h⟩)
      have h1 := HN.out
      have h2 := HX.out
      have h3 := HE.out
      rw [if_neg hrm] at h1 h2 h3
      replace h1 := Lib.hid h1
      replace h2 := Lib.hid h2
      replace h3 := Lib.hid h3
      clear h hdv
      go_wp2_with fail
      go_ret2
      exact ⟨Wr, El, by rw [h1.out, h2.out]; rfl, by rw [h3.out]; exact HR.out, Keep.refl _ _, fun k hk => .inl hk, fun k hk => .inl hk⟩
    have i2 : ¬ (q : Int) ≥ (room : Int) := by omega
    go_upto_if 48 with fail
    go_cut [] (fun w' => ∃ W1 V1 vc1 vs1, RSM w' W1 El g dim room (if q < st.length then st else st ++ [none]) tr vs1 V1 vc1 T tc ∧ Keep Wr Wo w' ∧ ∀ k, W1 k → Wr k ∨ (Wo.heap.size ≤ k ∧ k < w'.heap.size))
    case first =>
      by_cases hql : q < st.length
      · have i3 : ((q : Int) == (vs.length : Int)) = false := by rw [beq_eq_false_iff_ne, hlen.out]; omega
        have HI := Lib.hid (show (if q < st.length then st else st ++ [none]) = st from if_pos hql)
        clear hql
        go_wp2_with fail
        go_meet
        exact ⟨Wr, V, vc, vs, by rw [HI.out]; exact h, Keep.refl _ _, fun k hk => .inl hk⟩
      · have i3 : ((q : Int) == (vs.length : Int)) = true := by rw [beq_iff_eq, hlen.out]; omega
        have HI := Lib.hid (show (if q < st.length then st else st ++ [none]) = st ++ [none] from if_neg hql)
        clear hql
        have hgV : some g ≠ (Value.slice V vs.length vc).ownBlock := fun e => (h.wv g e.symm).2 rfl
        go_wp2_with (at_builtin; (refine app_val 0 rfl _ _ 53 32 nilV 24 rfl Tryd.underlying53 (by kernel_rfl) (by decide) rfl V vc vs nilV rfl rfl h.ov rfl (Nat.zero_le _) (by omega) ?_))
        intro V1 vc1 v1 o1 hg1 hat1
        have hg2 := (World.grownBy_alloc Wo (.cells #[nilV] 32) (Value.slice V vs.length vc).ownBlock).trans hg1
        have hln : (vs ++ [nilV]).length = vs.length + 1 := by simp
        have kb := h.blk.kept hg2 hgV
        have d2 := kb.cell 2
        have f2 := kb.frozen 2
        simp only [List.getElem?_cons_zero, List.getElem?_cons_succ] at d2
        have M1 := h.growV (q := Wo.heap.size + 1) o1 hg2 (by rw [hln]; exact hat1) (by omega) he h.el.snoc
        rw [hln] at M1
        have HLN := Lib.hid hln
        clear kb h c0 c1 c2 c3 o1 hg1 hat1 hgV hln hg2
        try rw [HLN.out]
        go_wp2_with fail
        go_meet
        refine ⟨_, V1, vc1, _, by rw [HI.out]; exact M1.1, M1.2, fun k hk => ?_⟩
        rcases hk with hk | hk
        · exact .inl hk
        · exact .inr ⟨hk.1, by simp; exact hk.2⟩
    case rest =>
      clear h c0 c1 c2 c3
      obtain ⟨W1, V1, vc1, vs1, h, K1, hW1⟩ := hcut
      have hst1 : q < (if q < st.length then st else st ++ [none]).length := by split <;> (try simp) <;> omega
      have hps : (if q < st.length then st else st ++ [none]).set q (some v) = putS st v := by
        rw [HPS.out]
        split
        · rfl
        · rw [show q = st.length by omega, List.set_append_right _ _ (Nat.le_refl _)]; simp
      have hpg : ∀ n u, (putS st v).getD n none = some u → u.length = dim := fun n u hu => by
        rw [HPG.out] at hu
        split at hu
        · injection hu with hu; subst hu; exact hl.out
        · exact hdv n u hu
      replace hps := Lib.hid hps
      replace hpg := Lib.hid hpg
      generalize (if q < st.length then st else st ++ [none]) = st1 at *
      have hlen1 := Lib.hid h.el.1
      obtain ⟨gv, cap, hvv, hgv0, hgv1⟩ := h.ov.form (by rw [hlen1.out]; omega)
      injection hvv with hvv _ hcap
      subst hvv hcap
      obtain ⟨c0, c1, c2, c3⟩ := h.cells
      have hq1 := hst1
      have i4 : (q : Int) < (vs1.length : Int) := by rw [hlen1.out]; omega
      have hW1l : ∀ k, W1 k → k < wc.heap.size := fun k hk => by
        have := K1.size
        rcases hW1 k hk with h1 | h1
        · have := hwl k h1; omega
        · exact h1.2
      have hz1 := K1.size
      have hv1 : SlI wc .i16 A c v := by
        rcases hv.rd with h0 | ⟨ad, h0, h1⟩
        · have := congrArg List.length h0; rw [nums_length, hl.out] at this; simp at this; omega
        · refine hv.keep K1 (fun x hx => ⟨hva x hx (by rw [hl.out]; omega), ?_⟩)
          rw [h0] at hx; injection hx with hx; subst hx
          have := World.block_lt_of_cell? Wo _ (h1 0 _ (nums_get _ v 0 (by rw [hl.out]; omega)))
          unfold Addr.add at this; simpa using this
      clear hv hva
      have hv := hv1
      clear hv1
      go_wp2_with fail
      obtain ⟨W0, rfl⟩ : ∃ W, W = wc := ⟨_, rfl⟩
      refine region_L (oneQ 99 (fun _ => True) (fun X => X.cell? ⟨g, 2, none⟩ = some (.slice (some ⟨gv, 0, none⟩) vs1.length vc1))) hmix ?_
      have bd : Below W0.heap.size W0 W0.drew := (Below.refl _ _).drew
      replace c2 := cell_below bd _ _ c2
      replace h := h.keep (Keep.of_below (fun _ => False) bd) (fun _ _ hh => hh) (fun _ _ hh => hh)
      replace hv := hv.below bd
      replace K1 := K1.trans (Keep.of_below Wr bd) fun _ _ hk => hk
      replace hiw := bd.size
      clear bd
      generalize W0.drew = Vw at *
      have hS : oneQ 99 (fun _ => True) (fun X => X.cell? ⟨g, 2, none⟩ = some (.slice (some ⟨gv, 0, none⟩) vs1.length vc1)) (Array.replicate 10 false) Vw := ⟨fun _ => trivial, c2⟩
      refine anyL_take (fun _ => True) [] (i := 0) (v := ?_) rfl (by kernel_rfl) (by kernel_rfl) (by kernel_rfl) (fun _ _ _ h => h) (by kernel_rfl) (one_ind (i := 0) (by decide)) (fun _ _ _ _ => trivial) (Or.inl ⟨by rfl, ?_⟩) hS ?_
      rotate_left
      · intro X hX
        clear hX
        go_simp
        try with_reducible rfl
      try simp only [List.getElem_toArray, List.getElem_cons_zero, List.getElem_cons_succ]
      simp only [Act.put, List.setIfInBounds_toArray, List.set_cons_zero, List.set_cons_succ]
      replace hS := (one_ind (i := 0) (by decide) _ _).2 hS
      refine anyL_take (fun _ => True) [] (i := 1) (v := ?_) rfl (by kernel_rfl) (by kernel_rfl) (by kernel_rfl) (fun _ _ _ h => h) (by kernel_rfl) (one_ind (i := 1) (by decide)) (fun _ _ _ _ => trivial) (Or.inl ⟨by rfl, ?_⟩) hS ?_
      rotate_left
      · intro X hX
        clear hX
        go_simp
        try with_reducible rfl
      try simp only [List.getElem_toArray, List.getElem_cons_zero, List.getElem_cons_succ]
      simp only [Act.put, List.setIfInBounds_toArray, List.set_cons_zero, List.set_cons_succ]
      replace hS := (one_ind (i := 1) (by decide) _ _).2 hS
      refine anyL_take (fun _ => True) [] (i := 2) (v := ?_) rfl (by kernel_rfl) (by kernel_rfl) (by kernel_rfl) (fun _ _ _ h => h) (by kernel_rfl) (one_ind (i := 2) (by decide)) (fun _ _ _ _ => trivial) (Or.inl ⟨by rfl, ?_⟩) hS ?_
      rotate_left
      · intro X hX
        clear hX
        go_simp
        try with_reducible rfl
      try simp only [List.getElem_toArray, List.getElem_cons_zero, List.getElem_cons_succ]
      simp only [Act.put, List.setIfInBounds_toArray, List.set_cons_zero, List.set_cons_succ]
      replace hS := (one_ind (i := 2) (by decide) _ _).2 hS
      refine anyL_take (fun X => X.cell? ⟨g, 2, none⟩ = some (.slice (some ⟨gv, 0, none⟩) vs1.length vc1)) [] (i := 3) (v := ?_) rfl (by kernel_rfl) (by kernel_rfl) (by kernel_rfl) (fun _ _ _ h => h) (by kernel_rfl) (one_ind (i := 3) (by decide)) (fun L X h1 h2 => h2.2) (Or.inl ⟨by rfl, ?_⟩) hS ?_
      rotate_left
      · intro X hX
        have g2 := hX; clear hX
        go_simp
        try with_reducible rfl
      try simp only [List.getElem_toArray, List.getElem_cons_zero, List.getElem_cons_succ]
      simp only [Act.put, List.setIfInBounds_toArray, List.set_cons_zero, List.set_cons_succ]
      replace hS := (one_ind (i := 3) (by decide) _ _).2 hS
      refine anyL_take (fun _ => True) [] (i := 4) (v := ?_) rfl (by kernel_rfl) (by kernel_rfl) (by kernel_rfl) (fun _ _ _ h => h) (by kernel_rfl) (one_ind (i := 4) (by decide)) (fun _ _ _ _ => trivial) (Or.inl ⟨by rfl, ?_⟩) hS ?_
      rotate_left
      · intro X hX
        clear hX
        go_simp
        try with_reducible rfl
      try simp only [List.getElem_toArray, List.getElem_cons_zero, List.getElem_cons_succ]
      simp only [Act.put, List.setIfInBounds_toArray, List.set_cons_zero, List.set_cons_succ]
      replace hS := (one_ind (i := 4) (by decide) _ _).2 hS
      refine anyL_take (fun _ => True) [] (i := 6) (v := ?_) rfl (by kernel_rfl) (by kernel_rfl) (by kernel_rfl) (fun _ _ _ h => h) (by kernel_rfl) (one_ind (i := 6) (by decide)) (fun _ _ _ _ => trivial) (Or.inl ⟨by rfl, ?_⟩) hS ?_
      rotate_left
      · intro X hX
        clear hX
        go_simp
        try with_reducible rfl
      try simp only [List.getElem_toArray, List.getElem_cons_zero, List.getElem_cons_succ]
      simp only [Act.put, List.setIfInBounds_toArray, List.set_cons_zero, List.set_cons_succ]
      replace hS := (one_ind (i := 6) (by decide) _ _).2 hS
      have bb := below_box0 Vw (.cells #[] 31)
      have hemp := own_empty Vw Vw.heap.size 31 (Nat.le_refl _)
      clear hS
      refine anyL_step (i := 5) (by kernel_rfl) rfl (by rfl) (fun K hK => ?_)
      go_simp
      refine hK.out _ _ ⟨fun _ => trivial, cell_below bb _ _ c2⟩ ?_
      clear hK K
      try simp only [Act.put, List.setIfInBounds_toArray, List.set_cons_zero, List.set_cons_succ]
      refine anyL_step (i := 7) (by kernel_rfl) rfl (by rfl) (fun K hK => ?_)
      refine wp_app_row Vw.heap.size _ _ 32 31 .i16 2 rfl Tryd.underlying32 (by kernel_rfl) (by decide) _ _ [] v A c rfl rfl hemp (hv.below bb).rd (by simp) (by rw [hl.out]; simp; omega) ?_
      intro A9 c9 w9 o9 hg9 _ _
      have b9 := below_grown bb hg9 hemp (Nat.le_refl _)
      simp only [List.nil_append] at o9
      have z9 := b9.size
      refine hK.out _ _ ⟨fun _ => trivial, cell_below b9 _ _ c2⟩ ?_
      clear hK K
      try simp only [Act.put, List.setIfInBounds_toArray, List.set_cons_zero, List.set_cons_succ, List.nil_append]
      have hS : oneQ 99 (fun _ => True) (fun X => X.cell? ⟨g, 2, none⟩ = some (.slice (some ⟨gv, 0, none⟩) vs1.length vc1)) (((((((((Array.replicate 10 false).setIfInBounds 0 true).setIfInBounds 1 true).setIfInBounds 2 true).setIfInBounds 3 true).setIfInBounds 4 true).setIfInBounds 6 true).setIfInBounds 5 true).setIfInBounds 7 true) w9 := ⟨fun _ => trivial, cell_below b9 _ _ c2⟩
      refine anyL_take (fun _ => True) [] (i := 8) (v := ?_) rfl (by kernel_rfl) (by kernel_rfl) (by kernel_rfl) (fun _ _ _ h => h) (by kernel_rfl) (one_ind (i := 8) (by decide)) (fun _ _ _ _ => trivial) (Or.inl ⟨by rfl, ?_⟩) hS ?_
      rotate_left
      · intro X hX
        clear hX
        go_simp
        try with_reducible rfl
      try simp only [List.getElem_toArray, List.getElem_cons_zero, List.getElem_cons_succ]
      simp only [Act.put, List.setIfInBounds_toArray, List.set_cons_zero, List.set_cons_succ]
      replace hS := (one_ind (i := 8) (by decide) _ _).2 hS
      clear hS
      have M9 := h.keep (Keep.of_below (fun _ => False) b9) (fun _ _ hh => hh) (fun _ _ hh => hh)
      obtain ⟨_, A1, k1, c1, hA0, hc1, _, _⟩ := M9.at q hq1
      injection hA0 with hA0
      subst hA0
      rw [add_plain] at hc1
      have hfz := M9.ov.frozenAt q
      refine anyL_step (i := 9) (by kernel_rfl) rfl (by rfl) (fun K hK => ?_)
      go_simp
      have hgvg := (M9.wv gv rfl).2
      refine hK.out _ _ ⟨fun _ => trivial, (World.cell?_setCell_far w9 ⟨gv, q, none⟩ ⟨g, 2, none⟩ _ hgvg).trans (cell_below b9 _ _ c2)⟩ ?_
      clear hK K
      try simp only [Act.put, List.setIfInBounds_toArray, List.set_cons_zero, List.set_cons_succ]
      refine anyL_done (by kernel_rfl) ?_ _
      obtain ⟨g9, rfl, hg9a, hg9b⟩ := own_form o9 (by rw [hl.out]; omega)
      have hgW := (M9.wv gv rfl).1
      have MF := M9.setV (El' := fun k => El k ∨ k = g9) q hq1 v ⟨g9, 0, none⟩ c9 (OwnI.sl o9) ⟨.inr rfl, hg9b⟩ (fun k hk => .inl hk) (fun k hk hh => by
        rcases hk with hk | hk
        · exact M9.ap k hk hh
        · subst hk; have := hW1l _ hh; omega)
      rw [hps.out] at MF
      have KF : Keep Wr Wo (w9.setCell ⟨gv, q, none⟩ (.slice (some ⟨g9, 0, none⟩) v.length c9)) := (K1.trans (Keep.of_below Wr b9) fun _ _ hk => hk).trans (Keep.cell w9 gv q _) fun k hk e => by
        subst e
        rcases hW1 _ hgW with h1 | h1
        · exact h1
        · omega
      have h1 := HN.out
      have h2 := HX.out
      have h3 := HE.out
      rw [if_pos hrm] at h1 h2 h3
      replace h1 := Lib.hid h1
      replace h2 := Lib.hid h2
      replace h3 := Lib.hid h3
      clear M9 hfz hc1 o9 h c0 c2 c3
      go_wp2_with fail
      go_ret2
      refine ⟨W1, _, by rw [h1.out, h2.out]; rfl, by rw [h3.out]; exact ⟨HD.out, hpg.out, _, _, _, _, _, MF⟩, KF, fun k hk => ?_, fun k hk => ?_⟩
      · have := hW1l k hk
        rcases hW1 k hk with h4 | h4
        · exact .inl h4
        · exact .inr ⟨h4.1, by simp; omega⟩
      · rcases hk with hk | hk
        · exact .inl hk
        · subst hk; exact .inr ⟨by omega, by simp; exact hg9b⟩
end Go.Proofs.YtcmdjnllpcnpjaaDoor
