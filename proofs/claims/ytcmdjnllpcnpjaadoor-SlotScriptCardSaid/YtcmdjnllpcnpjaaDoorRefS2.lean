/- The reference's slots: Count, Free, Get. -/
import Derived.Test.YtcmdjnllpcnpjaaDoorRefS
import Derived.Deep.DeepCutAuto
import Derived.Deep.CutBlock
namespace Go.Proofs.YtcmdjnllpcnpjaaDoor
set_option linter.unusedVariables false
set_option linter.unusedSimpArgs false
open Go.RowKit
theorem cnt_take (st : St) (j : Nat) (hj : j < st.length) : cntS (st.take (j + 1)) = cntS (st.take j) + (if used st j then 1 else 0) := by
  rw [List.take_add_one, List.getElem?_eq_getElem hj, cnt_append, used_get hj]
  simp [cntS, List.countP_cons]
theorem RCount_calls (Wr El : Nat → Prop) (g dim room : Nat) (st : St) (tr : List Int) (w : World) (h : RS w Wr El g dim room st tr) (hl : st.length ≤ 1000) :
    Calls Tryd.prog 29 #[PtrS g] w fun e w' => e = .returned (.int .i64 (cntS st : Nat)) ∧ w = w' := by
  obtain ⟨hd, hv, vs, V, vc, T, tc, h⟩ := h
  obtain ⟨c0, c1, c2, c3⟩ := h.cells
  have hlen := Lib.hid h.el.1
  have hvl : vs.length ≤ 1000 := by rw [hlen.out]; exact hl
  have hneq := fun (W : World) (x : Option Addr) (l c : Nat) => run_neq_slice_nil_any (P := Tryd.prog) W 32 31 x l c 0 0 Tryd.underlying32
  unfold PtrS
  go_enter Tryd.func29, Tryd.ntmps29
  go_wp2_with fail
  go_loopg [3, 4] (vs.length + 1) (fun gk n i w' => ∃ j k : Nat, n = .int .i64 (k : Int) ∧ i = .int .i64 (j : Int) ∧ j ≤ vs.length ∧ vs.length < j + gk ∧ k ≤ j ∧ Hid (k = cntS (st.take j)) ∧ w = w')
  case atStart => exact ⟨0, 0, rfl, rfl, by omega, by omega, Nat.le_refl _, rfl, rfl⟩
  case round =>
    obtain ⟨j, k, rfl, rfl, hj, hg, hk, HK, rfl⟩ := hrel
    by_cases hlt : j < vs.length
    · have i1 : (j : Int) < (vs.length : Int) := by omega
      obtain ⟨ad, A, n, c, rfl, hc, hA, _⟩ := h.at j (by rw [← hlen.out]; exact hlt)
      have hct := Lib.hid (cnt_take st j (by rw [← hlen.out]; exact hlt))
      cases hu : used st j with
      | true =>
        rw [hu] at hA
        cases A with
        | none => cases hA
        | some x =>
          clear hA
          have hcu := Lib.hid (show k + 1 = cntS (st.take (j + 1)) by rw [hct.out, hu, if_pos rfl, HK.out])
          clear hu hct
          go_wp2_with fail
          go_roundg (gk - 1)
          case measure => omega
          case rel => exact ⟨j + 1, k + 1, by simp, by simp, by omega, by omega, by omega, hcu.out, rfl⟩
      | false =>
        rw [hu] at hA
        cases A with
        | some x => cases hA
        | none =>
          clear hA
          have hcu := Lib.hid (show k = cntS (st.take (j + 1)) by rw [hct.out, hu, if_neg (by decide), HK.out]; rfl)
          clear hu hct
          go_wp2_with fail
          go_roundg (gk - 1)
          case measure => omega
          case rel => exact ⟨j + 1, k, rfl, by simp, by omega, by omega, by omega, hcu.out, rfl⟩
    · have i1 : ¬ (j : Int) < (vs.length : Int) := by omega
      have he : k = cntS st := by
        have := HK.out
        rw [List.take_of_length_le (by rw [← hlen.out]; omega)] at this
        exact this
      replace he := Lib.hid he
      go_wp2_with fail
      go_ret
      exact ⟨by rw [← he.out]; rfl, rfl⟩
theorem RFree_calls (Wr El : Nat → Prop) (g dim room : Nat) (st : St) (tr : List Int) (n : Int) (w : World) (h : RS w Wr El g dim room st tr) (hn : n ≤ 9223372036854775807) (hl : st.length ≤ 1000) :
    Calls Tryd.prog 26 #[PtrS g, .int .i64 n] w fun e w' => e = .returned (.int .i64 (if hasI st n then 0 else 6)) ∧ RS w' Wr El g dim room (freeE st n) tr ∧ Keep Wr w w' := by
  have HS := RHas_calls Wr El g dim room st tr n w h hn hl
  cases hu : hasI st n with
  | false =>
    rw [hu] at HS
    have hfe : freeE st n = st := by unfold freeE; rw [hu]; rfl
    rw [hfe]
    clear hfe hu
    have h' := Lib.hid h
    clear h
    unfold PtrS at HS ⊢
    go_enter Tryd.func26, Tryd.ntmps26
    go_wp2_with fail
    refine HS.mono ?_
    rintro e _ ⟨rfl, rfl⟩
    go_wp2_with fail
    go_ret
    exact ⟨rfl, h'.out, Keep.refl _ _⟩
  | true =>
    rw [hu] at HS
    have hu2 := hu
    unfold hasI at hu2
    simp only [Bool.and_eq_true, decide_eq_true_eq] at hu2
    obtain ⟨m, rfl⟩ := Int.eq_ofNat_of_zero_le hu2.1
    have hum := hu2.2
    rw [Int.toNat_natCast] at hum
    have hm := used_lt hum
    have hfe : freeE st (m : Int) = freeS st m := by unfold freeE; rw [hu]; simp
    rw [hfe]
    obtain ⟨hd, hv, vs, V, vc, T, tc, h⟩ := h
    obtain ⟨c0, c1, c2, c3⟩ := h.cells
    have hlen := h.el.1
    obtain ⟨gv, cap, hvv, hg1, hg2⟩ := h.ov.form (by omega)
    injection hvv with hvv _ hcap
    subst hvv hcap
    obtain ⟨_, A, k, c, hA0, hc, _, _⟩ := h.at m hm
    injection hA0 with hA0
    subst hA0
    rw [add_plain] at hc
    have hfz := h.ov.frozenAt m
    have i1 : (m : Int) < (vs.length : Int) := by omega
    have hst := h.ov.stored m nilV
    have hwv := h.wv gv rfl
    have hlt := Lib.hid (show (vs.set m nilV).length = vs.length from List.length_set)
    have HM := Lib.hid (show RSM (w.setCell ⟨gv, m, none⟩ nilV) Wr El g dim room (freeS st m) tr (vs.set m nilV) (some ⟨gv, 0, none⟩) vc T tc from
      { blk := by rw [hlt.out]; exact h.blk.other (fun e => hwv.2 e.symm) _
        ov := by unfold OwnV; rw [hlt.out]; exact hst.1
        ot := row_same h.ot fun q hq => heap_setCell_other w ⟨gv, m, none⟩ q _ fun e => (h.wt q hq).2.2 (by subst e; rfl)
        el := (h.el.keep (Keep.cell w gv m nilV) (fun q hq e => h.ap q hq (by subst e; exact hwv.1)) (fun _ hq => hq)).set m none nilV hm ⟨fun _ => rfl, fun v hv => by cases hv⟩
        wg := h.wg, wv := by rw [hlt.out]; exact h.wv, wt := by rw [hlt.out]; exact h.wt, ap := h.ap })
    have HV := Lib.hid (show ∀ n v, (freeS st m).getD n none = some v → v.length = dim from fun n v hnv => by
      rw [freeS_get] at hnv
      split at hnv
      · cases hnv
      · exact hv n v hnv)
    have HK := Lib.hid ((Keep.cell w gv m nilV).more (U := Wr) fun q hq => by subst hq; exact hwv.1)
    have hvl : vs.length ≤ 1000 := by omega
    clear hu2 hu hum hm hfe hst hlen h hv
    unfold PtrS at HS ⊢
    go_enter Tryd.func26, Tryd.ntmps26
    go_wp2_with fail
    refine HS.mono ?_
    rintro e _ ⟨rfl, rfl⟩
    go_wp2_with fail
    go_ret
    exact ⟨rfl, ⟨hd, HV.out, _, _, _, _, _, HM.out⟩, HK.out⟩
/-- The trace's row is another one. -/
theorem RSM.growT {w w' : World} {Wr El : Nat → Prop} {g dim room : Nat} {st : St} {tr tr1 : List Int} {vs : List Value} {V : Option Addr} {vc : Nat} {T T1 : Option Addr} {tc tc1 q : Nat} (h : RSM w Wr El g dim room st tr vs V vc T tc) (ho : OwnI w' 0 3 .i64 T1 tc1 tr1) (hg : w.grownBy w' (Value.slice T tr.length tc).ownBlock)
    (hat : (Value.slice T1 tr1.length tc1).ownBlock = (Value.slice T tr.length tc).ownBlock ∨ (Value.slice T1 tr1.length tc1).ownBlock = some q) (hq : w.heap.size ≤ q) (he : ∀ k, El k → k < w.heap.size) :
    RSM (w'.setCell ⟨g, 3, none⟩ (.slice T1 tr1.length tc1)) (fun k => Wr k ∨ (w.heap.size ≤ k ∧ k < w'.heap.size)) El g dim room st tr1 vs V vc T1 tc1 := by
  have hgn : some g ≠ (Value.slice T tr.length tc).ownBlock := fun e => (h.wt g e.symm).2.1 rfl
  have hgl := h.blk.lt
  have new : ∀ k, (Value.slice T1 tr1.length tc1).ownBlock = some k → (Wr k ∨ (w.heap.size ≤ k ∧ k < w'.heap.size)) ∧ k ≠ g ∧ (Value.slice V vs.length vc).ownBlock ≠ some k := fun k hk => by
    rcases hat with e | e
    · rw [e] at hk; exact ⟨.inl (h.wt k hk).1, (h.wt k hk).2⟩
    · have hl := (ho.lt _ hk).2
      rw [e] at hk; injection hk with hk; subst hk
      exact ⟨.inr ⟨hq, hl⟩, by omega, fun e2 => by have := (h.ov.lt _ e2).2; omega⟩
  have K : Keep Wr w (w'.setCell ⟨g, 3, none⟩ (.slice T1 tr1.length tc1)) := (Keep.of_grown hg fun k hk => (h.wt k hk).1).trans (Keep.cell w' g 3 _) fun k _ e => by subst e; exact h.wg
  exact { blk := (h.blk.kept hg hgn).set 3 _
          ov := row_same (row_same h.ov fun k hk => hg.block k (h.ov.lt k hk).2 fun e => (h.wt k e.symm).2.2 hk) fun k hk => heap_setCell_other w' ⟨g, 3, none⟩ k _ (h.wv k hk).2
          ot := row_same ho fun k hk => heap_setCell_other w' ⟨g, 3, none⟩ k _ (new k hk).2.1
          el := h.el.keep K h.ap fun _ hk => hk
          wg := .inl h.wg, wv := fun k hk => ⟨.inl (h.wv k hk).1, (h.wv k hk).2⟩, wt := new
          ap := fun k hk hh => (by rcases hh with hh | hh; exact h.ap k hk hh; have := he k hk; omega) }
def RetRG (Wr El : Nat → Prop) (g dim room : Nat) (st : St) (tr : List Int) (n : Int) (w : World) (e : Ending) (w' : World) : Prop :=
  ∃ W' A' c', e = .returned (.tuple #[.slice A' (getV st n).length c', .int .i64 (if hasI st n then 0 else 6)]) ∧ RS w' W' El g dim room st (getT st tr n) ∧ SlI w' .i16 A' c' (getV st n) ∧ (∀ x, A' = some x → w.heap.size ≤ x.block ∧ x.block < w'.heap.size ∧ ¬ W' x.block) ∧ Keep Wr w w' ∧ ∀ k, W' k → Wr k ∨ (w.heap.size ≤ k ∧ k < w'.heap.size)
theorem RGet_calls (Wr El : Nat → Prop) (g dim room : Nat) (st : St) (tr : List Int) (n : Int) (w : World) (h : RS w Wr El g dim room st tr) (hn : n ≤ 9223372036854775807) (hl : st.length ≤ 1000) (hr : tr.length ≤ 1000000) (he : ∀ k, El k → k < w.heap.size) (hwl : ∀ k, Wr k → k < w.heap.size) :
    Calls Tryd.prog 25 #[PtrS g, .int .i64 n] w (RetRG Wr El g dim room st tr n w) := by
  have HS := RHas_calls Wr El g dim room st tr n w h hn hl
  cases hu : hasI st n with
  | false =>
    rw [hu] at HS
    have hgv : getV st n = [] := by unfold getV; rw [hu]; rfl
    have hgt : getT st tr n = tr := by unfold getT; rw [hu]; rfl
    unfold RetRG
    rw [hgv, hgt, hu]
    clear hgv hgt hu
    have h' := Lib.hid h
    clear h
    unfold PtrS at HS ⊢
    go_enter Tryd.func25, Tryd.ntmps25
    go_wp2_with fail
    refine HS.mono ?_
    rintro e _ ⟨rfl, rfl⟩
    go_wp2_with fail
    go_ret2
    exact ⟨Wr, none, 0, rfl, h'.out, SlI.nil _ _, (fun x hx => by cases hx), Keep.refl _ _, fun k hk => .inl hk⟩
  | true =>
    rw [hu] at HS
    have hu2 := hu
    unfold hasI at hu2
    simp only [Bool.and_eq_true, decide_eq_true_eq] at hu2
    obtain ⟨m, rfl⟩ := Int.eq_ofNat_of_zero_le hu2.1
    have hum := hu2.2
    rw [Int.toNat_natCast] at hum
    have hm := used_lt hum
    obtain ⟨v, hvm⟩ := used_some hum
    have hgv : getV st (m : Int) = v := by unfold getV; rw [hu, if_pos rfl, Int.toNat_natCast, hvm]; rfl
    have hgt : getT st tr (m : Int) = tr ++ [(m : Int)] := by unfold getT; rw [hu]; rfl
    unfold RetRG
    rw [hgv, hgt, hu]
    obtain ⟨hd, hv, vs, V, vc, T, tc, h⟩ := h
    have hdv := hv m v hvm
    obtain ⟨c0, c1, c2, c3⟩ := h.cells
    have hlen := Lib.hid h.el.1
    have hvl : vs.length ≤ 1000 := by rw [hlen.out]; exact hl
    have hgT : some g ≠ (Value.slice T tr.length tc).ownBlock := fun e => (h.wt g e.symm).2.1 rfl
    have i1 : (m : Int) < (vs.length : Int) := by rw [hlen.out]; omega
    have hdl := hd.1.2
    have HD := Lib.hid hd
    clear hgv hgt hu hu2 hum hd
    have HDV := Lib.hid hdv
    have HVM := Lib.hid hvm
    clear hdv hvm
    unfold PtrS at HS ⊢
    go_enter Tryd.func25, Tryd.ntmps25
    go_wp2_with fail
    refine HS.mono ?_
    rintro e _ ⟨rfl, rfl⟩
    go_wp2_with (at_builtin; refine app_one 0 rfl _ _ 22 3 .i64 8 rfl Tryd.underlying22 (by kernel_rfl) (by decide) T tc tr m rfl rfl h.ot (Nat.zero_le _) (by omega) ?_)
    intro T1 tc1 v1 o1 hg1 hat1
    have hsz := hg1.size
    have hlnt : (tr ++ [(m : Int)]).length = tr.length + 1 := by simp
    have kb := h.blk.kept hg1 hgT
    have d3 := kb.cell 3
    have f3 := kb.frozen 3
    simp only [List.getElem?_cons_zero, List.getElem?_cons_succ] at d3
    have M1 := h.growT (q := w.heap.size + 1) o1 hg1 (by rw [hlnt]; exact hat1) (by omega) he
    have K1 : Keep Wr w (v1.setCell ⟨g, 3, none⟩ (.slice T1 (tr ++ [(m : Int)]).length tc1)) := (Keep.of_grown hg1 fun k hk => (h.wt k hk).1).trans (Keep.cell v1 g 3 _) fun k _ e => by subst e; exact h.wg
    obtain ⟨x, cx, hvx, sx, _, hxl⟩ := (M1.el.2 m hm).2 v HVM.out
    obtain ⟨gv, cap, hvv, _, _⟩ := h.ov.form (by rw [hlen.out]; omega)
    injection hvv with hvv _ hcap
    subst hvv hcap
    have hcV : (v1.setCell ⟨g, 3, none⟩ (.slice T1 (tr ++ [(m : Int)]).length tc1)).cell? ⟨gv, m, none⟩ = some (.slice (some x) v.length cx) := by
      have := M1.ov.cells (g := gv) rfl m _ hvx
      rwa [add_plain] at this
    have e2 := M1.cells.2.2.1
    rw [hlnt] at M1 K1 sx hxl hcV e2
    have HLN := Lib.hid hlnt
    have hs1 : (v1.setCell ⟨g, 3, none⟩ (.slice T1 (tr.length + 1) tc1)).heap.size = v1.heap.size := by simp
    rw [← hs1] at M1
    clear kb h c0 c1 c2 c3 o1 hg1 hat1 hgT hlnt hvx
    try rw [HLN.out]
    go_upto_region 4 with fail
    generalize v1.setCell ⟨g, 3, none⟩ (.slice T1 (tr.length + 1) tc1) = w3 at *
    have hbx := below_box0 w3 (.cells #[] 31)
    have hemp := own_empty w3 w3.heap.size 31 (Nat.le_refl _)
    have hrd := (sx.below hbx).rd
    have e2' := cell_below hbx _ _ e2
    have hcV' := cell_below hbx _ _ hcV
    clear d3 f3 hs1
    go_wp2_with (at_builtin; (refine app_row w3.heap.size rfl _ _ 32 31 .i16 2 rfl Tryd.underlying32 (by kernel_rfl) (by decide) _ _ [] v (some x) cx rfl rfl hemp hrd (by simp) (by rw [HDV.out]; simp; omega) ?_))
    intro A9 c9 w9 o9 hg9 _ _
    try simp only [List.nil_append] at o9
    have b9 := below_grown hbx hg9 hemp (Nat.le_refl _)
    have M9 := M1.keep (Keep.of_below (fun _ => False) b9) (fun _ _ hh => hh) (fun _ _ hh => hh)
    have K9 := K1.trans (Keep.of_below Wr b9) fun _ _ hk => hk
    have z1 := K1.size
    have z9 := b9.size
    clear hcV e2 hcV' e2' hrd hemp hbx hg9
    go_wp2_with fail
    go_ret2
    refine ⟨_, A9, c9, rfl, ⟨HD.out, hv, _, _, _, _, _, M9⟩, OwnI.sl o9, fun y hy => ?_, K9, fun k hk => ?_⟩
    · have h1 := own_block o9 y hy
      refine ⟨by omega, h1.2, fun hh => ?_⟩
      rcases hh with hh | hh
      · have := hwl _ hh; omega
      · omega
    · rcases hk with hk | hk
      · exact .inl hk
      · exact .inr ⟨hk.1, by omega⟩
end Go.Proofs.YtcmdjnllpcnpjaaDoor
