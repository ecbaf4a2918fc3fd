/- A list in memory: Compact. -/
import Derived.Test.YtikjmhijkegdgaaListKill
namespace Go.Proofs.Ytikjmhijkegdgaa
set_option linter.unusedVariables false
set_option linter.unusedSimpArgs false
open Go.RowKit
theorem LCompact_nil (w : World) : Calls Try.prog 15 #[.pointer none] w fun x w' => x = .returned (.int .i64 0) ∧ w = w' := by
  go_enter Try.func15, Try.ntmps15
  go_wp2_with fail
  go_ret
  exact ⟨rfl, rfl⟩
set_option maxHeartbeats 2000000 in
theorem LCompact_calls (S : Nat → Prop) (g : Nat) (parts : Int) (es : List En) (w : World) (h : LIST w S g parts es) (hl : es.length ≤ 1000000) :
    Calls Try.prog 15 #[PtrL g] w fun x w' => x = .returned (.int .i64 ((es.length - (liveE es).length : Nat) : Int)) ∧ LIST w' S g parts (liveE es) ∧ Keep S w w' := by
  have hmix : Try.prog.follows .mixedOrders = true := by kernel_rfl
  have DC := Dead_calls S g parts es w h hl
  obtain ⟨xs, A, c, bm, rfl, h⟩ := h
  rw [ents_length] at DC hl ⊢
  obtain ⟨h1, h2, h3, h4, ⟨s1, s2, s3⟩, h5⟩ := h
  have DD := DelDead_calls A c xs _ 0 w ⟨h2, h3⟩ (fun b hb => hb.2.2.2.2) hl
  have c1 := h1.cell 1
  simp only [List.getElem?_cons_zero, List.getElem?_cons_succ] at c1
  have hng : g ≠ bm := fun e => (h4.no_row h1) e.symm
  have hgr : some g ≠ (Value.slice A xs.length c).ownBlock := fun hh => by
    rcases h2.2 with ⟨q1, _⟩ | ⟨g', cap, cur, q1, _, q2, _⟩
    · rw [q1] at hh; cases hh
    · rw [q1] at hh
      injection hh with hh
      subst hh
      rw [show w.heap[g]? = _ from h1] at q2
      injection q2 with q2
      injection q2 with _ q2 _
      exact absurd q2 (by decide)
  have hbr : some bm ≠ (Value.slice A xs.length c).ownBlock := fun hh => by
    rcases h2.2 with ⟨q1, _⟩ | ⟨g', cap, cur, q1, _, q2, _⟩
    · rw [q1] at hh; cases hh
    · rw [q1] at hh
      injection hh with hh
      exact h4.no_row q2 hh
  have hown : ∀ n m : Nat, (Value.slice A n c).ownBlock = (Value.slice A m c).ownBlock := fun n m => by cases A <;> rfl
  have HGL := Lib.hid (goodL_live h5)
  have HND := Lib.hid h5.2
  have HG5 := Lib.hid h5.1
  clear h5
  unfold PtrL at DC ⊢
  go_enter Try.func15, Try.ntmps15
  go_wp2_with fail
  refine DC.mono ?_
  rintro e w' ⟨rfl, rfl⟩
  go_wp2_with fail
  refine DD.mono ?_
  rintro e w1 ⟨rfl, o1, hg1⟩
  have b1 := h1.kept hg1 hgr
  have f1 := b1.frozen 1
  have d1 := b1.cell 1
  simp only [List.getElem?_cons_zero, List.getElem?_cons_succ] at d1
  have m1 := h4.kept hg1 hbr
  have b2 := b1.set 1 (.slice A (liveX xs).length c)
  have g2 := grownBy_cell w1 g 1 (.slice A (liveX xs).length c)
  have m2 := m1.kept g2 (by simpa using Ne.symm hng)
  have e2 := b2.cell 2
  have e1 := b2.cell 1
  simp only [List.set_cons_succ, List.set_cons_zero, List.getElem?_cons_zero, List.getElem?_cons_succ] at e1 e2
  have o2 : OwnX (w1.setCell ⟨g, 1, none⟩ (.slice A (liveX xs).length c)) 0 33 A c (liveX xs) (fun b => S b ∧ b < w.heap.size ∧ b ≠ g ∧ b ≠ bm ∧ some b ≠ (Value.slice A xs.length c).ownBlock) :=
    ⟨o1.1.kept g2 (by
      rw [hown (liveX xs).length xs.length]
      cases hv : (Value.slice A xs.length c).ownBlock with
      | none => exact .inl rfl
      | some q => right; intro hh; rw [hh] at hv; exact hgr hv.symm), o1.2.kept g2 fun b hb => by simpa using hb.2.2.1⟩
  obtain ⟨W3, hcl, m3, hg3⟩ := m2.clear 0
  have b3 := b2.kept hg3 (by simpa using hng)
  have e1' := b3.cell 1
  have e2' := b3.cell 2
  simp only [List.set_cons_succ, List.set_cons_zero, List.getElem?_cons_zero, List.getElem?_cons_succ] at e1' e2'
  have o3 : OwnX W3 0 33 A c (liveX xs) (fun b => S b ∧ b < w.heap.size ∧ b ≠ g ∧ b ≠ bm ∧ some b ≠ (Value.slice A xs.length c).ownBlock) :=
    ⟨o2.1.kept hg3 (by
      rw [hown (liveX xs).length xs.length]
      cases hv : (Value.slice A xs.length c).ownBlock with
      | none => exact .inl rfl
      | some q => right; intro hh; rw [hh] at hv; exact hbr hv.symm), o2.2.kept hg3 fun b hb => by simpa using hb.2.2.2.1⟩
  have kp : Keep S w W3 := ((Keep.of_grown (T := S) hg1 s3).trans (Keep.of_grown (T := S) g2 (fun k hk => by injection hk with hk; subst hk; exact s1)) (fun n _ hn => hn)).trans (Keep.of_grown (T := S) hg3 (fun k hk => by injection hk with hk; subst hk; exact s2)) (fun n _ hn => hn)
  have hbl3 : Blk W3 g 57 [.int .i64 parts, .slice A (liveX xs).length c, .map (some bm)] := b3
  have HLE := Lib.hid (ents_live xs)
  have hll : (liveX xs).length ≤ 1000000 := Nat.le_trans (List.length_filter_le _ _) hl
  clear DC DD h3 h4 b1 m1 o1 b2 g2 m2 o2 hg1 hg3 b3 c1
  go_wp2_with fail
  skip
  go_loopg [4, 5, 27] ((liveX xs).length + 1) (fun gk u4 u5 i w' => ∃ k : Nat, i = .int .i64 (k : Int) ∧ k ≤ (liveX xs).length ∧ (liveX xs).length < k + gk ∧ MapN w' bm (fPlace ((liveE (ents xs)).take k)) k k ∧ W3.grownBy w' (some bm))
  case atStart => exact ⟨0, rfl, by omega, by omega, m3, World.grownBy.refl _ _⟩
  case round =>
    obtain ⟨k, rfl, hk, hgk, mk, gk3⟩ := hrel
    have hgl0 := hbl3.lt
    have gsz := gk3.size
    by_cases hlt : k < (liveX xs).length
    · have i1 : (k : Int) < ((liveX xs).length : Int) := by omega
      have ok := OwnX.sl (⟨o3.1.kept gk3 (by
        rw [hown (liveX xs).length xs.length]
        cases hv : (Value.slice A xs.length c).ownBlock with
        | none => exact .inl rfl
        | some q => right; intro hh; rw [hh] at hv; exact hbr hv.symm), o3.2.kept gk3 fun b hb => by simpa using hb.2.2.2.1⟩ : OwnX wr 0 33 A c (liveX xs) _)
      obtain ⟨ad, rfl, hat⟩ := ok.2.2.2 k hlt
      have bk := hbl3.kept gk3 (by simpa using hng)
      have HEQ := Lib.hid (ents_get (liveX xs) k hlt)
      have hkl : k < (liveE (ents xs)).length := by rw [← HLE.out, ents_length]; exact hlt
      have hfresh := place_fresh HND.out hkl
      have hmem : (liveE (ents xs)).getD k ⟨0, [], 0, false⟩ ∈ liveE (ents xs) := by rw [List.getD_eq_getElem?_getD, List.getElem?_eq_getElem hkl]; exact List.getElem_mem hkl
      have hdq := live_nodead (ents xs) _ hmem
      have hwq := (HG5.out _ (List.mem_filter.1 hmem).1).1
      have HTK := Lib.hid (show (liveE (ents xs)).take (k + 1) = (liveE (ents xs)).take k ++ [(liveE (ents xs)).getD k ⟨0, [], 0, false⟩] by rw [List.take_add_one, List.getElem?_eq_getElem hkl, List.getD_eq_getElem?_getD, List.getElem?_eq_getElem hkl]; rfl)
      have HPA := Lib.hid (fPlace_app hdq hfresh)
      have hqe : ((liveX xs).getD k default).e = (liveE (ents xs)).getD k ⟨0, [], 0, false⟩ := by rw [HEQ.out, HLE.out]
      have hkt : ((liveE (ents xs)).take k).length = k := by rw [List.length_take]; omega
      have hfp : fPlace ((liveE (ents xs)).take k) ((liveE (ents xs)).getD k ⟨0, [], 0, false⟩).id = none := by unfold fPlace; rw [hfresh]; rfl
      rw [← hqe] at hwq hfp
      have HQE := Lib.hid hqe
      have HKT := Lib.hid hkt
      clear hqe hfresh hdq hmem hkl hkt
      generalize (liveX xs).getD k default = q at *
      obtain ⟨⟨qid, qcode, qrad, qdead⟩, qA, qc⟩ := q
      obtain ⟨x0', x1, x2, x3⟩ := hat
      dsimp only at x0' x1 x2 x3 hwq hfp
      have ba := below_box0 wr (.cells #[.int .i64 qid, .slice qA qcode.length qc, .int .i64 qrad, .bool qdead] 33)
      have hqid := hwq
      have kx := Blk.new wr 33 [.int .i64 qid, .slice qA qcode.length qc, .int .i64 qrad, .bool qdead]
      have x0 := kx.cell 0
      have e2 := (bk.below ba).cell 2
      simp only [List.getElem?_cons_zero, List.getElem?_cons_succ] at x0 e2
      have mA := mk.below ba
      have hk9 : k ≤ 1000000000 := by omega
      have hgb : g ≠ bm := hng
      have hgl := (bk.below ba).lt
      have hxl := kx.lt
      have hbml := mk.lt
      have HFP := Lib.hid hfp
      clear hfp ok
      go_wp2_with fail
      have hfp := HFP.out
      generalize wr.alloc (.cells #[.int .i64 qid, .slice qA qcode.length qc, .int .i64 qrad, .bool qdead] 33) = WA at *
      refine region_L (oneQ 99 (fun _ => True) (fun X => X.cell? ⟨g, 2, none⟩ = some (.map (some bm)) ∧ X.cell? ⟨wr.heap.size, 0, none⟩ = some (.int .i64 qid))) hmix ?_
      have hS : oneQ 99 (fun _ => True) (fun X => X.cell? ⟨g, 2, none⟩ = some (.map (some bm)) ∧ X.cell? ⟨wr.heap.size, 0, none⟩ = some (.int .i64 qid)) (Array.replicate 8 false) WA.drew := ⟨fun _ => trivial, e2, x0⟩
      refine anyL_take (fun _ => True) [] (i := 0) (v := ?_) rfl (by kernel_rfl) (by kernel_rfl) (by kernel_rfl) (fun _ _ _ h => h) (by kernel_rfl) (one_ind (i := 0) (by decide)) (fun _ _ _ _ => trivial) (Or.inl ⟨by rfl, ?_⟩) hS ?_
      rotate_left
      · intro X hX
        clear hX
        go_simp
        try with_reducible rfl
      try simp only [List.getElem_toArray, List.getElem_cons_zero, List.getElem_cons_succ]
      simp only [Act.put, List.setIfInBounds_toArray, List.set_cons_zero, List.set_cons_succ]
      replace hS := (one_ind (i := 0) (by decide) _ _).2 hS
      refine anyL_take (fun _ => True) [] (i := 1) (v := ?_) rfl (by kernel_rfl) (by kernel_rfl) (by kernel_rfl) (fun _ _ _ h => h) (by kernel_rfl) (one_ind (i := 1) (by decide)) (fun _ _ _ _ => trivial) (Or.inl ⟨by rfl, ?_⟩) hS ?_
      rotate_left
      · intro X hX
        clear hX
        go_simp
        try with_reducible rfl
      try simp only [List.getElem_toArray, List.getElem_cons_zero, List.getElem_cons_succ]
      simp only [Act.put, List.setIfInBounds_toArray, List.set_cons_zero, List.set_cons_succ]
      replace hS := (one_ind (i := 1) (by decide) _ _).2 hS
      refine anyL_take (fun _ => True) [] (i := 2) (v := ?_) rfl (by kernel_rfl) (by kernel_rfl) (by kernel_rfl) (fun _ _ _ h => h) (by kernel_rfl) (one_ind (i := 2) (by decide)) (fun _ _ _ _ => trivial) (Or.inl ⟨by rfl, ?_⟩) hS ?_
      rotate_left
      · intro X hX
        clear hX
        go_simp
        try with_reducible rfl
      try simp only [List.getElem_toArray, List.getElem_cons_zero, List.getElem_cons_succ]
      simp only [Act.put, List.setIfInBounds_toArray, List.set_cons_zero, List.set_cons_succ]
      replace hS := (one_ind (i := 2) (by decide) _ _).2 hS
      refine anyL_take (fun X => X.cell? ⟨g, 2, none⟩ = some (.map (some bm)) ∧ X.cell? ⟨wr.heap.size, 0, none⟩ = some (.int .i64 qid)) [] (i := 3) (v := ?_) rfl (by kernel_rfl) (by kernel_rfl) (by kernel_rfl) (fun _ _ _ h => h) (by kernel_rfl) (one_ind (i := 3) (by decide)) (fun L X h1 h2 => h2.2) (Or.inl ⟨by rfl, ?_⟩) hS ?_
      rotate_left
      · intro X hX
        obtain ⟨g0, g1⟩ := hX
        go_simp
        try with_reducible rfl
      try simp only [List.getElem_toArray, List.getElem_cons_zero, List.getElem_cons_succ]
      simp only [Act.put, List.setIfInBounds_toArray, List.set_cons_zero, List.set_cons_succ]
      replace hS := (one_ind (i := 3) (by decide) _ _).2 hS
      refine anyL_take (fun _ => True) [] (i := 4) (v := ?_) rfl (by kernel_rfl) (by kernel_rfl) (by kernel_rfl) (fun _ _ _ h => h) (by kernel_rfl) (one_ind (i := 4) (by decide)) (fun _ _ _ _ => trivial) (Or.inl ⟨by rfl, ?_⟩) hS ?_
      rotate_left
      · intro X hX
        clear hX
        go_simp
        try with_reducible rfl
      try simp only [List.getElem_toArray, List.getElem_cons_zero, List.getElem_cons_succ]
      simp only [Act.put, List.setIfInBounds_toArray, List.set_cons_zero, List.set_cons_succ]
      replace hS := (one_ind (i := 4) (by decide) _ _).2 hS
      refine anyL_take (fun X => X.cell? ⟨g, 2, none⟩ = some (.map (some bm)) ∧ X.cell? ⟨wr.heap.size, 0, none⟩ = some (.int .i64 qid)) [] (i := 5) (v := ?_) rfl (by kernel_rfl) (by kernel_rfl) (by kernel_rfl) (fun _ _ _ h => h) (by kernel_rfl) (one_ind (i := 5) (by decide)) (fun L X h1 h2 => h2.2) (Or.inl ⟨by rfl, ?_⟩) hS ?_
      rotate_left
      · intro X hX
        obtain ⟨g0, g1⟩ := hX
        go_simp
        try with_reducible rfl
      try simp only [List.getElem_toArray, List.getElem_cons_zero, List.getElem_cons_succ]
      simp only [Act.put, List.setIfInBounds_toArray, List.set_cons_zero, List.set_cons_succ]
      replace hS := (one_ind (i := 5) (by decide) _ _).2 hS
      refine anyL_take (fun _ => True) [] (i := 6) (v := ?_) rfl (by kernel_rfl) (by kernel_rfl) (by kernel_rfl) (fun _ _ _ h => h) (by kernel_rfl) (one_ind (i := 6) (by decide)) (fun _ _ _ _ => trivial) (Or.inl ⟨by rfl, ?_⟩) hS ?_
      rotate_left
      · intro X hX
        clear hX
        go_simp
        try with_reducible rfl
      try simp only [List.getElem_toArray, List.getElem_cons_zero, List.getElem_cons_succ]
      simp only [Act.put, List.setIfInBounds_toArray, List.set_cons_zero, List.set_cons_succ]
      replace hS := (one_ind (i := 6) (by decide) _ _).2 hS
      clear hS
      obtain ⟨W4, hst, m4, gr4⟩ := MapN.store (w := WA.drew) mA hk9 qid (k : Int) hqid (WalkArith.wf_i64 (by omega)) hfp
      refine anyL_step (i := 7) (by kernel_rfl) rfl (by rfl) (fun K hK => ?_)
      go_simp
      have gr : WA.grownBy W4 (some bm) := ⟨gr4.os, gr4.tape, gr4.output, gr4.size, gr4.block⟩
      have e2' := (gr.cell_far ⟨g, 2, none⟩ hgl (by simpa using hgb)).trans e2
      have x0' := (gr.cell_far ⟨wr.heap.size, 0, none⟩ hxl (by simp; omega)).trans x0
      refine hK.out _ _ ⟨fun _ => trivial, e2', x0'⟩ ?_
      clear hK K
      refine anyL_done (by kernel_rfl) ?_ _
      clear hst
      have gk4 := (gk3.trans (grown_of_below ba (some bm))).trans gr
      have HM := Lib.hid (fun id => show upF (fPlace ((liveE (ents xs)).take k)) qid (some (k : Int)) id = fPlace ((liveE (ents xs)).take (k + 1)) id from by
        rw [HTK.out, HPA.out, ← HQE.out]
        unfold upF
        rw [HKT.out])
      have m5 := m4.congr (fun id _ => HM.out id) rfl
      go_wp2_with fail
      go_roundg (gk - 1)
      case measure => omega
      case rel => exact ⟨k + 1, by simp, by omega, by omega, m5, gk4⟩
    · have i1 : ¬ (k : Int) < ((liveX xs).length : Int) := by omega
      obtain rfl : k = (liveX xs).length := by omega
      have hle : (liveX xs).length = (liveE (ents xs)).length := by rw [← HLE.out, ents_length]
      have htk : (liveE (ents xs)).take (liveX xs).length = liveE (ents xs) := by rw [hle, List.take_length]
      rw [htk] at mk
      have bk := hbl3.kept gk3 (by simpa using hng)
      have rk := o3.1.kept gk3 (by
        rw [hown (liveX xs).length xs.length]
        cases hv : (Value.slice A xs.length c).ownBlock with
        | none => exact .inl rfl
        | some q => right; intro hh; rw [hh] at hv; exact hbr hv.symm)
      have ck := o3.2.kept gk3 fun b hb => by simpa using hb.2.2.2.1
      have kpe := kp.trans (Keep.of_grown (T := S) gk3 (fun k hk => by injection hk with hk; subst hk; exact s2)) (fun n _ hn => hn)
      have hsz := kpe.size
      have HLL := Lib.hid hle
      clear hle htk
      go_wp2_with fail
      go_ret
      refine ⟨rfl, ⟨liveX xs, A, c, bm, HLE.out.symm, bk, rk, ck.weaken fun b hb => ⟨hb.1, by have := hb.2.1; omega, hb.2.2.1, hb.2.2.2.1, by rw [hown (liveX xs).length xs.length]; exact hb.2.2.2.2⟩, ?_, ⟨s1, s2, fun k hk => s3 k (by rw [hown xs.length (liveX xs).length]; exact hk)⟩, by rw [HLE.out]; exact HGL.out⟩, kpe⟩
      rw [HLE.out]
      exact mk.congr (fun _ _ => rfl) (by rw [liveE_idem]; exact HLL.out)
end Go.Proofs.Ytikjmhijkegdgaa
