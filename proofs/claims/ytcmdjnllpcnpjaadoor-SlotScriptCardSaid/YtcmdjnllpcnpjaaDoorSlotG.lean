/- Slots in memory: Clear, Trace, at, Get, Free. -/
import Derived.Test.YtcmdjnllpcnpjaaDoorSlotF2
import Derived.Test.YtcmdjnllpcnpjaaDoorSlLib
import Derived.Deep.QuietTactic
import Derived.BigQuiet
namespace Go.Proofs.YtcmdjnllpcnpjaaDoor
set_option linter.unusedVariables false
set_option linter.unusedSimpArgs false
open Go.RowKit
theorem SClear_nil (w : World) : Calls Tryd.prog 20 #[.pointer none] w fun e w' => e = .returned (.tuple #[]) ∧ w = w' := by
  go_enter Tryd.func20, Tryd.ntmps20
  go_wp2_with fail
  go_end0
  exact ⟨rfl, rfl⟩
theorem SClear_calls (S : Nat → Prop) (g dim room : Nat) (st : St) (tr : List Int) (w : World) (h : SLOTS w S g dim room st tr) :
    Calls Tryd.prog 20 #[PtrS g] w fun e w' => e = .returned (.tuple #[]) ∧ SLOTS w' S g dim room st [] ∧ Keep S w w' := by
  obtain ⟨hd, tk, al, T, tc, A, ac, R, rc, h, h2⟩ := h
  obtain ⟨c0, c1, c2, c3, c4, c5⟩ := h.cells
  have f5 := h.blk.frozen 5
  have h3 := h.clearR
  have hk := (Keep.cell w g 5 (.slice none 0 0)).more (U := S) fun k hk => by subst hk; exact h.sg
  clear h
  unfold PtrS
  go_enter Tryd.func20, Tryd.ntmps20
  go_wp2_with fail
  go_end0
  exact ⟨rfl, ⟨hd, tk, al, T, tc, A, ac, none, 0, h3, h2⟩, hk⟩
theorem STrace_nil (w : World) : Calls Tryd.prog 19 #[.pointer none] w fun e w' => e = .returned (.slice none 0 0) ∧ w = w' := by
  go_enter Tryd.func19, Tryd.ntmps19
  go_wp2_with fail
  go_ret
  exact ⟨rfl, rfl⟩
theorem STrace_calls (S : Nat → Prop) (g dim room : Nat) (st : St) (tr : List Int) (w : World) (h : SLOTS w S g dim room st tr) (hl : tr.length ≤ 1000000) :
    Calls Tryd.prog 19 #[PtrS g] w (RetOwn 3 .i64 tr w) := by
  obtain ⟨hd, tk, al, T, tc, A, ac, R, rc, h, h2⟩ := h
  obtain ⟨c0, c1, c2, c3, c4, c5⟩ := h.cells
  have hc := OwnI.sl h.or
  clear h h2
  unfold PtrS
  go_enter Tryd.func19, Tryd.ntmps19
  go_wp2_with fail
  refine (Clone_int_calls R rc tr _ hc (by omega)).mono ?_
  rintro e w1 ⟨A1, c1, rfl, o1, b1⟩
  go_wp2_with fail
  go_ret
  exact ⟨A1, c1, rfl, o1, b1⟩
/-- A slot's numbers: where they lie. -/
theorem SAt_calls (S : Nat → Prop) (g dim room : Nat) (n : Nat) {cnt : Int} {tk al tr : List Int} {T : Option Addr} {tc ga : Nat} {ac : Nat} {R : Option Addr} {rc : Nat} (w : World) (h : SLM w S g dim room cnt tk al tr T tc (some ⟨ga, 0, none⟩) ac R rc) (hd : 1 ≤ dim) (hd2 : dim ≤ 1024) (hn : (n + 1) * dim ≤ al.length) (hl : al.length ≤ 100000000) :
    Calls Tryd.prog 33 #[PtrS g, .int .i64 n] w fun e w' => e = .returned (.slice (some ⟨ga, n * dim, none⟩) dim dim) ∧ Below w.heap.size w w' := by
  obtain ⟨c0, c1, c2, c3, c4, c5⟩ := h.cells
  have hac := (OwnI.sl h.oa).le
  have hac2 := (OwnI.sl h.oa).cap
  have hn1 : n ≤ 100000000 := Nat.le_trans (Nat.le_trans (by rw [Nat.succ_mul]; exact Nat.le_trans (Nat.le_mul_of_pos_right n hd) (Nat.le_add_right _ _)) hn) hl
  obtain ⟨a, ha⟩ : ∃ a, a = n * dim := ⟨_, rfl⟩
  have hb : (n + 1) * dim = a + dim := by rw [Nat.succ_mul, ha]
  have e1 : (n : Int) * (dim : Int) = (a : Int) := by rw [ha]; simp
  have e2 : ((n : Int) + 1) * (dim : Int) = ((a + dim : Nat) : Int) := by rw [← hb]; simp
  rw [hb] at hn
  rw [← ha]
  clear h ha hb
  unfold PtrS
  go_enter Tryd.func33, Tryd.ntmps33
  go_wp2_with fail
  go_quiet (fail)
  go_wp2_with fail
  go_ret
  exact ⟨by rw [Nat.add_sub_cancel_left]; rfl, below_drewN (Below.refl _ _) _⟩
theorem slI_at {w : World} {base E ga ac o d : Nat} {al v : List Int} (h : OwnI w base E .i16 (some ⟨ga, 0, none⟩) ac al) (hv : (al.drop o).take d = v) (hl : v.length = d) (hd : d ≤ 1024) : SlI w .i16 (some ⟨ga, o, none⟩) d v := by
  refine ⟨.inr ⟨_, rfl, fun j u hj => ?_⟩, by omega, by unfold maxLen; omega⟩
  have hj2 : j < v.length := by have := (List.getElem?_eq_some_iff.1 hj).1; rwa [nums_length] at this
  have e1 : v[j]? = al[o + j]? := by rw [← hv]; exact slice_getD al o d j (by omega)
  have hoj : o + j < al.length := by
    rw [List.getElem?_eq_getElem hj2] at e1
    exact (List.getElem?_eq_some_iff.1 e1.symm).1
  have hc := (OwnI.cell h (o + j) hoj).1
  rw [show (⟨ga, o, none⟩ : Addr).add j = ⟨ga, o + j, none⟩ from by unfold Addr.add; split <;> simp_all, hc, ← hj, nums_get _ v j hj2]
  simp only [List.getD_eq_getElem?_getD, e1]
theorem SGet_nil (n : Int) (w : World) : Calls Tryd.prog 17 #[.pointer none, .int .i64 n] w fun e w' => e = .returned (.tuple #[.slice none 0 0, .int .i64 1]) ∧ w = w' := by
  go_enter Tryd.func17, Tryd.ntmps17
  go_wp2_with fail
  go_ret2
  exact ⟨rfl, rfl⟩
theorem SGet_no (S : Nat → Prop) (g dim room : Nat) (st : St) (tr : List Int) (n : Int) (w : World) (h : SLOTS w S g dim room st tr) (hn : n ≤ 9223372036854775807) (hl : st.length ≤ 1000) (hu : hasI st n = false) :
    Calls Tryd.prog 17 #[PtrS g, .int .i64 n] w fun e w' => e = .returned (.tuple #[.slice none 0 0, .int .i64 6]) ∧ w = w' := by
  have HS := SHas_calls S g dim room st tr n w h hn (by omega)
  rw [hu] at HS
  clear h hu
  unfold PtrS at HS ⊢
  go_enter Tryd.func17, Tryd.ntmps17
  go_wp2_with fail
  refine HS.mono ?_
  rintro e _ ⟨rfl, rfl⟩
  go_wp2_with fail
  go_ret2
  exact ⟨rfl, rfl⟩
theorem used_some {st : St} {m : Nat} (h : used st m = true) : ∃ v, st.getD m none = some v := by
  unfold used at h
  exact Option.isSome_iff_exists.1 h
/-- What Get leaves. -/
def RetG (S : Nat → Prop) (g dim room : Nat) (st : St) (tr : List Int) (m : Nat) (v : List Int) (w : World) (e : Ending) (w' : World) : Prop :=
  ∃ S' B A' c', e = .returned (.tuple #[.slice A' v.length c', .int .i64 0]) ∧ SLOTS w' S' g dim room st (tr ++ [(m : Int)]) ∧ OwnI w' B 31 .i16 A' c' v ∧ Keep S w w' ∧ (∀ k, S' k → S k ∨ (w.heap.size ≤ k ∧ k < B)) ∧ w.heap.size ≤ B ∧ B ≤ w'.heap.size
theorem SGet_yes (S : Nat → Prop) (g dim room : Nat) (st : St) (tr : List Int) (m : Nat) (v : List Int) (w : World) (h : SLOTS w S g dim room st tr) (hl : st.length ≤ 1000) (hr : tr.length ≤ 1000000) (hv : st.getD m none = some v) :
    Calls Tryd.prog 17 #[PtrS g, .int .i64 m] w (RetG S g dim room st tr m v w) := by
  have hu : used st m = true := by unfold used; rw [hv]; rfl
  have hm := used_lt hu
  have HS := SHas_calls S g dim room st tr m w h (by omega) (by omega)
  rw [show hasI st (m : Int) = true from by unfold hasI; simp [hu]] at HS
  obtain ⟨hd, tk, al, T, tc, A, ac, R, rc, h, h2⟩ := h
  obtain ⟨hvl, hvd⟩ := h2.2.get m v hv
  have hal := h2.2.len
  have hfit : (m + 1) * dim ≤ al.length := by rw [hal]; exact Nat.mul_le_mul_right _ hm
  have hbig : al.length ≤ 100000000 := by
    rw [hal]; exact Nat.le_trans (Nat.mul_le_mul hl hd.1.2) (by decide)
  have hpos : 0 < al.length := by
    refine Nat.lt_of_lt_of_le ?_ hfit
    exact Nat.mul_pos (by omega) hd.1.1
  obtain ⟨ga, rfl, _⟩ := own_form h.oa hpos
  obtain ⟨c0, c1, c2, c3, c4, c5⟩ := h.cells
  have hgr : some g ≠ (Value.slice R tr.length rc).ownBlock := fun e => (h.sr g e.symm).2.1 rfl
  have HD := Lib.hid hd
  have HV := Lib.hid hvd
  have HVL := Lib.hid hvl
  have hdim := hd.1
  have HF := Lib.hid hfit
  clear hv hu hm hvl hvd hal hfit hpos hd
  unfold PtrS at HS ⊢
  go_enter Tryd.func17, Tryd.ntmps17
  go_wp2_with fail
  refine HS.mono ?_
  rintro e _ ⟨rfl, rfl⟩
  go_wp2_with (at_builtin; refine app_one 0 rfl _ _ 22 3 .i64 8 rfl Tryd.underlying22 (by kernel_rfl) (by decide) R rc tr m rfl rfl h.or (Nat.zero_le _) (by omega) ?_)
  intro R1 rc1 v1 o1 hg1 hat1
  have hsz := hg1.size
  have hlen : (tr ++ [(m : Int)]).length = tr.length + 1 := by simp
  have hlt := h.blk.lt
  have kb := h.blk.kept hg1 hgr
  have d5 := kb.cell 5
  have f5 := kb.frozen 5
  simp only [List.getElem?_cons_zero, List.getElem?_cons_succ] at d5
  have M1 := h.growR (q := w.heap.size + 1) (S' := fun k => S k ∨ (w.heap.size ≤ k ∧ k < v1.heap.size)) o1 hg1 (by rw [hlen]; exact hat1) (by omega) (fun k hk => .inl hk) (fun k h1 h2 => .inr ⟨h1, h2⟩)
  have K1 : Keep S w (v1.setCell ⟨g, 5, none⟩ (.slice R1 (tr ++ [(m : Int)]).length rc1)) := (Keep.of_grown hg1 fun k hk => (h.sr k hk).1).trans (Keep.cell v1 g 5 _) fun k hk e => by subst e; exact h.sg
  rw [hlen] at M1 K1
  have HLEN := Lib.hid hlen
  clear kb h c0 c1 c2 c3 c4 c5 o1 hg1 hat1 hgr hlen HS
  try rw [HLEN.out]
  go_wp2_with fail
  have hs1 : (v1.setCell ⟨g, 5, none⟩ (.slice R1 (tr.length + 1) rc1)).heap.size = v1.heap.size := by simp
  rw [← hs1] at M1
  generalize v1.setCell ⟨g, 5, none⟩ (.slice R1 (tr.length + 1) rc1) = w3 at *
  refine (SAt_calls _ g dim room m w3 M1 hdim.1 hdim.2 HF.out hbig).mono ?_
  rintro e w4 ⟨rfl, b4⟩
  have M2 := M1.below b4
  have hsl := slI_at M2.oa HV.out HVL.out hdim.2
  have CL := Clone_int16_calls (some ⟨ga, m * dim, none⟩) dim v w4 hsl (by rw [HVL.out]; omega)
  rw [HVL.out] at CL
  clear d5 f5
  go_wp2_with fail
  refine CL.mono ?_
  rintro e w5 ⟨A5, c5, rfl, o5, b5⟩
  have z4 := b4.size
  have z5 := b5.size
  have z3 := K1.size
  have K2 := K1.trans (Keep.of_below S (below_trans b4 b5)) fun _ _ hk => hk
  go_wp2_with fail
  go_ret2
  refine ⟨_, w4.heap.size, A5, c5, by rw [HVL.out]; rfl, ⟨HD.out, tk, al, T, tc, _, ac, R1, rc1, M2.below b5, h2⟩, o5, K2, fun k hk => ?_, by omega, z5⟩
  rcases hk with hk | hk
  · exact .inl hk
  · exact .inr ⟨hk.1, by omega⟩
end Go.Proofs.YtcmdjnllpcnpjaaDoor
