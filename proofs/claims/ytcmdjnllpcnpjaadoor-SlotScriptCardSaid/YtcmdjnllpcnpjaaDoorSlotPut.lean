/- Slots in memory: Put. -/
import Derived.Test.YtcmdjnllpcnpjaaDoorSlotFree
import Derived.Test.YtcmdjnllpcnpjaaDoorZeros
import Derived.Laws.CopyOwn
import Derived.Deep.CutBlock
import Derived.Deep.DeepCutAuto
namespace Go.Proofs.YtcmdjnllpcnpjaaDoor
set_option linter.unusedVariables false
set_option linter.unusedSimpArgs false
open Go.RowKit
/-- append(v, make([]T, m)...); where the row lies. -/
theorem app_zerosA {P : Program} {W : World} {ops : Array Oper} {rest : List Oper} {o : Oper} {a : Act} {Q : Exit → Act → World → Prop} (base : Nat) (hgd : o.guard = none) (s x : Operand) (t ti e : TypeId) (k : IntKind) (bytes : Nat)
    (ho : o.op = .call { callee := .builtin .append, args := #[s, x], argTypes := #[t, ti] })
    (ht : P.underlying t = some (.slice e)) {ki : IntKind} (hti : P.underlying ti = some (.int ki)) (hinfo : (P.info? e).map (fun i => (i.zero, i.size, i.bytes)) = some (some (.int k 0), 1, bytes)) (hb0 : 0 < bytes)
    (B : Option Addr) (cb : Nat) (xs : List Int) (kx : IntKind) (m : Nat) (hs : a.eval s = .slice B xs.length cb) (hx : a.eval x = .int kx m)
    (HO : OwnI W base e k B cb xs) (hbase : base ≤ W.heap.size) (hl : (xs.length + m) * bytes ≤ 140737488355328)
    (h : ∀ B1 c1 w1, OwnI w1 base e k B1 c1 (xs ++ List.replicate m 0) → W.grownBy w1 (Value.slice B xs.length cb).ownBlock →
      ((Value.slice B1 (xs.length + m) c1).ownBlock = (Value.slice B xs.length cb).ownBlock ∨ (Value.slice B1 (xs.length + m) c1).ownBlock = some W.heap.size) → wpList P ops Q rest (a.put o.dst (.slice B1 (xs.length + m) c1)) w1) :
    wpList P ops Q (o :: rest) a W := by
  refine wpList_plain hgd fun K hK => ?_
  obtain ⟨i0, hi, hzz⟩ := Option.map_eq_some_iff.1 hinfo
  simp only [Prod.mk.injEq] at hzz
  obtain ⟨hz0, hz1, hz2⟩ := hzz
  obtain ⟨v1, w1, hr, hown, hg, hat⟩ := run_append_zeros (P := P) W base t ti o.type e i0 (.int k 0) 1 bytes ht hti hi hz0 hz1 hz2 rfl (by omega) hb0 _ xs.length (nums k xs) HO kx m (by rw [zeros_nums]; exact nums_one k _) hl hbase
  rw [zeros_nums, ← nums_append] at hown
  obtain ⟨B1, c1, rfl⟩ := own_slice hown
  unfold Oper.wp execOp
  simp only [ho, resolve, invoke, builtin, Sem.run_bind, Sem.run_pure, Result.andThen_ok, List.map_toArray, List.map_cons, List.map_nil, hs, hx, hr]
  exact hK _ _ (h B1 c1 w1 (by simpa [OwnI] using hown) hg hat)
/-- A vector copied into a row. -/
theorem own_copy {w : World} {base E ga ac o : Nat} {k : IntKind} {al v : List Int} (h : OwnI w base E k (some ⟨ga, 0, none⟩) ac al) (hp : 0 < al.length) (ho : o + v.length ≤ al.length) :
    ∃ cur : Array Value, w.heap[ga]? = some (.cells cur E (0, 0)) ∧ al.length ≤ cur.size ∧ OwnI (w.setRow ga (cur.toList.take o ++ (nums k v ++ cur.toList.drop (o + (nums k v).length))).toArray) base E k (some ⟨ga, 0, none⟩) ac (copyA al o v) := by
  have hcl := copyA_length ho
  rcases h.2 with ⟨h1, _⟩ | ⟨g, cap, cur, h1, hb, hh, hn, hm, hs, ht⟩
  · cases h1
  · injection h1 with h1 h3 h4
    injection h1 with h1
    injection h1 with h1
    subst h1 h4
    refine ⟨cur, hh, by omega, ?_⟩
    have hz : (cur.toList.take o ++ (nums k v ++ cur.toList.drop (o + (nums k v).length))).length = cur.size := by
      simp [nums_length]; omega
    refine ⟨by rw [nums_length, hcl]; simp, .inr ⟨ga, ac, _, rfl, hb, setRow_heap w ga cur _ E _ hh, by omega, hm, by rw [List.size_toArray, hz]; exact hs, ?_⟩⟩
    rw [List.toList_toArray, hcl]
    have ht' : cur.toList.take al.length = nums k al := by simpa using ht
    unfold copyA
    rw [nums_append, nums_append, Nat.mul_one]
    have e1 : (cur.toList.take o).length = o := by rw [List.length_take, Array.length_toList]; omega
    have e2 : nums k (al.take o) = cur.toList.take o := by
      have : nums k (al.take o) = (nums k al).take o := by simp [nums, List.map_take]
      rw [this, ← ht', List.take_take, Nat.min_eq_left (by omega)]
    have e3 : nums k (al.drop (o + v.length)) = (cur.toList.drop (o + v.length)).take (al.length - (o + v.length)) := by
      have : nums k (al.drop (o + v.length)) = (nums k al).drop (o + v.length) := by simp [nums, List.map_drop]
      rw [this, ← ht', List.drop_take]
    have e4 : (cur.toList.take o ++ nums k v).length = o + v.length := by rw [List.length_append, e1, nums_length]
    have e5 : al.length = (cur.toList.take o ++ nums k v).length + (al.length - (o + v.length)) := by rw [e4]; omega
    rw [e2, e3, nums_length, ← List.append_assoc]
    conv => lhs; rw [e5]
    rw [List.take_length_add_append]
/-- The numbers' row is written. -/
theorem SLM.setA {w : World} {S : Nat → Prop} {g dim room : Nat} {cnt : Int} {tk al tr : List Int} {T : Option Addr} {tc ga : Nat} {ac : Nat} {R : Option Addr} {rc : Nat} {al1 : List Int} {cs : Array Value} (h : SLM w S g dim room cnt tk al tr T tc (some ⟨ga, 0, none⟩) ac R rc)
    (ho : OwnI (w.setRow ga cs) 0 31 .i16 (some ⟨ga, 0, none⟩) ac al1) (hl : al1.length = al.length) : SLM (w.setRow ga cs) S g dim room cnt tk al1 tr T tc (some ⟨ga, 0, none⟩) ac R rc := by
  have h1 := h.sa ga rfl
  exact { blk := by rw [hl]; exact (setRow_other w ga g cs fun e => h1.2.1 e.symm).trans h.blk
          ot := row_same h.ot fun k hk => setRow_other w ga k cs fun e => h1.2.2 (by subst e; exact hk)
          oa := ho
          or := row_same h.or fun k hk => setRow_other w ga k cs fun e => (h.sr k hk).2.2.2 (by subst e; rfl)
          sg := h.sg, st := h.st, sa := h.sa, sr := h.sr }
theorem Keep.row (w : World) (g : Nat) (cs : Array Value) : Keep (fun k => k = g) w (w.setRow g cs) := ⟨rfl, rfl, rfl, by simp [World.setRow], fun k _ hk => setRow_other w g k cs hk⟩
theorem SPut_nil (V : Option Addr) (n c : Nat) (w : World) : Calls Tryd.prog 11 #[.pointer none, .slice V n c] w fun e w' => e = .returned (.tuple #[.int .i64 0, .int .i64 1]) ∧ w = w' := by
  go_enter Tryd.func11, Tryd.ntmps11
  go_wp2_with fail
  go_ret2
  exact ⟨rfl, rfl⟩
theorem SPut_bad (S : Nat → Prop) (g dim room : Nat) (st : St) (tr : List Int) (V : Option Addr) (c : Nat) (v : List Int) (w : World) (h : SLOTS w S g dim room st tr) (hv : SlI w .i16 V c v) (hl : v.length ≠ dim) :
    Calls Tryd.prog 11 #[PtrS g, .slice V v.length c] w fun e w' => e = .returned (.tuple #[.int .i64 0, .int .i64 2]) ∧ w = w' := by
  obtain ⟨hd, tk, al, T, tc, A, ac, R, rc, h, _⟩ := h
  obtain ⟨c0, c1, c2, c3, c4, c5⟩ := h.cells
  have CK := VCheck_calls V c v dim w hv
  rw [show ckR v dim = 2 from by unfold ckR; rw [if_pos (.inr (.inr (by omega)))]] at CK
  clear h hl hd
  unfold PtrS
  go_enter Tryd.func11, Tryd.ntmps11
  go_wp2_with fail
  refine CK.mono ?_
  rintro e _ ⟨rfl, rfl⟩
  go_wp2_with fail
  go_ret2
  exact ⟨rfl, rfl⟩
theorem SPut_full (S : Nat → Prop) (g dim room : Nat) (st : St) (tr : List Int) (V : Option Addr) (c : Nat) (v : List Int) (w : World) (h : SLOTS w S g dim room st tr) (hT : TabG w) (hv : SlI w .i16 V c v) (hl : v.length = dim) (hs : st.length ≤ 1000) (hf : room ≤ leastS st) :
    Calls Tryd.prog 11 #[PtrS g, .slice V v.length c] w fun e w' => e = .returned (.tuple #[.int .i64 0, .int .i64 7]) ∧ w = w' := by
  have LE := least_calls S g dim room st tr w h hT (by omega)
  have hle := least_le st
  obtain ⟨hd, tk, al, T, tc, A, ac, R, rc, h, _⟩ := h
  obtain ⟨c0, c1, c2, c3, c4, c5⟩ := h.cells
  have CK := VCheck_calls V c v dim w hv
  rw [show ckR v dim = 0 from by unfold ckR; rw [if_neg (by omega)]] at CK
  clear h hl hd
  generalize leastS st = n at *
  have i1 : (n : Int) ≥ (room : Int) := by omega
  unfold PtrS at LE ⊢
  go_enter Tryd.func11, Tryd.ntmps11
  go_wp2_with fail
  refine CK.mono ?_
  rintro e _ ⟨rfl, rfl⟩
  go_wp2_with fail
  refine LE.mono ?_
  rintro e _ ⟨rfl, rfl⟩
  go_wp2_with fail
  go_ret2
  exact ⟨rfl, rfl⟩
/-- What Put leaves. -/
def RetPut (S : Nat → Prop) (g dim room : Nat) (st : St) (tr : List Int) (v : List Int) (w : World) (e : Ending) (w' : World) : Prop :=
  ∃ S', e = .returned (.tuple #[.int .i64 (leastS st : Nat), .int .i64 0]) ∧ SLOTS w' S' g dim room (putS st v) tr ∧ Keep S w w' ∧ ∀ k, S' k → S k ∨ (w.heap.size ≤ k ∧ k < w'.heap.size)
def into (S : Nat → Prop) (w w' : World) : Nat → Prop := fun k => S k ∨ (w.heap.size ≤ k ∧ k < w'.heap.size)
set_option maxHeartbeats 4000000 in
set_option maxRecDepth 100000 in
theorem SPut_ok (S : Nat → Prop) (g dim room : Nat) (st : St) (tr : List Int) (V : Option Addr) (c : Nat) (v : List Int) (w : World) (h : SLOTS w S g dim room st tr) (hT : TabG w) (hv : SlI w .i16 V c v) (hva : ∀ x, V = some x → ¬ S x.block) (hl : v.length = dim) (hs : st.length ≤ 1000) (hf : leastS st < room) :
    Calls Tryd.prog 11 #[PtrS g, .slice V v.length c] w (RetPut S g dim room st tr v w) := by
  have LE := least_calls S g dim room st tr w h hT (by omega)
  have hle := least_le st
  obtain ⟨hd, tk, al, T, tc, A, ac, R, rc, h, hws, hns⟩ := h
  obtain ⟨c0, c1, c2, c3, c4, c5⟩ := h.cells
  have CK := VCheck_calls V c v dim w hv
  rw [show ckR v dim = 0 from by unfold ckR; rw [if_neg (by omega)]] at CK
  have hlen := hws.len
  have hal := hns.len
  have hGT := Lib.hid (rfl : grownT st tk = grownT st tk)
  have hg0 := Lib.hid (show leastS st / 64 = tk.length → grownT st tk = tk ++ [0] from fun e => by unfold grownT; rw [if_pos e])
  have hg1 := Lib.hid (show leastS st / 64 ≠ tk.length → grownT st tk = tk from fun e => by unfold grownT; rw [if_neg e])
  have ha0 := Lib.hid (show leastS st < st.length → grownA st dim al = al from fun e => by unfold grownA; rw [if_pos e])
  have ha1 := Lib.hid (show ¬ leastS st < st.length → grownA st dim al = al ++ List.replicate dim 0 from fun e => by unfold grownA; rw [if_neg e])
  have HG := Lib.hid (grownA_length hns)
  have HW := Lib.hid (hws.put v)
  have HN := Lib.hid (hns.put v hl hd.1.1)
  have HGL := Lib.hid (grownT_lt hws)
  have HGG := Lib.hid (grownT_get st tk (leastS st / 64))
  have HB := Lib.hid (hws.atGrown (leastS st / 64))
  have HC := Lib.hid (cnt_put st v)
  have hcl := cnt_le st
  have HD := Lib.hid hd
  have hdim := hd.1
  have hfb : al.length ≤ 1024000 := by rw [hal]; exact Nat.le_trans (Nat.mul_le_mul hs hd.1.2) (by decide)
  obtain ⟨b, hb⟩ : ∃ b, b = (leastS st + 1) * dim := ⟨_, rfl⟩
  have hbb : b ≤ 1025024 := by rw [hb]; exact Nat.le_trans (Nat.mul_le_mul (show leastS st + 1 ≤ 1001 by omega) hd.1.2) (by decide)
  have e2 : ((leastS st : Int) + 1) * (dim : Int) = (b : Int) := by rw [hb]; simp
  have hb1 : leastS st < st.length → b ≤ al.length := fun e => by rw [hb, hal]; exact Nat.mul_le_mul_right _ e
  have hb2 : ¬ leastS st < st.length → b = al.length + dim := fun e => by rw [hb, hal, show leastS st = st.length by omega, Nat.succ_mul]
  replace hb1 := Lib.hid hb1
  replace hb2 := Lib.hid hb2
  have HBL := Lib.hid hb
  have HVL := Lib.hid hl
  replace hva := Lib.hid hva
  have htl : tk.length ≤ 1000 := by omega
  replace hlen := Lib.hid hlen
  clear hGT hws hns hal hl hd hb hT
  generalize hn : leastS st = n at *
  have HNN := Lib.hid hn
  clear hn
  have i1 : ¬ (n : Int) ≥ (room : Int) := by omega
  unfold PtrS at LE ⊢
  go_enter Tryd.func11, Tryd.ntmps11
  go_wp2_with fail
  refine CK.mono ?_
  rintro e _ ⟨rfl, rfl⟩
  go_wp2_with fail
  refine LE.mono ?_
  rintro e _ ⟨rfl, rfl⟩
  clear LE CK
  go_upto_if 35 with fail
  go_cut [] (fun w' => ∃ T1 tc1, SLM w' (into S w w') g dim room (cntS st : Nat) (grownT st tk) al tr T1 tc1 A ac R rc ∧ Keep S w w')
  case first =>
    by_cases hw : n / 64 = tk.length
    · have i2 : ((n : Int) / 64 == (tk.length : Int)) = true := by simp; omega
      have hgT : some g ≠ (Value.slice T tk.length tc).ownBlock := fun e => (h.st g e.symm).2 rfl
      have HE := Lib.hid (hg0.out hw)
      clear hw
      go_wp2_with (at_builtin; (refine app_one 0 rfl _ _ 59 63 .u64 8 rfl Tryd.underlying59 (by kernel_rfl) (by decide) T tc tk 0 rfl rfl h.ot (Nat.zero_le _) (by omega) ?_))
      intro T1 tc1 v1 o1 hgr hat
      have hsz := hgr.size
      have hln : (tk ++ [(0 : Int)]).length = tk.length + 1 := by simp
      have kb := h.blk.kept hgr hgT
      have d3 := kb.cell 3
      have f3 := kb.frozen 3
      simp only [List.getElem?_cons_zero, List.getElem?_cons_succ] at d3
      have M1 := h.growT (q := w.heap.size + 1) (S' := into S w v1) o1 hgr (by rw [hln]; exact hat) (by omega) (fun k hk => .inl hk) (fun k h1 h2 => .inr ⟨h1, h2⟩)
      have K1 : Keep S w (v1.setCell ⟨g, 3, none⟩ (.slice T1 (tk ++ [(0 : Int)]).length tc1)) := (Keep.of_grown hgr fun k hk => (h.st k hk).1).trans (Keep.cell v1 g 3 _) fun k hk e => by subst e; exact h.sg
      rw [hln] at M1 K1
      have HLN := Lib.hid hln
      clear hln kb c0 c1 c2 c3 c4 c5 hgr hat hgT o1 h
      try rw [HLN.out]
      go_wp2_with fail
      go_meet
      refine ⟨T1, tc1, ?_, K1⟩
      rw [HE.out]
      refine M1.weaken fun k hk => hk.imp id fun hh => ⟨hh.1, by simp; omega⟩
    · have i2 : ((n : Int) / 64 == (tk.length : Int)) = false := by simp; omega
      have HE := Lib.hid (hg1.out hw)
      clear hw
      go_wp2_with fail
      go_meet
      refine ⟨T, tc, ?_, Keep.refl S w⟩
      rw [HE.out]
      exact h.weaken fun k hk => .inl hk
  case rest =>
    clear h c0 c1 c2 c3 c4 c5 hg0 hg1 hlen
    obtain ⟨T1, tc1, h, K1⟩ := hcut
    obtain ⟨c0, c1, c2, c3, c4, c5⟩ := h.cells
    go_wp2_with fail
    go_quiet (fail)
    go_upto_if 59 with fail
    go_cut [8] (fun u8 w' => ∃ A1 ac1, SLM w' (into S w w') g dim room (cntS st : Nat) (grownT st tk) (grownA st dim al) tr T1 tc1 A1 ac1 R rc ∧ Keep S w w')
    case first =>
      have bD : Below wc.heap.size wc (wc.drewN nq) := below_drewN (Below.refl _ _) _
      have hD := h.below bD
      have KD := K1.trans (Keep.of_below S bD) fun _ _ hk => hk
      by_cases hw : n < st.length
      · have i2 : ¬ ((b : Int) - (al.length : Int) > 0) := by have := hb1.out hw; omega
        have HE := Lib.hid (ha0.out hw)
        clear hw
        go_wp2_with fail
        go_meet
        refine ⟨A, ac, ?_, KD⟩
        rw [HE.out]
        exact hD
      · have i2 : (b : Int) - (al.length : Int) = (dim : Int) := by have := hb2.out hw; omega
        have HE := Lib.hid (ha1.out hw)
        clear hw
        rw [i2]
        have i3 : (dim : Int) > 0 := by omega
        have hgA : some g ≠ (Value.slice A al.length ac).ownBlock := fun e => (h.sa g e.symm).2.1 rfl
        go_wp2_with (at_builtin; (refine app_zerosA 0 rfl _ _ 32 3 31 .i16 2 rfl Tryd.underlying32 Tryd.underlying3 (by kernel_rfl) (by decide) A ac al .i64 dim rfl rfl hD.oa (Nat.zero_le _) (by omega) ?_))
        intro A1 ac1 v1 o1 hgr hat
        have hsz := hgr.size
        have hln : (al ++ List.replicate dim (0 : Int)).length = al.length + dim := by simp
        have kb := hD.blk.kept hgr hgA
        have d4 := kb.cell 4
        have f4 := kb.frozen 4
        simp only [List.getElem?_cons_zero, List.getElem?_cons_succ] at d4
        have M1 := hD.growA (q := (wc.drewN nq).heap.size) (S' := into S w v1) o1 hgr (by rw [hln]; exact hat) (Nat.le_refl _) (fun k hk => hk.imp id fun hh => ⟨hh.1, by have := bD.size; omega⟩) (fun k h1 h2 => .inr ⟨by have := KD.size; omega, h2⟩)
        have K3 : Keep S w (v1.setCell ⟨g, 4, none⟩ (.slice A1 (al ++ List.replicate dim (0 : Int)).length ac1)) := KD.trans ((Keep.of_grown hgr fun k hk => (hD.sa k hk).1).trans (Keep.cell v1 g 4 _) fun k hk e => by subst e; exact hD.sg) fun k hk hh => hh.elim id fun hh => by omega
        rw [hln] at M1 K3
        clear hln kb c0 c1 c2 c3 c4 c5 hgr hat hgA o1 h hD i2
        go_wp2_with fail
        go_meet
        refine ⟨A1, ac1, ?_, K3⟩
        rw [HE.out]
        refine M1.weaken fun k hk => hk.imp id fun hh => ⟨hh.1, by simp; omega⟩
    case rest =>
      clear h c0 c1 c2 c3 c4 c5 ha0 ha1 hb1 hb2 e2
      obtain ⟨A1, ac1, h, K2⟩ := hcut
      generalize grownT st tk = tk1 at *
      generalize grownA st dim al = al1 at *
      have hal1 : (n + 1) * dim ≤ al1.length := by rw [HG.out]; exact Nat.mul_le_mul_right _ (by omega)
      have hpos : 0 < al1.length := Nat.lt_of_lt_of_le (Nat.mul_pos (by omega) hdim.1) hal1
      have hbig : al1.length ≤ 100000000 := by rw [HG.out]; exact Nat.le_trans (Nat.mul_le_mul (show max st.length (n + 1) ≤ 1001 by omega) hdim.2) (by decide)
      have hlt := HGL.out
      obtain ⟨gt, rfl, _⟩ := own_form h.ot (by omega)
      obtain ⟨ga, rfl, _⟩ := own_form h.oa hpos
      have hne := (h.st gt rfl).2
      obtain ⟨c0, c1, c2, c3, c4, c5⟩ := h.cells
      obtain ⟨x1, f1⟩ := OwnI.cell h.ot (n / 64) hlt
      rw [HGG.out] at x1
      generalize tk.getD (n / 64) 0 = x at *
      have f2 := h.blk.frozen 2
      have i2 : (n : Int) / 64 < (tk1.length : Int) := by omega
      have c2' := fun v : Value => (World.cell?_setCell_other wc ⟨gt, n / 64, none⟩ ⟨g, 2, none⟩ v (fun e => hne (by injection e))).trans c2
      replace hal1 := Lib.hid hal1
      replace hpos := Lib.hid hpos
      go_wp2_with fail
      go_region
      all_goals go_wp2_with fail
      have e1 := bits_set HB.out.1 HB.out.2 (n % 64) (by omega)
      rw [e1]
      have M3 := ((h.setT (n / 64) (((x.toNat ||| 2 ^ (n % 64) : Nat) : Int))).setCnt ((cntS st : Int) + 1)).below ((Below.refl _ _).drew)
      have K3 : Keep (into S w wc) wc (((wc.setCell ⟨gt, n / 64, none⟩ (.int .u64 ((x.toNat ||| 2 ^ (n % 64) : Nat) : Int))).setCell ⟨g, 2, none⟩ (.int .i64 ((cntS st : Int) + 1))).drew) :=
        (((Keep.cell wc gt (n / 64) _).more fun k hk => by subst hk; exact (h.st _ rfl).1).trans ((Keep.cell _ g 2 _).more (U := into S w wc) fun k hk => by subst hk; exact h.sg) fun _ _ hk => hk).trans (Keep.of_below _ ((Below.refl _ _).drew)) fun _ _ hk => hk
      have hs3 : (((wc.setCell ⟨gt, n / 64, none⟩ (.int .u64 ((x.toNat ||| 2 ^ (n % 64) : Nat) : Int))).setCell ⟨g, 2, none⟩ (.int .i64 ((cntS st : Int) + 1))).drew).heap.size = wc.heap.size := by simp
      generalize ((wc.setCell ⟨gt, n / 64, none⟩ (.int .u64 ((x.toNat ||| 2 ^ (n % 64) : Nat) : Int))).setCell ⟨g, 2, none⟩ (.int .i64 ((cntS st : Int) + 1))).drew = w3 at *
      clear c0 c1 c2 c3 c4 c5 x1 f1 f2 c2' h e1
      refine (SAt_calls _ g dim room n w3 M3 hdim.1 hdim.2 hal1.out hbig).mono ?_
      rintro e w4 ⟨rfl, b4⟩
      have M4 := M3.below b4
      have K4 := K2.trans (K3.trans (Keep.of_below _ b4) fun _ _ hk => hk) fun k hk hh => hh.elim id fun hh => by omega
      have hv4 : SlI w4 .i16 V c v := hv.same fun x hx => K4.block _ (by
        rcases hv.rd with h0 | ⟨ad, h0, h1⟩
        · have := congrArg List.length h0; rw [nums_length, HVL.out] at this; simp at this; omega
        · rw [h0] at hx; injection hx with hx; subst hx
          have := World.block_lt_of_cell? w _ (h1 0 _ (nums_get _ v 0 (by rw [HVL.out]; omega)))
          unfold Addr.add at this; simpa using this) (hva.out x hx)
      have hov : n * dim + v.length ≤ al1.length := by rw [HVL.out, ← Nat.succ_mul]; exact hal1.out
      obtain ⟨cur, hcur, hcs, hoc⟩ := own_copy (v := v) (o := n * dim) M4.oa hpos.out hov
      obtain ⟨ad, rfl, hrd⟩ : ∃ ad, V = some ad ∧ ∀ j u, (nums .i16 v)[j]? = some u → w4.cell? (ad.add j) = some u := by
        rcases hv4.rd with h0 | h0
        · have := congrArg List.length h0; rw [nums_length, HVL.out] at this; simp at this; omega
        · exact h0
      have z3 := b4.size
      have z4 := K4.size
      have M5 := M4.setA hoc (copyA_length hov)
      have K5 := K4.trans (Keep.row w4 ga _) (w2 := w4.setRow ga (cur.toList.take (n * dim) ++ (nums .i16 v ++ cur.toList.drop (n * dim + (nums .i16 v).length))).toArray) fun k hk e => by
        subst e
        rcases (M4.sa _ rfl).1 with h1 | h1
        · exact h1
        · have h2 : w.heap.size ≤ k := h1.1
          omega
      clear M3 M4 K3 hoc
      go_wp2_with ((refine wpList_copy_own rfl _ _ 32 32 rfl 31 Tryd.underlying32 (by kernel_rfl) ga (n * dim) dim dim ad v.length c rfl rfl cur 31 hcur (nums .i16 v) (by rw [nums_length, HVL.out]; exact (Nat.min_self dim).symm) hrd (by rw [nums_length]; omega) (nums_one _ _) ?_))
      go_wp2_with fail
      go_ret2
      refine ⟨into S w wc, by rw [HNN.out]; rfl, ⟨HD.out, _, _, some ⟨gt, 0, none⟩, tc1, some ⟨ga, 0, none⟩, ac1, R, rc, ?_, HW.out, HN.out⟩, K5, fun k hk => ?_⟩
      · rw [HC.out]; exact M5
      · rcases hk with hk | hk
        · exact .inl hk
        · exact .inr ⟨hk.1, by simp [World.setRow]; omega⟩
end Go.Proofs.YtcmdjnllpcnpjaaDoor
