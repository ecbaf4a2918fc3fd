/- SlotLow. -/
import Derived.Test.YtcmdjnllpcnpjaaDoorSlotNames
import Derived.Test.YtcmdjnllpcnpjaaDoorMemCut
import Derived.Deep.CutBlock
import Derived.Deep.DeepCutAuto
namespace Go.Proofs.YtcmdjnllpcnpjaaDoor
set_option linter.unusedVariables false
set_option linter.unusedSimpArgs false
open Go.RowKit
theorem sliced_zero (A : Option Addr) (m c s : Nat) : sliced A 0 m c s = .slice A m c := by
  unfold sliced
  cases A <;> simp [Addr.add]
theorem cutS_h {P : Program} (t e : TypeId) (kh : IntKind) {i : TypeInfo} (ht : P.underlying t = some (.slice e)) (hi : P.info? e = some i) (A : Option Addr) (n c m : Nat) (hm : m ≤ n) (hc : n ≤ c) :
    ∀ W : World, (Instr.slice t (.slice A n c) none (some (.int kh (m : Int))) none).run P W = .ok (.slice A m c) W := by
  intro W
  have hel : P.elem t = e := by simp [Program.elem, ht]
  have hu : P.underlying t = some (.slice (P.elem t)) := by rw [hel]; exact ht
  rw [run_slice_h W t A n c hu kh (m : Int) (Int.natCast_nonneg _) (by omega), hel]
  simp [sizeOf, typeInfo, hi, Result.andThen, sliced_zero]
theorem least_le_cnt (st : St) : leastS st ≤ cntS st := by
  have h1 : cntS (st.take (leastS st)) = (st.take (leastS st)).length := by
    unfold cntS
    rw [List.countP_eq_length]
    intro x hx
    obtain ⟨i, hi, rfl⟩ := List.mem_iff_getElem.1 hx
    rw [List.length_take] at hi
    have := used_below (st := st) (j := i) (by omega)
    rw [used_get (by omega)] at this
    rw [List.getElem_take]; exact this
  have h2 : cntS st = cntS (st.take (leastS st)) + cntS (st.drop (leastS st)) := by rw [← cnt_append, List.take_append_drop]
  have := least_le st
  rw [h1, List.length_take] at h2
  omega
theorem cnt_lt_of_least {st : St} (h : leastS st < st.length) : cntS st < st.length := by
  have h1 := cnt_set st (leastS st) h (some [])
  rw [least_free] at h1
  have h2 := cnt_le (st.set (leastS st) (some []))
  rw [List.length_set] at h2
  simp at h1
  omega
theorem room_iff {st : St} {room : Nat} (h : st.length ≤ room) : leastS st < room ↔ cntS st < room := by
  have h1 := least_le_cnt st
  have h2 := least_le st
  have h3 := cnt_le st
  refine ⟨fun h4 => ?_, fun h4 => by omega⟩
  rcases Nat.lt_or_ge (leastS st) st.length with h5 | h5
  · have := cnt_lt_of_least h5; omega
  · omega
theorem least_congr {a b : St} (h : ∀ n, used a n = used b n) : leastS a = leastS b := least_eq (fun j hj => by rw [h]; exact used_below hj) (by rw [h]; exact least_free b)
structure LowP (room : Nat) (sts stt : St) (th : List Int) : Prop where
  eq : ∀ n, used sts n = used stt n
  mem : ∀ y ∈ th, 0 ≤ y ∧ used sts y.toNat = true
  nd : th.Nodup
  c1 : cntS sts = th.length
  c2 : cntS stt = th.length
  l1 : sts.length ≤ room
  l2 : stt.length ≤ room
theorem LowP.nil (room : Nat) : LowP room [] [] [] := ⟨fun _ => rfl, (fun y h => by cases h), List.nodup_nil, rfl, rfl, Nat.zero_le _, Nat.zero_le _⟩
theorem LowP.put {room : Nat} {sts stt : St} {th : List Int} (h : LowP room sts stt th) (hr : leastS sts < room) (u v : List Int) : LowP room (putS sts u) (putS stt v) (th ++ [(leastS sts : Int)]) := by
  have he := least_congr h.eq
  refine ⟨fun n => ?_, fun y hy => ?_, ?_, ?_, ?_, ?_, ?_⟩
  · rw [putS_used, putS_used, he, h.eq]
  · rcases List.mem_append.1 hy with hy | hy
    · exact ⟨(h.mem y hy).1, by rw [putS_used, (h.mem y hy).2]; simp⟩
    · rw [List.mem_singleton] at hy
      subst hy
      exact ⟨by omega, by rw [putS_used, Int.toNat_natCast]; simp⟩
  · rw [List.nodup_append]
    refine ⟨h.nd, by simp, fun a ha b hb e => ?_⟩
    rw [List.mem_singleton] at hb
    subst e; subst hb
    have := (h.mem _ ha).2
    rw [Int.toNat_natCast, least_free] at this
    cases this
  · rw [cnt_put, h.c1]; simp
  · rw [cnt_put, h.c2]; simp
  · rw [putS_length]; have := h.l1; omega
  · rw [putS_length, ← he]; have := h.l2; omega
theorem LowP.free {room : Nat} {sts stt : St} {th : List Int} (h : LowP room sts stt th) (k : Nat) (hk : k < th.length) : LowP room (freeS sts (th.getD k 0).toNat) (freeS stt (th.getD k 0).toNat) (th.take k ++ th.drop (k + 1)) := by
  have hg : th.getD k 0 = th[k] := by rw [List.getD_eq_getElem?_getD, List.getElem?_eq_getElem hk]; rfl
  have hm : th.getD k 0 ∈ th := by rw [hg]; exact List.getElem_mem hk
  have hs : th = th.take k ++ th[k] :: th.drop (k + 1) := by simp
  have hnd := h.nd
  rw [hs] at hnd
  have hn2 : (th[k] :: (th.take k ++ th.drop (k + 1))).Nodup := (List.perm_middle.nodup_iff).1 hnd
  rw [List.nodup_cons] at hn2
  obtain ⟨h1, h2⟩ := h.mem _ hm
  have h3 := h2
  rw [h.eq] at h3
  refine ⟨fun n => by rw [freeS_used, freeS_used, h.eq], fun y hy => ?_, hn2.2, ?_, ?_, by rw [freeS_length]; exact h.l1, by rw [freeS_length]; exact h.l2⟩
  · have hy2 : y ∈ th := (List.mem_append.1 hy).elim List.mem_of_mem_take List.mem_of_mem_drop
    obtain ⟨y0, y1⟩ := h.mem y hy2
    refine ⟨y0, ?_⟩
    have hne : ¬ y.toNat = (th.getD k 0).toNat := fun e => by
      have : y = th.getD k 0 := by omega
      rw [this, hg] at hy
      exact hn2.1 hy
    rw [freeS_used, y1, decide_eq_false hne]; rfl
  · have := cnt_free sts _ h2; have := h.c1
    rw [List.length_append, List.length_take, List.length_drop]; omega
  · have := cnt_free stt _ h3; have := h.c2
    rw [List.length_append, List.length_take, List.length_drop]; omega
/-- Both slots and the list, apart. -/
structure LowI (w0 w : World) (g g' room : Nat) (sts stt : St) (th : List Int) (A : Option Addr) (c : Nat) (S U : Nat → Prop) : Prop where
  ms : Mine w0 w S g 2 room sts []
  mt : Mine w0 w U g' 1 room stt []
  ap : ∀ k, S k → ¬ U k
  th : OwnI w w0.heap.size 3 .i64 A c th
  av : Away w S A
  au : Away w U A
theorem LowI.below {w0 w w' : World} {g g' room : Nat} {sts stt : St} {th : List Int} {A : Option Addr} {c : Nat} {S U : Nat → Prop} (h : LowI w0 w g g' room sts stt th A c S U) (b : Below w.heap.size w w') : LowI w0 w' g g' room sts stt th A c S U :=
  ⟨h.ms.below b, h.mt.below b, h.ap, own_below h.th b, h.av.step b.size fun k hk => .inl hk, h.au.step b.size fun k hk => .inl hk⟩
theorem own_away {w w' : World} {S : Nat → Prop} {base E : Nat} {k : IntKind} {A : Option Addr} {c : Nat} {xs : List Int} (h : OwnI w base E k A c xs) (K : Keep S w w') (ha : Away w S A) : OwnI w' base E k A c xs := row_same h fun q hq => by
  cases A with
  | none => cases hq
  | some x => injection hq with hq; subst hq; exact K.block _ (ha x rfl).2 (ha x rfl).1
theorem LowI.stepS {w0 w w' : World} {g g' room : Nat} {sts sts' stt : St} {th : List Int} {A : Option Addr} {c : Nat} {S S' U : Nat → Prop} (h : LowI w0 w g g' room sts stt th A c S U) (M : Mine w0 w' S' g 2 room sts' []) (K : Keep S w w') (hS : ∀ k, S' k → S k ∨ (w.heap.size ≤ k ∧ k < w'.heap.size)) : LowI w0 w' g g' room sts' stt th A c S' U :=
  ⟨M, h.mt.other K (fun k hk => (h.ms.lo k hk).1) (fun k hk hu => h.ap k hu hk), (fun k hk hu => by
    rcases hS k hk with h1 | h1
    · exact h.ap k h1 hu
    · have := (h.mt.lo k hu).2; omega), own_away h.th K h.av, h.av.step K.size hS, h.au.step K.size fun k hk => .inl hk⟩
theorem LowI.stepT {w0 w w' : World} {g g' room : Nat} {sts stt stt' : St} {th : List Int} {A : Option Addr} {c : Nat} {S U U' : Nat → Prop} (h : LowI w0 w g g' room sts stt th A c S U) (M : Mine w0 w' U' g' 1 room stt' []) (K : Keep U w w') (hS : ∀ k, U' k → U k ∨ (w.heap.size ≤ k ∧ k < w'.heap.size)) : LowI w0 w' g g' room sts stt' th A c S U' :=
  ⟨h.ms.other K (fun k hk => (h.mt.lo k hk).1) (fun k hk hu => h.ap k hk hu), M, (fun k hk hu => by
    rcases hS k hu with h1 | h1
    · exact h.ap k hk h1
    · have := (h.ms.lo k hk).2; omega), own_away h.th K h.au, h.av.step K.size fun k hk => .inl hk, h.au.step K.size hS⟩
/-- The list's row is another one. -/
theorem LowI.row {w0 w w' : World} {g g' room : Nat} {sts stt : St} {th th' : List Int} {A A' : Option Addr} {c c' q : Nat} {S U : Nat → Prop} (h : LowI w0 w g g' room sts stt th A c S U) (ho : OwnI w' w0.heap.size 3 .i64 A' c' th') (hg : w.grownBy w' (Value.slice A th.length c).ownBlock)
    (hat : (Value.slice A' th'.length c').ownBlock = (Value.slice A th.length c).ownBlock ∨ (Value.slice A' th'.length c').ownBlock = some q) (hq : w.heap.size ≤ q) : LowI w0 w' g g' room sts stt th' A' c' S U := by
  have K : Keep (fun k => (Value.slice A th.length c).ownBlock = some k) w w' := Keep.of_grown hg fun k hk => hk
  have hA : ∀ k, (Value.slice A th.length c).ownBlock = some k → ∃ x, A = some x ∧ x.block = k := fun k hk => by
    cases A with
    | none => cases hk
    | some x => injection hk with hk; exact ⟨x, rfl, hk⟩
  have new : ∀ {S : Nat → Prop}, (∀ k, S k → k < w.heap.size) → Away w S A → Away w' S A' := fun hlt ha x hx => by
    have hb := own_block ho x hx
    refine ⟨fun hh => ?_, hb.2⟩
    subst hx
    rcases hat with e | e
    · obtain ⟨y, hy, e2⟩ := hA x.block (by rw [← e]; rfl)
      rw [← e2] at hh
      exact (ha y hy).1 hh
    · injection e with e
      have := hlt _ hh; omega
  exact ⟨h.ms.other K (fun k hk => own_base h.th k hk) (fun k hk hu => by obtain ⟨x, hx, e⟩ := hA k hu; subst e; exact (h.av x hx).1 hk),
    h.mt.other K (fun k hk => own_base h.th k hk) (fun k hk hu => by obtain ⟨x, hx, e⟩ := hA k hu; subst e; exact (h.au x hx).1 hk), h.ap, ho,
    new (fun k hk => (h.ms.lo k hk).2) h.av, new (fun k hk => (h.mt.lo k hk).2) h.au⟩
theorem LowI.fresh {w0 w w' : World} {g g' room : Nat} {sts stt : St} {th th' : List Int} {A A' : Option Addr} {c c' : Nat} {S U : Nat → Prop} (h : LowI w0 w g g' room sts stt th A c S U) (b : Below w.heap.size w w') (ho : OwnI w' w.heap.size 3 .i64 A' c' th') : LowI w0 w' g g' room sts stt th' A' c' S U :=
  ⟨h.ms.below b, h.mt.below b, h.ap, own_mono ho h.ms.B.size, (fun x hx => ⟨fun hh => by have := (h.ms.lo _ hh).2; have := own_block ho x hx; omega, (own_block ho x hx).2⟩), (fun x hx => ⟨fun hh => by have := (h.mt.lo _ hh).2; have := own_block ho x hx; omega, (own_block ho x hx).2⟩)⟩
theorem cell_away {w w' : World} {S : Nat → Prop} {ad : Addr} {k : Nat} {v : Value} (K : Keep S w w') (ha : Away w S (some ad)) (hc : w.cell? (ad.add k) = some v) : w'.cell? (ad.add k) = some v := by
  have hb : (ad.add k).block = ad.block := by unfold Addr.add; split <;> rfl
  rw [World.cell?_of_block (w := w) (K.block _ (World.block_lt_of_cell? w _ hc) (by rw [hb]; exact (ha ad rfl).1))]
  exact hc
theorem free_has {st : St} {y : Int} (h0 : 0 ≤ y) (h : used st y.toNat = true) : hasI st y = true ∧ freeE st y = freeS st y.toNat ∧ hasI (freeS st y.toNat) y = false := by
  have h1 : hasI st y = true := by unfold hasI; simp [h0, h]
  refine ⟨h1, by unfold freeE; rw [h1]; rfl, ?_⟩
  unfold hasI
  rw [freeS_used]; simp
attribute [local go_sem] run_max
set_option maxHeartbeats 8000000 in
set_option maxRecDepth 100000 in
theorem SlotLow_row (r : Int) (A0 : Option Addr) (c0 : Nat) (xs : List Int) (w : World) (hT : TabG w) (hr : (Lit.int .i64 r).wf = true) (hx : SlI w .i64 A0 c0 xs) (fx : ∀ n ∈ xs, (Lit.int .i64 n).wf = true) (_sx : xs.length * 8 ≤ 140737488351232) :
    Calls Tryd.prog 3 #[.int .i64 r, .slice A0 xs.length c0] w fun e w' => e = .returned (.bool true) ∧ Below w.heap.size w w' := by
  have hmix : Tryd.prog.follows .mixedOrders = true := by kernel_rfl
  go_enter Tryd.func3, Tryd.ntmps3
  go_wp2_with fail
  refine (lives_calls w hT).mono ?_
  rintro e w1 ⟨rfl, b1⟩
  by_cases hl : xs.length ≤ 100
  case neg =>
    have i1 : (xs.length : Int) > 100 := by omega
    have hm := hx.len
    go_wp2_with fail
    go_ret
    exact ⟨rfl, b1⟩
  have i1 : ¬ (xs.length : Int) > 100 := by omega
  go_wp2_with fail
  refine (Pick_calls r 40 _ (by decide) (by decide)).mono ?_
  rintro e _ ⟨rfl, rfl⟩
  have p0 := Int.emod_nonneg r (show (40 : Int) ≠ 0 by decide)
  have p1 := Int.emod_lt_of_pos r (show (0 : Int) < 40 by decide)
  obtain ⟨room, hroom⟩ : ∃ n : Nat, (n : Int) = 1 + r % 40 := ⟨(1 + r % 40).toNat, by omega⟩
  have hr1 : 1 ≤ room := by omega
  have hr2 : room ≤ 40 := by omega
  go_wp2_with fail
  simp only [← hroom]
  clear hroom p0 p1 hr
  refine (New_mine 2 room hT b1 (by decide) (by decide) hr1 (by omega)).mono ?_
  rintro e w2 ⟨g, S, rfl, M2, b2, lo2⟩
  have bw2 := M2.B
  go_wp2_with fail
  refine (New_mine 1 room hT bw2 (by decide) (by decide) hr1 (by omega)).mono ?_
  rintro e w3 ⟨g', U, rfl, M3, b3, lo3⟩
  have H3 : LowI w w3 g g' room [] [] [] none 0 S U := ⟨M2.below b3, M3, (fun k hk hu => by have := (M2.lo k hk).2; have := lo3 k hu; omega), own_nil _ _ _ _, (fun x hx => by cases hx), (fun x hx => by cases hx)⟩
  clear M2 M3 b1 b2 b3 bw2 lo2 lo3
  go_wp2_with fail
  go_loopg [9, 10, 11, 12, 13, 14, 15, 16] (xs.length + 1) (fun gk gr tv i u12 u13 u14 u15 u16 w' => ∃ (j G : Nat) (th : List Int) (A : Option Addr) (c : Nat) (sts stt : St) (S U : Nat → Prop), gr = .int .i64 (G : Int) ∧ tv = .slice A th.length c ∧ i = .int .i64 (j : Int) ∧ j ≤ xs.length ∧ xs.length < j + gk ∧ th.length ≤ G ∧ G ≤ 40 ∧ LowP room sts stt th ∧ LowI w w' g g' room sts stt th A c S U)
  case atStart => exact ⟨0, 0, [], none, 0, [], [], S, U, rfl, rfl, rfl, by omega, by omega, Nat.le_refl _, by omega, LowP.nil _, H3⟩
  case round =>
    clear H3
    obtain ⟨j, G, th, A, c, sts, stt, S, U, rfl, rfl, rfl, hj, hg, hG1, hG2, HP, H⟩ := hrel
    replace HP := Lib.hid HP
    have hthl : th.length ≤ 40 := by omega
    have hls : sts.length ≤ 40 := by have := HP.out.l1; omega
    have hlt' : stt.length ≤ 40 := by have := HP.out.l2; omega
    by_cases hlt : j < xs.length
    case neg =>
      have i2 : ¬ (j : Int) < (xs.length : Int) := by omega
      have C1 := SCount_calls S g 2 room sts [] wr H.ms.M
      have C2 := SCount_calls U g' 1 room stt [] wr H.mt.M
      rw [HP.out.c1] at C1
      rw [HP.out.c2] at C2
      have BW := H.ms.B
      clear H
      go_wp2_with fail
      refine C1.mono ?_
      rintro e _ ⟨rfl, rfl⟩
      go_wp2_with fail
      refine C2.mono ?_
      rintro e _ ⟨rfl, rfl⟩
      go_wp2_with fail
      go_ret
      exact ⟨rfl, BW⟩
    have i2 : (j : Int) < (xs.length : Int) := by omega
    obtain ⟨ad, rfl, hcx⟩ := (hx.below H.ms.B).get j hlt
    generalize xs.getD j 0 = x at *
    go_upto_region 15 with fail
    go_cut [57] (fun s57 wx => s57 = .bool (decide (x.tmod 2 = 0 ∨ th.length = 0)) ∧ wx = wr)
    case first =>
      by_cases h2 : x.tmod 2 = 0
      · have h3 : (x.tmod 2 == 0) = true := by simp [h2]
        have HD := Lib.hid (show decide (x.tmod 2 = 0 ∨ th.length = 0) = true from decide_eq_true (.inl h2))
        clear h2
        go_wp2_with fail
        go_meet
        exact ⟨by rw [HD.out], rfl⟩
      · have h3 : (x.tmod 2 == 0) = false := by simp [h2]
        by_cases h4 : th.length = 0
        · have h5 : ((th.length : Int) == 0) = true := by simp [h4]
          have HD := Lib.hid (show decide (x.tmod 2 = 0 ∨ th.length = 0) = true from decide_eq_true (.inr h4))
          clear h2 h4
          go_wp2_with fail
          go_meet
          exact ⟨by rw [HD.out], rfl⟩
        · have h5 : ((th.length : Int) == 0) = false := by rw [beq_eq_false_iff_ne]; omega
          have HD := Lib.hid (show decide (x.tmod 2 = 0 ∨ th.length = 0) = false from decide_eq_false (fun hh => hh.elim h2 h4))
          clear h2 h4
          go_wp2_with fail
          go_meet
          exact ⟨by rw [HD.out], rfl⟩
    case rest =>
      obtain ⟨rfl, rfl⟩ := hcut
      by_cases hb : x.tmod 2 = 0 ∨ th.length = 0
      · rw [show decide (x.tmod 2 = 0 ∨ th.length = 0) = true from decide_eq_true hb]
        clear hb hcx
        have hj16 : (j : Int) ≤ 100 := by omega
        have a1 := H.below (below_box0 wc (.cells #[.int .i16 j, .int .i16 (-1)] 31))
        have P1 := Put_mine (some ⟨wc.heap.size, 0, none⟩) 2 [(j : Int), -1] a1.ms (lit_sl [(j : Int), -1] (by simp [maxLen])) (fun x hx => by cases hx; intro hh; have := (H.ms.lo _ hh).2; exact absurd this (Nat.lt_irrefl _)) (by omega)
        have hri := room_iff HP.out.l1
        rw [HP.out.c1] at hri
        have hle := least_congr HP.out.eq
        clear H
        by_cases hrm : leastS sts < room
        · have ok1 : okP 2 room sts [(j : Int), -1] := ⟨rfl, hrm⟩
          have ok2 : okP 1 room stt [7] := ⟨rfl, by rw [← hle]; exact hrm⟩
          have HPN := Lib.hid (HP.out.put hrm [(j : Int), -1] [7])
          have hln := least_le_cnt sts
          rw [HP.out.c1] at hln
          rw [show putN 2 room sts [(j : Int), -1] = (leastS sts : Nat) from by unfold putN; rw [if_pos ok1], show putX 2 room sts [(j : Int), -1] = 0 from by unfold putX; rw [if_neg (by simp), if_pos hrm], show putE 2 room sts [(j : Int), -1] = putS sts [(j : Int), -1] from by unfold putE; rw [if_pos ok1]] at P1
          have hx2 : putX 1 room stt [7] = 0 := by unfold putX; rw [if_neg (by simp), if_pos (by rw [← hle]; exact hrm)]
          have hn2 : putN 1 room stt [7] = (leastS sts : Nat) := by unfold putN; rw [if_pos ok2, hle]
          have he2 : putE 1 room stt [7] = putS stt [7] := by unfold putE; rw [if_pos ok2]
          have hrt : th.length < room := hri.1 hrm
          clear ok1 ok2 hri hle
          have HX := Lib.hid hx2
          have HN2 := Lib.hid hn2
          have HE2 := Lib.hid he2
          clear hx2 hn2 he2
          generalize leastS sts = n at *
          go_wp2_with fail
          refine P1.mono ?_
          rintro e w4 ⟨S4, rfl, M4, K4, hS4⟩
          have H4 := a1.stepS M4 K4 hS4
          clear P1 M4 K4 hS4 a1
          have a4 := H4.below (below_box0 w4 (.cells #[.int .i16 7] 31))
          have P2 := Put_mine (some ⟨w4.heap.size, 0, none⟩) 1 [7] a4.mt (lit_sl [7] (by decide)) (fun x hx => by cases hx; intro hh; have := (H4.mt.lo _ hh).2; exact absurd this (Nat.lt_irrefl _)) (by omega)
          rw [HX.out, HN2.out, HE2.out] at P2
          clear H4
          go_wp2_with fail
          refine P2.mono ?_
          rintro e w5 ⟨U5, rfl, M5, K5, hS5⟩
          have H5 := a4.stepT M5 K5 hS5
          clear P2 M5 K5 hS5 a4
          have i3 : (th.length : Int) < (room : Int) := by omega
          go_wp2_with (at_builtin; refine app_one w.heap.size rfl _ _ 22 3 .i64 8 rfl Tryd.underlying22 (by kernel_rfl) (by decide) A c th (n : Int) rfl rfl H5.th (by have := H5.ms.B.size; omega) (by omega) ?_)
          intro A6 c6 w6 o6 hg6 hat6
          have hln6 : (th ++ [(n : Int)]).length = th.length + 1 := by simp
          have H6 := H5.row (q := w5.heap.size + 1) o6 hg6 (by rw [hln6]; exact hat6) (by omega)
          have HL6 := Lib.hid hln6
          clear hln6 H5 o6 hg6 hat6
          try rw [HL6.out]
          have i4 : ¬ (n : Int) < 0 := by omega
          have i5 : ¬ (n : Int) ≥ max (G : Int) ((th.length : Int) + 1) := by omega
          go_wp2_with fail
          go_roundg (gk - 1)
          case measure => omega
          case rel =>
            refine ⟨j + 1, max G (th.length + 1), th ++ [(n : Int)], A6, c6, _, _, S4, U5, congrArg (Value.int .i64) (by omega), by rw [HL6.out], by simp, by omega, by omega, by rw [HL6.out]; omega, ?_, HPN.out, H6⟩
            have h1 := HPN.out.c1; have h2 := HPN.out.l1; have h3 := cnt_le (putS sts [(j : Int), -1])
            rw [HL6.out] at h1; omega
        · have ok1 : ¬ okP 2 room sts [(j : Int), -1] := fun hh => hrm hh.2
          have ok2 : ¬ okP 1 room stt [7] := fun hh => hrm (by rw [hle]; exact hh.2)
          rw [show putN 2 room sts [(j : Int), -1] = 0 from by unfold putN; rw [if_neg ok1], show putX 2 room sts [(j : Int), -1] = 7 from by unfold putX; rw [if_neg (by simp), if_neg hrm], show putE 2 room sts [(j : Int), -1] = sts from by unfold putE; rw [if_neg ok1]] at P1
          have HX := Lib.hid (show putX 1 room stt [7] = 7 by unfold putX; rw [if_neg (by simp), if_neg (by rw [← hle]; exact hrm)])
          have HN2 := Lib.hid (show putN 1 room stt [7] = 0 by unfold putN; rw [if_neg ok2])
          have HE2 := Lib.hid (show putE 1 room stt [7] = stt by unfold putE; rw [if_neg ok2])
          have hrt : ¬ th.length < room := fun hh => hrm (hri.2 hh)
          clear ok1 ok2 hri hle hrm
          go_wp2_with fail
          refine P1.mono ?_
          rintro e w4 ⟨S4, rfl, M4, K4, hS4⟩
          have H4 := a1.stepS M4 K4 hS4
          clear P1 M4 K4 hS4 a1
          have a4 := H4.below (below_box0 w4 (.cells #[.int .i16 7] 31))
          have P2 := Put_mine (some ⟨w4.heap.size, 0, none⟩) 1 [7] a4.mt (lit_sl [7] (by decide)) (fun x hx => by cases hx; intro hh; have := (H4.mt.lo _ hh).2; exact absurd this (Nat.lt_irrefl _)) (by omega)
          rw [HX.out, HN2.out, HE2.out] at P2
          clear H4
          go_wp2_with fail
          refine P2.mono ?_
          rintro e w5 ⟨U5, rfl, M5, K5, hS5⟩
          have H5 := a4.stepT M5 K5 hS5
          clear P2 M5 K5 hS5 a4
          have i3 : ¬ (th.length : Int) < (room : Int) := by omega
          go_wp2_with fail
          go_roundg (gk - 1)
          case measure => omega
          case rel => exact ⟨j + 1, G, th, A, c, sts, stt, S4, U5, rfl, rfl, by simp, by omega, by omega, hG1, hG2, HP.out, H5⟩
      · rw [show decide (x.tmod 2 = 0 ∨ th.length = 0) = false from decide_eq_false hb]
        have hpos : 0 < th.length := by omega
        clear hb
        go_wp2_with fail
        refine (Pick_calls x th.length _ (by omega) (by omega)).mono ?_
        rintro e _ ⟨rfl, rfl⟩
        have q0 := Int.emod_nonneg x (show (th.length : Int) ≠ 0 by omega)
        have q1 := Int.emod_lt_of_pos x (show (0 : Int) < th.length by omega)
        obtain ⟨k, hk⟩ : ∃ k : Nat, (k : Int) = x % (th.length : Int) := ⟨(x % (th.length : Int)).toNat, by omega⟩
        rw [← hk] at q0 q1 ⊢
        clear hk
        have hkl : k < th.length := by omega
        obtain ⟨at_, rfl, hct⟩ := (OwnI.sl H.th).get k hkl
        have hym : th.getD k 0 ∈ th := by rw [List.getD_eq_getElem?_getD, List.getElem?_eq_getElem hkl]; exact List.getElem_mem hkl
        obtain ⟨y0, y1⟩ := HP.out.mem _ hym
        have y2 := y1
        rw [HP.out.eq] at y2
        have HPN := Lib.hid (HP.out.free k hkl)
        have yb := used_lt y1
        generalize th.getD k 0 = y at *
        obtain ⟨f1, f2, f3⟩ := free_has y0 y1
        obtain ⟨f4, f5, f6⟩ := free_has y0 y2
        have F1 := Free_mine y H.ms (by omega) (by omega)
        rw [f1, f2] at F1
        clear hym y1 y2 f1 f2
        go_wp2_with fail
        refine F1.mono ?_
        rintro e w4 ⟨rfl, M4, K4⟩
        replace hct := cell_away K4 H.av hct
        have H4 := H.stepS M4 K4 (fun k hk => .inl hk)
        clear F1 M4 K4 H
        have F2 := Free_mine y H4.mt (by omega) (by omega)
        rw [f4, f5] at F2
        clear f4 f5 f6
        go_wp2_with fail
        refine F2.mono ?_
        rintro e w5 ⟨rfl, M5, K5⟩
        replace hct := cell_away K5 H4.au hct
        have H5 := H4.stepT M5 K5 (fun k hk => .inl hk)
        clear F2 M5 K5 H4
        have F3 := Free_mine y H5.ms (by omega) (by rw [freeS_length]; omega)
        rw [f3] at F3
        have hfe : freeE (freeS sts y.toNat) y = freeS sts y.toNat := by unfold freeE; rw [f3]; rfl
        rw [hfe] at F3
        clear f3 hfe
        go_wp2_with fail
        refine F3.mono ?_
        rintro e wz ⟨rfl, M6, K6⟩
        have H := H5.stepS M6 K6 (fun k hk => .inl hk)
        clear F3 M6 K6 H5 hct
        have hrc := (OwnI.sl H.th).le
        have hcutH := cutS_h (P := Tryd.prog) 22 3 .i64 Tryd.underlying22 (i := _) rfl (some at_) th.length c k (by omega) hrc
        have hwr : IntKind.i64.wrap ((k : Int) + 1) = (k : Int) + 1 := by rw [IntKind.wrap_i64]; omega
        obtain ⟨RL, hcutL, hRL, _⟩ := cut_l_i (P := Tryd.prog) 22 3 .i64 Tryd.underlying22 (i := _) rfl rfl (some at_) th.length c (k + 1) ((k : Int) + 1) (by simp) (by omega) hrc (th.length - (k + 1)) (c - (k + 1)) rfl rfl
        replace hRL := Lib.hid hRL
        go_wp2_with fail
        have hlk : (th.take k).length = k := by rw [List.length_take]; omega
        have OWN := fun W (hW : SlI W .i64 (some at_) c (th.take k)) => Own_int_calls (some at_) c (th.take k) W hW (by omega)
        rw [hlk] at OWN
        refine region_L (oneQ 99 (fun _ => True) (fun _ => True)) hmix ?_
        have bd : Below wz.heap.size wz wz.drew := (Below.refl _ _).drew
        replace H := H.below bd
        clear bd
        generalize wz.drew = V at *
        have hS : oneQ 99 (fun _ => True) (fun _ => True) (Array.replicate 10 false) V := ⟨fun _ => trivial, trivial⟩
        refine anyL_take (fun _ => True) [] (i := 0) (v := ?_) rfl (by kernel_rfl) (by kernel_rfl) (by kernel_rfl) (fun _ _ _ h => h) (by kernel_rfl) (one_ind (i := 0) (by decide)) (fun _ _ _ _ => trivial) (Or.inl ⟨by rfl, ?_⟩) hS ?_
        rotate_left
        · intro X hX
          clear hX
          go_simp
          try with_reducible rfl
        try simp only [List.getElem_toArray, List.getElem_cons_zero, List.getElem_cons_succ]
        simp only [Act.put, List.setIfInBounds_toArray, List.set_cons_zero, List.set_cons_succ]
        replace hS := (one_ind (i := 0) (by decide) _ _).2 hS
        refine anyL_take (fun _ => True) [] (i := 1) (v := ?_) rfl (by kernel_rfl) (by kernel_rfl) (by kernel_rfl) (fun _ _ _ h => h) (by kernel_rfl) (one_ind (i := 1) (by decide)) (fun _ _ _ _ => trivial) (Or.inl ⟨by rfl, ?_⟩) hS ?_
        rotate_left
        · intro X hX
          clear hX
          go_simp
          try with_reducible rfl
        try simp only [List.getElem_toArray, List.getElem_cons_zero, List.getElem_cons_succ]
        simp only [Act.put, List.setIfInBounds_toArray, List.set_cons_zero, List.set_cons_succ]
        replace hS := (one_ind (i := 1) (by decide) _ _).2 hS
        refine anyL_take (fun _ => True) [] (i := 2) (v := ?_) rfl (by kernel_rfl) (by kernel_rfl) (by kernel_rfl) (fun _ _ _ h => h) (by kernel_rfl) (one_ind (i := 2) (by decide)) (fun _ _ _ _ => trivial) (Or.inl ⟨by rfl, ?_⟩) hS ?_
        rotate_left
        · intro X hX
          clear hX
          go_simp
          try with_reducible rfl
        try simp only [List.getElem_toArray, List.getElem_cons_zero, List.getElem_cons_succ]
        simp only [Act.put, List.setIfInBounds_toArray, List.set_cons_zero, List.set_cons_succ]
        replace hS := (one_ind (i := 2) (by decide) _ _).2 hS
        refine anyL_take (fun _ => True) [] (i := 4) (v := ?_) rfl (by kernel_rfl) (by kernel_rfl) (by kernel_rfl) (fun _ _ _ h => h) (by kernel_rfl) (one_ind (i := 4) (by decide)) (fun _ _ _ _ => trivial) (Or.inl ⟨by rfl, ?_⟩) hS ?_
        rotate_left
        · intro X hX
          clear hX
          go_simp
          try with_reducible rfl
        try simp only [List.getElem_toArray, List.getElem_cons_zero, List.getElem_cons_succ]
        simp only [Act.put, List.setIfInBounds_toArray, List.set_cons_zero, List.set_cons_succ]
        replace hS := (one_ind (i := 4) (by decide) _ _).2 hS
        refine anyL_take (fun _ => True) [] (i := 5) (v := ?_) rfl (by kernel_rfl) (by kernel_rfl) (by kernel_rfl) (fun _ _ _ h => h) (by kernel_rfl) (one_ind (i := 5) (by decide)) (fun _ _ _ _ => trivial) (Or.inl ⟨by rfl, ?_⟩) hS ?_
        rotate_left
        · intro X hX
          clear hX
          go_simp
          try with_reducible rfl
        try simp only [List.getElem_toArray, List.getElem_cons_zero, List.getElem_cons_succ]
        simp only [Act.put, List.setIfInBounds_toArray, List.set_cons_zero, List.set_cons_succ]
        replace hS := (one_ind (i := 5) (by decide) _ _).2 hS
        refine anyL_take (fun _ => True) [] (i := 6) (v := ?_) rfl (by kernel_rfl) (by kernel_rfl) (by kernel_rfl) (fun _ _ _ h => h) (by kernel_rfl) (one_ind (i := 6) (by decide)) (fun _ _ _ _ => trivial) (Or.inl ⟨by rfl, ?_⟩) hS ?_
        rotate_left
        · intro X hX
          clear hX
          go_simp
          try with_reducible rfl
        try simp only [List.getElem_toArray, List.getElem_cons_zero, List.getElem_cons_succ]
        simp only [Act.put, List.setIfInBounds_toArray, List.set_cons_zero, List.set_cons_succ]
        replace hS := (one_ind (i := 6) (by decide) _ _).2 hS
        refine anyL_take (fun _ => True) [] (i := 7) (v := ?_) rfl (by kernel_rfl) (by kernel_rfl) (by kernel_rfl) (fun _ _ _ h => h) (by kernel_rfl) (one_ind (i := 7) (by decide)) (fun _ _ _ _ => trivial) (Or.inl ⟨by rfl, ?_⟩) hS ?_
        rotate_left
        · intro X hX
          clear hX
          go_simp
          try with_reducible rfl
        try simp only [List.getElem_toArray, List.getElem_cons_zero, List.getElem_cons_succ]
        simp only [Act.put, List.setIfInBounds_toArray, List.set_cons_zero, List.set_cons_succ]
        replace hS := (one_ind (i := 7) (by decide) _ _).2 hS
        clear hS
        refine anyL_step (i := 3) (by kernel_rfl) rfl (by rfl) (fun K hK => ?_)
        go_simp
        refine (OWN _ ((OwnI.sl H.th).take k c (by omega) (Nat.le_refl _))).mono ?_
        rintro e w8 ⟨A8, c8, rfl, o8, b8⟩
        dsimp only
        refine hK.out _ _ ⟨fun _ => trivial, trivial⟩ ?_
        clear hK K
        try simp only [Act.put, List.setIfInBounds_toArray, List.set_cons_zero, List.set_cons_succ]
        refine anyL_step (i := 8) (by kernel_rfl) rfl (by rfl) (fun K hK => ?_)
        refine wp_app_row V.heap.size _ _ 22 3 .i64 8 rfl Tryd.underlying22 (by kernel_rfl) (by decide) A8 c8 (th.take k) (th.drop (k + 1)) RL (c - (k + 1)) (by rw [hlk]; rfl) (by rw [List.length_drop]; rfl) o8 (hRL.out _ .i64 th rfl ((OwnI.sl H.th).below b8)).rd b8.size (by rw [List.length_drop, hlk]; omega) ?_
        intro A9 c9 w9 o9 hg9 _ _
        have b9 : Below V.heap.size V w9 := b8.grown hg9 b8.size (fun q hq => own_base o8 q hq)
        refine hK.out _ _ ⟨fun _ => trivial, trivial⟩ ?_
        clear hK K
        try simp only [Act.put, List.setIfInBounds_toArray, List.set_cons_zero, List.set_cons_succ]
        have hS : oneQ 99 (fun _ => True) (fun _ => True) ((((((((((Array.replicate 10 false).setIfInBounds 0 true).setIfInBounds 1 true).setIfInBounds 2 true).setIfInBounds 4 true).setIfInBounds 5 true).setIfInBounds 6 true).setIfInBounds 7 true).setIfInBounds 3 true).setIfInBounds 8 true) w9 := ⟨fun _ => trivial, trivial⟩
        refine anyL_take (fun _ => True) [] (i := 9) (v := ?_) rfl (by kernel_rfl) (by kernel_rfl) (by kernel_rfl) (fun _ _ _ h => h) (by kernel_rfl) (one_ind (i := 9) (by decide)) (fun _ _ _ _ => trivial) (Or.inl ⟨by rfl, ?_⟩) hS ?_
        rotate_left
        · intro X hX
          clear hX
          go_simp
          try with_reducible rfl
        try simp only [List.getElem_toArray, List.getElem_cons_zero, List.getElem_cons_succ]
        simp only [Act.put, List.setIfInBounds_toArray, List.set_cons_zero, List.set_cons_succ]
        replace hS := (one_ind (i := 9) (by decide) _ _).2 hS
        clear hS
        refine anyL_done (by kernel_rfl) ?_ _
        have hlen : (th.take k ++ th.drop (k + 1)).length + 1 = th.length := by rw [List.length_append, List.length_drop, hlk]; omega
        have H9 := H.fresh b9 o9
        have HLEN := Lib.hid hlen
        clear H o9 b9 o8 b8 hg9 hlen hlk hcutH hcutL hRL OWN
        go_wp2_with fail
        go_roundg (gk - 1)
        case measure => omega
        case rel =>
          exact ⟨j + 1, G, th.take k ++ th.drop (k + 1), A9, c9, _, _, S, U, rfl, by rw [show (th.take k ++ th.drop (k + 1)).length = k + (th.length - (k + 1)) from by have := HLEN.out; omega], by simp, by omega, by omega, by have := HLEN.out; omega, hG2, HPN.out, H9⟩
end Go.Proofs.YtcmdjnllpcnpjaaDoor
