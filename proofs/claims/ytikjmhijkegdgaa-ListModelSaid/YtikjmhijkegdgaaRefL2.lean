/- The reference's list in memory: All, Live, and what stands on them. -/
import Derived.Test.YtikjmhijkegdgaaRefL1
namespace Go.Proofs.Ytikjmhijkegdgaa
set_option linter.unusedVariables false
set_option linter.unusedSimpArgs false
open Go.RowKit
/-- Entries in a row of the call's own, their codes beside it. -/
def RetRow (es : List En) (w : World) (e : Ending) (w' : World) : Prop := ∃ A' c' ys, e = .returned (.slice A' es.length c') ∧ ents ys = es ∧ w'.ownsRow w.heap.size 33 4 (.slice A' ys.length c') ys.length (flat ys) ∧ CodesE w' (fun b => w.heap.size ≤ b ∧ b < w'.heap.size ∧ some b ≠ (Value.slice A' ys.length c').ownBlock) ys ∧ Below w.heap.size w w'
theorem RetRow.sl {es : List En} {w : World} {e : Ending} {w' : World} (h : RetRow es w e w') : ∃ A' c', e = .returned (.slice A' es.length c') ∧ SlE w' A' c' es ∧ Below w.heap.size w w' := by
  obtain ⟨A, c, ys, h1, h2, h3, h4, h5⟩ := h
  exact ⟨A, c, h1, h2 ▸ OwnX.sle ⟨h3, h4⟩, h5⟩
theorem take_snoc (es : List En) (j : Nat) (hj : j < es.length) : es.take (j + 1) = es.take j ++ [es.getD j ⟨0, [], 0, false⟩] := by
  rw [List.take_add_one, List.getElem?_eq_getElem hj, List.getD_eq_getElem?_getD, List.getElem?_eq_getElem hj]; rfl
theorem liveE_take (es : List En) (j : Nat) (hj : j < es.length) : liveE (es.take (j + 1)) = liveE (es.take j) ++ (if (es.getD j ⟨0, [], 0, false⟩).dead then [] else [es.getD j ⟨0, [], 0, false⟩]) := by
  rw [take_snoc es j hj, liveE_append]
  congr 1
  unfold liveE
  cases h : (es.getD j ⟨0, [], 0, false⟩).dead <;> simp only [List.filter_cons, List.filter_nil, h] <;> rfl
set_option maxHeartbeats 2000000 in
theorem RAll_calls (S : Nat → Prop) (g : Nat) (parts : Int) (es : List En) (w : World) (h : RLIST w S g parts es) (hl : es.length ≤ 1000000) (hcl : ∀ e ∈ es, e.code.length ≤ 1000000) :
    Calls Try.prog 31 #[PtrL g] w (RetRow (es) w) := by
  obtain ⟨xs, A, c, rfl, h⟩ := h
  have hsl := h.sl
  have hb := h.1
  clear h
  rw [ents_length] at hl
  have HLN := Lib.hid (ents_length xs)
  unfold PtrL
  go_enter Try.func31, Try.ntmps31
  go_wp2_with fail
  go_loopg [3, 4] (xs.length + 1) (fun gk u i w' => ∃ (j : Nat) (ys : List HE) (A' : Option Addr) (c' : Nat), u = .slice A' ys.length c' ∧ i = .int .i64 (j : Int) ∧ j ≤ xs.length ∧ xs.length < j + gk ∧ Hid (ents ys = (ents xs).take j) ∧ ys.length ≤ j ∧ w'.ownsRow w.heap.size 33 4 (.slice A' ys.length c') ys.length (flat ys) ∧ CodesE w' (fun b => w.heap.size ≤ b ∧ b < w'.heap.size ∧ some b ≠ (Value.slice A' ys.length c').ownBlock) ys ∧ Below w.heap.size w w')
  case atStart => exact ⟨0, [], none, 0, rfl, rfl, by omega, by omega, rfl, Nat.le_refl _, own_nil _ _ _ _, CodesE.nil _ _, Below.refl _ _⟩
  case round =>
    obtain ⟨j, ys, A1, c1, rfl, rfl, hj, hg, HI, hyl, r1, cds, bw⟩ := hrel
    have z1 := (hb.below bw).cell 1
    simp only [List.getElem?_cons_zero, List.getElem?_cons_succ] at z1
    by_cases hlt : j < xs.length
    · obtain ⟨ad, B1, d1, rfl, hx, hcode⟩ := (hsl.below bw).get j (by rw [HLN.out]; exact hlt)
      have i1 : (j : Int) < (xs.length : Int) := by omega
      have hm := hcl ((ents xs).getD j ⟨0, [], 0, false⟩) (by rw [List.getD_eq_getElem?_getD, List.getElem?_eq_getElem (by rw [HLN.out]; exact hlt)]; exact List.getElem_mem _)
      have HT := Lib.hid (take_snoc ((ents xs)) j (by rw [HLN.out]; exact hlt))
      generalize (ents xs).getD j ⟨0, [], 0, false⟩ = p at *
      obtain ⟨x0, x1, x2, x3⟩ := hx
      have HE2 := Lib.hid (show ∀ q : HE, q.e = p → ents (ys ++ [q]) = (ents xs).take (j + 1) from fun q hq => by rw [HT.out, ← HI.out]; simp [ents, hq])
      go_wp2_with fail
      refine (ROwn_calls p B1 d1 _ hcode (by omega)).mono ?_
      rintro e v2 ⟨A2, c2, rfl, o2, b2⟩
      unfold aggE
      have bb := below_box0 v2 (.cells #[.int .i64 p.id, .slice A2 p.code.length c2, .int .i64 p.rad, .bool p.dead] 33)
      have z := below_trans b2 bb
      have r2 := own_below r1 z
      have hva : (v2.alloc (.cells #[.int .i64 p.id, .slice A2 p.code.length c2, .int .i64 p.rad, .bool p.dead] 33)).heap.size = v2.heap.size + 1 := by simp
      have o2b := own_below o2 bb
      have lb2 := b2.size
      have lw := bw.size
      have hnews : Rd (v2.alloc (.cells #[.int .i64 p.id, .slice A2 p.code.length c2, .int .i64 p.rad, .bool p.dead] 33)) (some ⟨v2.heap.size, 0, none⟩) (flat [⟨p, A2, c2⟩]) := .inr ⟨_, rfl, World.news_of_block (cs := #[.int .i64 p.id, .slice A2 p.code.length c2, .int .i64 p.rad, .bool p.dead]) (t := 33) (fr := (0, 0)) (heap_alloc_new v2 _)⟩
      go_wp2_with (at_builtin; refine app_ents w.heap.size rfl _ _ 30 33 zeroE 48 rfl Try.underlying30 (by kernel_rfl) (by decide) rfl A1 c1 ys.length 1 ys [⟨p, A2, c2⟩] (some ⟨v2.heap.size, 0, none⟩) 1 rfl rfl rfl rfl r2 hnews (by omega) (by simp; omega) ?_)
      intro A3 c3 v3 r3 hg3 hat
      have hl3 : (ys ++ [(⟨p, A2, c2⟩ : HE)]).length = ys.length + 1 := by simp
      try rw [hl3] at hat
      try rw [hl3]
      try rw [hl3] at r3
      have hrow := r1.lt
      have hsz3 := hg3.size
      have hob := own_block o2b
      have bw3 : Below w.heap.size w v3 := (below_trans bw z).grown hg3 (by omega) (fun k hk => own_base r2 k hk)
      have cd3 : CodesE v3 (fun b => w.heap.size ≤ b ∧ b < v3.heap.size ∧ some b ≠ (Value.slice A3 (ys.length + 1) c3).ownBlock) (ys ++ [⟨p, A2, c2⟩]) := by
        refine CodesE.append (fun q hq => ?_) (fun q hq => ?_)
        · obtain ⟨k1, k2⟩ := cds q hq
          refine ⟨(k1.below z).kept hg3 fun x hx => (k2 x hx).2.2, fun x hx => ?_⟩
          obtain ⟨t1, t2, t3⟩ := k2 x hx
          refine ⟨t1, by omega, fun hh => ?_⟩
          rcases hat with ha | ha
          · exact t3 (hh.trans ha)
          · rw [← hh] at ha; injection ha with ha; omega
        · rw [List.mem_singleton] at hq
          subst hq
          refine ⟨(OwnI.sl o2b).kept hg3 fun x hx hh => by have := hob x hx; have := (hrow _ hh.symm).2; omega, fun x hx => ?_⟩
          have q1 := hob x hx
          have q2 := own_block o2 x hx
          refine ⟨by omega, by omega, fun hh => ?_⟩
          rcases hat with ha | ha
          · rw [ha] at hh; have := (hrow _ hh.symm).2; omega
          · rw [← hh] at ha; injection ha with ha; omega
      go_wp2_with fail
      go_roundg (gk - 1)
      case measure => omega
      case rel => exact ⟨j + 1, ys ++ [⟨p, A2, c2⟩], A3, c3, by rw [hl3], by simp, by omega, by omega, HE2.out _ rfl, by rw [hl3]; omega, by rw [hl3]; exact r3, by rw [hl3]; exact cd3, bw3⟩
    · have i1 : ¬ (j : Int) < (xs.length : Int) := by omega
      have HF := Lib.hid (show ents ys = (ents xs) from by rw [HI.out, List.take_of_length_le (by rw [HLN.out]; omega)])
      go_wp2_with fail
      go_ret
      have hyn : ys.length = (ents xs).length := by rw [← HF.out, ents_length]
      exact ⟨A1, c1, ys, by show Ending.returned (.slice A1 ys.length c1) = _; rw [hyn], HF.out, r1, cds, bw⟩
set_option maxHeartbeats 2000000 in
theorem RLive_calls (S : Nat → Prop) (g : Nat) (parts : Int) (es : List En) (w : World) (h : RLIST w S g parts es) (hl : es.length ≤ 1000000) (hcl : ∀ e ∈ es, e.code.length ≤ 1000000) :
    Calls Try.prog 32 #[PtrL g] w (RetRow (liveE es) w) := by
  obtain ⟨xs, A, c, rfl, h⟩ := h
  have hsl := h.sl
  have hb := h.1
  clear h
  rw [ents_length] at hl
  have HLN := Lib.hid (ents_length xs)
  unfold PtrL
  go_enter Try.func32, Try.ntmps32
  go_wp2_with fail
  go_loopg [3, 4] (xs.length + 1) (fun gk u i w' => ∃ (j : Nat) (ys : List HE) (A' : Option Addr) (c' : Nat), u = .slice A' ys.length c' ∧ i = .int .i64 (j : Int) ∧ j ≤ xs.length ∧ xs.length < j + gk ∧ Hid (ents ys = liveE ((ents xs).take j)) ∧ ys.length ≤ j ∧ w'.ownsRow w.heap.size 33 4 (.slice A' ys.length c') ys.length (flat ys) ∧ CodesE w' (fun b => w.heap.size ≤ b ∧ b < w'.heap.size ∧ some b ≠ (Value.slice A' ys.length c').ownBlock) ys ∧ Below w.heap.size w w')
  case atStart => exact ⟨0, [], none, 0, rfl, rfl, by omega, by omega, rfl, Nat.le_refl _, own_nil _ _ _ _, CodesE.nil _ _, Below.refl _ _⟩
  case round =>
    obtain ⟨j, ys, A1, c1, rfl, rfl, hj, hg, HI, hyl, r1, cds, bw⟩ := hrel
    have z1 := (hb.below bw).cell 1
    simp only [List.getElem?_cons_zero, List.getElem?_cons_succ] at z1
    by_cases hlt : j < xs.length
    · obtain ⟨ad, B1, d1, rfl, hx, hcode⟩ := (hsl.below bw).get j (by rw [HLN.out]; exact hlt)
      have i1 : (j : Int) < (xs.length : Int) := by omega
      have hm := hcl ((ents xs).getD j ⟨0, [], 0, false⟩) (by rw [List.getD_eq_getElem?_getD, List.getElem?_eq_getElem (by rw [HLN.out]; exact hlt)]; exact List.getElem_mem _)
      have HT := Lib.hid (liveE_take ((ents xs)) j (by rw [HLN.out]; exact hlt))
      generalize (ents xs).getD j ⟨0, [], 0, false⟩ = p at *
      obtain ⟨x0, x1, x2, x3⟩ := hx
      obtain ⟨pid, pcode, prad, pdead⟩ := p
      dsimp only at x0 x1 x2 x3 hm hcode
      cases pdead with
      | true =>
        have HE2 := Lib.hid (show ents ys = liveE ((ents xs).take (j + 1)) from by rw [HT.out, ← HI.out]; simp)
        clear HT
        go_wp2_with fail
        go_roundg (gk - 1)
        case measure => omega
        case rel => exact ⟨j + 1, ys, A1, c1, rfl, by simp, by omega, by omega, HE2.out, by omega, r1, cds, bw⟩
      | false =>
        have HE2 := Lib.hid (show ∀ q : HE, q.e = ⟨pid, pcode, prad, false⟩ → ents (ys ++ [q]) = liveE ((ents xs).take (j + 1)) from fun q hq => by rw [HT.out, ← HI.out]; simp [ents, hq])
        go_wp2_with fail
        refine (ROwn_calls ⟨pid, pcode, prad, false⟩ B1 d1 _ hcode (by show pcode.length * 1 ≤ _; omega)).mono ?_
        rintro e v2 ⟨A2, c2, rfl, o2, b2⟩
        unfold aggE
        have bb := below_box0 v2 (.cells #[.int .i64 pid, .slice A2 pcode.length c2, .int .i64 prad, .bool false] 33)
        have z := below_trans b2 bb
        have r2 := own_below r1 z
        have hva : (v2.alloc (.cells #[.int .i64 pid, .slice A2 pcode.length c2, .int .i64 prad, .bool false] 33)).heap.size = v2.heap.size + 1 := by simp
        have o2b := own_below o2 bb
        have lb2 := b2.size
        have lw := bw.size
        have hnews : Rd (v2.alloc (.cells #[.int .i64 pid, .slice A2 pcode.length c2, .int .i64 prad, .bool false] 33)) (some ⟨v2.heap.size, 0, none⟩) (flat [⟨⟨pid, pcode, prad, false⟩, A2, c2⟩]) := .inr ⟨_, rfl, World.news_of_block (cs := #[.int .i64 pid, .slice A2 pcode.length c2, .int .i64 prad, .bool false]) (t := 33) (fr := (0, 0)) (heap_alloc_new v2 _)⟩
        go_wp2_with (at_builtin; refine app_ents w.heap.size rfl _ _ 30 33 zeroE 48 rfl Try.underlying30 (by kernel_rfl) (by decide) rfl A1 c1 ys.length 1 ys [⟨⟨pid, pcode, prad, false⟩, A2, c2⟩] (some ⟨v2.heap.size, 0, none⟩) 1 rfl rfl rfl rfl r2 hnews (by omega) (by simp; omega) ?_)
        intro A3 c3 v3 r3 hg3 hat
        have hl3 : (ys ++ [(⟨⟨pid, pcode, prad, false⟩, A2, c2⟩ : HE)]).length = ys.length + 1 := by simp
        try rw [hl3] at hat
        try rw [hl3]
        try rw [hl3] at r3
        have hrow := r1.lt
        have hsz3 := hg3.size
        have hob := own_block o2b
        have bw3 : Below w.heap.size w v3 := (below_trans bw z).grown hg3 (by omega) (fun k hk => own_base r2 k hk)
        have cd3 : CodesE v3 (fun b => w.heap.size ≤ b ∧ b < v3.heap.size ∧ some b ≠ (Value.slice A3 (ys.length + 1) c3).ownBlock) (ys ++ [⟨⟨pid, pcode, prad, false⟩, A2, c2⟩]) := by
          refine CodesE.append (fun q hq => ?_) (fun q hq => ?_)
          · obtain ⟨k1, k2⟩ := cds q hq
            refine ⟨(k1.below z).kept hg3 fun x hx => (k2 x hx).2.2, fun x hx => ?_⟩
            obtain ⟨t1, t2, t3⟩ := k2 x hx
            refine ⟨t1, by omega, fun hh => ?_⟩
            rcases hat with ha | ha
            · exact t3 (hh.trans ha)
            · rw [← hh] at ha; injection ha with ha; omega
          · rw [List.mem_singleton] at hq
            subst hq
            refine ⟨(OwnI.sl o2b).kept hg3 fun x hx hh => by have := hob x hx; have := (hrow _ hh.symm).2; omega, fun x hx => ?_⟩
            have q1 := hob x hx
            have q2 := own_block o2 x hx
            refine ⟨by omega, by omega, fun hh => ?_⟩
            rcases hat with ha | ha
            · rw [ha] at hh; have := (hrow _ hh.symm).2; omega
            · rw [← hh] at ha; injection ha with ha; omega
        go_wp2_with fail
        go_roundg (gk - 1)
        case measure => omega
        case rel => exact ⟨j + 1, ys ++ [⟨⟨pid, pcode, prad, false⟩, A2, c2⟩], A3, c3, by rw [hl3], by simp, by omega, by omega, HE2.out _ rfl, by rw [hl3]; omega, by rw [hl3]; exact r3, by rw [hl3]; exact cd3, bw3⟩
    · have i1 : ¬ (j : Int) < (xs.length : Int) := by omega
      have HF := Lib.hid (show ents ys = liveE (ents xs) from by rw [HI.out, List.take_of_length_le (by rw [HLN.out]; omega)])
      go_wp2_with fail
      go_ret
      have hyn : ys.length = (liveE (ents xs)).length := by rw [← HF.out, ents_length]
      exact ⟨A1, c1, ys, by show Ending.returned (.slice A1 ys.length c1) = _; rw [hyn], HF.out, r1, cds, bw⟩
theorem RCount_calls (S : Nat → Prop) (g : Nat) (parts : Int) (es : List En) (w : World) (h : RLIST w S g parts es) (hl : es.length ≤ 1000000) (hcl : ∀ e ∈ es, e.code.length ≤ 1000000) :
    Calls Try.prog 28 #[PtrL g] w fun e w' => e = .returned (.int .i64 ((liveE es).length : Int)) ∧ Below w.heap.size w w' := by
  have HL := RLive_calls S g parts es w h hl hcl
  unfold PtrL at *
  go_enter Try.func28, Try.ntmps28
  go_wp2_with fail
  refine HL.mono ?_
  intro e w1 hr
  obtain ⟨A1, c1, rfl, _, b1⟩ := hr.sl
  go_wp2_with fail
  go_ret
  exact ⟨rfl, b1⟩
theorem RDead_calls (S : Nat → Prop) (g : Nat) (parts : Int) (es : List En) (w : World) (h : RLIST w S g parts es) (hl : es.length ≤ 1000000) (hcl : ∀ e ∈ es, e.code.length ≤ 1000000) :
    Calls Try.prog 30 #[PtrL g] w fun e w' => e = .returned (.int .i64 ((es.length - (liveE es).length : Nat) : Int)) ∧ Below w.heap.size w w' := by
  have HS := RStored_calls S g parts es w h
  have HC := RCount_calls S g parts es w h hl hcl
  have hle := liveE_le es
  unfold PtrL at *
  go_enter Try.func30, Try.ntmps30
  go_wp2_with fail
  refine HS.mono ?_
  rintro e _ ⟨rfl, rfl⟩
  go_wp2_with fail
  refine HC.mono ?_
  rintro e w1 ⟨rfl, b1⟩
  go_wp2_with fail
  go_ret
  exact ⟨ret_int' (by omega), b1⟩
set_option maxHeartbeats 2000000 in
theorem RGet_calls (S : Nat → Prop) (g : Nat) (parts : Int) (es : List En) (id : Int) (w : World) (h : RLIST w S g parts es) (hl : es.length ≤ 1000000) (hcl : ∀ e ∈ es, e.code.length ≤ 1000000) :
    Calls Try.prog 46 #[PtrL g, .int .i64 id] w (RetG ((place es id).map fun j => es.getD j ⟨0, [], 0, false⟩) w) := by
  have b0 := below_box0 w (.cells #[.int .i64 0, .slice none 0 0, .int .i64 0, .bool false] 33)
  have k0 := Blk.new w 33 [.int .i64 0, .slice none 0 0, .int .i64 0, .bool false]
  have HA := RAt_calls S g parts es id _ (h.below b0) hl
  unfold atR at HA
  unfold PtrL at *
  cases hp : place es id with
  | none =>
    rw [hp] at HA
    dsimp only at HA
    go_enter Try.func46, Try.ntmps46
    go_wp2_with fail
    refine HA.mono ?_
    rintro e _ ⟨rfl, rfl⟩
    go_wp2_with fail
    (try simp only [Exit.inBlock, Exit.then])
    refine ret_blk2 (cs := [.int .i64 0, .slice none 0 0, .int .i64 0, .bool false]) rfl rfl rfl k0 Try.underlying33 rfl (by kernel_rfl) ?_
    exact ⟨none, 0, rfl, SlI.nil _ _, b0⟩
  | some j =>
    rw [hp] at HA
    dsimp only at HA
    obtain ⟨hjl, hhit⟩ := place_lt hp
    have hm := hcl (es.getD j ⟨0, [], 0, false⟩) (by rw [List.getD_eq_getElem?_getD, List.getElem?_eq_getElem hjl]; exact List.getElem_mem hjl)
    obtain ⟨xs, A, c, rfl, h⟩ := h
    have hlx := hjl
    rw [ents_length] at hl hlx
    obtain ⟨ad, B1, d1, rfl, hx, hcode⟩ := (h.sl.below b0).get j hjl
    have z1 := (h.1.below b0).cell 1
    simp only [List.getElem?_cons_zero, List.getElem?_cons_succ] at z1
    dsimp only [Option.map_some]
    generalize (ents xs).getD j ⟨0, [], 0, false⟩ = p at *
    obtain ⟨x0, x1, x2, x3⟩ := hx
    have i1 : (j : Int) < (xs.length : Int) := by omega
    have i2 : ¬ (j : Int) < 0 := by omega
    clear hp hhit h hjl hcl
    go_enter Try.func46, Try.ntmps46
    go_wp2_with fail
    refine HA.mono ?_
    rintro e _ ⟨rfl, rfl⟩
    go_wp2_with fail
    refine (ROwn_calls p B1 d1 _ hcode (by omega)).mono ?_
    rintro e w2 ⟨A2, c2', rfl, o2, b2⟩
    unfold aggE
    replace k0 := k0.below b2
    have a0 := k0.cell 0
    have a1 := k0.cell 1
    have a2 := k0.cell 2
    have a3 := k0.cell 3
    have f0 := k0.frozen 0
    have f1 := k0.frozen 1
    have f2 := k0.frozen 2
    have f3 := k0.frozen 3
    simp only [List.getElem?_cons_zero, List.getElem?_cons_succ] at a0 a1 a2 a3
    have bt := below_trans b0 b2
    go_wp2_with fail
    (try simp only [Exit.inBlock, Exit.then])
    have kk := (((k0.set 0 (.int .i64 p.id)).set 1 (.slice A2 p.code.length c2')).set 2 (.int .i64 p.rad)).set 3 (.bool p.dead)
    refine ret_blk2 (cs := [.int .i64 p.id, .slice A2 p.code.length c2', .int .i64 p.rad, .bool p.dead]) rfl rfl rfl kk Try.underlying33 rfl (by kernel_rfl) ?_
    have o3 : OwnI w2 (w.heap.size + 1) 5 .u8 A2 c2' p.code := by simpa using o2
    have o4 := own_far (i := 3) (x := .bool p.dead) (own_far (i := 2) (x := .int .i64 p.rad) (own_far (i := 1) (x := .slice A2 p.code.length c2') (own_far (i := 0) (x := .int .i64 p.id) o3 (show w.heap.size < w.heap.size + 1 by omega)) (show w.heap.size < w.heap.size + 1 by omega)) (show w.heap.size < w.heap.size + 1 by omega)) (show w.heap.size < w.heap.size + 1 by omega)
    exact ⟨A2, c2', rfl, OwnI.sl o4, (((bt.setCell (p := ⟨w.heap.size, 0, none⟩) (Nat.le_refl _) _).setCell (p := ⟨w.heap.size, 1, none⟩) (Nat.le_refl _) _).setCell (p := ⟨w.heap.size, 2, none⟩) (Nat.le_refl _) _).setCell (p := ⟨w.heap.size, 3, none⟩) (Nat.le_refl _) _⟩
end Go.Proofs.Ytikjmhijkegdgaa
