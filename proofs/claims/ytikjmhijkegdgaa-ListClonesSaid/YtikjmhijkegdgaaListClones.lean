/- ListClones. -/
import Derived.Test.YtikjmhijkegdgaaListAny
namespace Go.Proofs.Ytikjmhijkegdgaa
set_option linter.unusedVariables false
set_option linter.unusedSimpArgs false
open Go.RowKit
theorem of_lit {k : IntKind} {xs : List Int} (h : ∀ n ∈ xs, (Lit.int k n).wf = true) (j : Nat) (hj : j < xs.length) : (Lit.int k (xs.getD j 0)).wf = true := h _ (by rw [List.getD_eq_getElem?_getD, List.getElem?_eq_getElem hj]; exact List.getElem_mem hj)
theorem clone_eq {es es2 : List En} {kd : Nat} (hl : ∀ x ∈ es, x.dead = false) (hn : (liveE es2).length + kd = es.length) (h0 : kd = 0 → es2 = es) : (es = liveE es2) ↔ kd = 0 := by
  constructor
  · intro h; have : es.length = (liveE es2).length := by rw [← h]
    omega
  · intro h; rw [h0 h, live_all hl]
set_option maxHeartbeats 4000000 in
set_option maxRecDepth 100000 in
theorem ListClones_calls (parts : Int) (A : Option Addr) (c : Nat) (xs : List Ac) (B : Option Addr) (d : Nat) (ids : List Int) (w : World) (hw : (Lit.int .i64 parts).wf = true) (h : SlA w A c xs) (k : SlI w .i64 B d ids) (hk : ∀ n ∈ ids, (Lit.int .i64 n).wf = true) (hs : ids.length * 8 ≤ 140737488351232) :
    Calls Try.prog 4 #[.int .i64 parts, .slice A xs.length c, .slice B ids.length d] w fun e w' => e = .returned (.bool true) ∧ Below w.heap.size w w' := by
  have hm : xs.length ≤ 9223372036854775807 := Nat.le_trans h.1 (Nat.le_trans h.2.1 (by decide))
  have km := k.len
  go_enter Try.func4, Try.ntmps4
  go_wp2_with fail
  refine (lives_calls _).mono ?_
  rintro e w0 ⟨rfl, b0⟩
  go_wp2_with fail
  refine (Pick_calls parts 8 _ (by decide) (by decide)).mono ?_
  rintro e _ ⟨rfl, rfl⟩
  have p0 := Int.emod_nonneg parts (show (8 : Int) ≠ 0 by decide)
  have p1 := Int.emod_lt_of_pos parts (show (0 : Int) < 8 by decide)
  generalize parts % 8 = r at *
  go_wp2_with fail
  refine (light_calls A c xs _ (h.below b0)).mono ?_
  rintro e _ ⟨rfl, rfl⟩
  by_cases hl : lightA xs
  case neg =>
    rw [decide_eq_false hl]
    go_wp2_with fail
    go_ret
    exact ⟨rfl, b0⟩
  rw [decide_eq_true hl]
  by_cases hi : ids.length ≤ 200
  case neg =>
    have i1 : 200 < (ids.length : Int) := by omega
    go_wp2_with fail
    go_ret
    exact ⟨rfl, b0⟩
  have i1 : ¬ 200 < (ids.length : Int) := by omega
  have hxs := hl.2
  have HL := Lib.hid hl.1
  clear hl
  go_wp2_with fail
  refine (New_calls (1 + r) _ (by omega) (by omega)).mono ?_
  rintro e w1 ⟨g, rfl, L, b1, hg⟩
  have bt := below_trans b0 b1
  have z1 := bt.size
  have o1 : ∀ k, seg w0.heap.size w1.heap.size k → w.heap.size ≤ k ∧ k < w1.heap.size := fun k hk => ⟨by have := hk.1; have := b0.size; omega, hk.2⟩
  generalize seg w0.heap.size w1.heap.size = S1 at *
  clear b0 b1 hg
  have hpm : (1 + r) ≤ 1024 := by omega
  have hp1 : 1 ≤ 1 + r := by omega
  go_wp2_with fail
  go_loopg [9] (xs.length + 1) (fun gk i w' => ∃ (j : Nat) (S : Nat → Prop) (es : List En), i = .int .i64 (j : Int) ∧ j ≤ xs.length ∧ xs.length < j + gk ∧ LIST w' S g (1 + r) es ∧ es.length ≤ j ∧ Hid (∀ x ∈ es, x.dead = false) ∧ Below w.heap.size w w' ∧ (∀ k, S k → w.heap.size ≤ k ∧ k < w'.heap.size))
  case atStart => exact ⟨0, S1, [], rfl, by omega, by omega, L, Nat.le_refl _, (fun x hx => by cases hx), bt, o1⟩
  case round =>
    obtain ⟨j, S, es, rfl, hj, hgk, LS, hel, hlv, bw, oS⟩ := hrel
    by_cases hlt : j < xs.length
    · have i2 : (j : Int) < (xs.length : Int) := by omega
      obtain ⟨ad, rfl, ha, ok, _⟩ := (h.below bw).at j hlt
      have hq := HL.out (xs.getD j default) (by rw [List.getD_eq_getElem?_getD, List.getElem?_eq_getElem hlt]; exact List.getElem_mem hlt)
      generalize xs.getD j default = a at *
      obtain ⟨x0, y0, y1, y2, y3⟩ := ha
      dsimp only at y0 y1 y2 y3
      go_wp2_with fail
      refine (OwnEntry_calls a.q.e a.q.A a.q.c _ ok.1 (by omega)).mono ?_
      rintro e w2 ⟨A2, c2, rfl, o2, b2⟩
      unfold aggE
      go_wp2_with fail
      refine (LPut_any S g (1 + r) es a.q.e A2 c2 _ (LS.below b2) hpm (by omega) ok.2.2.1 (OwnI.sl o2) (by omega)).mono ?_
      rintro e w3 ⟨S', rfl, L3, kp, hS'⟩
      have bw2 := below_trans bw b2
      have z2 := b2.size
      have z3 := kp.size
      have zw := bw.size
      have bw3 := below_keep bw2 kp (by omega) (fun k hk => (oS k hk).1)
      have nl := putE_length (1 + r) es a.q.e
      have nv := putE_live (parts := 1 + r) a.q.e hlv.out
      generalize putE (1 + r) es a.q.e = es' at *
      generalize putR (1 + r) es a.q.e = rr at *
      go_wp2_with fail
      go_roundg (gk - 1)
      case measure => omega
      case rel => exact ⟨j + 1, S', es', by simp, by omega, by omega, L3, by omega, nv, bw3, fun k hk => by
        rcases hS' k hk with h1 | h1
        · have := oS k h1; omega
        · omega⟩
    · have i2 : ¬ (j : Int) < (xs.length : Int) := by omega
      clear L o1 bt z1
      go_wp2_with fail
      refine (All_calls S g (1 + r) es _ LS (by omega)).mono ?_
      intro e w2 hret
      obtain ⟨A2, c2, rfl, sB, b2⟩ := hret.l.sl
      clear hret
      go_wp2_with fail
      refine (LClone_calls S g (1 + r) es _ (LS.below b2) (by omega)).mono ?_
      rintro e w3 ⟨g2, rfl, L3, b3, hg3⟩
      have bw2 := below_trans bw b2
      have LX := LS.below b2
      have z2 := bw2.size
      have o3 : ∀ k, seg w2.heap.size w3.heap.size k → w2.heap.size ≤ k := fun k hk => hk.1
      generalize seg w2.heap.size w3.heap.size = S2 at *
      clear bw LS b2 oS hg3 h
      go_wp2_with fail
      go_loopg [12, 13] (ids.length + 1) (fun gk n i w' => ∃ (j kd : Nat) (es2 : List En), n = .int .i64 (kd : Int) ∧ i = .int .i64 (j : Int) ∧ j ≤ ids.length ∧ ids.length < j + gk ∧ kd ≤ j ∧ LIST w' S2 g2 (1 + r) es2 ∧ es2.length = es.length ∧ (liveE es2).length + kd = es.length ∧ Hid (kd = 0 → es2 = es) ∧ Hid (∀ t, t < j → place es2 (ids.getD t 0) = none) ∧ Below w2.heap.size w2 w')
      case atStart => exact ⟨0, 0, es, rfl, rfl, by omega, by omega, by omega, L3, rfl, by rw [live_all hlv.out]; rfl, (fun _ => rfl), (fun t ht => absurd ht (by omega)), b3⟩
      case round =>
        clear L3 b3
        obtain ⟨j2, kd, es2, rfl, rfl, hj2, hg2, hkd, L2, hel2, hlive, HE, HN, bx⟩ := hrel
        by_cases hlt2 : j2 < ids.length
        · have i3 : (j2 : Int) < (ids.length : Int) := by omega
          obtain ⟨bd, rfl, hc⟩ := ((k.below bw2).below bx).get j2 hlt2
          have hid := of_lit hk j2 hlt2
          have HN2 := Lib.hid (fun t (ht : t < j2 + 1) => show place (kill1 es2 (ids.getD j2 0)) (ids.getD t 0) = none from kill1_none L2.good _ _ (by
            rcases Nat.lt_or_ge t j2 with h1 | h1
            · exact Or.inr (HN.out t h1)
            · obtain rfl : t = j2 := by omega
              exact Or.inl rfl))
          generalize ids.getD j2 0 = id at *
          go_wp2_with fail
          refine (LKill_any S2 g2 (1 + r) es2 id _ L2 hid).mono ?_
          rintro e w4 ⟨rfl, L4, kp⟩
          have bx2 := below_keep bx kp bx.size (fun k hk => o3 k hk)
          have hel4 := kill1_length es2 id
          rcases kill1_count es2 id with ⟨e1, e2⟩ | ⟨e1, e2⟩
          · rw [e1]
            rw [e2] at HN2 L4
            go_wp2_with fail
            go_roundg (gk - 1)
            case measure => omega
            case rel => exact ⟨j2 + 1, kd, es2, rfl, by simp, by omega, by omega, by omega, L4, hel2, hlive, HE, HN2, bx2⟩
          · rw [e1]
            generalize kill1 es2 id = es4 at *
            go_wp2_with fail
            go_roundg (gk - 1)
            case measure => omega
            case rel => exact ⟨j2 + 1, kd + 1, es4, by simp, by simp, by omega, by omega, by omega, L4, by omega, by omega, (fun hh => absurd hh (by omega)), HN2, bx2⟩
        · have i3 : ¬ (j2 : Int) < (ids.length : Int) := by omega
          have HN3 := Lib.hid (fun t (ht : t < ids.length) => show place (liveE es2) (ids.getD t 0) = none from place_live_none (HN.out t (by omega)))
          clear HN
          go_wp2_with fail
          refine (Dead_calls S2 g2 (1 + r) es2 _ L2 (by omega)).mono ?_
          rintro e _ ⟨rfl, rfl⟩
          rw [show es2.length - (liveE es2).length = kd by omega]
          go_wp2_with fail
          refine (LCompact_calls S2 g2 (1 + r) es2 _ L2 (by omega)).mono ?_
          rintro e w4 ⟨rfl, L4, kp4⟩
          rw [show es2.length - (liveE es2).length = kd by omega]
          have bx4 := below_keep bx kp4 bx.size (fun k hk => o3 k hk)
          go_wp2_with fail
          refine (LCompact_calls S2 g2 (1 + r) (liveE es2) _ L4 (by omega)).mono ?_
          rintro e w5 ⟨rfl, L5, kp5⟩
          rw [liveE_idem] at L5
          rw [show (liveE es2).length - (liveE (liveE es2)).length = 0 by rw [liveE_idem]; omega]
          have bx5 := below_keep bx4 kp5 bx4.size (fun k hk => o3 k hk)
          clear bx bx4 kp4 kp5 L4 L2
          go_wp2_with fail
          refine (Dead_calls S2 g2 (1 + r) (liveE es2) _ L5 (by omega)).mono ?_
          rintro e _ ⟨rfl, rfl⟩
          rw [show (liveE es2).length - (liveE (liveE es2)).length = 0 by rw [liveE_idem]; omega]
          go_wp2_with fail
          refine (Stored_calls S2 g2 (1 + r) (liveE es2) _ L5).mono ?_
          rintro e _ ⟨rfl, rfl⟩
          have hb : (((liveE es2).length : Int) != (es.length : Int) - (kd : Int)) = false := by simp; omega
          go_wp2_with fail
          go_loopg [14] (ids.length + 1) (fun gk i w' => ∃ j : Nat, i = .int .i64 (j : Int) ∧ j ≤ ids.length ∧ ids.length < j + gk ∧ LIST w' S2 g2 (1 + r) (liveE es2) ∧ Below w2.heap.size w2 w')
          case atStart => exact ⟨0, rfl, by omega, by omega, L5, bx5⟩
          case round =>
            clear L5 bx5
            obtain ⟨j3, rfl, hj3, hg3, L5, bx5⟩ := hrel
            by_cases hlt3 : j3 < ids.length
            · have i4 : (j3 : Int) < (ids.length : Int) := by omega
              obtain ⟨bd, rfl, hc⟩ := ((k.below bw2).below bx5).get j3 hlt3
              have hid := of_lit hk j3 hlt3
              have hno := HN3.out j3 hlt3
              generalize ids.getD j3 0 = id at *
              go_wp2_with fail
              refine (Has_calls S2 g2 (1 + r) (liveE es2) id _ L5 hid).mono ?_
              rintro e _ ⟨rfl, rfl⟩
              rw [hno]
              go_wp2_with fail
              go_roundg (gk - 1)
              case measure => omega
              case rel => exact ⟨j3 + 1, by simp, by omega, by omega, L5, bx5⟩
            · have i4 : ¬ (j3 : Int) < (ids.length : Int) := by omega
              have LX5 := LX.below bx5
              go_wp2_with fail
              refine (All_calls S g (1 + r) es _ LX5 (by omega)).mono ?_
              intro e w6 hret
              obtain ⟨A6, c6, rfl, s6, b6⟩ := hret.l.sl
              clear hret
              go_wp2_with fail
              refine (Entries_calls A6 A2 c6 c2 es es _ s6 ((sB.below bx5).below b6)).mono ?_
              rintro e w7 ⟨rfl, b7⟩
              rw [decide_eq_true (rfl : es = es)]
              have LX7 := (LX5.below b6).below b7
              have L7 := (L5.below b6).below b7
              have bz := below_trans (below_trans bx5 b6) b7
              clear LX5 L5 bx5 b6 b7 s6
              go_wp2_with fail
              refine (Dead_calls S g (1 + r) es _ LX7 (by omega)).mono ?_
              rintro e _ ⟨rfl, rfl⟩
              rw [show es.length - (liveE es).length = 0 by rw [live_all hlv.out]; omega]
              go_wp2_with fail
              refine (LSame_calls S S2 g g2 (1 + r) (1 + r) es (liveE es2) _ LX7 L7).mono ?_
              rintro e w8 ⟨rfl, b8⟩
              have fin := below_then bw2 z2 (below_trans bz b8)
              have hce := clone_eq hlv.out hlive HE.out
              by_cases hz : kd = 0
              · rw [decide_eq_true (show (1 + r = 1 + r ∧ es = liveE es2) from ⟨rfl, hce.2 hz⟩)]
                have hz2 : ((kd : Int) == 0) = true := by simp [hz]
                go_wp2_with fail
                go_ret
                exact ⟨rfl, fin⟩
              · rw [decide_eq_false (show ¬ (1 + r = 1 + r ∧ es = liveE es2) from fun hh => hz (hce.1 hh.2))]
                have hz2 : ((kd : Int) == 0) = false := by simp [hz]
                go_wp2_with fail
                go_ret
                exact ⟨rfl, fin⟩
end Go.Proofs.Ytikjmhijkegdgaa
