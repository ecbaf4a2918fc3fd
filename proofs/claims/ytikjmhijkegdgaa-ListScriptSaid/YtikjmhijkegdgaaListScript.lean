/- ListScript. -/
import Derived.Test.YtikjmhijkegdgaaListDone
namespace Go.Proofs.Ytikjmhijkegdgaa
set_option linter.unusedVariables false
set_option linter.unusedSimpArgs false
open Go.RowKit
set_option maxHeartbeats 4000000 in
set_option maxRecDepth 100000 in
theorem ListScript_calls (parts : Int) (A : Option Addr) (c : Nat) (xs : List Ac) (w : World) (hw : (Lit.int .i64 parts).wf = true) (h : SlA w A c xs) :
    Calls Try.prog 6 #[.int .i64 parts, .slice A xs.length c] w fun e w' => e = .returned (.bool true) ∧ Below w.heap.size w w' := by
  have hm : xs.length ≤ 9223372036854775807 := Nat.le_trans h.1 (Nat.le_trans h.2.1 (by decide))
  go_enter Try.func6, Try.ntmps6
  go_wp2_with fail
  refine (lives_calls _).mono ?_
  rintro e w0 ⟨rfl, b0⟩
  go_wp2_with fail
  refine (light_calls A c xs _ (h.below b0)).mono ?_
  rintro e _ ⟨rfl, rfl⟩
  by_cases hl : lightA xs
  case neg =>
    rw [decide_eq_false hl]
    go_wp2_with fail
    go_ret
    exact ⟨rfl, b0⟩
  rw [decide_eq_true hl]
  have hxs := hl.2
  have HL := Lib.hid hl.1
  clear hl
  by_cases hp : parts < 1 ∨ 1024 < parts
  case pos =>
    go_wp2_with fail
    refine (New_bad parts _ hp).mono ?_
    rintro e _ ⟨rfl, rfl⟩
    go_wp2_with fail
    refine (RNew_bad parts _ hp).mono ?_
    rintro e _ ⟨rfl, rfl⟩
    go_wp2_with fail
    go_loopg [9] 1 (fun gk i w' => i = .int .i64 0 ∧ 0 < gk ∧ Below w.heap.size w w')
    case atStart => exact ⟨rfl, by omega, b0⟩
    case round =>
      obtain ⟨rfl, hgk, bw⟩ := hrel
      by_cases hz : 0 < xs.length
      · have i1 : (0 : Int) < (xs.length : Int) := by omega
        go_wp2_with fail
        go_ret
        exact ⟨rfl, bw⟩
      · have i1 : ¬ (0 : Int) < (xs.length : Int) := by omega
        go_wp2_with fail
        go_ret
        exact ⟨rfl, bw⟩
  have p1 : 1 ≤ parts := by omega
  have p2 : parts ≤ 1024 := by omega
  go_wp2_with fail
  refine (New_calls parts _ p1 p2).mono ?_
  rintro e w1 ⟨g, rfl, L, b1, hg⟩
  go_wp2_with fail
  refine (RNew_calls parts _ p1 p2).mono ?_
  rintro e w2 ⟨g', rfl, R, b2⟩
  have z0 := b0.size
  have z1 := b1.size
  have z2 := b2.size
  have H : Two w2 w.heap.size (seg w0.heap.size w1.heap.size) (seg w1.heap.size w2.heap.size) g g' parts [] [] := ⟨L.below b2, R, fun k hk => ⟨by have := hk.1; omega, by have := hk.2; omega⟩, fun k hk => ⟨⟨by have := hk.1; omega, hk.2⟩, fun hs => by have := hk.1; have := hs.2; omega⟩⟩
  have bt := below_trans (below_trans b0 b1) b2
  clear L R hg b0 b1 b2 hp
  go_wp2_with fail
  go_loopg [9] (xs.length + 1) (fun gk i w' => ∃ (j : Nat) (es : List En) (S S' : Nat → Prop), i = .int .i64 (j : Int) ∧ j ≤ xs.length ∧ xs.length < j + gk ∧ Two w' w.heap.size S S' g g' parts es es ∧ es.length ≤ j ∧ Below w.heap.size w w')
  case atStart => exact ⟨0, [], _, _, rfl, by omega, by omega, H, Nat.le_refl _, bt⟩
  case round =>
    clear H bt z0 z1 z2
    obtain ⟨j, es, S, S', rfl, hj, hgk, H, hel, bw⟩ := hrel
    have zw := bw.size
    by_cases hlt : j < xs.length
    · have i2 : (j : Int) < (xs.length : Int) := by omega
      obtain ⟨ad, rfl, ha, ok, _⟩ := (h.below bw).at j hlt
      have ok0 := (h.2.2.1 (xs.getD j default) (by rw [List.getD_eq_getElem?_getD, List.getElem?_eq_getElem hlt]; exact List.getElem_mem hlt)).1
      have hq := HL.out (xs.getD j default) (by rw [List.getD_eq_getElem?_getD, List.getElem?_eq_getElem hlt]; exact List.getElem_mem hlt)
      generalize xs.getD j default = a at *
      obtain ⟨x0, y0, y1, y2, y3⟩ := ha
      dsimp only at y0 y1 y2 y3
      replace y1 : wr.cell? ⟨(ad.add (j * 5)).block, (ad.add (j * 5)).off + 2, none⟩ = _ := y1
      replace y2 : wr.cell? ⟨(ad.add (j * 5)).block, (ad.add (j * 5)).off + 3, none⟩ = _ := y2
      replace y3 : wr.cell? ⟨(ad.add (j * 5)).block, (ad.add (j * 5)).off + 4, none⟩ = _ := y3
      go_wp2_with fail
      refine (done_calls w.heap.size S S' g g' parts es a _ H zw p2 (by omega) hq ok.2.2.1 (fun W bW => ok0.1.below (bw.trans bW))).mono ?_
      rintro e w3 ⟨rfl, b3, es', S1, S2, H2, hel2⟩
      replace bw := bw.trans b3
      clear H b3 ok ok0 x0 y0 y1 y2 y3
      have hcl : ∀ e ∈ es', e.code.length ≤ 1000000 := fun e he => by have := (H2.l.good.1 e he).2; omega
      have zw3 := bw.size
      go_wp2_with fail
      refine (Count_calls S1 g parts es' _ H2.l).mono ?_
      rintro e _ ⟨rfl, rfl⟩
      go_wp2_with fail
      refine (RCount_calls S2 g' parts es' _ H2.r (by omega) hcl).mono ?_
      rintro e w4 ⟨rfl, b4⟩
      replace H2 := H2.below b4
      replace bw := below_then bw zw3 b4
      have zw4 := bw.size
      clear b4
      go_wp2_with fail
      refine (Stored_calls S1 g parts es' _ H2.l).mono ?_
      rintro e _ ⟨rfl, rfl⟩
      go_wp2_with fail
      refine (RStored_calls S2 g' parts es' _ H2.r).mono ?_
      rintro e _ ⟨rfl, rfl⟩
      go_wp2_with fail
      refine (Dead_calls S1 g parts es' _ H2.l (by omega)).mono ?_
      rintro e _ ⟨rfl, rfl⟩
      go_wp2_with fail
      refine (RDead_calls S2 g' parts es' _ H2.r (by omega) hcl).mono ?_
      rintro e w5 ⟨rfl, b5⟩
      replace H2 := H2.below b5
      replace bw := below_then bw zw4 b5
      clear b5
      go_wp2_with fail
      go_roundg (gk - 1)
      case measure => omega
      case rel => exact ⟨j + 1, es', S1, S2, by simp, by omega, by omega, H2, by omega, bw⟩
    · have i2 : ¬ (j : Int) < (xs.length : Int) := by omega
      have hcl : ∀ e ∈ es, e.code.length ≤ 1000000 := fun e he => by have := (H.l.good.1 e he).2; omega
      clear h HL
      go_wp2_with fail
      refine (LClone_calls S g parts es _ H.l (by omega)).mono ?_
      rintro e w3 ⟨g3, rfl, L3, b3, _⟩
      replace H := H.below b3
      replace bw := below_then bw zw b3
      generalize seg wr.heap.size w3.heap.size = S3 at *
      clear b3
      have zw3 := bw.size
      go_wp2_with fail
      refine (All_calls S g parts es _ H.l (by omega)).mono ?_
      intro e w4 hr
      obtain ⟨A4, c4, rfl, s4, b4⟩ := hr.l.sl
      clear hr
      replace H := H.below b4
      replace L3 := L3.below b4
      replace bw := below_then bw zw3 b4
      clear b4
      have zw4 := bw.size
      go_wp2_with fail
      refine (RAll_calls S' g' parts es _ H.r (by omega) hcl).mono ?_
      intro e w5 hr
      obtain ⟨A5, c5, rfl, s5, b5⟩ := hr.sl
      clear hr
      replace H := H.below b5
      replace L3 := L3.below b5
      replace s4 := s4.below b5
      replace bw := below_then bw zw4 b5
      clear b5
      have zw5 := bw.size
      go_wp2_with fail
      refine (Entries_calls A4 A5 c4 c5 es es _ s4 s5).mono ?_
      rintro e w6 ⟨rfl, b6⟩
      rw [decide_eq_true (rfl : es = es)]
      replace H := H.below b6
      replace L3 := L3.below b6
      replace bw := below_then bw zw5 b6
      clear b6 s4 s5
      have zw6 := bw.size
      go_wp2_with fail
      refine (Live_calls S g parts es _ H.l (by omega)).mono ?_
      intro e w7 hr
      obtain ⟨A7, c7, rfl, s7, b7⟩ := hr.sl
      clear hr
      replace H := H.below b7
      replace L3 := L3.below b7
      replace bw := below_then bw zw6 b7
      clear b7
      have zw7 := bw.size
      go_wp2_with fail
      refine (RLive_calls S' g' parts es _ H.r (by omega) hcl).mono ?_
      intro e w8 hr
      obtain ⟨A8, c8, rfl, s8, b8⟩ := hr.sl
      clear hr
      replace H := H.below b8
      replace L3 := L3.below b8
      replace s7 := s7.below b8
      replace bw := below_then bw zw7 b8
      clear b8
      have zw8 := bw.size
      go_wp2_with fail
      refine (Entries_calls A7 A8 c7 c8 (liveE es) (liveE es) _ s7 s8).mono ?_
      rintro e w9 ⟨rfl, b9⟩
      rw [decide_eq_true (rfl : liveE es = liveE es)]
      replace H := H.below b9
      replace L3 := L3.below b9
      replace bw := below_then bw zw8 b9
      clear b9 s7 s8
      have zw9 := bw.size
      go_wp2_with fail
      refine (LSame_calls S S3 g g3 parts parts es es _ H.l L3).mono ?_
      rintro e w10 ⟨rfl, b10⟩
      rw [decide_eq_true (⟨rfl, rfl⟩ : parts = parts ∧ es = es)]
      replace H := H.below b10
      replace L3 := L3.below b10
      replace bw := below_then bw zw9 b10
      clear b10
      have zw10 := bw.size
      go_wp2_with fail
      refine (All_calls S3 g3 parts es _ L3 (by omega)).mono ?_
      intro e w11 hr
      obtain ⟨A11, c11, rfl, s11, b11⟩ := hr.l.sl
      clear hr
      replace H := H.below b11
      replace bw := below_then bw zw10 b11
      clear b11
      have zw11 := bw.size
      go_wp2_with fail
      refine (RAll_calls S' g' parts es _ H.r (by omega) hcl).mono ?_
      intro e w12 hr
      obtain ⟨A12, c12, rfl, s12, b12⟩ := hr.sl
      clear hr
      replace s11 := s11.below b12
      replace bw := below_then bw zw11 b12
      clear b12
      have zw12 := bw.size
      go_wp2_with fail
      refine (Entries_calls A11 A12 c11 c12 es es _ s11 s12).mono ?_
      rintro e w13 ⟨rfl, b13⟩
      rw [decide_eq_true (rfl : es = es)]
      replace bw := below_then bw zw12 b13
      go_wp2_with fail
      go_ret
      exact ⟨rfl, bw⟩
end Go.Proofs.Ytikjmhijkegdgaa
