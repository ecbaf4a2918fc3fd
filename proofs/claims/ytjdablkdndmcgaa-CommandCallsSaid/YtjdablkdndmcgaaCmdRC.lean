/- CmdRC: the reference's Check. -/
import Derived.Test.YtjdablkdndmcgaaCmdQ
namespace Go.Proofs.Ytjdablkdndmcgaa
set_option linter.unusedVariables false
set_option linter.unusedSimpArgs false
open Go.RowKit
def okI (x : Cm) : Prop := if x.op = 1 ∨ x.op = 2 ∨ x.op = 3 ∨ x.op = 5 then 1 ≤ x.id else x.id = 0
def okV (x : Cm) : Prop := if x.op = 1 ∨ x.op = 6 ∨ x.op = 7 then 1 ≤ x.v.length ∧ x.v.length ≤ 1024 else x.v = []
def okK (x : Cm) : Prop := if x.op = 6 ∨ x.op = 7 then (0 ≤ x.k ∧ x.k ≤ 2147483647) ∧ 0 ≤ x.p ∧ x.p ≤ 2147483647 else x.k = 0 ∧ x.p = 0
def okD (x : Cm) : Prop := if x.op = 8 then x.d.length ≤ 4096 else x.d = []
instance (x : Cm) : Decidable (okI x) := by unfold okI; infer_instance
instance (x : Cm) : Decidable (okV x) := by unfold okV; infer_instance
instance (x : Cm) : Decidable (okK x) := by unfold okK; infer_instance
instance (x : Cm) : Decidable (okD x) := by unfold okD; infer_instance
theorem okI_t {x : Cm} (h : hasN x.op 1 = true) : decide (okI x) = decide (1 ≤ x.id) := by
  rw [has_id] at h; simp at h
  unfold okI; congr 1; rw [if_pos (by omega)]
theorem okI_f {x : Cm} (h : hasN x.op 1 = false) : decide (okI x) = (x.id == 0) := by
  rw [has_id] at h; simp at h
  have : okI x ↔ x.id = 0 := by unfold okI; rw [if_neg (by omega)]
  rw [decide_eq_decide.2 this]; rfl
theorem okV_t {x : Cm} (h : hasN x.op 2 = true) : decide (okV x) = decide (1 ≤ x.v.length ∧ x.v.length ≤ 1024) := by
  rw [has_vec] at h; simp at h
  unfold okV; congr 1; rw [if_pos (by omega)]
theorem okV_f {x : Cm} (h : hasN x.op 2 = false) : decide (okV x) = ((x.v.length : Int) == 0) := by
  rw [has_vec] at h; simp at h
  have : okV x ↔ (x.v.length : Int) = 0 := by unfold okV; rw [if_neg (by omega)]; constructor; intro h; rw [h]; rfl; intro h; exact List.length_eq_zero_iff.1 (by omega)
  rw [decide_eq_decide.2 this]; rfl
theorem okK_t {x : Cm} (h : hasN x.op 4 = true) : decide (okK x) = decide ((0 ≤ x.k ∧ x.k ≤ 2147483647) ∧ 0 ≤ x.p ∧ x.p ≤ 2147483647) := by
  rw [has_k] at h; simp at h
  unfold okK; congr 1; rw [if_pos (by omega)]
theorem okK_f {x : Cm} (h : hasN x.op 4 = false) : decide (okK x) = ((x.k == 0) && (x.p == 0)) := by
  rw [has_k] at h; simp at h
  have : okK x ↔ (x.k = 0 ∧ x.p = 0) := by unfold okK; rw [if_neg (by omega)]
  rw [decide_eq_decide.2 this, Bool.decide_and]; rfl
theorem okD_t {x : Cm} (h : x.op = 8) : decide (okD x) = decide (x.d.length ≤ 4096) := by unfold okD; congr 1; rw [if_pos h]
theorem okD_f {x : Cm} (h : x.op ≠ 8) : decide (okD x) = ((x.d.length : Int) == 0) := by
  have : okD x ↔ (x.d.length : Int) = 0 := by unfold okD; rw [if_neg h]; constructor; intro h; rw [h]; rfl; intro h; exact List.length_eq_zero_iff.1 (by omega)
  rw [decide_eq_decide.2 this]; rfl
theorem RhasID_h (op : Int) (w : World) : Calls Try.prog 46 #[.int .i64 op] w fun e w' => e = .returned (.bool (hasN op 1)) ∧ w' = w := by rw [has_id]; exact RhasID_calls op w
theorem RhasVec_h (op : Int) (w : World) : Calls Try.prog 48 #[.int .i64 op] w fun e w' => e = .returned (.bool (hasN op 2)) ∧ w' = w := by rw [has_vec]; exact RhasVec_calls op w
theorem RhasK_h (op : Int) (w : World) : Calls Try.prog 50 #[.int .i64 op] w fun e w' => e = .returned (.bool (hasN op 4)) ∧ w' = w := by rw [has_k]; exact RhasK_calls op w
set_option maxHeartbeats 2000000 in
set_option maxRecDepth 20000 in
theorem RCheck_calls (x : Cm) (A : Option Addr) (a : Nat) (B : Option Addr) (b : Nat) (w : World) :
    Calls Try.prog 31 #[.agg (cmC x A a B b).toArray] w fun e w' => e = .returned (.int .i64 (if cmOk x then 0 else 2)) ∧ Below w.heap.size w w' := by
  obtain ⟨er, her⟩ : ∃ er : Int, er = if cmOk x then 0 else 2 := ⟨_, rfl⟩
  rw [← her]
  obtain ⟨g1, hg1⟩ : ∃ g, g = decide (1 ≤ x.op ∧ x.op ≤ 12) := ⟨_, rfl⟩
  obtain ⟨g2, hg2⟩ : ∃ g, g = (g1 && decide (okI x)) := ⟨_, rfl⟩
  obtain ⟨g3, hg3⟩ : ∃ g, g = (g2 && decide (okV x)) := ⟨_, rfl⟩
  obtain ⟨g4, hg4⟩ : ∃ g, g = (g3 && decide (okK x)) := ⟨_, rfl⟩
  obtain ⟨g5, hg5⟩ : ∃ g, g = (g4 && decide (okD x)) := ⟨_, rfl⟩
  have hend : er = if g5 = true then 0 else 2 := by
    have : cmOk x ↔ g5 = true := by
      rw [hg5, hg4, hg3, hg2, hg1]
      simp only [Bool.and_eq_true, decide_eq_true_eq]
      show ((1 ≤ x.op ∧ x.op ≤ 12) ∧ okI x ∧ okV x ∧ okK x ∧ okD x) ↔ _
      constructor
      · rintro ⟨h1, h2, h3, h4, h5⟩; exact ⟨⟨⟨⟨h1, h2⟩, h3⟩, h4⟩, h5⟩
      · rintro ⟨⟨⟨⟨h1, h2⟩, h3⟩, h4⟩, h5⟩; exact ⟨h1, h2, h3, h4, h5⟩
    rw [her]
    by_cases h : cmOk x
    · rw [if_pos h, if_pos (this.1 h)]
    · rw [if_neg h, if_neg (fun hh => h (this.2 hh))]
  clear her
  replace hend := Lib.hid hend
  replace hg1 := Lib.hid hg1
  replace hg2 := Lib.hid hg2
  replace hg3 := Lib.hid hg3
  replace hg4 := Lib.hid hg4
  replace hg5 := Lib.hid hg5
  have B0 := below_box0 w (.cells (cmC x A a B b).toArray 34)
  have h0 : Blk (w.alloc (.cells (cmC x A a B b).toArray 34)) w.heap.size 34 (cmC x A a B b) := Blk.new w _ _
  obtain ⟨l0, l1', l2', l3', l4, l5⟩ := load_cm h0
  have HB := Lib.hid B0
  clear h0 B0
  simp only [cmC] at l0 l1' l2' l3' l4 l5 ⊢
  obtain ⟨W, hW⟩ : ∃ W, W = w.alloc (.cells #[.int .i64 x.op, .int .i64 x.id, .slice A x.v.length a, .int .i64 x.k, .int .i64 x.p, .slice B x.d.length b] 34) := ⟨_, rfl⟩
  have HB2 : Hid (Below w.heap.size w W) := hW ▸ HB
  clear HB
  go_enter Try.func31, Try.ntmps31
  go_upto_region 1 with fail
  rw [← hW] at l0 l1' l2' l3' l4 l5 ⊢
  clear hW
  go_cut [3] (fun s3 w' => s3 = .bool g1 ∧ w' = W)
  case first =>
    by_cases h1 : 1 ≤ x.op
    · go_wp2_with fail
      go_meet
      rw [hg1.out, Bool.decide_and, decide_eq_true h1]
      exact ⟨by simp, rfl⟩
    · go_wp2_with fail
      go_meet
      rw [hg1.out, Bool.decide_and, decide_eq_false (by omega)]
      exact ⟨rfl, rfl⟩
  case rest =>
    obtain ⟨rfl, rfl⟩ := hcut
    obtain ⟨W, rfl⟩ : ∃ W', W' = wc := ⟨_, rfl⟩
    go_upto_region 2 with fail
    go_cut [3] (fun s3 w' => s3 = .bool g2 ∧ w' = W)
    case first =>
      cases g1 with
      | false =>
        go_wp2_with fail
        go_meet
        rw [hg2.out]
        exact ⟨rfl, rfl⟩
      | true =>
        rw [Bool.true_and] at hg2
        go_wp2_with fail
        refine (RhasID_h x.op _).mono ?_
        rintro e W ⟨rfl, rfl⟩
        cases h1 : hasN x.op 1 with
        | true =>
          rw [okI_t h1] at hg2
          by_cases h : 1 ≤ x.id
          · go_wp2_with fail
            go_meet
            rw [hg2.out, decide_eq_true h]
            exact ⟨rfl, rfl⟩
          · go_wp2_with fail
            refine (RhasID_h x.op _).mono ?_
            rintro e W ⟨rfl, rfl⟩
            rw [h1]
            go_wp2_with fail
            go_meet
            rw [hg2.out, decide_eq_false (by omega)]
            exact ⟨rfl, rfl⟩
        | false =>
          rw [okI_f h1] at hg2
          go_wp2_with fail
          refine (RhasID_h x.op _).mono ?_
          rintro e W ⟨rfl, rfl⟩
          rw [h1]
          go_wp2_with fail
          go_meet
          rw [hg2.out]
          exact ⟨rfl, rfl⟩
    case rest =>
      obtain ⟨rfl, rfl⟩ := hcut
      obtain ⟨W, rfl⟩ : ∃ W', W' = wc := ⟨_, rfl⟩
      go_upto_region 3 with fail
      go_cut [3] (fun s3 w' => s3 = .bool g3 ∧ w' = W)
      case first =>
        cases g2 with
        | false =>
          go_wp2_with fail
          go_meet
          rw [hg3.out]
          exact ⟨rfl, rfl⟩
        | true =>
          rw [Bool.true_and] at hg3
          go_wp2_with fail
          refine (RhasVec_h x.op _).mono ?_
          rintro e W ⟨rfl, rfl⟩
          cases h1 : hasN x.op 2 with
          | true =>
            rw [okV_t h1] at hg3
            by_cases h : 1 ≤ x.v.length
            · have h' : (1 : Int) ≤ (x.v.length : Int) := by omega
              by_cases k : x.v.length ≤ 1024
              · have k' : (x.v.length : Int) ≤ 1024 := by omega
                go_wp2_with fail
                go_meet
                rw [hg3.out, decide_eq_true ⟨h, k⟩]
                exact ⟨rfl, rfl⟩
              · have k' : ¬ (x.v.length : Int) ≤ 1024 := by omega
                go_wp2_with fail
                refine (RhasVec_h x.op _).mono ?_
                rintro e W ⟨rfl, rfl⟩
                rw [h1]
                go_wp2_with fail
                go_meet
                rw [hg3.out]
                refine ⟨?_, rfl⟩
                congr 1
                first | (rw [decide_eq_false (by omega)]; done) | rw [decide_eq_false (by omega), decide_eq_false (by omega)]
            · have h' : ¬ (1 : Int) ≤ (x.v.length : Int) := by omega
              go_wp2_with fail
              refine (RhasVec_h x.op _).mono ?_
              rintro e W ⟨rfl, rfl⟩
              rw [h1]
              go_wp2_with fail
              go_meet
              rw [hg3.out]
              refine ⟨?_, rfl⟩
              congr 1
              first | (rw [decide_eq_false (by omega)]; done) | rw [decide_eq_false (by omega), decide_eq_false (by omega)]
          | false =>
            rw [okV_f h1] at hg3
            go_wp2_with fail
            refine (RhasVec_h x.op _).mono ?_
            rintro e W ⟨rfl, rfl⟩
            rw [h1]
            go_wp2_with fail
            go_meet
            rw [hg3.out]
            exact ⟨by first | rfl | (congr 1; simp) , rfl⟩
      case rest =>
        obtain ⟨rfl, rfl⟩ := hcut
        obtain ⟨W, rfl⟩ : ∃ W', W' = wc := ⟨_, rfl⟩
        go_upto_region 4 with fail
        obtain ⟨k, hk⟩ : ∃ k, x.k = k := ⟨_, rfl⟩
        obtain ⟨p, hp⟩ : ∃ p, x.p = p := ⟨_, rfl⟩
        rw [hk] at l3' ⊢
        rw [hp] at l4 ⊢
        go_cut [3] (fun s3 w' => s3 = .bool g4 ∧ w' = W)
        case first =>
          cases g3 with
          | false =>
            go_wp2_with fail
            go_meet
            rw [hg4.out]
            exact ⟨rfl, rfl⟩
          | true =>
            rw [Bool.true_and] at hg4
            go_wp2_with fail
            refine (RhasK_h x.op _).mono ?_
            rintro e W ⟨rfl, rfl⟩
            cases h1 : hasN x.op 4 with
            | true =>
              rw [okK_t h1, hk, hp] at hg4
              replace hk := Lib.hid hk
              replace hp := Lib.hid hp
              by_cases c1 : 0 ≤ k
              · by_cases c2 : k ≤ 2147483647
                · by_cases c3 : 0 ≤ p
                  · by_cases c4 : p ≤ 2147483647
                    · go_wp2_with fail
                      go_meet
                      rw [hg4.out, decide_eq_true ⟨⟨c1, c2⟩, c3, c4⟩]
                      exact ⟨rfl, rfl⟩
                    · go_wp2_with fail
                      refine (RhasK_h x.op _).mono ?_
                      rintro e W ⟨rfl, rfl⟩
                      rw [h1]
                      go_wp2_with fail
                      go_meet
                      rw [hg4.out]
                      refine ⟨?_, rfl⟩
                      congr 1
                      first | (rw [decide_eq_false (by omega)]; done) | rw [decide_eq_false (by omega), decide_eq_false (by omega)]
                  · go_wp2_with fail
                    refine (RhasK_h x.op _).mono ?_
                    rintro e W ⟨rfl, rfl⟩
                    rw [h1]
                    go_wp2_with fail
                    go_meet
                    rw [hg4.out]
                    refine ⟨?_, rfl⟩
                    congr 1
                    first | (rw [decide_eq_false (by omega)]; done) | rw [decide_eq_false (by omega), decide_eq_false (by omega)]
                · go_wp2_with fail
                  refine (RhasK_h x.op _).mono ?_
                  rintro e W ⟨rfl, rfl⟩
                  rw [h1]
                  go_wp2_with fail
                  go_meet
                  rw [hg4.out]
                  refine ⟨?_, rfl⟩
                  congr 1
                  first | (rw [decide_eq_false (by omega)]; done) | rw [decide_eq_false (by omega), decide_eq_false (by omega)]
              · go_wp2_with fail
                refine (RhasK_h x.op _).mono ?_
                rintro e W ⟨rfl, rfl⟩
                rw [h1]
                go_wp2_with fail
                go_meet
                rw [hg4.out]
                refine ⟨?_, rfl⟩
                congr 1
                first | (rw [decide_eq_false (by omega)]; done) | rw [decide_eq_false (by omega), decide_eq_false (by omega)]
            | false =>
              rw [okK_f h1, hk, hp] at hg4
              replace hk := Lib.hid hk
              replace hp := Lib.hid hp
              go_wp2_with fail
              refine (RhasK_h x.op _).mono ?_
              rintro e W ⟨rfl, rfl⟩
              rw [h1]
              by_cases c1 : k = 0
              · subst c1
                go_wp2_with fail
                go_meet
                rw [hg4.out]
                exact ⟨rfl, rfl⟩
              · have c1' : (k == 0) = false := by simpa using c1
                go_wp2_with fail
                go_meet
                rw [hg4.out, c1']
                exact ⟨rfl, rfl⟩
        case rest =>
          subst hk
          subst hp
          obtain ⟨rfl, rfl⟩ := hcut
          obtain ⟨W, rfl⟩ : ∃ W', W' = wc := ⟨_, rfl⟩
          go_upto_region 5 with fail
          obtain ⟨o, ho⟩ : ∃ o, x.op = o := ⟨_, rfl⟩
          rw [ho] at l0 ⊢
          go_cut [3] (fun s3 w' => s3 = .bool g5 ∧ w' = W)
          case first =>
            cases g4 with
            | false =>
              go_wp2_with fail
              go_meet
              rw [hg5.out]
              exact ⟨rfl, rfl⟩
            | true =>
              rw [Bool.true_and] at hg5
              by_cases c1 : o = 8
              · rw [okD_t (ho.trans c1)] at hg5
                replace ho := Lib.hid ho
                subst c1
                by_cases c2 : x.d.length ≤ 4096
                · have c2' : (x.d.length : Int) ≤ 4096 := by omega
                  go_wp2_with fail
                  go_meet
                  rw [hg5.out, decide_eq_true c2]
                  exact ⟨rfl, rfl⟩
                · have c2' : ¬ (x.d.length : Int) ≤ 4096 := by omega
                  have c3 : ((x.d.length : Int) == 0) = false := by rw [beq_eq_false_iff_ne]; omega
                  go_wp2_with fail
                  go_meet
                  rw [hg5.out, decide_eq_false c2]
                  exact ⟨by first | rfl | (congr 1; simp; omega) | (congr 1; simp), rfl⟩
              · rw [okD_f (by rw [ho]; exact c1)] at hg5
                replace ho := Lib.hid ho
                have c1' : (o == 8) = false := by simpa using c1
                go_wp2_with fail
                go_meet
                rw [hg5.out]
                exact ⟨by first | rfl | (congr 1; simp), rfl⟩
          case rest =>
            subst ho
            obtain ⟨rfl, rfl⟩ := hcut
            obtain ⟨W, rfl⟩ : ∃ W', W' = wc := ⟨_, rfl⟩
            clear l0 l1' l2' l3' l4 l5
            cases g5 with
            | true =>
              rw [if_pos rfl] at hend
              go_wp2_with fail
              go_ret
              rw [hend.out]
              exact ⟨rfl, HB2.out⟩
            | false =>
              rw [if_neg (by decide)] at hend
              go_wp2_with fail
              go_ret
              rw [hend.out]
              exact ⟨rfl, HB2.out⟩
end Go.Proofs.Ytjdablkdndmcgaa
