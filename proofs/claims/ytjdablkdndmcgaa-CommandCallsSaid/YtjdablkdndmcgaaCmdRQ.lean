/- CmdRQ: the reference's Parse. -/
import Derived.Test.YtjdablkdndmcgaaCmdRP
namespace Go.Proofs.Ytjdablkdndmcgaa
set_option linter.unusedVariables false
set_option linter.unusedSimpArgs false
open Go.RowKit
/-- Where the reference's Parse stands behind its first i pieces. -/
def RSt (w3 w' : World) (lo p s : Nat) (op : Int) (i : Nat) (R : Rs) : Prop :=
  ∃ A a B c, RPS w' lo p s R.b R.e R.x A a B c ∧ (i ≤ 1 → A = none ∧ R.x.v = []) ∧ (i ≤ 3 → B = none ∧ R.x.d = []) ∧ (hasN op 2 = false → A = none) ∧ Below lo w3 w'
theorem RSt.next {w3 w' : World} {lo p s : Nat} {op : Int} {i : Nat} {R : Rs} (h : RSt w3 w' lo p s op i R) : RSt w3 w' lo p s op (i + 1) R := by
  obtain ⟨A, a, B, c, h, i1, i3, i2, hB⟩ := h
  exact ⟨A, a, B, c, h, fun h => i1 (by omega), fun h => i3 (by omega), i2, hB⟩
theorem RSt.op {w3 w' : World} {lo p s : Nat} {op : Int} {i : Nat} {R : Rs} (h : RSt w3 w' lo p s op i R) (ho : R.x.op = op) : w'.cell? ⟨s, 0, none⟩ = some (.int .i64 op) := by
  obtain ⟨A, a, B, c, h, _⟩ := h
  have := h.sb.cell 0
  simp only [cmC, List.getElem?_cons_zero] at this
  rw [this, ho]
/-- The draws, if any are to be read. -/
def drawO (ok : Bool) (k : Nat) (b : List Int) (e : Int) (d : List Int) : List Int × Int × List Int := if ok then drawL k b e d else (b, e, d)
set_option maxHeartbeats 4000000 in
set_option maxRecDepth 20000 in
theorem RParse_calls (A : Option Addr) (c : Nat) (raw : List Int) (w : World) (h : SlI w .u8 A c raw) (hb : Bytes raw) (hl : Hid (raw.length ≤ 1000000)) (r : Option Cm) (hr : Hid (parseR raw = r)) :
    Calls Try.prog 25 #[.slice A raw.length c] w fun en w' => (∃ A1 a1 B1 c1, en = .returned (.tuple #[.agg (cmC (r.getD cm0) A1 a1 B1 c1).toArray, .int .i64 (if r.isSome then 0 else 4)]) ∧ CmK w' (r.getD cm0) A1 a1 B1 c1 ∧ ∀ ad, A1 = some ad ∨ B1 = some ad → w.heap.size ≤ ad.block) ∧ Below w.heap.size w w' := by
  have hmix : Try.prog.follows .mixedOrders = true := by kernel_rfl
  have hp := Lib.hid ((parse_V raw).symm.trans hr.out)
  clear hr
  obtain ⟨er, her⟩ : ∃ er : Int, er = (if r.isSome then 0 else 4) := ⟨_, rfl⟩
  rw [← her]
  replace her := Lib.hid her
  have h0 : Blk (w.alloc (.cells #[.int .i64 0, .int .i64 0, .slice none 0 0, .int .i64 0, .int .i64 0, .slice none 0 0] 34)) w.heap.size 34 (cmC cm0 none 0 none 0) := Blk.new w _ _
  have B0 := below_box0 w (.cells #[.int .i64 0, .int .i64 0, .slice none 0 0, .int .i64 0, .int .i64 0, .slice none 0 0] 34)
  have s0 := h.below B0
  have HX := Lib.hid (And.intro h0 (And.intro B0 s0))
  clear h0 B0 s0 h
  go_enter Try.func25, Try.ntmps25
  go_wp2_with fail
  refine (RNew_calls A c raw _ HX.out.2.2 (Nat.le_trans hl.out (by decide))).mono ?_
  rintro en w1 ⟨p, rfl, hp0, hp1, r1, b1⟩
  simp at hp0
  obtain ⟨⟨op, b1', e1⟩, hq1⟩ : ∃ t, t = numP 1 raw 0 := ⟨_, rfl⟩
  replace hq1 := Lib.hid hq1.symm
  obtain ⟨hb1, o0, _, o1⟩ := numP_bytes hq1.out hb
  have o2 : op < 256 := by simpa using o1
  have l1 := Lib.hid (Nat.le_trans (numP_le hq1.out) hl.out)
  clear o1
  have m1 := HX.out.1.below b1
  have B1 := below_lo HX.out.2.1 b1 (by simp)
  go_wp2_with fail
  refine (RNumber_p _ p raw 0 1 _ r1 hb op b1' e1 hq1 (by decide) hl.out).mono ?_
  rintro en w2 ⟨rfl, r3, k3⟩
  have m3 := m1.kept k3 (by simp; omega)
  have B3 := below_row B1 B1.size k3 (fun k hk => by injection hk with hk; omega)
  have b4 := below_box0 w2 (.cells #[.int .i64 op, .int .i64 0, .slice none 0 0, .int .i64 0, .int .i64 0, .slice none 0 0] 34)
  have z2 := k3.size
  have H : RPS (w2.alloc (.cells #[.int .i64 op, .int .i64 0, .slice none 0 0, .int .i64 0, .int .i64 0, .slice none 0 0] 34)) (w.heap.size + 1) p w2.heap.size b1' e1 ⟨op, 0, [], 0, 0, []⟩ none 0 none 0 :=
    ⟨by simpa using r3.below b4, hb1, l1, Blk.new w2 _ _, own_nil _ _ _ _, own_nil _ _ _ _, hp0, by omega⟩
  have m4 := m3.below b4
  have B4 := below_row B3 B3.size (grown_of_below b4 none) (fun k hk => by cases hk)
  have hps : p < w2.heap.size := by omega
  have HM := Lib.hid (And.intro m4 B4)
  obtain ⟨R0, hR0⟩ : ∃ R, R = iterV raw 0 := ⟨_, rfl⟩
  have e0 : R0 = ⟨b1', e1, false, ⟨op, 0, [], 0, 0, []⟩⟩ := by rw [hR0]; show startR raw = _; unfold startR; rw [hq1.out]
  have hS : RSt (w2.alloc (.cells #[.int .i64 op, .int .i64 0, .slice none 0 0, .int .i64 0, .int .i64 0, .slice none 0 0] 34)) (w2.alloc (.cells #[.int .i64 op, .int .i64 0, .slice none 0 0, .int .i64 0, .int .i64 0, .slice none 0 0] 34)) (w.heap.size + 1) p w2.heap.size op 0 R0 := by
    rw [e0]; exact ⟨none, 0, none, 0, H, fun _ => ⟨rfl, rfl⟩, fun _ => ⟨rfl, rfl⟩, fun _ => rfl, Below.refl _ _⟩
  have y0 : R0.bad = false := by rw [e0]
  have opq : (numP 1 raw 0).1 = op := by rw [hq1.out]
  obtain ⟨R1, hR1⟩ : ∃ R, R = iterV raw 1 := ⟨_, rfl⟩
  obtain ⟨R2, hR2⟩ : ∃ R, R = iterV raw 2 := ⟨_, rfl⟩
  obtain ⟨R3, hR3⟩ : ∃ R, R = iterV raw 3 := ⟨_, rfl⟩
  obtain ⟨R4, hR4⟩ : ∃ R, R = iterV raw 4 := ⟨_, rfl⟩
  have o0' : R0.x.op = op := by rw [hR0, iterV_op, opq]
  have o1' : R1.x.op = op := by rw [hR1, iterV_op, opq]
  have o2' : R2.x.op = op := by rw [hR2, iterV_op, opq]
  have o3' : R3.x.op = op := by rw [hR3, iterV_op, opq]
  rw [← hR4] at hp
  have n1 : R1 = stepV 0 R0 := by rw [hR1, hR0]; rfl
  have n2 : R2 = stepV 1 R1 := by rw [hR2, hR1]; rfl
  have n3 : R3 = stepV 2 R2 := by rw [hR3, hR2]; rfl
  have n4 : R4 = stepV 3 R3 := by rw [hR4, hR3]; rfl
  replace n1 := Lib.hid n1
  replace n2 := Lib.hid n2
  replace n3 := Lib.hid n3
  replace n4 := Lib.hid n4
  have y1 : R1.bad = false := by
    rw [n1.out]
    show (if hasN R0.x.op 1 then idR R0 else R0).bad = false
    split
    · exact y0
    · exact y0
  replace y1 := Lib.hid y1
  replace o0' := Lib.hid o0'
  replace o1' := Lib.hid o1'
  replace o2' := Lib.hid o2'
  replace o3' := Lib.hid o3'
  clear y0 opq e0 hR0 hR1 hR2 hR3 hR4
  have g0 := hS.op o0'.out
  replace hS := Lib.hid hS
  clear r1 r3 k3 m1 m3 m4 B1 B3 B4 b4 z2 b1 H HX hq1 hb1 l1
  generalize hlo : w.heap.size + 1 = lo at *
  go_wp2_with fail
  obtain ⟨w3, hw3⟩ : ∃ W, W = w2.alloc (.cells #[.int .i64 op, .int .i64 0, .slice none 0 0, .int .i64 0, .int .i64 0, .slice none 0 0] 34) := ⟨_, rfl⟩
  rw [← hw3] at hS g0 HM ⊢
  clear hw3
  obtain ⟨s, hs⟩ : ∃ s, s = w2.heap.size := ⟨_, rfl⟩
  rw [← hs] at hS g0 hps ⊢
  clear hs
  refine (RhasID_h op _).mono ?_
  rintro en wr ⟨rfl, hwr⟩
  replace hwr := hwr.symm
  subst hwr
  go_upto_if 17 with fail
  go_cut [6] (fun s6 w' => s6 = .bool true ∧ RSt w3 w' lo p s op 1 R1)
  case first =>
    cases hh : hasN op 1 with
    | false =>
      have e1 : R1 = R0 := by rw [n1.out]; show (if hasN R0.x.op 1 then _ else _) = _; rw [o0'.out, hh]; rfl
      go_wp2_with fail
      go_meet
      exact ⟨rfl, by rw [e1]; exact hS.out.next⟩
    | true =>
      obtain ⟨⟨v, b', e'⟩, hq⟩ : ∃ t, t = sgnP 8 R0.b R0.e := ⟨_, rfl⟩
      have e1 : R1 = ⟨b', e', R0.bad, { R0.x with id := v }⟩ := by rw [n1.out]; show (if hasN R0.x.op 1 then idR R0 else _) = _; rw [o0'.out, hh, if_pos rfl]; unfold idR; rw [← hq]
      replace hq := Lib.hid hq.symm
      replace e1 := Lib.hid e1
      obtain ⟨A', a', B', c', hP, i1, i3, i2, hB⟩ := hS.out
      have HI := Lib.hid (And.intro i1 (And.intro i3 (And.intro i2 hB)))
      have HP := Lib.hid hP
      clear hS hP i1 i3 i2 hB g0
      go_wp2_with fail
      refine (RSigned_p lo p R0.b R0.e 8 _ HP.out.r HP.out.hb v b' e' hq (by decide) HP.out.hn.out).mono ?_
      rintro en w4 ⟨rfl, r2, g2⟩
      have P2 := HP.out.read r2 (sgnP_bytes hq.out HP.out.hb) (sgnP_le hq.out) g2
      have f1 := P2.sb.frozen 1
      have c1 := P2.sb.cell 1
      have B2 := below_row HI.out.2.2.2 HP.out.le g2 (fun k hk => by injection hk with hk; have := HP.out.lp; omega)
      have P3 := Lib.hid (P2.setN 1 (.int .i64 v) { R0.x with id := v } rfl rfl rfl)
      have B3 := Lib.hid (below_row B2 P2.le (grownBy_cell w4 s 1 (.int .i64 v)) (fun k hk => by injection hk with hk; have := P2.lp; have := P2.ps; omega))
      clear P2 B2 r2 g2 HP
      simp only [cmC, List.getElem?_cons_zero, List.getElem?_cons_succ] at c1
      go_wp2_with fail
      go_meet
      rw [e1.out]
      exact ⟨rfl, A', a', B', c', P3.out, fun h => HI.out.1 (by omega), fun h => HI.out.2.1 (by omega), HI.out.2.2.1, B3.out⟩
  case rest =>
    obtain ⟨rfl, hS⟩ := hcut
    obtain ⟨W1, rfl⟩ : ∃ W, W = wc := ⟨_, rfl⟩
    have g0 := hS.op o1'.out
    replace hS := Lib.hid hS
    obtain ⟨k2, hk2⟩ : ∃ k, k = !R2.bad := ⟨_, rfl⟩
    replace hk2 := Lib.hid hk2
    clear n1 o0'
    go_wp2_with fail
    refine (RhasVec_h op _).mono ?_
    rintro en wr ⟨rfl, hwr⟩
    replace hwr := hwr.symm
    subst hwr
    go_upto_if 23 with fail
    go_cut [6] (fun s6 w' => s6 = .bool k2 ∧ RSt w3 w' lo p s op 2 R2)
    case first =>
      cases hh : hasN op 2 with
      | false =>
        have e1 : R2 = R1 := by rw [n2.out]; show (if hasN R1.x.op 2 then _ else _) = _; rw [o1'.out, hh]; rfl
        go_wp2_with fail
        go_meet
        exact ⟨by rw [hk2.out, e1, y1.out]; rfl, by rw [e1]; exact hS.out.next⟩
      | true =>
        obtain ⟨⟨v, ok, b', e'⟩, hq⟩ : ∃ t, t = rvec R1.b R1.e := ⟨_, rfl⟩
        have e1 : R2 = ⟨b', e', !ok, { R1.x with v := v }⟩ := by rw [n2.out]; show (if hasN R1.x.op 2 then rvR R1 else _) = _; rw [o1'.out, hh, if_pos rfl]; unfold rvR; rw [← hq]
        replace hq := Lib.hid hq.symm
        replace e1 := Lib.hid e1
        obtain ⟨A', a', B', c', hP, i1, i3, i2, hB⟩ := hS.out
        have HI := Lib.hid (And.intro i1 (And.intro i3 (And.intro i2 hB)))
        have HP := Lib.hid hP
        clear hS hP i1 i3 i2 hB g0
        go_wp2_with fail
        refine (RVec_calls lo p R1.b R1.e _ HP.out.r HP.out.hb HP.out.hn.out HP.out.lp (v, ok, b', e') hq).mono ?_
        rintro en w4 ⟨V, cv, rfl, o2, r2, g2⟩
        have hlf := rvec_left R1.b R1.e HP.out.hb
        rw [hq.out] at hlf
        have P2 := HP.out.read r2 hlf.1 hlf.2 g2
        have f1 := P2.sb.frozen 2
        have c1 := P2.sb.cell 2
        have B2 := below_row HI.out.2.2.2 HP.out.le g2 (fun k hk => by injection hk with hk; have := HP.out.lp; omega)
        have P3 := Lib.hid (P2.setV o2 HP.out.sb.lt)
        have B3 := Lib.hid (below_row B2 P2.le (grownBy_cell w4 s 2 (.slice V v.length cv)) (fun k hk => by injection hk with hk; have := P2.lp; have := P2.ps; omega))
        clear P2 B2 r2 g2 o2 HP hlf
        simp only [cmC, List.getElem?_cons_zero, List.getElem?_cons_succ] at c1
        dsimp only
        go_wp2_with fail
        go_meet
        rw [hk2.out, e1.out]
        exact ⟨by simp, V, cv, B', c', P3.out, fun h => absurd h (by decide), fun h => HI.out.2.1 (by omega), fun h => absurd (hh.symm.trans h) (by decide), B3.out⟩
    case rest =>
      obtain ⟨rfl, hS⟩ := hcut
      obtain ⟨W2, rfl⟩ : ∃ W, W = wc := ⟨_, rfl⟩
      have g0 := hS.op o2'.out
      replace hS := Lib.hid hS
      have y3 : R3.bad = R2.bad := by
        rw [n3.out]
        show (if hasN R2.x.op 4 then seaR R2 else R2).bad = R2.bad
        split <;> rfl
      have hk3 := Lib.hid (show k2 = !R3.bad by rw [hk2.out, y3])
      clear n2 o1' y1 hk2 y3
      go_wp2_with fail
      refine (RhasK_h op _).mono ?_
      rintro en wr ⟨rfl, hwr⟩
      replace hwr := hwr.symm
      subst hwr
      go_upto_if 32 with fail
      go_cut [6] (fun s6 w' => s6 = .bool k2 ∧ RSt w3 w' lo p s op 3 R3)
      case first =>
        cases hh : hasN op 4 with
        | false =>
          have e1 : R3 = R2 := by rw [n3.out]; show (if hasN R2.x.op 4 then _ else _) = _; rw [o2'.out, hh]; rfl
          go_wp2_with fail
          go_meet
          exact ⟨rfl, by rw [e1]; exact hS.out.next⟩
        | true =>
          obtain ⟨⟨v, b', e'⟩, hq⟩ : ∃ t, t = numP 4 R2.b R2.e := ⟨_, rfl⟩
          obtain ⟨⟨u, b'', e''⟩, hu⟩ : ∃ t, t = numP 4 b' e' := ⟨_, rfl⟩
          have e1 : R3 = ⟨b'', e'', R2.bad, { R2.x with k := v, p := u }⟩ := by rw [n3.out]; show (if hasN R2.x.op 4 then seaR R2 else _) = _; rw [o2'.out, hh, if_pos rfl]; unfold seaR; rw [← hq]; dsimp only; rw [← hu]
          replace hq := Lib.hid hq.symm
          replace hu := Lib.hid hu.symm
          replace e1 := Lib.hid e1
          obtain ⟨A', a', B', c', hP, i1, i3, i2, hB⟩ := hS.out
          obtain ⟨hb2, v0, _, v1⟩ := numP_bytes hq.out hP.hb
          obtain ⟨hb3, u0, _, u1⟩ := numP_bytes hu.out hb2
          have v2 : v < 4294967296 := by simpa using v1
          have u2 : u < 4294967296 := by simpa using u1
          have wv := wrap_i v v0 (by omega)
          have wu := wrap_i u u0 (by omega)
          clear v1 u1
          have HI := Lib.hid (And.intro i1 (And.intro i3 (And.intro i2 hB)))
          have HP := Lib.hid hP
          clear hS hP i1 i3 i2 hB g0
          go_wp2_with fail
          refine (RNumber_p lo p R2.b R2.e 4 _ HP.out.r HP.out.hb v b' e' hq (by decide) HP.out.hn.out).mono ?_
          rintro en w4 ⟨rfl, r2, g2⟩
          have P2 := HP.out.read r2 hb2 (numP_le hq.out) g2
          have B2 := below_row HI.out.2.2.2 HP.out.le g2 (fun k hk => by injection hk with hk; have := HP.out.lp; omega)
          replace P2 := Lib.hid P2
          replace B2 := Lib.hid B2
          clear HP r2 g2
          go_wp2_with fail
          refine (RNumber_p lo p b' e' 4 _ P2.out.r hb2 u b'' e'' hu (by decide) P2.out.hn.out).mono ?_
          rintro en w5 ⟨rfl, r3, g3⟩
          have P3 := P2.out.read r3 hb3 (numP_le hu.out) g3
          have B3 := below_row B2.out P2.out.le g3 (fun k hk => by injection hk with hk; have := P2.out.lp; omega)
          have f3 := P3.sb.frozen 3
          have f4 := P3.sb.frozen 4
          have c3 := P3.sb.cell 3
          have c4 := P3.sb.cell 4
          have P4 := P3.setN 3 (.int .i64 v) { R2.x with k := v } rfl rfl rfl
          have B4 := below_row B3 P3.le (grownBy_cell w5 s 3 (.int .i64 v)) (fun k hk => by injection hk with hk; have := P3.lp; have := P3.ps; omega)
          have P5 := Lib.hid (P4.setN 4 (.int .i64 u) { R2.x with k := v, p := u } rfl rfl rfl)
          have B5 := Lib.hid (below_row B4 P4.le (grownBy_cell _ s 4 (.int .i64 u)) (fun k hk => by injection hk with hk; have := P3.lp; have := P3.ps; omega))
          clear P2 B2 P3 B3 P4 B4 r3 g3
          simp only [cmC, List.getElem?_cons_zero, List.getElem?_cons_succ] at c3 c4
          go_wp2_with fail
          go_meet
          rw [e1.out]
          exact ⟨rfl, A', a', B', c', P5.out, fun h => absurd h (by decide), fun h => HI.out.2.1 (by omega), HI.out.2.2.1, B5.out⟩
      case rest =>
        obtain ⟨rfl, hS⟩ := hcut
        obtain ⟨W3, rfl⟩ : ∃ W, W = wc := ⟨_, rfl⟩
        have g0 := hS.op o3'.out
        replace hS := Lib.hid hS
        obtain ⟨k4, hk4⟩ : ∃ k, k = !R4.bad := ⟨_, rfl⟩
        replace hk4 := Lib.hid hk4
        clear n3 o2'
        go_upto_if 43 with fail
        go_cut [6] (fun s6 w' => s6 = .bool k4 ∧ RSt w3 w' lo p s op 4 R4)
        case first =>
          cases hh : hasN op 8 with
          | false =>
            have e8 := Lib.hid (show (op == 8) = false by rw [has_draws] at hh; simpa using hh)
            rw [e8.out]
            have e1 : R4 = R3 := by rw [n4.out]; show (if hasN R3.x.op 8 then _ else _) = _; rw [o3'.out, hh]; rfl
            go_wp2_with fail
            go_meet
            exact ⟨by rw [hk4.out, hk3.out, e1], by rw [e1]; exact hS.out.next⟩
          | true =>
            have e8 := Lib.hid (show (op == 8) = true by rw [has_draws] at hh; simpa using hh)
            rw [e8.out]
            obtain ⟨⟨n, b0, e0⟩, hq⟩ : ∃ t, t = numP 2 R3.b R3.e := ⟨_, rfl⟩
            obtain ⟨A', a', B', c', hP, i1, i3, i2, hB⟩ := hS.out
            obtain rfl := i2 (draws_no_vec op hh)
            obtain ⟨rfl, hd⟩ := i3 (by decide)
            obtain ⟨hb2, v0, _, v1⟩ := numP_bytes hq.symm hP.hb
            have v2 : n < 65536 := by simpa using v1
            have wv := wrap_i n v0 (by omega)
            clear v1
            obtain ⟨m, rfl⟩ := Int.eq_ofNat_of_zero_le v0
            obtain ⟨ok2, hok2⟩ : ∃ ok, ok = (k2 && decide ((m : Int) ≤ 4096)) := ⟨_, rfl⟩
            obtain ⟨T, hT⟩ : ∃ T, T = drawO ok2 m b0 e0 [] := ⟨_, rfl⟩
            have e1 : R4 = ⟨T.1, T.2.1, !ok2, { R3.x with d := T.2.2 }⟩ := by
              rw [n4.out]; show (if hasN R3.x.op 8 then draR R3 else _) = _; rw [o3'.out, hh, if_pos rfl]; unfold draR drawsP; rw [← hq, hT, hok2, hk3.out]
              dsimp only
              unfold drawO
              cases R3.bad with
              | true => rfl
              | false =>
                by_cases hm : (m : Int) ≤ 4096
                · rw [decide_eq_true hm, decide_eq_false (show ¬ 4096 < (m : Int) by omega)]; rfl
                · rw [decide_eq_false hm, decide_eq_true (show 4096 < (m : Int) by omega)]; rfl
            replace hq := Lib.hid hq.symm
            replace e1 := Lib.hid e1
            replace hT := Lib.hid hT
            replace hok2 := Lib.hid hok2
            have HP := Lib.hid hP
            have HB := Lib.hid hB
            clear hS hP i1 i3 i2 hB g0
            go_wp2_with fail
            refine (RNumber_p lo p R3.b R3.e 2 _ HP.out.r HP.out.hb _ b0 e0 hq (by decide) HP.out.hn.out).mono ?_
            rintro en w4 ⟨rfl, r2, g2⟩
            have P2 := Lib.hid (HP.out.read r2 hb2 (numP_le hq.out) g2)
            have B2 := Lib.hid (below_row HB.out HP.out.le g2 (fun k hk => by injection hk with hk; have := HP.out.lp; omega))
            clear HP HB r2 g2
            go_upto_region 12 with fail
            go_cut [6] (fun s6 w' => s6 = .bool ok2 ∧ w' = w4)
            case first =>
              cases k2 with
              | false =>
                go_wp2_with fail
                go_meet
                rw [hok2.out]
                exact ⟨rfl, rfl⟩
              | true =>
                go_wp2_with fail
                go_meet
                rw [hok2.out]
                exact ⟨rfl, rfl⟩
            case rest =>
              obtain ⟨rfl, rfl⟩ := hcut
              obtain ⟨W4, rfl⟩ : ∃ W, W = wc := ⟨_, rfl⟩
              go_wp2_with fail
              go_loopg [8] (m + 1) (fun gk i w' => ∃ (k : Nat) (b' : List Int) (e' : Int) (d' : List Int) (B' : Option Addr) (c' : Nat), i = .int .i64 (k : Int) ∧ k ≤ m ∧ m < k + gk ∧ RPS w' lo p s b' e' { R3.x with d := d' } none a' B' c' ∧ drawO ok2 (m - k) b' e' d' = T ∧ d'.length ≤ k ∧ Below lo w3 w')
              case atStart => exact ⟨0, b0, e0, [], none, c', rfl, by omega, by omega, by have := P2.out; rw [show ({ R3.x with d := [] } : Cm) = R3.x by rw [← hd]]; exact this, by rw [hT.out]; rfl, by simp, B2.out⟩
              case round =>
                clear P2 B2
                obtain ⟨k, b', e', d', B', c', rfl, hk, hg, h, hL, hdl, hB⟩ := hrel
                have fin : ∀ W', drawO ok2 (m - k) b' e' d' = (b', e', d') → RPS W' lo p s b' e' { R3.x with d := d' } none a' B' c' → Below lo w3 W' → Value.bool ok2 = .bool k4 ∧ RSt w3 W' lo p s op 4 R4 := fun W' h1 h2 h3 => by
                  rw [hk4.out, e1.out, ← hL, h1]
                  exact ⟨by simp, none, a', B', c', h2, fun h => absurd h (by decide), fun h => absurd h (by decide), fun _ => rfl, h3⟩
                replace fin := Lib.hid fin
                have ce := h.r.cellE
                by_cases hkm : k < m
                case neg =>
                  obtain rfl : k = m := by omega
                  have HX := Lib.hid (And.intro h hB)
                  clear h hB
                  go_wp2_with fail
                  go_meet
                  exact fin.out _ (by rw [Nat.sub_self]; unfold drawO; split <;> rfl) HX.out.1 HX.out.2
                have hkm' : (k : Int) < (m : Int) := by omega
                obtain ⟨j, hj⟩ : ∃ j, m - k = j + 1 := ⟨m - k - 1, by omega⟩
                rw [hj] at hL fin
                by_cases he : e' = 0
                case neg =>
                  have he' : (e' == 0) = false := by simpa using he
                  have HX := Lib.hid (And.intro h hB)
                  clear h hB
                  go_wp2_with fail
                  go_meet
                  exact fin.out _ (by unfold drawO; split
                                      · show (if e' ≠ 0 then _ else _) = _; rw [if_pos he]
                                      · rfl) HX.out.1 HX.out.2
                subst he
                cases ok2 with
                | false =>
                  have HX := Lib.hid (And.intro h hB)
                  clear h hB
                  go_wp2_with fail
                  go_meet
                  exact fin.out _ rfl HX.out.1 HX.out.2
                | true =>
                  clear fin
                  go_wp2_with fail
                  obtain ⟨⟨v1, b1, e1'⟩, hq1⟩ : ∃ t, t = numP 8 b' 0 := ⟨_, rfl⟩
                  have hL2 : drawO true j b1 e1' (d' ++ [v1]) = T := by
                    rw [← hL]
                    show drawL j b1 e1' (d' ++ [v1]) = drawL (j + 1) b' 0 d'
                    rw [drawL, if_neg (show ¬ ((0 : Int) ≠ 0) by simp), ← hq1]
                  replace hq1 := Lib.hid hq1.symm
                  replace hL := Lib.hid hL2
                  clear hL2 ce
                  refine region_L (oneQ 7 (fun X => X.cell? ⟨s, 5, none⟩ = some (.slice B' d'.length c')) (fun _ => True)) hmix ?_
                  replace hB := below_row hB h.le (grown_of_below ((Below.refl wr.heap.size wr).drew) none) (fun k hk => by cases hk)
                  replace h := h.below ((Below.refl _ _).drew)
                  generalize wr.drew = V at *
                  have hS : oneQ 7 (fun X => X.cell? ⟨s, 5, none⟩ = some (.slice B' d'.length c')) (fun _ => True) (Array.replicate 8 false) V := ⟨fun _ => h.sb.cell 5, trivial⟩
                  refine anyL_take (fun _ => True) [] (i := 0) (v := ?_) rfl (by kernel_rfl) (by kernel_rfl) (by kernel_rfl) (fun _ _ _ h => h) (by kernel_rfl) (one_ind (i := 0) (by decide)) (fun _ _ _ _ => trivial) (Or.inl ⟨by rfl, ?_⟩) hS ?_
                  rotate_left
                  · intro X hX
                    clear hX
                    go_simp
                    try with_reducible rfl
                  try simp only [List.getElem_toArray, List.getElem_cons_zero, List.getElem_cons_succ]
                  simp only [Act.put, List.setIfInBounds_toArray, List.set_cons_zero, List.set_cons_succ]
                  replace hS := (one_ind (i := 0) (by decide) _ _).2 hS
                  refine anyL_take (fun X => X.cell? ⟨s, 5, none⟩ = some (.slice B' d'.length c')) [7] (i := 1) (v := ?_) rfl (by kernel_rfl) (by kernel_rfl) (by kernel_rfl) (fun _ _ _ h => h) (by kernel_rfl) (one_ind (i := 1) (by decide)) (fun L X h1 h2 => h2.1 (h1 7 (by simp))) (Or.inl ⟨by rfl, ?_⟩) hS ?_
                  rotate_left
                  · intro X hX
                    have g2 := hX; clear hX
                    go_simp
                    try with_reducible rfl
                  try simp only [List.getElem_toArray, List.getElem_cons_zero, List.getElem_cons_succ]
                  simp only [Act.put, List.setIfInBounds_toArray, List.set_cons_zero, List.set_cons_succ]
                  replace hS := (one_ind (i := 1) (by decide) _ _).2 hS
                  refine anyL_take (fun _ => True) [] (i := 2) (v := ?_) rfl (by kernel_rfl) (by kernel_rfl) (by kernel_rfl) (fun _ _ _ h => h) (by kernel_rfl) (one_ind (i := 2) (by decide)) (fun _ _ _ _ => trivial) (Or.inl ⟨by rfl, ?_⟩) hS ?_
                  rotate_left
                  · intro X hX
                    clear hX
                    go_simp
                    try with_reducible rfl
                  try simp only [List.getElem_toArray, List.getElem_cons_zero, List.getElem_cons_succ]
                  simp only [Act.put, List.setIfInBounds_toArray, List.set_cons_zero, List.set_cons_succ]
                  replace hS := (one_ind (i := 2) (by decide) _ _).2 hS
                  clear hS
                  refine anyL_step (i := 3) (by kernel_rfl) rfl (by rfl) (fun K hK => ?_)
                  go_simp
                  refine (RNumber_p lo p _ _ 8 _ h.r h.hb v1 b1 e1' hq1 (by decide) h.hn.out).mono ?_
                  rintro en w1 ⟨rfl, r1, k1⟩
                  replace hB := below_row hB h.le k1 (fun k hk => by injection hk with hk; have := h.lp; omega)
                  replace h := h.read r1 (numP_bytes hq1.out h.hb).1 (numP_le hq1.out) k1
                  clear r1 k1
                  dsimp only
                  refine hK.out _ _ ⟨fun _ => h.sb.cell 5, trivial⟩ ?_
                  clear hK K
                  try simp only [Act.put, List.setIfInBounds_toArray, List.set_cons_zero, List.set_cons_succ]
                  have bb := below_box0 w1 (.cells #[.int .u64 v1] 26)
                  have hb2 := h.below bb
                  have B2 := below_row hB h.le (grown_of_below bb none) (fun k hk => by cases hk)
                  have hel : Rd (w1.alloc (.cells #[.int .u64 v1] 26)) (some ⟨w1.heap.size, 0, none⟩) (nums .u64 [v1]) := .inr ⟨_, rfl, World.news_of_block (cs := #[.int .u64 v1]) (t := 26) (fr := (0, 0)) (heap_alloc_new w1 _)⟩
                  refine anyL_step (i := 4) (by kernel_rfl) rfl (by rfl) (fun K hK => ?_)
                  go_simp
                  refine hK.out _ _ ⟨fun _ => hb2.sb.cell 5, trivial⟩ ?_
                  clear hK K
                  try simp only [Act.put, List.setIfInBounds_toArray, List.set_cons_zero, List.set_cons_succ]
                  generalize w1.alloc (.cells #[.int .u64 v1] 26) = w2 at *
                  obtain ⟨z, hz⟩ : ∃ z, z = d' ++ [v1] := ⟨_, rfl⟩
                  refine anyL_step (i := 5) (by kernel_rfl) rfl (by rfl) (fun K hK => ?_)
                  refine wp_app_row (s + 1) _ _ 22 26 .u64 8 rfl Try.underlying22 (by kernel_rfl) (by decide) B' c' d' [v1] (some ⟨w1.heap.size, 0, none⟩) 1 rfl rfl hb2.od hel (by have := hb2.sb.lt; omega) (by simp; omega) ?_
                  intro D1 c1 w3' o3 hg3 _ _
                  rw [← hz] at o3 ⊢
                  replace hz := Lib.hid hz
                  have h3 := hb2.appD o3 hg3
                  have B3 := below_row B2 hb2.le hg3 (fun k hk => by have := hb2.od.lt k hk; have := hb2.lp; have := hb2.ps; omega)
                  have q3 := hb2.ptr hg3 (fun k hk => (hb2.od.lt k hk).1)
                  have z3 := hg3.size
                  refine hK.out _ _ ⟨fun _ => q3.2, trivial⟩ ?_
                  clear hK K
                  try simp only [Act.put, List.setIfInBounds_toArray, List.set_cons_zero, List.set_cons_succ]
                  have hS : oneQ 7 (fun X => X.cell? ⟨s, 5, none⟩ = some (.slice B' d'.length c')) (fun _ => True) (((((((Array.replicate 8 false).setIfInBounds 0 true).setIfInBounds 1 true).setIfInBounds 2 true).setIfInBounds 3 true).setIfInBounds 4 true).setIfInBounds 5 true) w3' := ⟨fun _ => q3.2, trivial⟩
                  refine anyL_take (fun _ => True) [] (i := 6) (v := ?_) rfl (by kernel_rfl) (by kernel_rfl) (by kernel_rfl) (fun _ _ _ h => h) (by kernel_rfl) (one_ind (i := 6) (by decide)) (fun _ _ _ _ => trivial) (Or.inl ⟨by rfl, ?_⟩) hS ?_
                  rotate_left
                  · intro X hX
                    clear hX
                    go_simp
                    try with_reducible rfl
                  try simp only [List.getElem_toArray, List.getElem_cons_zero, List.getElem_cons_succ]
                  simp only [Act.put, List.setIfInBounds_toArray, List.set_cons_zero, List.set_cons_succ]
                  replace hS := (one_ind (i := 6) (by decide) _ _).2 hS
                  clear hS
                  have d5 := q3.2
                  have f5 := q3.1 5
                  have B4 := below_row B3 (Nat.le_trans hb2.le hg3.size) (grownBy_cell w3' s 5 (.slice D1 z.length c1)) (fun k hk => by injection hk with hk; have := hb2.lp; have := hb2.ps; omega)
                  refine anyL_step (i := 7) (by kernel_rfl) rfl (by rfl) (fun K hK => ?_)
                  go_simp
                  refine hK.out _ _ ⟨fun hh => absurd hh (by decide), trivial⟩ ?_
                  clear hK K
                  try simp only [Act.put, List.setIfInBounds_toArray, List.set_cons_zero, List.set_cons_succ]
                  refine anyL_done (by kernel_rfl) ?_ _
                  go_wp2_with fail
                  go_roundg (gk - 1)
                  case measure => omega
                  case rel => exact ⟨k + 1, b1, e1', z, D1, c1, by simp, by omega, by omega, h3, by rw [show m - (k + 1) = j by omega, hz.out]; exact hL.out, by rw [hz.out]; simp; omega, B4⟩
        case rest =>
          obtain ⟨rfl, hS⟩ := hcut
          obtain ⟨W5, rfl⟩ : ∃ W, W = wc := ⟨_, rfl⟩
          clear n4 o3' hk3 g0
          obtain ⟨A, a, B, c, h, _, _, _, hB⟩ := hS
          obtain ⟨b, e, bad, x⟩ := R4
          dsimp only at *
          have hk5 := hk4.out
          clear hk4
          subst hk5
          have hp' := hp.out
          clear hp
          have mW : Blk W5 w.heap.size 34 (cmC cm0 none 0 none 0) := (hB.block w.heap.size (by omega)).trans HM.out.1
          have HB := Lib.hid (below_lo HM.out.2 hB (by omega))
          have hle := HB.out.size
          have HH := Lib.hid h
          replace mW := Lib.hid mW
          clear h hB
          have bad_end : ∀ W', Blk W' w.heap.size 34 (cmC cm0 none 0 none 0) → Below w.heap.size w W' → r = none → (∃ A1 a1 B1 c1, Ending.returned (.tuple #[.agg (cmC cm0 none 0 none 0).toArray, .int .i64 4]) = .returned (.tuple #[.agg (cmC (r.getD cm0) A1 a1 B1 c1).toArray, .int .i64 er]) ∧ CmK ((((((W'.setCell ⟨w.heap.size, 0, none⟩ (.int .i64 cm0.op)).setCell ⟨w.heap.size, 1, none⟩ (.int .i64 cm0.id)).setCell ⟨w.heap.size, 2, none⟩ (.slice none cm0.v.length 0)).setCell ⟨w.heap.size, 3, none⟩ (.int .i64 cm0.k)).setCell ⟨w.heap.size, 4, none⟩ (.int .i64 cm0.p)).setCell ⟨w.heap.size, 5, none⟩ (.slice none cm0.d.length 0)) (r.getD cm0) A1 a1 B1 c1 ∧ ∀ ad, A1 = some ad ∨ B1 = some ad → w.heap.size ≤ ad.block) ∧ Below w.heap.size w ((((((W'.setCell ⟨w.heap.size, 0, none⟩ (.int .i64 cm0.op)).setCell ⟨w.heap.size, 1, none⟩ (.int .i64 cm0.id)).setCell ⟨w.heap.size, 2, none⟩ (.slice none cm0.v.length 0)).setCell ⟨w.heap.size, 3, none⟩ (.int .i64 cm0.k)).setCell ⟨w.heap.size, 4, none⟩ (.int .i64 cm0.p)).setCell ⟨w.heap.size, 5, none⟩ (.slice none cm0.d.length 0)) := fun W' _ h2 hr => by
            subst hr
            have he4 : er = 4 := her.out
            subst he4
            exact ⟨⟨none, 0, none, 0, rfl, ⟨SlI.nil _ _, SlI.nil _ _⟩, fun ad had => by rcases had with had | had <;> cases had⟩, below_row h2 h2.size (six_grown W' _ cm0 none 0 none 0) (fun k hk => by injection hk with hk; omega)⟩
          replace bad_end := Lib.hid bad_end
          have cells : ∀ W', Blk W' w.heap.size 34 (cmC cm0 none 0 none 0) → (W'.cell? ⟨w.heap.size, 0, none⟩ = some (.int .i64 0) ∧ W'.cell? ⟨w.heap.size, 1, none⟩ = some (.int .i64 0) ∧ W'.cell? ⟨w.heap.size, 2, none⟩ = some (.slice none 0 0) ∧ W'.cell? ⟨w.heap.size, 3, none⟩ = some (.int .i64 0) ∧ W'.cell? ⟨w.heap.size, 4, none⟩ = some (.int .i64 0) ∧ W'.cell? ⟨w.heap.size, 5, none⟩ = some (.slice none 0 0)) ∧ (W'.frozen? ⟨w.heap.size, 0, none⟩ = false ∧ W'.frozen? ⟨w.heap.size, 1, none⟩ = false ∧ W'.frozen? ⟨w.heap.size, 2, none⟩ = false ∧ W'.frozen? ⟨w.heap.size, 3, none⟩ = false ∧ W'.frozen? ⟨w.heap.size, 4, none⟩ = false ∧ W'.frozen? ⟨w.heap.size, 5, none⟩ = false) := fun W' h =>
            ⟨⟨h.cell 0, h.cell 1, h.cell 2, h.cell 3, h.cell 4, h.cell 5⟩, ⟨h.frozen 0, h.frozen 1, h.frozen 2, h.frozen 3, h.frozen 4, h.frozen 5⟩⟩
          replace cells := Lib.hid cells
          cases bad with
          | true =>
            rw [if_neg (by simp)] at hp'
            obtain ⟨⟨c0, c1, c2, c3, c4, c5⟩, f0, f1, f2, f3, f4, f5⟩ := cells.out _ mW.out
            rw [show (!true) = false from rfl]
            go_wp2_with fail
            refine ret_blk2 (cs := cmC cm0 none 0 none 0) rfl rfl rfl (mW.out.six cm0 none 0 none 0) Try.underlying34 rfl (by kernel_rfl) ?_
            exact bad_end.out _ mW.out HB.out hp'.symm
          | false =>
            rw [show (!false) = true from rfl]
            go_wp2_with fail
            refine (REnd_calls _ p b e _ HH.out.r).mono ?_
            rintro en wr ⟨rfl, nd, rfl⟩
            have HH2 := HH.out.below (below_drewN (Below.refl _ _) nd)
            have mW2 := mW.out.below (below_drewN (Below.refl _ _) nd)
            have HB2 := below_row HB.out HB.out.size (grown_of_below (below_drewN (Below.refl _ _) nd) none) (fun k hk => by cases hk)
            obtain ⟨W6, hW6⟩ : ∃ W, W = W5.drewN nd := ⟨_, rfl⟩
            rw [← hW6] at HH2 mW2 HB2 ⊢
            clear HH mW HB hW6
            have HH := Lib.hid HH2
            have mW := Lib.hid mW2
            have HB := Lib.hid HB2
            clear HH2 mW2 HB2
            by_cases he : endE b e = 0
            case neg =>
              have he' : (endE b e != 0) = true := by simpa using he
              rw [if_neg (fun hh => he hh.2.1)] at hp'
              obtain ⟨⟨c0, c1, c2, c3, c4, c5⟩, f0, f1, f2, f3, f4, f5⟩ := cells.out _ mW.out
              go_wp2_with fail
              refine ret_blk2 (cs := cmC cm0 none 0 none 0) rfl rfl rfl (mW.out.six cm0 none 0 none 0) Try.underlying34 rfl (by kernel_rfl) ?_
              exact bad_end.out _ mW.out HB.out hp'.symm
            rw [he]
            obtain ⟨l0, l1, l2, l3, l4, l5⟩ := load_cm HH.out.sb
            go_wp2_with fail
            refine (RCheck_calls x A a B c W6).mono ?_
            rintro en w4 ⟨rfl, b4⟩
            have mW4 := mW.out.below b4
            have H4 := HH.out.below b4
            have B4 := Lib.hid (below_row HB.out HB.out.size (grown_of_below b4 none) (fun k hk => by cases hk))
            clear l0 l1 l2 l3 l4 l5 mW HH HB b4
            obtain ⟨⟨c0, c1, c2, c3, c4, c5⟩, f0, f1, f2, f3, f4, f5⟩ := cells.out _ mW4
            obtain ⟨l0, l1, l2, l3, l4, l5⟩ := load_cm H4.sb
            have hsz := H4.sb.lt
            have hps2 := H4.ps
            have hlp2 := H4.lp
            replace mW := Lib.hid mW4
            replace H4 := Lib.hid H4
            clear mW4
            by_cases hck : cmOk x
            case neg =>
              rw [if_neg hck]
              rw [if_neg (fun hh => hck hh.2.2)] at hp'
              clear l0 l1 l2 l3 l4 l5
              go_wp2_with fail
              refine ret_blk2 (cs := cmC cm0 none 0 none 0) rfl rfl rfl (mW.out.six cm0 none 0 none 0) Try.underlying34 rfl (by kernel_rfl) ?_
              exact bad_end.out _ mW.out B4.out hp'.symm
            rw [if_pos hck]
            rw [if_pos ⟨trivial, he, hck⟩] at hp'
            subst hp'
            have he0 : er = 0 := her.out
            subst he0
            clear her
            go_wp2_with fail
            refine ret_blk2 (cs := cmC x A a B c) rfl rfl rfl (mW.out.six x A a B c) Try.underlying34 rfl (by kernel_rfl) ?_
            have hgr := six_grown w4 w.heap.size x A a B c
            refine ⟨⟨A, a, B, c, rfl, ⟨OwnI.sl (H4.out.ov.kept hgr (.inr fun hh => by have := (H4.out.ov.lt _ hh).1; omega)), OwnI.sl (H4.out.od.kept hgr (.inr fun hh => by have := (H4.out.od.lt _ hh).1; omega))⟩, fun ad had => ?_⟩, below_row B4.out B4.out.size hgr (fun k hk => by injection hk with hk; omega)⟩
            rcases had with rfl | rfl
            · have := (H4.out.ov.lt ad.block rfl).1; omega
            · have := (H4.out.od.lt ad.block rfl).1; omega
end Go.Proofs.Ytjdablkdndmcgaa
