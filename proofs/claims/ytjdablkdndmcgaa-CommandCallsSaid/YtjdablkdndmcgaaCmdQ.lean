/- CmdQ: Parse. -/
import Derived.Test.YtjdablkdndmcgaaCmdM
import Derived.Test.YtjdablkdndmcgaaCmdC
namespace Go.Proofs.Ytjdablkdndmcgaa
set_option linter.unusedVariables false
set_option linter.unusedSimpArgs false
open Go.RowKit
/-- Where a command's reading stands. -/
structure Rs where
  b : List Int
  e : Int
  bad : Bool
  x : Cm
def idR (s : Rs) : Rs := ⟨(sgnP 8 s.b s.e).2.1, (sgnP 8 s.b s.e).2.2, s.bad, { s.x with id := (sgnP 8 s.b s.e).1 }⟩
def vecR (s : Rs) : Rs := ⟨(vecP s.b s.e s.bad).1, (vecP s.b s.e s.bad).2.1, (vecP s.b s.e s.bad).2.2.1, { s.x with v := (vecP s.b s.e s.bad).2.2.2 }⟩
def seaR (s : Rs) : Rs :=
  ⟨(numP 4 (numP 4 s.b s.e).2.1 (numP 4 s.b s.e).2.2).2.1, (numP 4 (numP 4 s.b s.e).2.1 (numP 4 s.b s.e).2.2).2.2, s.bad, { s.x with k := (numP 4 s.b s.e).1, p := (numP 4 (numP 4 s.b s.e).2.1 (numP 4 s.b s.e).2.2).1 }⟩
def draR (s : Rs) : Rs := ⟨(drawsP s.b s.e s.bad []).1, (drawsP s.b s.e s.bad []).2.1, (drawsP s.b s.e s.bad []).2.2.1, { s.x with d := (drawsP s.b s.e s.bad []).2.2.2 }⟩
def stepR : Nat → Rs → Rs
  | 0, s => if hasN s.x.op 1 then idR s else s
  | 1, s => if hasN s.x.op 2 then vecR s else s
  | 2, s => if hasN s.x.op 4 then seaR s else s
  | _ + 3, s => if hasN s.x.op 8 then draR s else s
def startR (raw : List Int) : Rs := ⟨(numP 1 raw 0).2.1, (numP 1 raw 0).2.2, false, ⟨(numP 1 raw 0).1, 0, [], 0, 0, []⟩⟩
def iterR (raw : List Int) : Nat → Rs
  | 0 => startR raw
  | i + 1 => stepR i (iterR raw i)
/-- Parse: the command, if any. -/
def parseR (raw : List Int) : Option Cm :=
  if (iterR raw 4).bad = false ∧ endE (iterR raw 4).b (iterR raw 4).e = 0 ∧ cmOk (iterR raw 4).x then some (iterR raw 4).x else none
def cm0 : Cm := ⟨0, 0, [], 0, 0, []⟩
def PSr (w : World) (lo p q s : Nat) (R : Rs) (A : Option Addr) (a : Nat) (B : Option Addr) (c : Nat) : Prop := PS w lo p q s R.b R.e R.bad R.x A a B c
theorem below_lo {B lo : Nat} {w0 w w1 : World} (h : Below B w0 w) (h1 : Below lo w w1) (hl : B ≤ lo) : Below B w0 w1 :=
  ⟨h1.os.trans h.os, h1.tape.trans h.tape, h1.output.trans h.output, Nat.le_trans h.size h1.size, fun i hi => (h1.block i (by omega)).trans (h.block i hi)⟩
theorem id_R {w : World} {lo p q s : Nat} {R : Rs} {A : Option Addr} {a : Nat} {B : Option Addr} {c : Nat} (h : PS w lo p q s R.b R.e R.bad R.x A a B c) :
    Calls Try.prog 61 #[.pointer (some ⟨q, 0, none⟩), .pointer (some ⟨s, 0, none⟩)] w fun en w' => en = .returned (.tuple #[]) ∧ PS w' lo p q s (idR R).b (idR R).e (idR R).bad (idR R).x A a B c ∧ Below lo w w' :=
  Cid_calls h _ _ _ (Lib.hid rfl)
theorem vector_R {w : World} {lo p q s : Nat} {R : Rs} {A : Option Addr} {a : Nat} {c : Nat} (h : PS w lo p q s R.b R.e R.bad R.x A a none c) (hv : R.x.v = []) :
    Calls Try.prog 62 #[.pointer (some ⟨q, 0, none⟩), .pointer (some ⟨s, 0, none⟩)] w fun en w' => en = .returned (.tuple #[]) ∧ (∃ A a, PS w' lo p q s (vecR R).b (vecR R).e (vecR R).bad (vecR R).x A a none c) ∧ Below lo w w' :=
  Cvector_calls h hv _ (Lib.hid rfl)
theorem search_R {w : World} {lo p q s : Nat} {R : Rs} {A : Option Addr} {a : Nat} {B : Option Addr} {c : Nat} (h : PS w lo p q s R.b R.e R.bad R.x A a B c) :
    Calls Try.prog 63 #[.pointer (some ⟨q, 0, none⟩), .pointer (some ⟨s, 0, none⟩)] w fun en w' => en = .returned (.tuple #[]) ∧ PS w' lo p q s (seaR R).b (seaR R).e (seaR R).bad (seaR R).x A a B c ∧ Below lo w w' :=
  Csearch_calls h _ _ _ (Lib.hid rfl) _ _ _ (Lib.hid rfl)
theorem draws_R {w : World} {lo p q s : Nat} {R : Rs} {a : Nat} {B : Option Addr} {c : Nat} (h : PS w lo p q s R.b R.e R.bad R.x none a B c) (hd : R.x.d = []) :
    Calls Try.prog 64 #[.pointer (some ⟨q, 0, none⟩), .pointer (some ⟨s, 0, none⟩)] w fun en w' => en = .returned (.tuple #[]) ∧ (∃ B c, PS w' lo p q s (draR R).b (draR R).e (draR R).bad (draR R).x none a B c) ∧ Below lo w w' :=
  Cdraws_calls h hd _ (Lib.hid rfl)
theorem draws_no_vec (op : Int) (h : hasN op 8 = true) : hasN op 2 = false := by
  rw [has_draws] at h
  rw [has_vec]
  simp at h ⊢
  omega
/-- A command is stored, cell by cell. -/
theorem Blk.six {w : World} {g : Nat} {x : Cm} {A : Option Addr} {a : Nat} {B : Option Addr} {b : Nat} (h : Blk w g 34 (cmC x A a B b)) (y : Cm) (A' : Option Addr) (a' : Nat) (B' : Option Addr) (b' : Nat) :
    Blk ((((((w.setCell ⟨g, 0, none⟩ (.int .i64 y.op)).setCell ⟨g, 1, none⟩ (.int .i64 y.id)).setCell ⟨g, 2, none⟩ (.slice A' y.v.length a')).setCell ⟨g, 3, none⟩ (.int .i64 y.k)).setCell ⟨g, 4, none⟩ (.int .i64 y.p)).setCell ⟨g, 5, none⟩ (.slice B' y.d.length b')) g 34 (cmC y A' a' B' b') :=
  (((((h.set 0 _).set 1 _).set 2 _).set 3 _).set 4 _).set 5 _
theorem six_grown (w : World) (g : Nat) (y : Cm) (A' : Option Addr) (a' : Nat) (B' : Option Addr) (b' : Nat) :
    w.grownBy ((((((w.setCell ⟨g, 0, none⟩ (.int .i64 y.op)).setCell ⟨g, 1, none⟩ (.int .i64 y.id)).setCell ⟨g, 2, none⟩ (.slice A' y.v.length a')).setCell ⟨g, 3, none⟩ (.int .i64 y.k)).setCell ⟨g, 4, none⟩ (.int .i64 y.p)).setCell ⟨g, 5, none⟩ (.slice B' y.d.length b')) (some g) :=
  ((((((grownBy_cell w g 0 _).trans (grownBy_cell _ g 1 _)).trans (grownBy_cell _ g 2 _)).trans (grownBy_cell _ g 3 _)).trans (grownBy_cell _ g 4 _)).trans (grownBy_cell _ g 5 _))
/-- A command is loaded. -/
theorem load_cm {w : World} {g : Nat} {x : Cm} {A : Option Addr} {a : Nat} {B : Option Addr} {b : Nat} (h : Blk w g 34 (cmC x A a B b)) :
    w.cell? ⟨g, 0, none⟩ = some (.int .i64 x.op) ∧ w.cell? ⟨g, 1, none⟩ = some (.int .i64 x.id) ∧ w.cell? ⟨g, 2, none⟩ = some (.slice A x.v.length a) ∧ w.cell? ⟨g, 3, none⟩ = some (.int .i64 x.k) ∧ w.cell? ⟨g, 4, none⟩ = some (.int .i64 x.p) ∧ w.cell? ⟨g, 5, none⟩ = some (.slice B x.d.length b) :=
  ⟨h.cell 0, h.cell 1, h.cell 2, h.cell 3, h.cell 4, h.cell 5⟩
set_option maxHeartbeats 4000000 in
theorem Parse_calls (A : Option Addr) (c : Nat) (raw : List Int) (w : World) (h : SlI w .u8 A c raw) (hb : Bytes raw) (hl : raw.length ≤ 140737488355320) (r : Option Cm) (hr : Hid (parseR raw = r)) :
    Calls Try.prog 21 #[.slice A raw.length c] w fun en w' => (∃ A1 a1 B1 c1, en = .returned (.tuple #[.agg (cmC (r.getD cm0) A1 a1 B1 c1).toArray, .int .i64 (if r.isSome then 0 else 4)]) ∧ CmK w' (r.getD cm0) A1 a1 B1 c1 ∧ ∀ ad, A1 = some ad ∨ B1 = some ad → w.heap.size ≤ ad.block) ∧ Below w.heap.size w w' := by
  have h0 : Blk (w.alloc (.cells #[.int .i64 0, .int .i64 0, .slice none 0 0, .int .i64 0, .int .i64 0, .slice none 0 0] 34)) w.heap.size 34 (cmC cm0 none 0 none 0) := Blk.new w _ _
  have B0 := below_box0 w (.cells #[.int .i64 0, .int .i64 0, .slice none 0 0, .int .i64 0, .int .i64 0, .slice none 0 0] 34)
  have s0 := h.below B0
  have HX := Lib.hid (And.intro h0 (And.intro B0 s0))
  clear h0 B0 s0 h
  go_enter Try.func21, Try.ntmps21
  go_wp2_with fail
  refine (New_calls A c raw _ HX.out.2.2 hl).mono ?_
  rintro en w1 ⟨p, rfl, hp0, hp1, r1, b1⟩
  simp at hp0
  have q0 : Blk (w1.alloc (.cells #[.pointer (some ⟨p, 0, none⟩), .bool false] 65)) w1.heap.size 65 [.pointer (some ⟨p, 0, none⟩), .bool false] := Blk.new w1 _ _
  have g1 := q0.cell 0
  have bb := below_box0 w1 (.cells #[.pointer (some ⟨p, 0, none⟩), .bool false] 65)
  have r2 := r1.below bb
  obtain ⟨⟨op, b1', e1⟩, hq1⟩ : ∃ t, t = numP 1 raw 0 := ⟨_, rfl⟩
  replace hq1 := Lib.hid hq1.symm
  obtain ⟨hb1, o0, _, o1⟩ := numP_bytes hq1.out hb
  have o2 : op < 256 := by simpa using o1
  clear o1
  have m1 := HX.out.1.below b1
  have B1 := below_lo HX.out.2.1 b1 (by simp)
  have m2 := m1.below bb
  have B2 := below_row B1 B1.size (grown_of_below bb none) (fun k hk => by cases hk)
  go_wp2_with fail
  refine (Number_p _ p raw 0 1 _ r2 hb op b1' e1 hq1).mono ?_
  rintro en w2 ⟨rfl, r3, k3⟩
  have m3 := m2.kept k3 (by simp; omega)
  have q3 := q0.kept k3 (by simp; omega)
  have B3 := below_row B2 B2.size k3 (fun k hk => by injection hk with hk; omega)
  have b4 := below_box0 w2 (.cells #[.int .i64 op, .int .i64 0, .slice none 0 0, .int .i64 0, .int .i64 0, .slice none 0 0] 34)
  have z2 := k3.size
  have H : PS (w2.alloc (.cells #[.int .i64 op, .int .i64 0, .slice none 0 0, .int .i64 0, .int .i64 0, .slice none 0 0] 34)) (w.heap.size + 1) p w1.heap.size w2.heap.size b1' e1 false ⟨op, 0, [], 0, 0, []⟩ none 0 none 0 :=
    ⟨by simpa using r3.below b4, hb1, q3.below b4, Blk.new w2 _ _, own_nil _ _ _ _, own_nil _ _ _ _, hp0, hp1, by simp at z2; omega⟩
  have m4 := m3.below b4
  have B4 := below_row B3 B3.size (grown_of_below b4 none) (fun k hk => by cases hk)
  have HM := Lib.hid (And.intro m4 B4)
  have HH := Lib.hid H
  clear r1 r2 r3 k3 q0 q3 g1 m1 m2 m3 m4 B1 B2 B3 B4 bb b4 z2 b1 H HX
  go_wp2_with fail
  generalize w2.alloc (.cells #[.int .i64 op, .int .i64 0, .slice none 0 0, .int .i64 0, .int .i64 0, .slice none 0 0] 34) = w3 at *
  generalize w1.heap.size = q at *
  generalize w2.heap.size = s at *
  have hst : startR raw = ⟨b1', e1, false, ⟨op, 0, [], 0, 0, []⟩⟩ := by unfold startR; rw [hq1.out]
  replace hst := Lib.hid hst
  go_loopg [6] 5 (fun gk f w' => ∃ (i : Nat) (A : Option Addr) (a : Nat) (B : Option Addr) (c : Nat), f = .int .u64 (2 ^ i) ∧ i ≤ 4 ∧ 4 < i + gk ∧ PS w' (w.heap.size + 1) p q s (iterR raw i).b (iterR raw i).e (iterR raw i).bad (iterR raw i).x A a B c ∧ (iterR raw i).x.op = op ∧
    (i ≤ 1 → A = none ∧ (iterR raw i).x.v = []) ∧ (i ≤ 3 → B = none ∧ (iterR raw i).x.d = []) ∧ (hasN op 2 = false → A = none) ∧ Below (w.heap.size + 1) w3 w')
  case atStart => exact ⟨0, none, 0, none, 0, rfl, by decide, by decide, by show PS _ _ _ _ _ (startR raw).b (startR raw).e (startR raw).bad (startR raw).x _ _ _ _; rw [hst.out]; exact HH.out, by show (startR raw).x.op = _; rw [hst.out], fun _ => ⟨rfl, by show (startR raw).x.v = _; rw [hst.out]⟩, fun _ => ⟨rfl, by show (startR raw).x.d = _; rw [hst.out]⟩, fun _ => rfl, Below.refl _ _⟩
  case round =>
    obtain ⟨i, A, a, B, c, rfl, hi, hg, h, ho, s1, s2, s3, hB⟩ := hrel
    have hi5 : i = 0 ∨ i = 1 ∨ i = 2 ∨ i = 3 ∨ i = 4 := by omega
    clear hst
    rcases hi5 with rfl | rfl | rfl | rfl | rfl
    · obtain ⟨R, hR⟩ : ∃ R, R = iterR raw 0 := ⟨_, rfl⟩
      rw [← hR] at h ho s1 s2
      have hnx : iterR raw 1 = stepR 0 R := by rw [hR]; rfl
      replace hR := Lib.hid hR
      have g0 := h.sb.cell 0
      simp only [cmC, List.getElem?_cons_zero] at g0
      rw [ho] at g0
      go_wp2_with fail
      refine (has_calls op 1 _).mono ?_
      rintro en wr ⟨rfl, rfl⟩
      cases hh : hasN op 1 with
      | false =>
        have hs : stepR 0 R = R := by show (if hasN R.x.op 1 then _ else _) = _; rw [ho, hh]; rfl
        go_wp2_with fail
        go_roundg (gk - 1)
        case measure => omega
        case rel => exact ⟨1, A, a, B, c, rfl, by decide, by omega, by rw [hnx, hs]; exact h, by rw [hnx, hs]; exact ho, by rw [hnx, hs]; exact fun hi => ⟨(s1 (by decide)).1, (s1 (by decide)).2⟩, by rw [hnx, hs]; exact fun hi => ⟨(s2 (by decide)).1, (s2 (by decide)).2⟩, s3, hB⟩
      | true =>
        have hs : stepR 0 R = idR R := by show (if hasN R.x.op 1 then _ else _) = _; rw [ho, hh]; rfl
        clear g0
        go_wp2_with fail
        refine (reads_calls _).mono ?_
        rintro en w1 ⟨m, rfl, hm, bm⟩
        have hlook := map_look 1 (fnV 61) (by decide) hm (by rfl)
        unfold fnV at hlook
        replace hB := below_row hB (by have := h.sb.lt; have := h.qs; have := h.pq; have := h.lp; omega) (grown_of_below bm none) (fun k hk => by cases hk)
        replace h := h.below bm
        go_wp2_with fail
        refine (id_R h).mono ?_
        rintro en w2 ⟨rfl, h, b2⟩
        replace hB := below_lo hB b2 (by omega)
        go_wp2_with fail
        go_roundg (gk - 1)
        case measure => omega
        case rel => exact ⟨1, A, a, B, c, rfl, by decide, by omega, by rw [hnx, hs]; exact h, by rw [hnx, hs]; exact ho, by rw [hnx, hs]; exact fun _ => ⟨(s1 (by decide)).1, (s1 (by decide)).2⟩, by rw [hnx, hs]; exact fun _ => ⟨(s2 (by decide)).1, (s2 (by decide)).2⟩, s3, hB⟩
    · obtain ⟨R, hR⟩ : ∃ R, R = iterR raw 1 := ⟨_, rfl⟩
      rw [← hR] at h ho s1 s2
      have hnx : iterR raw 2 = stepR 1 R := by rw [hR]; rfl
      replace hR := Lib.hid hR
      have g0 := h.sb.cell 0
      simp only [cmC, List.getElem?_cons_zero] at g0
      rw [ho] at g0
      go_wp2_with fail
      refine (has_calls op 2 _).mono ?_
      rintro en wr ⟨rfl, rfl⟩
      cases hh : hasN op 2 with
      | false =>
        have hs : stepR 1 R = R := by show (if hasN R.x.op 2 then _ else _) = _; rw [ho, hh]; rfl
        go_wp2_with fail
        go_roundg (gk - 1)
        case measure => omega
        case rel => exact ⟨2, A, a, B, c, rfl, by decide, by omega, by rw [hnx, hs]; exact h, by rw [hnx, hs]; exact ho, by rw [hnx, hs]; exact fun hi => absurd hi (by decide), by rw [hnx, hs]; exact fun hi => ⟨(s2 (by decide)).1, (s2 (by decide)).2⟩, fun _ => (s1 (by decide)).1, hB⟩
      | true =>
        have hs : stepR 1 R = vecR R := by show (if hasN R.x.op 2 then _ else _) = _; rw [ho, hh]; rfl
        clear g0
        go_wp2_with fail
        refine (reads_calls _).mono ?_
        rintro en w1 ⟨m, rfl, hm, bm⟩
        have hlook := map_look 2 (fnV 62) (by decide) hm (by rfl)
        unfold fnV at hlook
        replace hB := below_row hB (by have := h.sb.lt; have := h.qs; have := h.pq; have := h.lp; omega) (grown_of_below bm none) (fun k hk => by cases hk)
        replace h := h.below bm
        obtain ⟨rfl, hv⟩ := s1 (by decide)
        obtain ⟨rfl, hd2⟩ := s2 (by decide)
        go_wp2_with fail
        refine (vector_R h hv).mono ?_
        rintro en w2 ⟨rfl, ⟨A, a, h⟩, b2⟩
        replace hB := below_lo hB b2 (by omega)
        go_wp2_with fail
        go_roundg (gk - 1)
        case measure => omega
        case rel => exact ⟨2, A, a, none, c, rfl, by decide, by omega, by rw [hnx, hs]; exact h, by rw [hnx, hs]; exact ho, by rw [hnx, hs]; exact fun hh => absurd hh (by decide), by rw [hnx, hs]; exact fun _ => ⟨rfl, hd2⟩, fun hn => absurd (hh.symm.trans hn) (by decide), hB⟩
    · obtain ⟨R, hR⟩ : ∃ R, R = iterR raw 2 := ⟨_, rfl⟩
      rw [← hR] at h ho s1 s2
      have hnx : iterR raw 3 = stepR 2 R := by rw [hR]; rfl
      replace hR := Lib.hid hR
      have g0 := h.sb.cell 0
      simp only [cmC, List.getElem?_cons_zero] at g0
      rw [ho] at g0
      go_wp2_with fail
      refine (has_calls op 4 _).mono ?_
      rintro en wr ⟨rfl, rfl⟩
      cases hh : hasN op 4 with
      | false =>
        have hs : stepR 2 R = R := by show (if hasN R.x.op 4 then _ else _) = _; rw [ho, hh]; rfl
        go_wp2_with fail
        go_roundg (gk - 1)
        case measure => omega
        case rel => exact ⟨3, A, a, B, c, rfl, by decide, by omega, by rw [hnx, hs]; exact h, by rw [hnx, hs]; exact ho, by rw [hnx, hs]; exact fun hi => absurd hi (by decide), by rw [hnx, hs]; exact fun hi => ⟨(s2 (by decide)).1, (s2 (by decide)).2⟩, s3, hB⟩
      | true =>
        have hs : stepR 2 R = seaR R := by show (if hasN R.x.op 4 then _ else _) = _; rw [ho, hh]; rfl
        clear g0
        go_wp2_with fail
        refine (reads_calls _).mono ?_
        rintro en w1 ⟨m, rfl, hm, bm⟩
        have hlook := map_look 4 (fnV 63) (by decide) hm (by rfl)
        unfold fnV at hlook
        replace hB := below_row hB (by have := h.sb.lt; have := h.qs; have := h.pq; have := h.lp; omega) (grown_of_below bm none) (fun k hk => by cases hk)
        replace h := h.below bm
        go_wp2_with fail
        refine (search_R h).mono ?_
        rintro en w2 ⟨rfl, h, b2⟩
        replace hB := below_lo hB b2 (by omega)
        go_wp2_with fail
        go_roundg (gk - 1)
        case measure => omega
        case rel => exact ⟨3, A, a, B, c, rfl, by decide, by omega, by rw [hnx, hs]; exact h, by rw [hnx, hs]; exact ho, by rw [hnx, hs]; exact fun hh => absurd hh (by decide), by rw [hnx, hs]; exact fun _ => ⟨(s2 (by decide)).1, (s2 (by decide)).2⟩, s3, hB⟩
    · obtain ⟨R, hR⟩ : ∃ R, R = iterR raw 3 := ⟨_, rfl⟩
      rw [← hR] at h ho s1 s2
      have hnx : iterR raw 4 = stepR 3 R := by rw [hR]; rfl
      replace hR := Lib.hid hR
      have g0 := h.sb.cell 0
      simp only [cmC, List.getElem?_cons_zero] at g0
      rw [ho] at g0
      go_wp2_with fail
      refine (has_calls op 8 _).mono ?_
      rintro en wr ⟨rfl, rfl⟩
      cases hh : hasN op 8 with
      | false =>
        have hs : stepR 3 R = R := by show (if hasN R.x.op 8 then _ else _) = _; rw [ho, hh]; rfl
        go_wp2_with fail
        go_roundg (gk - 1)
        case measure => omega
        case rel => exact ⟨4, A, a, B, c, rfl, by decide, by omega, by rw [hnx, hs]; exact h, by rw [hnx, hs]; exact ho, by rw [hnx, hs]; exact fun hi => absurd hi (by decide), by rw [hnx, hs]; exact fun hi => absurd hi (by decide), s3, hB⟩
      | true =>
        have hs : stepR 3 R = draR R := by show (if hasN R.x.op 8 then _ else _) = _; rw [ho, hh]; rfl
        clear g0
        go_wp2_with fail
        refine (reads_calls _).mono ?_
        rintro en w1 ⟨m, rfl, hm, bm⟩
        have hlook := map_look 8 (fnV 64) (by decide) hm (by rfl)
        unfold fnV at hlook
        replace hB := below_row hB (by have := h.sb.lt; have := h.qs; have := h.pq; have := h.lp; omega) (grown_of_below bm none) (fun k hk => by cases hk)
        replace h := h.below bm
        obtain ⟨_, hd⟩ := s2 (by decide)
        obtain rfl := s3 (draws_no_vec op hh)
        go_wp2_with fail
        refine (draws_R h hd).mono ?_
        rintro en w2 ⟨rfl, ⟨B, c, h⟩, b2⟩
        replace hB := below_lo hB b2 (by omega)
        go_wp2_with fail
        go_roundg (gk - 1)
        case measure => omega
        case rel => exact ⟨4, none, a, B, c, rfl, by decide, by omega, by rw [hnx, hs]; exact h, by rw [hnx, hs]; exact ho, by rw [hnx, hs]; exact fun hh => absurd hh (by decide), by rw [hnx, hs]; exact fun hh => absurd hh (by decide), fun _ => rfl, hB⟩
    · clear s1 s2 s3
      obtain ⟨R, hR⟩ : ∃ R, R = iterR raw 4 := ⟨_, rfl⟩
      rw [← hR] at h
      clear ho
      have hp : parseR raw = if R.bad = false ∧ endE R.b R.e = 0 ∧ cmOk R.x then some R.x else none := by rw [hR]; rfl
      replace hR := Lib.hid hR
      rw [hr.out] at hp
      clear hr
      obtain ⟨b, e, bad, x⟩ := R
      dsimp only at *
      have mW : Blk wr w.heap.size 34 (cmC cm0 none 0 none 0) := (hB.block _ (by omega)).trans HM.out.1
      have HB := Lib.hid (below_lo HM.out.2 hB (by omega))
      have hle := HB.out.size
      obtain ⟨g0, g1, _⟩ := h.cells
      have c0 := mW.cell 0
      have c1 := mW.cell 1
      have c2 := mW.cell 2
      have c3 := mW.cell 3
      have c4 := mW.cell 4
      have c5 := mW.cell 5
      have f0 := mW.frozen 0
      have f1 := mW.frozen 1
      have f2 := mW.frozen 2
      have f3 := mW.frozen 3
      have f4 := mW.frozen 4
      have f5 := mW.frozen 5
      simp only [cmC, cm0, List.length_nil, List.getElem?_cons_zero, List.getElem?_cons_succ] at c0 c1 c2 c3 c4 c5
      have HH := Lib.hid h
      replace mW := Lib.hid mW
      clear h hB
      cases bad with
      | true =>
        rw [if_neg (by simp)] at hp
        subst hp
        go_wp2_with fail
        refine ret_blk2 (cs := cmC cm0 none 0 none 0) rfl rfl rfl (mW.out.six cm0 none 0 none 0) Try.underlying34 rfl (by kernel_rfl) ?_
        exact ⟨⟨none, 0, none, 0, rfl, ⟨SlI.nil _ _, SlI.nil _ _⟩, fun ad had => by rcases had with had | had <;> cases had⟩, below_row HB.out HB.out.size (six_grown wr _ cm0 none 0 none 0) (fun k hk => by injection hk with hk; omega)⟩
      | false =>
        go_wp2_with fail
        refine (End_calls _ p b e _ HH.out.r).mono ?_
        rintro en wr ⟨rfl, rfl⟩
        by_cases he : endE b e = 0
        case neg =>
          have he' : (endE b e != 0) = true := by simpa using he
          rw [if_neg (fun hh => he hh.2.1)] at hp
          subst hp
          go_wp2_with fail
          refine ret_blk2 (cs := cmC cm0 none 0 none 0) rfl rfl rfl (mW.out.six cm0 none 0 none 0) Try.underlying34 rfl (by kernel_rfl) ?_
          exact ⟨⟨none, 0, none, 0, rfl, ⟨SlI.nil _ _, SlI.nil _ _⟩, fun ad had => by rcases had with had | had <;> cases had⟩, below_row HB.out HB.out.size (six_grown wr _ cm0 none 0 none 0) (fun k hk => by injection hk with hk; omega)⟩
        rw [he]
        obtain ⟨l0, l1, l2, l3, l4, l5⟩ := load_cm HH.out.sb
        go_wp2_with fail
        have hck : CmK wr x A a B c := ⟨OwnI.sl HH.out.ov, OwnI.sl HH.out.od⟩
        refine (CCheck_calls x A a B c wr hck).mono ?_
        rintro en w4 ⟨rfl, b4⟩
        have mW4 := mW.out.below b4
        have H4 := HH.out.below b4
        have B4 := Lib.hid (below_row HB.out HB.out.size (grown_of_below b4 none) (fun k hk => by cases hk))
        clear hck l0 l1 l2 l3 l4 l5 c0 c1 c2 c3 c4 c5 f0 f1 f2 f3 f4 f5 g0 g1 mW HH HB b4
        have c0 := mW4.cell 0
        have c1 := mW4.cell 1
        have c2 := mW4.cell 2
        have c3 := mW4.cell 3
        have c4 := mW4.cell 4
        have c5 := mW4.cell 5
        have f0 := mW4.frozen 0
        have f1 := mW4.frozen 1
        have f2 := mW4.frozen 2
        have f3 := mW4.frozen 3
        have f4 := mW4.frozen 4
        have f5 := mW4.frozen 5
        simp only [cmC, cm0, List.length_nil, List.getElem?_cons_zero, List.getElem?_cons_succ] at c0 c1 c2 c3 c4 c5
        obtain ⟨l0, l1, l2, l3, l4, l5⟩ := load_cm H4.sb
        have hsz := H4.sb.lt
        have hqs := H4.qs
        have hpq := H4.pq
        replace mW := Lib.hid mW4
        replace H4 := Lib.hid H4
        clear mW4
        by_cases hck : cmOk x
        case neg =>
          rw [if_neg hck]
          rw [if_neg (fun hh => hck hh.2.2)] at hp
          subst hp
          clear l0 l1 l2 l3 l4 l5
          go_wp2_with fail
          refine ret_blk2 (cs := cmC cm0 none 0 none 0) rfl rfl rfl (mW.out.six cm0 none 0 none 0) Try.underlying34 rfl (by kernel_rfl) ?_
          exact ⟨⟨none, 0, none, 0, rfl, ⟨SlI.nil _ _, SlI.nil _ _⟩, fun ad had => by rcases had with had | had <;> cases had⟩, below_row B4.out B4.out.size (six_grown w4 _ cm0 none 0 none 0) (fun k hk => by injection hk with hk; omega)⟩
        rw [if_pos hck]
        rw [if_pos ⟨trivial, he, hck⟩] at hp
        subst hp
        go_wp2_with fail
        refine ret_blk2 (cs := cmC x A a B c) rfl rfl rfl (mW.out.six x A a B c) Try.underlying34 rfl (by kernel_rfl) ?_
        have hgr := six_grown w4 w.heap.size x A a B c
        refine ⟨⟨A, a, B, c, rfl, ⟨OwnI.sl (H4.out.ov.kept hgr (.inr fun hh => by have := (H4.out.ov.lt _ hh).1; omega)), OwnI.sl (H4.out.od.kept hgr (.inr fun hh => by have := (H4.out.od.lt _ hh).1; omega))⟩, fun ad had => ?_⟩, below_row B4.out B4.out.size hgr (fun k hk => by injection hk with hk; omega)⟩
        rcases had with rfl | rfl
        · have := (H4.out.ov.lt ad.block rfl).1; omega
        · have := (H4.out.od.lt ad.block rfl).1; omega
end Go.Proofs.Ytjdablkdndmcgaa
