/- CmdRP: the reference's Parse: its state, and that it answers as Parse. -/
import Derived.Test.YtjdablkdndmcgaaCmdRV
import Derived.Test.YtjdablkdndmcgaaCmdK
import Derived.Test.YtjdablkdndmcgaaCmdQ
namespace Go.Proofs.Ytjdablkdndmcgaa
set_option linter.unusedVariables false
set_option linter.unusedSimpArgs false
open Go.RowKit
/-- The reference's reader in block p, the command in s. -/
structure RPS (w : World) (lo p s : Nat) (b : List Int) (e : Int) (x : Cm) (A : Option Addr) (a : Nat) (B : Option Addr) (c : Nat) : Prop where
  r : RRd w lo p b e
  hb : Bytes b
  hn : Hid (b.length ≤ 1000000)
  sb : Blk w s 34 (cmC x A a B c)
  ov : OwnI w (s + 1) 29 .i16 A a x.v
  od : OwnI w (s + 1) 26 .u64 B c x.d
  lp : lo ≤ p
  ps : p < s
theorem RPS.read {w w1 : World} {lo p s : Nat} {b : List Int} {e : Int} {x : Cm} {A : Option Addr} {a : Nat} {B : Option Addr} {c : Nat} (h : RPS w lo p s b e x A a B c) {b1 : List Int} {e1 : Int} (hr : RRd w1 lo p b1 e1) (hb1 : Bytes b1) (hl : b1.length ≤ b.length) (hg : w.grownBy w1 (some p)) :
    RPS w1 lo p s b1 e1 x A a B c :=
  ⟨hr, hb1, Lib.hid (Nat.le_trans hl h.hn.out), h.sb.kept hg (by have := h.ps; simp; omega),
    h.ov.kept hg (.inr fun he => by have := h.ov.lt p he; have := h.ps; omega), h.od.kept hg (.inr fun he => by have := h.od.lt p he; have := h.ps; omega), h.lp, h.ps⟩
theorem RPS.below {w w1 : World} {lo p s : Nat} {b : List Int} {e : Int} {x : Cm} {A : Option Addr} {a : Nat} {B : Option Addr} {c : Nat} (h : RPS w lo p s b e x A a B c) (hb : Below w.heap.size w w1) : RPS w1 lo p s b e x A a B c :=
  ⟨h.r.below hb, h.hb, h.hn, h.sb.below hb, own_below h.ov hb, own_below h.od hb, h.lp, h.ps⟩
/-- A whole number of the command is set. -/
theorem RPS.setN {w : World} {lo p s : Nat} {b : List Int} {e : Int} {x : Cm} {A : Option Addr} {a : Nat} {B : Option Addr} {c : Nat} (h : RPS w lo p s b e x A a B c) (i : Nat) (v : Value) (x' : Cm) (hx : (cmC x A a B c).set i v = cmC x' A a B c) (hv : x'.v = x.v) (hd : x'.d = x.d) :
    RPS (w.setCell ⟨s, i, none⟩ v) lo p s b e x' A a B c := by
  have hg := grownBy_cell w s i v
  have := h.ps
  exact ⟨h.r.grown hg (.inr (by omega)) h.lp, h.hb, h.hn, hx ▸ h.sb.set i v,
    hv ▸ h.ov.kept hg (.inr fun he => by have := h.ov.lt s he; omega), hd ▸ h.od.kept hg (.inr fun he => by have := h.od.lt s he; omega), h.lp, h.ps⟩
/-- The vector is set. -/
theorem RPS.setV {w : World} {lo p s : Nat} {b : List Int} {e : Int} {x : Cm} {A : Option Addr} {a : Nat} {B : Option Addr} {c : Nat} (h : RPS w lo p s b e x A a B c) {V : Option Addr} {cv base : Nat} {z : List Int} (ho : OwnI w base 29 .i16 V cv z) (hs : s + 1 ≤ base) :
    RPS (w.setCell ⟨s, 2, none⟩ (.slice V z.length cv)) lo p s b e { x with v := z } V cv B c := by
  have hg := grownBy_cell w s 2 (.slice V z.length cv)
  have := h.ps
  exact ⟨h.r.grown hg (.inr (by omega)) h.lp, h.hb, h.hn, h.sb.set 2 _,
    (own_mono ho hs).kept hg (.inr fun he => by have := (ho.lt s he).1; omega), h.od.kept hg (.inr fun he => by have := h.od.lt s he; omega), h.lp, h.ps⟩
/-- A draw is put behind. -/
theorem RPS.appD {w w1 : World} {lo p s : Nat} {b : List Int} {e : Int} {x : Cm} {a : Nat} {B : Option Addr} {c : Nat} (h : RPS w lo p s b e x none a B c) {B1 : Option Addr} {c1 : Nat} {z : List Int} (ho : OwnI w1 (s + 1) 26 .u64 B1 c1 z) (hg : w.grownBy w1 (Value.slice B x.d.length c).ownBlock) :
    RPS (w1.setCell ⟨s, 5, none⟩ (.slice B1 z.length c1)) lo p s b e { x with d := z } none a B1 c1 := by
  have hr : ∀ k, (Value.slice B x.d.length c).ownBlock = some k → s + 1 ≤ k := fun k hk => (h.od.lt k hk).1
  have := h.ps
  have hg2 := grownBy_cell w1 s 5 (.slice B1 z.length c1)
  refine ⟨(h.r.row hg (fun k hk => by have := hr k hk; omega) h.lp).grown hg2 (.inr (by omega)) h.lp, h.hb, h.hn, ?_, (h.ov.kept hg (.inl rfl)).kept hg2 (.inl rfl), ho.kept hg2 (.inr fun he => by have := (ho.lt s he).1; omega), h.lp, h.ps⟩
  exact (h.sb.kept hg (fun e => by have := hr s e.symm; omega)).set 5 _
theorem RPS.ptr {w w1 : World} {lo p s : Nat} {b : List Int} {e : Int} {x : Cm} {A : Option Addr} {a : Nat} {B : Option Addr} {c : Nat} (h : RPS w lo p s b e x A a B c) {row : Option Nat} (hg : w.grownBy w1 row) (hr : ∀ k, row = some k → s + 1 ≤ k) :
    (∀ i, w1.frozen? ⟨s, i, none⟩ = false) ∧ w1.cell? ⟨s, 5, none⟩ = some (.slice B x.d.length c) := by
  have hs := h.sb.kept hg (fun e => by have := hr s e.symm; omega)
  exact ⟨fun i => hs.frozen i, hs.cell 5⟩
theorem RPS.le {w : World} {lo p s : Nat} {b : List Int} {e : Int} {x : Cm} {A : Option Addr} {a : Nat} {B : Option Addr} {c : Nat} (h : RPS w lo p s b e x A a B c) : lo ≤ w.heap.size := by
  have := h.sb.lt; have := h.lp; have := h.ps; omega
/-- What the reference's reading of a vector does. -/
def rvR (s : Rs) : Rs := ⟨(rvec s.b s.e).2.2.1, (rvec s.b s.e).2.2.2, !(rvec s.b s.e).2.1, { s.x with v := (rvec s.b s.e).1 }⟩
def stepV : Nat → Rs → Rs
  | 0, s => if hasN s.x.op 1 then idR s else s
  | 1, s => if hasN s.x.op 2 then rvR s else s
  | 2, s => if hasN s.x.op 4 then seaR s else s
  | _ + 3, s => if hasN s.x.op 8 then draR s else s
def iterV (raw : List Int) : Nat → Rs
  | 0 => startR raw
  | i + 1 => stepV i (iterV raw i)
theorem rvL_left (how : Int) : ∀ (k : Nat) (b : List Int) (e : Int) (v : List Int), Bytes b → Bytes (rvL how k b e v).2.2.1 ∧ (rvL how k b e v).2.2.1.length ≤ b.length
  | 0, b, e, v, h => ⟨h, Nat.le_refl _⟩
  | k + 1, b, e, v, h => by
    unfold rvL
    split
    · exact ⟨h, Nat.le_refl _⟩
    · split
      · have h1 := sgnP_bytes (n := 2) (b := b) (e := e) rfl h
        have h2 := sgnP_le (n := 2) (b := b) (e := e) rfl
        have h3 := rvL_left how k _ (sgnP 2 b e).2.2 (v ++ [(sgnP 2 b e).1]) h1
        exact ⟨h3.1, Nat.le_trans h3.2 h2⟩
      · have h1 := (numP_bytes (n := 8) (b := b) (e := e) rfl h).1
        have h2 := numP_le (n := 8) (b := b) (e := e) rfl
        split
        · exact ⟨h1, h2⟩
        · have h3 := rvL_left how k _ (numP 8 b e).2.2 (v ++ [(fix (numP 8 b e).1 (how - 1)).1]) h1
          exact ⟨h3.1, Nat.le_trans h3.2 h2⟩
theorem rvec_left (b : List Int) (e : Int) (h : Bytes b) : Bytes (rvec b e).2.2.1 ∧ (rvec b e).2.2.1.length ≤ b.length := by
  have h1 := (numP_bytes (n := 1) (b := b) (e := e) rfl h).1
  have h2 := numP_le (n := 1) (b := b) (e := e) rfl
  have h3 := (numP_bytes (n := 2) (b := (numP 1 b e).2.1) (e := (numP 1 b e).2.2) rfl h1).1
  have h4 := numP_le (n := 2) (b := (numP 1 b e).2.1) (e := (numP 1 b e).2.2) rfl
  unfold rvec
  split
  · exact ⟨h3, Nat.le_trans h4 h2⟩
  · have h5 := rvL_left (numP 1 b e).1 (numP 2 (numP 1 b e).2.1 (numP 1 b e).2.2).1.toNat _ (numP 2 (numP 1 b e).2.1 (numP 1 b e).2.2).2.2 [] h3
    exact ⟨h5.1, Nat.le_trans h5.2 (Nat.le_trans h4 h2)⟩
theorem vecL_bad (how : Int) (k : Nat) (b : List Int) (e : Int) (v : List Int) : (vecL how k b e true v).2.2.1 = true := by
  cases k with
  | zero => rfl
  | succ k => unfold vecL; rw [if_pos (.inl rfl)]
/-- Two readings: the same, or both have failed. -/
def SimP (f : List Int × Int × Bool × List Int) (g : List Int × Bool × List Int × Int) : Prop :=
  ((f.2.2.1 = true ∨ f.2.1 ≠ 0) ∧ (g.2.1 = false ∨ g.2.2.2 ≠ 0)) ∨ (f = (g.2.2.1, g.2.2.2, !g.2.1, g.1))
theorem rvL_sim (how : Int) : ∀ (k : Nat) (b : List Int) (e : Int) (v : List Int), SimP (vecL how k b e false v) (rvL how k b e v)
  | 0, b, e, v => by
    by_cases h : e = 0
    · subst h; exact .inr rfl
    · exact .inl ⟨.inr h, .inr h⟩
  | k + 1, b, e, v => by
    by_cases h : e = 0
    case neg =>
      refine .inl ⟨.inr (vecL_err how _ _ _ _ _ h), .inr ?_⟩
      unfold rvL; rw [if_pos h]; exact h
    subst h
    unfold vecL rvL
    rw [if_neg (show ¬ (false = true ∨ (0 : Int) ≠ 0) by simp), if_neg (show ¬ ((0 : Int) ≠ 0) by simp)]
    unfold vecS
    by_cases hh : how = 0
    · rw [if_pos hh, if_pos hh]; exact rvL_sim how k _ _ _
    · rw [if_neg hh, if_neg hh]
      by_cases he : (fix (numP 8 b 0).1 (how - 1)).2 = 0
      · rw [if_neg (show ¬ (fix (numP 8 b 0).1 (how - 1)).2 ≠ 0 from fun h => h he)]
        rw [show ((fix (numP 8 b 0).1 (how - 1)).2 != 0) = false by rw [he]; rfl]
        exact rvL_sim how k _ _ _
      · rw [if_pos he, show ((fix (numP 8 b 0).1 (how - 1)).2 != 0) = true by simpa using he]
        exact .inl ⟨.inl (vecL_bad _ _ _ _ _), .inl rfl⟩
theorem rvec_sim (b : List Int) (e : Int) : SimP (vecP b e false) (rvec b e) := by
  unfold vecP rvec
  generalize numP 1 b e = q1
  generalize numP 2 q1.2.1 q1.2.2 = q2
  obtain ⟨how, b1, e1⟩ := q1
  obtain ⟨n, b2, e2⟩ := q2
  dsimp only
  by_cases h : e2 ≠ 0 ∨ 16 < how ∨ n < 1 ∨ 1024 < n
  · rw [if_pos h]
    refine .inl ⟨?_, .inl rfl⟩
    by_cases he : e2 = 0
    · rw [show (false || decide (16 < how) || decide (n < 1) || decide (1024 < n)) = true by
        rcases h with h | h | h | h
        · exact absurd he h
        · simp [h]
        · simp [h]
        · simp [h]]
      exact .inl (vecL_bad _ _ _ _ _)
    · exact .inr (vecL_err how _ _ _ _ _ he)
  · rw [if_neg h]
    have h' : ¬ 16 < how ∧ ¬ n < 1 ∧ ¬ 1024 < n := ⟨fun hh => h (.inr (.inl hh)), fun hh => h (.inr (.inr (.inl hh))), fun hh => h (.inr (.inr (.inr hh)))⟩
    rw [show (false || decide (16 < how) || decide (n < 1) || decide (1024 < n)) = false by rw [decide_eq_false h'.1, decide_eq_false h'.2.1, decide_eq_false h'.2.2]; rfl]
    exact rvL_sim how _ _ _ _
/-- The two Parses side by side. -/
def SimQ (F T : Rs) : Prop := F = T ∨ ((F.bad = true ∨ F.e ≠ 0) ∧ (T.bad = true ∨ T.e ≠ 0))
theorem seaR_fail {s : Rs} (h : s.bad = true ∨ s.e ≠ 0) : (seaR s).bad = true ∨ (seaR s).e ≠ 0 := h.elim (fun h => .inl h) (fun h => .inr (seaR_err h))
theorem draR_bad {s : Rs} (h : s.bad = true) : (draR s).bad = true := by unfold draR drawsP; rw [h]; rfl
theorem draR_fail {s : Rs} (h : s.bad = true ∨ s.e ≠ 0) : (draR s).bad = true ∨ (draR s).e ≠ 0 := h.elim (fun h => .inl (draR_bad h)) (fun h => .inr (draR_err h))
theorem stepR_bad0 (s : Rs) (h : s.bad = false) : (stepR 0 s).bad = false := by
  show (if hasN s.x.op 1 then idR s else s).bad = false
  split
  · exact h
  · exact h
theorem seaR_op (s : Rs) : (seaR s).x.op = s.x.op := rfl
theorem rvR_op (s : Rs) : (rvR s).x.op = s.x.op := rfl
theorem iterV_op (raw : List Int) (i : Nat) : (iterV raw i).x.op = (numP 1 raw 0).1 := by
  induction i with
  | zero => rfl
  | succ i ih =>
    show (stepV i (iterV raw i)).x.op = _
    rw [← ih]
    match i with
    | 0 => show (if _ then _ else _ : Rs).x.op = _; split <;> rfl
    | 1 => show (if _ then _ else _ : Rs).x.op = _; split <;> rfl
    | 2 => show (if _ then _ else _ : Rs).x.op = _; split <;> rfl
    | _ + 3 => show (if _ then _ else _ : Rs).x.op = _; split <;> rfl
theorem iterR_op (raw : List Int) (i : Nat) : (iterR raw i).x.op = (numP 1 raw 0).1 := by
  induction i with
  | zero => rfl
  | succ i ih =>
    show (stepR i (iterR raw i)).x.op = _
    rw [← ih]
    match i with
    | 0 => show (if _ then _ else _ : Rs).x.op = _; split <;> rfl
    | 1 => show (if _ then _ else _ : Rs).x.op = _; split <;> rfl
    | 2 => show (if _ then _ else _ : Rs).x.op = _; split <;> rfl
    | _ + 3 => show (if _ then _ else _ : Rs).x.op = _; split <;> rfl
theorem iter_sim (raw : List Int) : SimQ (iterV raw 4) (iterR raw 4) := by
  have e1 : iterV raw 1 = iterR raw 1 := rfl
  have b1 : (iterR raw 1).bad = false := stepR_bad0 _ rfl
  have o1 := iterR_op raw 1
  obtain ⟨op, ho⟩ : ∃ op, op = (numP 1 raw 0).1 := ⟨_, rfl⟩
  rw [← ho] at o1
  have h2 : SimQ (iterV raw 2) (iterR raw 2) := by
    show SimQ (stepV 1 (iterV raw 1)) (stepR 1 (iterR raw 1))
    rw [e1]
    generalize iterR raw 1 = s at b1 o1
    show SimQ (if hasN s.x.op 2 then rvR s else s) (if hasN s.x.op 2 then vecR s else s)
    split
    · obtain ⟨b, e, bad, x⟩ := s
      dsimp only at b1
      subst b1
      have h := rvec_sim b e
      unfold rvR vecR
      dsimp only
      rcases h with ⟨h1, h2⟩ | h
      · exact .inr ⟨h2.elim (fun h => .inl (by show (!_) = true; rw [h]; rfl)) .inr, h1⟩
      · refine .inl ?_
        rw [h]
    · exact .inl rfl
  have o2 := (iterR_op raw 2).trans ho.symm
  have o2' := (iterV_op raw 2).trans ho.symm
  have h3 : SimQ (iterV raw 3) (iterR raw 3) := by
    show SimQ (stepV 2 (iterV raw 2)) (stepR 2 (iterR raw 2))
    generalize iterR raw 2 = T at h2 o2
    generalize iterV raw 2 = F at h2 o2'
    show SimQ (if hasN F.x.op 4 then seaR F else F) (if hasN T.x.op 4 then seaR T else T)
    rw [o2, o2']
    rcases h2 with rfl | ⟨h1, h2⟩
    · exact .inl rfl
    · split
      · exact .inr ⟨seaR_fail h1, seaR_fail h2⟩
      · exact .inr ⟨h1, h2⟩
  have o3 := (iterR_op raw 3).trans ho.symm
  have o3' := (iterV_op raw 3).trans ho.symm
  show SimQ (stepV 3 (iterV raw 3)) (stepR 3 (iterR raw 3))
  generalize iterR raw 3 = T at h3 o3
  generalize iterV raw 3 = F at h3 o3'
  show SimQ (if hasN F.x.op 8 then draR F else F) (if hasN T.x.op 8 then draR T else T)
  rw [o3, o3']
  rcases h3 with rfl | ⟨h1, h2⟩
  · exact .inl rfl
  · split
    · exact .inr ⟨draR_fail h1, draR_fail h2⟩
    · exact .inr ⟨h1, h2⟩
theorem endE_err {b : List Int} {e : Int} (h : e ≠ 0) : endE b e ≠ 0 := by
  unfold endE; rw [if_pos h]; exact h
theorem parse_V (raw : List Int) : parseR raw = if (iterV raw 4).bad = false ∧ endE (iterV raw 4).b (iterV raw 4).e = 0 ∧ cmOk (iterV raw 4).x then some (iterV raw 4).x else none := by
  unfold parseR
  rcases iter_sim raw with h | ⟨h1, h2⟩
  · rw [h]
  · rw [if_neg (fun hh => h2.elim (fun h => by rw [h] at hh; cases hh.1) (fun h => endE_err h hh.2.1)), if_neg (fun hh => h1.elim (fun h => by rw [h] at hh; cases hh.1) (fun h => endE_err h hh.2.1))]
end Go.Proofs.Ytjdablkdndmcgaa
