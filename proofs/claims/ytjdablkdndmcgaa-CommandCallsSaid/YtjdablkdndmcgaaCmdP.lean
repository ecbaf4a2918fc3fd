/- CmdP: a command's reader: what it holds; id. -/
import Derived.Test.YtjdablkdndmcgaaReaderC
import Derived.Test.YtjdablkdndmcgaaCmdS
import Derived.Test.YtjdablkdndmcgaaFloV
import Derived.Test.YtjdablkdndmcgaaOneQ
import Derived.WalkSpells
import Derived.Deep.DeepCutAuto
import Derived.Deep.CutBlock
namespace Go.Proofs.Ytjdablkdndmcgaa
set_option linter.unusedVariables false
set_option linter.unusedSimpArgs false
open Go.RowKit
/-- Number: what is told, what is left, the error. -/
def numP (n : Int) (b : List Int) (e : Int) : Int × List Int × Int := (ofB ((tk b e n 8).1.take 8), (tk b e n 8).2.1, (tk b e n 8).2.2)
def sgnP (n : Int) (b : List Int) (e : Int) : Int × List Int × Int := (sgn8 (numP n b e).1 n, (numP n b e).2.1, (numP n b e).2.2)
theorem tk_short (b : List Int) (e n : Int) : (tk b e n 8).1.length ≤ n.toNat := by
  unfold tk
  split
  · simp
  · split
    · simp
    · split
      · simp
      · simp; omega
theorem numP_bytes {n : Int} {b : List Int} {e v : Int} {b1 : List Int} {e1 : Int} (h : numP n b e = (v, b1, e1)) (hb : Bytes b) : Bytes b1 ∧ 0 ≤ v ∧ v ≤ 18446744073709551615 ∧ v < 2 ^ (8 * n.toNat) := by
  unfold numP at h
  simp only [Prod.mk.injEq] at h
  obtain ⟨h1, h2, h3⟩ := h
  have hB := tk_bytes hb (show tk b e n 8 = ((tk b e n 8).1, b1, e1) by rw [← h2, ← h3])
  have h8 := ofB8 _ hB.1
  rw [h1] at h8
  refine ⟨hB.2, h8.1, h8.2, ?_⟩
  rw [← h1]
  refine Int.lt_of_lt_of_le (ofB_lt _ (hB.1.take 8)) ?_
  have hl : ((tk b e n 8).1.take 8).length ≤ n.toNat := by
    rw [List.length_take]; exact Nat.le_trans (Nat.min_le_right _ _) (tk_short b e n)
  have : (2 : Nat) ^ (8 * ((tk b e n 8).1.take 8).length) ≤ 2 ^ (8 * n.toNat) := Nat.pow_le_pow_right (by decide) (by omega)
  exact_mod_cast this
theorem Number_p (lo p : Nat) (b : List Int) (e n : Int) (w : World) (h : Rdr w lo p b e) (hb : Bytes b) (v : Int) (b1 : List Int) (e1 : Int) (hq : Hid (numP n b e = (v, b1, e1))) :
    Calls Try.prog 41 #[.pointer (some ⟨p, 0, none⟩), .int .i64 n] w fun en w' => en = .returned (.int .u64 v) ∧ Rdr w' lo p b1 e1 ∧ w.grownBy w' (some p) := by
  have h1 := hq.out
  unfold numP at h1
  simp only [Prod.mk.injEq] at h1
  obtain ⟨h1, h2, h3⟩ := h1
  exact Number_calls lo p b e n w h hb _ b1 e1 (Lib.hid (by rw [← h2, ← h3])) v (Lib.hid h1)
theorem Signed_p (lo p : Nat) (b : List Int) (e n : Int) (w : World) (h : Rdr w lo p b e) (hb : Bytes b) (v : Int) (b1 : List Int) (e1 : Int) (hq : Hid (sgnP n b e = (v, b1, e1))) :
    Calls Try.prog 73 #[.pointer (some ⟨p, 0, none⟩), .int .i64 n] w fun en w' => en = .returned (.int .i64 v) ∧ Rdr w' lo p b1 e1 ∧ w.grownBy w' (some p) := by
  have h1 := hq.out
  unfold sgnP numP at h1
  simp only [Prod.mk.injEq] at h1
  obtain ⟨h1, h2, h3⟩ := h1
  exact RdSigned_calls lo p b e n w h hb _ b1 e1 (Lib.hid (by rw [← h2, ← h3])) v (Lib.hid h1)
theorem sgnP_bytes {n : Int} {b : List Int} {e v : Int} {b1 : List Int} {e1 : Int} (h : sgnP n b e = (v, b1, e1)) (hb : Bytes b) : Bytes b1 := by
  unfold sgnP at h
  simp only [Prod.mk.injEq] at h
  obtain ⟨h1, h2, h3⟩ := h
  exact (numP_bytes (show numP n b e = ((numP n b e).1, b1, e1) by rw [← h2, ← h3]) hb).1
theorem sgn_two (x : Int) : -32768 ≤ sgn8 x 2 ∧ sgn8 x 2 ≤ 32767 := by
  unfold sgn8
  rw [if_neg (by decide), if_neg (by decide), if_pos rfl]
  omega
theorem sgnP_two {b : List Int} {e v : Int} {b1 : List Int} {e1 : Int} (h : sgnP 2 b e = (v, b1, e1)) : -32768 ≤ v ∧ v ≤ 32767 := by
  unfold sgnP at h
  simp only [Prod.mk.injEq] at h
  rw [← h.1]; exact sgn_two _
theorem grown_any {w w' : World} (hg : w.grownBy w' none) (k : Nat) : w.grownBy w' (some k) := ⟨hg.os, hg.tape, hg.output, hg.size, fun i hi _ => hg.block i hi (by simp)⟩
theorem below_row {lo : Nat} {w0 w w1 : World} {row : Option Nat} (h : Below lo w0 w) (hs : lo ≤ w.heap.size) (hg : w.grownBy w1 row) (hr : ∀ k, row = some k → lo ≤ k) : Below lo w0 w1 :=
  ⟨hg.os.trans h.os, hg.tape.trans h.tape, hg.output.trans h.output, Nat.le_trans h.size hg.size, fun i hi => (hg.block i (by omega) (fun e => by have := hr i e.symm; omega)).trans (h.block i hi)⟩
/-- A command's reader: the bytes' reader in block p, its own cells in q, the command in s. -/
structure PS (w : World) (lo p q s : Nat) (b : List Int) (e : Int) (bad : Bool) (x : Cm) (A : Option Addr) (a : Nat) (B : Option Addr) (c : Nat) : Prop where
  r : Rdr w lo p b e
  hb : Bytes b
  qb : Blk w q 65 [.pointer (some ⟨p, 0, none⟩), .bool bad]
  sb : Blk w s 34 (cmC x A a B c)
  ov : OwnI w (s + 1) 29 .i16 A a x.v
  od : OwnI w (s + 1) 26 .u64 B c x.d
  lp : lo ≤ p
  pq : p < q
  qs : q < s
theorem PS.read {w w1 : World} {lo p q s : Nat} {b : List Int} {e : Int} {bad : Bool} {x : Cm} {A : Option Addr} {a : Nat} {B : Option Addr} {c : Nat} (h : PS w lo p q s b e bad x A a B c) {b1 : List Int} {e1 : Int} (hr : Rdr w1 lo p b1 e1) (hb1 : Bytes b1) (hg : w.grownBy w1 (some p)) :
    PS w1 lo p q s b1 e1 bad x A a B c :=
  ⟨hr, hb1, h.qb.kept hg (by have := h.pq; simp; omega), h.sb.kept hg (by have := h.pq; have := h.qs; simp; omega),
    h.ov.kept hg (.inr fun he => by have := h.ov.lt p he; have := h.pq; have := h.qs; omega), h.od.kept hg (.inr fun he => by have := h.od.lt p he; have := h.pq; have := h.qs; omega), h.lp, h.pq, h.qs⟩
theorem PS.below {w w1 : World} {lo p q s : Nat} {b : List Int} {e : Int} {bad : Bool} {x : Cm} {A : Option Addr} {a : Nat} {B : Option Addr} {c : Nat} (h : PS w lo p q s b e bad x A a B c) (hb : Below w.heap.size w w1) : PS w1 lo p q s b e bad x A a B c :=
  ⟨h.r.below hb, h.hb, h.qb.below hb, h.sb.below hb, own_below h.ov hb, own_below h.od hb, h.lp, h.pq, h.qs⟩
/-- 'bad' is set. -/
theorem PS.setBad {w : World} {lo p q s : Nat} {b : List Int} {e : Int} {bad : Bool} {x : Cm} {A : Option Addr} {a : Nat} {B : Option Addr} {c : Nat} (h : PS w lo p q s b e bad x A a B c) (bad' : Bool) : PS (w.setCell ⟨q, 1, none⟩ (.bool bad')) lo p q s b e bad' x A a B c := by
  have hg := grownBy_cell w q 1 (.bool bad')
  have := h.pq
  have := h.qs
  exact ⟨h.r.grown hg (.inr h.pq) h.lp, h.hb, h.qb.set 1 _, h.sb.kept hg (by simp; omega),
    h.ov.kept hg (.inr fun he => by have := h.ov.lt q he; omega), h.od.kept hg (.inr fun he => by have := h.od.lt q he; omega), h.lp, h.pq, h.qs⟩
/-- A whole number of the command is set. -/
theorem PS.setN {w : World} {lo p q s : Nat} {b : List Int} {e : Int} {bad : Bool} {x : Cm} {A : Option Addr} {a : Nat} {B : Option Addr} {c : Nat} (h : PS w lo p q s b e bad x A a B c) (i : Nat) (v : Value) (x' : Cm) (hx : (cmC x A a B c).set i v = cmC x' A a B c) (hv : x'.v = x.v) (hd : x'.d = x.d) :
    PS (w.setCell ⟨s, i, none⟩ v) lo p q s b e bad x' A a B c := by
  have hg := grownBy_cell w s i v
  have := h.pq
  have := h.qs
  exact ⟨h.r.grown hg (.inr (by omega)) h.lp, h.hb, h.qb.kept hg (by simp; omega), hx ▸ h.sb.set i v,
    hv ▸ h.ov.kept hg (.inr fun he => by have := h.ov.lt s he; omega), hd ▸ h.od.kept hg (.inr fun he => by have := h.od.lt s he; omega), h.lp, h.pq, h.qs⟩
theorem PS.cells {w : World} {lo p q s : Nat} {b : List Int} {e : Int} {bad : Bool} {x : Cm} {A : Option Addr} {a : Nat} {B : Option Addr} {c : Nat} (h : PS w lo p q s b e bad x A a B c) :
    w.cell? ⟨q, 0, none⟩ = some (.pointer (some ⟨p, 0, none⟩)) ∧ w.cell? ⟨q, 1, none⟩ = some (.bool bad) ∧ w.cell? ⟨s, 0, none⟩ = some (.int .i64 x.op) ∧ w.cell? ⟨s, 1, none⟩ = some (.int .i64 x.id) ∧ w.cell? ⟨s, 2, none⟩ = some (.slice A x.v.length a) ∧ w.cell? ⟨s, 3, none⟩ = some (.int .i64 x.k) ∧ w.cell? ⟨s, 4, none⟩ = some (.int .i64 x.p) ∧ w.cell? ⟨s, 5, none⟩ = some (.slice B x.d.length c) :=
  ⟨h.qb.cell 0, h.qb.cell 1, h.sb.cell 0, h.sb.cell 1, h.sb.cell 2, h.sb.cell 3, h.sb.cell 4, h.sb.cell 5⟩
theorem PS.le {w : World} {lo p q s : Nat} {b : List Int} {e : Int} {bad : Bool} {x : Cm} {A : Option Addr} {a : Nat} {B : Option Addr} {c : Nat} (h : PS w lo p q s b e bad x A a B c) : lo ≤ w.heap.size := by
  have := h.sb.lt; have := h.lp; have := h.pq; have := h.qs; omega
theorem Cid_calls {w : World} {lo p q s : Nat} {b : List Int} {e : Int} {bad : Bool} {x : Cm} {A : Option Addr} {a : Nat} {B : Option Addr} {c : Nat} (h : PS w lo p q s b e bad x A a B c) (v : Int) (b1 : List Int) (e1 : Int) (hq : Hid (sgnP 8 b e = (v, b1, e1))) :
    Calls Try.prog 61 #[.pointer (some ⟨q, 0, none⟩), .pointer (some ⟨s, 0, none⟩)] w fun en w' => en = .returned (.tuple #[]) ∧ PS w' lo p q s b1 e1 bad { x with id := v } A a B c ∧ Below lo w w' := by
  obtain ⟨g1, _, _, g2, _⟩ := h.cells
  have HH := Lib.hid h
  clear h
  go_enter Try.func61, Try.ntmps61
  go_wp2_with fail
  refine (Signed_p lo p b e 8 _ HH.out.r HH.out.hb v b1 e1 hq).mono ?_
  rintro en w1 ⟨rfl, r1, k1⟩
  have H1 := HH.out.read r1 (sgnP_bytes hq.out HH.out.hb) k1
  have B1 := below_row (Below.refl lo w) HH.out.le k1 (fun k hk => by injection hk with hk; have := HH.out.lp; omega)
  have HX := Lib.hid (And.intro H1 B1)
  obtain ⟨_, _, _, d1, _⟩ := H1.cells
  have df := H1.sb.frozen 1
  clear r1 k1 H1 B1 g1 g2
  go_wp2_with fail
  go_end0
  refine ⟨rfl, HX.out.1.setN 1 _ _ rfl rfl rfl, below_row HX.out.2 HX.out.1.le (grownBy_cell _ _ _ _) (fun k hk => by injection hk with hk; have := HX.out.1.lp; have := HX.out.1.pq; have := HX.out.1.qs; omega)⟩
end Go.Proofs.Ytjdablkdndmcgaa
