/- CmdRV: the reference's vector. -/
import Derived.Test.YtjdablkdndmcgaaRefReaderC
import Derived.Test.YtjdablkdndmcgaaCmdRC
import Derived.Test.YtjdablkdndmcgaaFloR
namespace Go.Proofs.Ytjdablkdndmcgaa
set_option linter.unusedVariables false
set_option linter.unusedSimpArgs false
open Go.RowKit
/-- What the reference's vector does: the numbers, was it one?, what is left, the error. -/
def rvL (how : Int) : Nat → List Int → Int → List Int → List Int × Bool × List Int × Int
  | 0, b, e, v => (v, e == 0, b, e)
  | k + 1, b, e, v =>
    if e ≠ 0 then (v, e == 0, b, e)
    else if how = 0 then rvL how k (sgnP 2 b e).2.1 (sgnP 2 b e).2.2 (v ++ [(sgnP 2 b e).1])
    else if (fix (numP 8 b e).1 (how - 1)).2 ≠ 0 then ([], false, (numP 8 b e).2.1, (numP 8 b e).2.2)
    else rvL how k (numP 8 b e).2.1 (numP 8 b e).2.2 (v ++ [(fix (numP 8 b e).1 (how - 1)).1])
def rvec (b : List Int) (e : Int) : List Int × Bool × List Int × Int :=
  if (numP 2 (numP 1 b e).2.1 (numP 1 b e).2.2).2.2 ≠ 0 ∨ 16 < (numP 1 b e).1 ∨ (numP 2 (numP 1 b e).2.1 (numP 1 b e).2.2).1 < 1 ∨ 1024 < (numP 2 (numP 1 b e).2.1 (numP 1 b e).2.2).1 then
    ([], false, (numP 2 (numP 1 b e).2.1 (numP 1 b e).2.2).2.1, (numP 2 (numP 1 b e).2.1 (numP 1 b e).2.2).2.2)
  else rvL (numP 1 b e).1 (numP 2 (numP 1 b e).2.1 (numP 1 b e).2.2).1.toNat (numP 2 (numP 1 b e).2.1 (numP 1 b e).2.2).2.1 (numP 2 (numP 1 b e).2.1 (numP 1 b e).2.2).2.2 []
theorem RNumber_p (lo p : Nat) (b : List Int) (e n : Int) (w : World) (h : RRd w lo p b e) (hb : Bytes b) (v : Int) (b1 : List Int) (e1 : Int) (hq : Hid (numP n b e = (v, b1, e1))) (hn64 : n ≤ 9223372036854775807) (hr8 : b.length ≤ 1000000) :
    Calls Try.prog 45 #[.pointer (some ⟨p, 0, none⟩), .int .i64 n] w fun en w' => en = .returned (.int .u64 v) ∧ RRd w' lo p b1 e1 ∧ w.grownBy w' (some p) := by
  have h1 := hq.out
  unfold numP at h1
  simp only [Prod.mk.injEq] at h1
  obtain ⟨h1, h2, h3⟩ := h1
  exact RNumber_calls lo p b e n w h hb _ b1 e1 (Lib.hid (by rw [← h2, ← h3])) v (Lib.hid h1) hn64 hr8
theorem RSigned_p (lo p : Nat) (b : List Int) (e n : Int) (w : World) (h : RRd w lo p b e) (hb : Bytes b) (v : Int) (b1 : List Int) (e1 : Int) (hq : Hid (sgnP n b e = (v, b1, e1))) (hn64 : n ≤ 9223372036854775807) (hr8 : b.length ≤ 1000000) :
    Calls Try.prog 47 #[.pointer (some ⟨p, 0, none⟩), .int .i64 n] w fun en w' => en = .returned (.int .i64 v) ∧ RRd w' lo p b1 e1 ∧ w.grownBy w' (some p) := by
  have h1 := hq.out
  unfold sgnP numP at h1
  simp only [Prod.mk.injEq] at h1
  obtain ⟨h1, h2, h3⟩ := h1
  exact RRdSigned_calls lo p b e n w h hb _ b1 e1 (Lib.hid (by rw [← h2, ← h3])) v (Lib.hid h1) hn64 hr8
theorem tk_le (b : List Int) (e n l : Int) : (tk b e n l).2.1.length ≤ b.length := by
  unfold tk
  split
  · simp
  · split
    · simp
    · split
      · simp
      · simp
theorem numP_le {n : Int} {b : List Int} {e v : Int} {b1 : List Int} {e1 : Int} (h : numP n b e = (v, b1, e1)) : b1.length ≤ b.length := by
  unfold numP at h
  simp only [Prod.mk.injEq] at h
  rw [← h.2.1]; exact tk_le _ _ _ _
theorem sgnP_le {n : Int} {b : List Int} {e v : Int} {b1 : List Int} {e1 : Int} (h : sgnP n b e = (v, b1, e1)) : b1.length ≤ b.length := by
  unfold sgnP at h
  simp only [Prod.mk.injEq] at h
  exact numP_le (show numP n b e = ((numP n b e).1, b1, e1) by rw [← h.2.1, ← h.2.2])
theorem RRd.cellE {w : World} {lo p : Nat} {b : List Int} {e : Int} (h : RRd w lo p b e) : w.cell? ⟨p, 2, none⟩ = some (.int .i64 e) := by
  obtain ⟨A, c, b0, at_, _, _, _, h2, _⟩ := h
  exact h2
theorem grown_new {w w1 w2 : World} {row : Option Nat} {r2 : Option Nat} (h : w.grownBy w1 row) (g : w1.grownBy w2 r2) (hk : ∀ k, r2 = some k → w.heap.size ≤ k) : w.grownBy w2 row :=
  ⟨g.os.trans h.os, g.tape.trans h.tape, g.output.trans h.output, Nat.le_trans h.size g.size, fun k hk1 hk2 => (g.block k (Nat.lt_of_lt_of_le hk1 h.size) (fun e => by have := hk k e.symm; omega)).trans (h.block k hk1 hk2)⟩
theorem grown_row {w w1 w2 : World} {row : Option Nat} (h : w.grownBy w1 row) (g : w1.grownBy w2 row) : w.grownBy w2 row :=
  ⟨g.os.trans h.os, g.tape.trans h.tape, g.output.trans h.output, Nat.le_trans h.size g.size, fun k hk1 hk2 => (g.block k (Nat.lt_of_lt_of_le hk1 h.size) hk2).trans (h.block k hk1 hk2)⟩
theorem RRd.row {w w' : World} {lo p : Nat} {b : List Int} {e : Int} (h : RRd w lo p b e) {row : Option Nat} (hg : w.grownBy w' row) (hr : ∀ k, row = some k → p < k) (hlo : lo ≤ p) : RRd w' lo p b e := by
  cases row with
  | none => exact h.grown (grown_any hg (p + 1)) (.inr (by omega)) hlo
  | some k => exact h.grown hg (.inr (hr k rfl)) hlo
theorem ret_pair {a b a' b' : Value} (h1 : a = a') (h2 : b = b') : Ending.returned (.tuple #[a, b]) = Ending.returned (.tuple #[a', b']) := by rw [h1, h2]
set_option maxHeartbeats 2000000 in
set_option maxRecDepth 20000 in
theorem RVec_calls (lo p : Nat) (b : List Int) (e : Int) (w : World) (h : RRd w lo p b e) (hb : Bytes b) (hr8 : b.length ≤ 1000000) (hlo : lo ≤ p) (G : List Int × Bool × List Int × Int) (hG : Hid (rvec b e = G)) :
    Calls Try.prog 49 #[.pointer (some ⟨p, 0, none⟩)] w fun en w' => ∃ V cv, en = .returned (.tuple #[.slice V G.1.length cv, .bool G.2.1]) ∧ OwnI w' w.heap.size 29 .i16 V cv G.1 ∧ RRd w' lo p G.2.2.1 G.2.2.2 ∧ w.grownBy w' (some p) := by
  have hpl := h.lt
  replace hr8 := Lib.hid hr8
  obtain ⟨⟨how, b1, e1⟩, hq1⟩ : ∃ t, t = numP 1 b e := ⟨_, rfl⟩
  have hF' := hG.out
  unfold rvec at hF'
  rw [← hq1] at hF'
  dsimp only at hF'
  obtain ⟨⟨n, b2, e2⟩, hq2⟩ : ∃ t, t = numP 2 b1 e1 := ⟨_, rfl⟩
  rw [← hq2] at hF'
  dsimp only at hF'
  obtain ⟨hb1, h0, _, h1⟩ := numP_bytes hq1.symm hb
  obtain ⟨hb2, n0, _, n1⟩ := numP_bytes hq2.symm hb1
  have h2 : how < 256 := by simpa using h1
  have n2 : n < 65536 := by simpa using n1
  have s1 := numP_le hq1.symm
  have s2 := numP_le hq2.symm
  replace hq1 := Lib.hid hq1.symm
  replace hq2 := Lib.hid hq2.symm
  clear n1 h1 hG
  have H0 := Lib.hid h
  clear h
  have start : ∀ w2, RRd w2 lo p b2 e2 → w.grownBy w2 (some p) → (e2 ≠ 0 ∨ 16 < how ∨ n < 1 ∨ 1024 < n) → ∃ V cv, Ending.returned (.tuple #[.slice none 0 0, .bool false]) = .returned (.tuple #[.slice V G.1.length cv, .bool G.2.1]) ∧ OwnI w2 w.heap.size 29 .i16 V cv G.1 ∧ RRd w2 lo p G.2.2.1 G.2.2.2 ∧ w.grownBy w2 (some p) := fun w2 r2 g2 hc => by
    rw [if_pos hc] at hF'
    rw [← hF']
    exact ⟨none, 0, rfl, own_nil _ _ _ _, r2, g2⟩
  replace start := Lib.hid start
  replace hF' := Lib.hid hF'
  go_enter Try.func49, Try.ntmps49
  go_wp2_with fail
  refine (RNumber_p lo p b e 1 _ H0.out hb how b1 e1 hq1 (by decide) hr8.out).mono ?_
  rintro en w1 ⟨rfl, r1, g1⟩
  go_wp2_with fail
  refine (RNumber_p lo p b1 e1 2 _ r1 hb1 n b2 e2 hq2 (by decide) (Nat.le_trans s1 hr8.out)).mono ?_
  rintro en w2 ⟨rfl, r2, g2⟩
  have HR := Lib.hid (And.intro r2 (grown_row g1 g2))
  have ce := r2.cellE
  clear r1 g1 r2 g2
  by_cases c0 : e2 = 0
  case neg =>
    have c0' : (e2 != 0) = true := by simpa using c0
    go_wp2_with fail
    go_ret2
    exact start.out _ HR.out.1 HR.out.2 (.inl c0)
  subst c0
  by_cases c1 : 16 < how
  · go_wp2_with fail
    go_ret2
    exact start.out _ HR.out.1 HR.out.2 (.inr (.inl c1))
  by_cases c2 : n < 1
  · go_wp2_with fail
    go_ret2
    exact start.out _ HR.out.1 HR.out.2 (.inr (.inr (.inl c2)))
  by_cases c3 : 1024 < n
  · go_wp2_with fail
    go_ret2
    exact start.out _ HR.out.1 HR.out.2 (.inr (.inr (.inr c3)))
  clear start
  have HS := Lib.hid (And.intro s1 s2)
  clear s1 s2
  go_wp2_with fail
  obtain ⟨m, rfl⟩ := Int.eq_ofNat_of_zero_le n0
  have hF2 := hF'.out
  rw [if_neg (by omega), show ((m : Int)).toNat = m from rfl] at hF2
  replace hF2 := Lib.hid hF2
  clear hF'
  obtain ⟨s1, s2⟩ := HS.out
  go_loopg [7, 6, 8, 9] (m + 1) (fun gk i s6 _ _ w' => ∃ (k : Nat) (b' : List Int) (e' : Int) (v' : List Int) (V : Option Addr) (cv : Nat), i = .int .i64 (k : Int) ∧ s6 = .slice V v'.length cv ∧ k ≤ m ∧ m < k + gk ∧ RRd w' lo p b' e' ∧ Bytes b' ∧ b'.length ≤ b.length ∧ OwnI w' w.heap.size 29 .i16 V cv v' ∧ rvL how (m - k) b' e' v' = G ∧ v'.length ≤ k ∧ w.grownBy w' (some p))
  case atStart => exact ⟨0, b2, 0, [], none, 0, rfl, rfl, by omega, by omega, HR.out.1, hb2, by omega, own_nil _ _ _ _, by rw [← hF2.out]; rfl, by simp, HR.out.2⟩
  case round =>
    clear HR ce
    obtain ⟨k, b', e', v', V, cv, rfl, rfl, hk, hg, hR, hb', hl', hO, hL, hvl, hgr⟩ := hrel
    have ce := hR.cellE
    have hw := hgr.size
    have hl8 := Lib.hid (Nat.le_trans hl' hr8.out)
    by_cases hkm : k < m
    case neg =>
      obtain rfl : k = m := by omega
      have HX := Lib.hid (And.intro hR (And.intro hO hgr))
      clear hR hO hgr
      go_wp2_with fail
      go_quiet (fail)
      go_wp2_with fail
      go_ret2
      have hG2 : G = (v', e' == 0, b', e') := by rw [← hL, Nat.sub_self]; rfl
      rw [hG2]
      exact ⟨V, cv, ret_pair rfl rfl, own_below HX.out.2.1 (below_drewN (Below.refl _ _) _), HX.out.1.below (below_drewN (Below.refl _ _) _), grown_new HX.out.2.2 (grown_drewN _ _ none) (fun k hk => by cases hk)⟩
    have hkm' : (k : Int) < (m : Int) := by omega
    obtain ⟨j, hj⟩ : ∃ j, m - k = j + 1 := ⟨m - k - 1, by omega⟩
    rw [hj] at hL
    by_cases he : e' = 0
    case neg =>
      have he' : (e' == 0) = false := by simpa using he
      have HX := Lib.hid (And.intro hR (And.intro hO hgr))
      clear hR hO hgr
      go_wp2_with fail
      go_quiet (fail)
      go_wp2_with fail
      go_ret2
      have hG2 : G = (v', false, b', e') := by rw [← hL]; show (if e' ≠ 0 then _ else _) = _; rw [if_pos he, he']
      rw [hG2]
      exact ⟨V, cv, ret_pair rfl rfl, own_below HX.out.2.1 (below_drewN (Below.refl _ _) _), HX.out.1.below (below_drewN (Below.refl _ _) _), grown_new HX.out.2.2 (grown_drewN _ _ none) (fun k hk => by cases hk)⟩
    subst he
    have hvl2 : v'.length + 1 ≤ 70000 := by omega
    by_cases hh : how = 0
    · subst hh
      obtain ⟨⟨y, b3, e3⟩, hq3⟩ : ∃ t, t = sgnP 2 b' 0 := ⟨_, rfl⟩
      have hL2 : rvL 0 j b3 e3 (v' ++ [y]) = G := by
        rw [← hL]
        show _ = (if (0 : Int) ≠ 0 then _ else if (0 : Int) = 0 then _ else _)
        rw [if_neg (by simp), if_pos rfl, ← hq3]
      obtain ⟨y0, y1⟩ := sgnP_two hq3.symm
      have hb3 := sgnP_bytes hq3.symm hb'
      have hl3 := sgnP_le hq3.symm
      replace hq3 := Lib.hid hq3.symm
      replace hL := Lib.hid hL2
      clear hL2
      have HX := Lib.hid (And.intro hR (And.intro hO hgr))
      clear hR hO hgr
      go_wp2_with fail
      refine (RSigned_p lo p b' 0 2 _ HX.out.1 hb' y b3 e3 hq3 (by decide) hl8.out).mono ?_
      rintro en w4 ⟨rfl, r4, g4⟩
      have hO4 : OwnI w4 w.heap.size 29 .i16 V cv v' := HX.out.2.1.kept g4 (.inr fun hh => by have := (HX.out.2.1.lt p hh).1; omega)
      have hg4 := grown_row HX.out.2.2 g4
      have hz4 := hg4.size
      clear HX g4 ce
      go_wp2_with (at_builtin; refine app_one w.heap.size rfl _ _ 28 29 .i16 2 rfl Try.underlying28 (by kernel_rfl) (by decide) V cv v' y rfl rfl hO4 hz4 (by omega) ?_)
      intro D1 d1 w5 o5 hg5 _
      have r5 := r4.row hg5 (fun k hk => by have := (hO4.lt k hk).1; omega) hlo
      have hgr5 := grown_new hg4 hg5 (fun k hk => (hO4.lt k hk).1)
      go_wp2_with fail
      go_roundg (gk - 1)
      case measure => omega
      case rel => exact ⟨k + 1, b3, e3, v' ++ [y], D1, d1, by simp, by simp, by omega, by omega, r5, hb3, by omega, o5, by rw [show m - (k + 1) = j by omega]; exact hL.out, by simp; omega, hgr5⟩
    · have hh' : (how == 0) = false := by simpa using hh
      obtain ⟨⟨u, b3, e3⟩, hq3⟩ : ∃ t, t = numP 8 b' 0 := ⟨_, rfl⟩
      obtain ⟨⟨y, er⟩, hfx⟩ : ∃ t, t = fix u (how - 1) := ⟨_, rfl⟩
      have hL2 : (if er ≠ 0 then ([], false, b3, e3) else rvL how j b3 e3 (v' ++ [y])) = G := by
        rw [← hL]
        show _ = (if (0 : Int) ≠ 0 then _ else if how = 0 then _ else _)
        rw [if_neg (show ¬ ((0 : Int) ≠ 0) by simp), if_neg hh, ← hq3]
        dsimp only
        rw [← hfx]
      obtain ⟨hb3, u0, u1, _⟩ := numP_bytes hq3.symm hb'
      have hl3 := numP_le hq3.symm
      replace hq3 := Lib.hid hq3.symm
      replace hfx := Lib.hid hfx
      replace hL := Lib.hid hL2
      clear hL2
      have HX := Lib.hid (And.intro hR (And.intro hO hgr))
      clear hR hO hgr
      go_wp2_with fail
      refine (RNumber_p lo p b' 0 8 _ HX.out.1 hb' u b3 e3 hq3 (by decide) hl8.out).mono ?_
      rintro en w4 ⟨rfl, r4, g4⟩
      have hO4 : OwnI w4 w.heap.size 29 .i16 V cv v' := HX.out.2.1.kept g4 (.inr fun hh => by have := (HX.out.2.1.lt p hh).1; omega)
      have hg4 := grown_row HX.out.2.2 g4
      have hz4 := hg4.size
      clear HX g4 ce
      go_wp2_with fail
      refine (RFixed_calls u (how - 1) _ u0 u1).mono ?_
      rintro en w4 ⟨rfl, rfl⟩
      rw [← hfx.out]
      dsimp only
      by_cases her : er = 0
      case neg =>
        have her' : (er != 0) = true := by simpa using her
        have hL3 := hL.out
        rw [if_pos her] at hL3
        replace hL3 := Lib.hid hL3
        clear hL
        go_wp2_with fail
        go_ret2
        rw [← hL3.out]
        exact ⟨none, 0, rfl, own_nil _ _ _ _, r4, hg4⟩
      subst her
      have hL3 := hL.out
      rw [if_neg (by simp)] at hL3
      replace hL3 := Lib.hid hL3
      clear hL
      go_wp2_with (at_builtin; refine app_one w.heap.size rfl _ _ 28 29 .i16 2 rfl Try.underlying28 (by kernel_rfl) (by decide) V cv v' y rfl rfl hO4 hz4 (by omega) ?_)
      intro D1 d1 w5 o5 hg5 _
      have r5 := r4.row hg5 (fun k hk => by have := (hO4.lt k hk).1; omega) hlo
      have hgr5 := grown_new hg4 hg5 (fun k hk => (hO4.lt k hk).1)
      go_wp2_with fail
      go_roundg (gk - 1)
      case measure => omega
      case rel => exact ⟨k + 1, b3, e3, v' ++ [y], D1, d1, by simp, by simp, by omega, by omega, r5, hb3, by omega, o5, by rw [show m - (k + 1) = j by omega]; exact hL3.out, by simp; omega, hgr5⟩
end Go.Proofs.Ytjdablkdndmcgaa
