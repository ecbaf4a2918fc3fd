/- wayfinderref01.Reader. -/
import Derived.Test.YtjdablkdndmcgaaReaderC
import Derived.Deep.RegionHeld3
import Derived.Deep.RegionLaw
namespace Go.Proofs.Ytjdablkdndmcgaa
set_option linter.unusedVariables false
set_option linter.unusedSimpArgs false
open Go.RowKit
/-- The reference's reader at block p: what is left to read, the error. -/
def RRd (w : World) (lo p : Nat) (r : List Int) (e : Int) : Prop := ∃ A c b, ∃ at_ : Nat, Hid (at_ ≤ b.length ∧ b.drop at_ = r) ∧ w.cell? ⟨p, 0, none⟩ = some (.slice A b.length c) ∧ w.cell? ⟨p, 1, none⟩ = some (.int .i64 at_) ∧ w.cell? ⟨p, 2, none⟩ = some (.int .i64 e) ∧
  w.frozen? ⟨p, 0, none⟩ = false ∧ w.frozen? ⟨p, 1, none⟩ = false ∧ w.frozen? ⟨p, 2, none⟩ = false ∧ SlI w .u8 A c b ∧ ∀ x, A = some x → lo ≤ x.block ∧ x.block < p
theorem RRd.lt {w : World} {lo p : Nat} {b : List Int} {e : Int} (h : RRd w lo p b e) : p < w.heap.size := by
  obtain ⟨A, c, b, at_, _, h1, _⟩ := h
  exact World.block_lt_of_cell? w _ h1
theorem RRd.below {w w' : World} {lo p : Nat} {b : List Int} {e : Int} (h : RRd w lo p b e) (hb : Below w.heap.size w w') : RRd w' lo p b e := by
  have hp := h.lt
  obtain ⟨A, c, b, at_, h0, h1, h2, h3, h4, h5, h6, h7, h8⟩ := h
  exact ⟨A, c, b, at_, h0, cell_below hb _ _ h1, cell_below hb _ _ h2, cell_below hb _ _ h3, (hb.frozen (p := ⟨p, 0, none⟩) hp).trans h4, (hb.frozen (p := ⟨p, 1, none⟩) hp).trans h5, (hb.frozen (p := ⟨p, 2, none⟩) hp).trans h6, h7.below hb, h8⟩
theorem sl_grown {w w' : World} {q : Nat} {k : IntKind} {A : Option Addr} {c : Nat} {b : List Int} (h : SlI w k A c b) (hg : w.grownBy w' (some q)) (hq : ∀ x, A = some x → x.block ≠ q) : SlI w' k A c b := by
  refine ⟨?_, h.le, h.cap⟩
  rcases h.rd with h | ⟨ad, rfl, hc⟩
  · exact .inl h
  · refine .inr ⟨ad, rfl, fun j u hj => hg.cell (hc j u hj) ?_⟩
    have := hq ad rfl
    have hb : (ad.add j).block = ad.block := by unfold Addr.add; split <;> rfl
    rw [hb]; simpa using this
theorem RRd.grown {w w' : World} {lo p q : Nat} {b : List Int} {e : Int} (h : RRd w lo p b e) (hg : w.grownBy w' (some q)) (hq : q < lo ∨ p < q) (hlo : lo ≤ p) : RRd w' lo p b e := by
  obtain ⟨A, c, b, at_, h0, h1, h2, h3, h4, h5, h6, h7, h8⟩ := h
  have hne : some p ≠ some q := by simp; omega
  exact ⟨A, c, b, at_, h0, hg.cell h1 hne, hg.cell h2 hne, hg.cell h3 hne, (hg.frozen_far _ (World.block_lt_of_cell? w _ h1) hne).trans h4, (hg.frozen_far _ (World.block_lt_of_cell? w _ h2) hne).trans h5,
    (hg.frozen_far _ (World.block_lt_of_cell? w _ h3) hne).trans h6, sl_grown h7 hg (fun x hx => by have := h8 x hx; omega), h8⟩
theorem RNew_calls (A : Option Addr) (c : Nat) (b : List Int) (w : World) (h : SlI w .u8 A c b) (hl : b.length ≤ 140737488355320) :
    Calls Try.prog 44 #[.slice A b.length c] w fun en w' => ∃ p, en = .returned (.pointer (some ⟨p, 0, none⟩)) ∧ w.heap.size ≤ p ∧ p < w'.heap.size ∧ RRd w' w.heap.size p b 0 ∧ Below w.heap.size w w' := by
  have hm := h.len
  go_enter Try.func44, Try.ntmps44
  go_wp2_with (at_builtin; refine app_row w.heap.size rfl _ _ 25 5 .u8 1 rfl Try.underlying25 (by kernel_rfl) (by decide) _ _ [] b A c rfl rfl (own_empty _ _ _ (Nat.le_refl _)) (h.below (below_alloc (Below.refl _ _) _)).rd (by simp) (by simp; omega) ?_)
  intro B1 c1 w1 hown hg _ _
  have hB1 := below_grown (below_alloc (Below.refl _ _) _) hg (own_empty _ _ _ (Nat.le_refl _)) (Nat.le_refl _)
  clear hg
  go_wp2
  go_ret
  refine ⟨w1.heap.size, rfl, hB1.size, by simp, ⟨B1, c1, b, 0, ⟨Nat.zero_le _, rfl⟩, by simp, by simp, by simp, by simp, by simp, by simp, hown.sl.below (below_alloc (Below.refl _ _) _), fun x hx => ?_⟩, below_alloc hB1 _⟩
  exact hown.lt x.block (by rw [hx]; rfl)
theorem RRd.err {w : World} {lo p : Nat} {r : List Int} {e : Int} (h : RRd w lo p r e) (e' : Int) : RRd (w.setCell ⟨p, 2, none⟩ (.int .i64 e')) lo p r e' := by
  obtain ⟨A, c, b, at_, h0, h1, h2, h3, h4, h5, h6, h7, h8⟩ := h
  exact ⟨A, c, b, at_, h0, cell_set_other h1 (by simp), cell_set_other h2 (by simp), World.cell?_setCell_same w _ _ h3, by simpa using h4, by simpa using h5, by simpa using h6, sl_set h7 (fun x hx => Nat.ne_of_lt (h8 x hx).2), h8⟩
theorem grown_drewN (w : World) (n : Nat) (row : Option Nat) : w.grownBy (w.drewN n) row := grown_of_below (below_drewN (Below.refl _ _) n) row
set_option maxHeartbeats 1000000 in
set_option maxRecDepth 20000 in
theorem Rtake_calls (lo p : Nat) (r : List Int) (e n : Int) (w : World) (h : RRd w lo p r e) (t r' : List Int) (e' : Int) (hr : Hid (tk r e n 9223372036854775807 = (t, r', e'))) (hn64 : n ≤ 9223372036854775807) (hr8 : r.length ≤ 1000000) :
    Calls Try.prog 68 #[.pointer (some ⟨p, 0, none⟩), .int .i64 n] w fun en w' => ∃ A c, en = .returned (.slice A t.length c) ∧ SlI w' .u8 A c t ∧ RRd w' lo p r' e' ∧ w.grownBy w' (some p) := by
  have h' := h
  obtain ⟨A, c, b, at_, h0, h1, h2, h3, h4, h5, h6, h7, h8⟩ := h'
  have hm := h7.len
  obtain ⟨i0, hi, _, hz1, _⟩ := info_parts (P := Try.prog) (e := 5) (z := .int .u8 0) (size := 1) (bytes := 1) (by kernel_rfl)
  have hat : at_ ≤ b.length := h0.out.1
  have hrl : b.length = r.length + at_ := by have := congrArg List.length h0.out.2; simp at this; omega
  have HRL := Lib.hid hrl
  clear hrl
  by_cases he : e = 0
  · subst he
    by_cases hn : n < 0
    · have H := Lib.hid (show tk r 0 n 9223372036854775807 = ([], r, 2) by simp [tk, hn])
      have hr2 := H.out.symm.trans hr.out
      obtain ⟨rfl, rfl, rfl⟩ := (by simpa using hr2 : [] = t ∧ r = r' ∧ 2 = e')
      clear hr2 H
      have hd : RRd (w.setCell ⟨p, 2, none⟩ (.int .i64 2)) lo p r 2 :=
        ⟨A, c, b, at_, h0, cell_set_other h1 (by simp), cell_set_other h2 (by simp), World.cell?_setCell_same w _ _ h3, by simpa using h4, by simpa using h5, by simpa using h6, sl_set h7 (fun x hx => Nat.ne_of_lt (h8 x hx).2), h8⟩
      have HD := Lib.hid hd
      clear hd h
      have kc1 := World.cell?_setCell_same w ⟨p, 2, none⟩ (.int .i64 2) h3
      go_enter Try.func68, Try.ntmps68
      go_wp2_with fail
      go_quiet (fail)
      go_wp2_with fail
      go_ret
      exact ⟨none, 0, rfl, SlI.nil _ _, HD.out.below (below_drewN (Below.refl _ _) _), (grown_set _ _ _ _).trans (grown_of_below (below_drewN (Below.refl _ _) _) _)⟩
    · have ha1 : b.length - at_ = r.length := by have := HRL.out; omega
      have hbl : b.length ≤ 9223372036854775807 := hm
      have g1 : (b.length : Int) - at_ = r.length := by have := HRL.out; omega
      have G1 := Lib.hid g1
      clear g1
      by_cases hn3 : n > (r.length : Int)
      · have H := Lib.hid (show tk r 0 n 9223372036854775807 = ([], r, 5) by unfold tk; rw [if_neg (by simp), if_neg (by omega), if_pos hn3])
        have hr2 := H.out.symm.trans hr.out
        obtain ⟨rfl, rfl, rfl⟩ := (by simpa using hr2 : [] = t ∧ r = r' ∧ 5 = e')
        clear hr2 H
        have HD := Lib.hid (fun nq => (h.below (below_drewN (Below.refl _ _) nq)).err 5)
        clear h
        have kc1 := World.cell?_setCell_same w ⟨p, 2, none⟩ (.int .i64 5) h3
        have g2 : (b.length : Int) - at_ < n := by have := G1.out; omega
        go_enter Try.func68, Try.ntmps68
        go_wp2_with fail
        go_quiet (fail)
        go_wp2_with fail
        go_ret
        exact ⟨none, 0, rfl, SlI.nil _ _, HD.out _, (grown_drewN w _ _).trans (grown_set _ _ _ _)⟩
      · obtain ⟨m, rfl⟩ := Int.eq_ofNat_of_zero_le (show 0 ≤ n by omega)
        have hmr : m ≤ r.length := by omega
        have H := Lib.hid (show tk r 0 m 9223372036854775807 = (r.take m, r.drop m, 0) by unfold tk; rw [if_neg (by simp), if_neg (by omega), if_neg (by omega), Int.toNat_natCast])
        have hr2 := H.out.symm.trans hr.out
        obtain ⟨ht, hr', rfl⟩ := (by simpa using hr2 : r.take m = t ∧ r.drop m = r' ∧ 0 = e')
        clear hr2 H
        have HT := Lib.hid ht
        have HR' := Lib.hid hr'
        have tl : t.length = m := by rw [← ht, List.length_take, Nat.min_eq_left hmr]
        have TL := Lib.hid tl
        have tl1 : t.length ≤ 1000000 := by omega
        clear ht hr' tl
        have g2 : ¬ (b.length : Int) - at_ < m := by have := G1.out; omega
        have g3 : (at_ : Int) + m ≤ 9223372036854775807 := by have := G1.out; omega
        have g4 : at_ + m ≤ b.length := by have := G1.out; omega
        have hcl := h7.le
        obtain ⟨A', hcut, hA1, hA2⟩ := cut_lh (P := Try.prog) 25 5 .i64 .i64 Try.underlying25 hi hz1 A b.length c at_ (at_ + m) (by omega) g4 h7.le
        have kc1 := fun nq => World.cell?_setCell_same (w.drewN nq) ⟨p, 1, none⟩ (.int .i64 ((at_ : Int) + m)) h2
        have kc0 := fun nq => cell_set_other (w := w.drewN nq) (p := p) (o := 1) (v := .int .i64 ((at_ : Int) + m)) h1 (by simp)
        go_enter Try.func68, Try.ntmps68
        go_wp2_with fail
        go_quiet (fail)
        go_wp2_with fail
        have hd0 : RRd (w.drewN nq) lo p r 0 := h.below (below_drewN (Below.refl _ _) nq)
        have W0 := kc0 nq
        have W1 := kc1 nq
        have W2 : SlI ((w.drewN nq).setCell ⟨p, 1, none⟩ (.int .i64 ((at_ : Int) + m))) .u8 A c b := sl_set (h7.below (below_drewN (Below.refl _ _) nq)) (fun x hx => Nat.ne_of_lt (h8 x hx).2)
        have W3 : RRd ((w.drewN nq).setCell ⟨p, 1, none⟩ (.int .i64 ((at_ : Int) + m))) lo p r' 0 :=
          ⟨A, c, b, at_ + m, ⟨g4, by rw [← HR'.out, ← h0.out.2, List.drop_drop]⟩, W0, by rw [Int.natCast_add]; exact W1, cell_set_other h3 (by simp), by simpa using h4, by simpa using h5, by simpa using h6, W2, h8⟩
        have W4 : w.grownBy ((w.drewN nq).setCell ⟨p, 1, none⟩ (.int .i64 ((at_ : Int) + m))) (some p) := (grown_drewN w _ _).trans (grown_set _ _ _ _)
        have W5 := hA1 _ .u8 b rfl W2
        have e5 : ((b.take (at_ + m)).drop at_) = t := by rw [← HT.out, ← h0.out.2, List.drop_take]; simp
        rw [e5] at W5
        have tl2 : at_ + m - at_ = t.length := by have := TL.out; omega
        rw [tl2] at hcut
        rw [Int.natCast_add] at hcut
        have x1 : IntKind.i64.wrap ((at_ : Int)) = at_ := IntWalk.i64_in _ (by omega)
        have x2 : IntKind.i64.wrap ((at_ : Int) + m - m) = at_ := by rw [show (at_ : Int) + m - m = at_ by omega]; exact x1
        have X2 := Lib.hid x2
        clear x2
        generalize (w.drewN nq).setCell ⟨p, 1, none⟩ (.int .i64 ((at_ : Int) + m)) = W at *
        have pW : p < W.heap.size := W3.lt
        clear hd0 kc0 kc1 h1 h2 h3 h4 h5 h6 h7 hA1 hA2 h e5 tl2 W2
        go_region_held3 (fun w' => w'.cell? ⟨p, 0, none⟩ = some (.slice A b.length c) ∧ w'.cell? ⟨p, 1, none⟩ = some (.int .i64 ((at_ : Int) + m)))
          (first
            | go_keep
            | (go_split_ands
               refine ⟨?_, ?_⟩
               · (rw [hg.cell_far _ (by simp; omega) (by simp [Value.ownBlock]; omega)]; assumption)
               · (rw [hg.cell_far _ (by simp; omega) (by simp [Value.ownBlock]; omega)]; assumption)))
          ((refine step_app_row W.heap.size rfl _ _ 25 5 .u8 1 rfl Try.underlying25 (by kernel_rfl) (by decide) _ _ [] t A' (c - at_) rfl rfl (own_empty _ _ _ (by simp)) (W5.below (below_alloc (below_drewN (Below.refl _ _) 1) _)).rd (by simp) (by simp; omega) ?_; intro B1 c1 w1 hown hg _ _))
        have hB1 : Below W.heap.size W w1 := below_grown (below_alloc (Below.refl _ _) _).drew hg (own_empty W W.heap.size 5 (Nat.le_refl _)).drew (Nat.le_refl _)
        have hsl := OwnI.sl hown
        have hsl2 : SlI w1 .u8 B1 c1 t := hsl
        clear hg hown hsl
        go_wp2
        go_ret
        exact ⟨B1, c1, rfl, hsl2, W3.below hB1, W4.trans (grown_of_below hB1 _)⟩
  · have H := Lib.hid (show tk r e n 9223372036854775807 = ([], r, e) by simp [tk, he])
    have hr2 := H.out.symm.trans hr.out
    obtain ⟨rfl, rfl, rfl⟩ := (by simpa using hr2 : [] = t ∧ r = r' ∧ e = e')
    clear hr2 H
    have hb : (e == 0) = false := by simpa using he
    have hb2 : (e != 0) = true := by simpa using he
    have HR := Lib.hid h
    clear h he
    go_enter Try.func68, Try.ntmps68
    go_wp2_with fail
    go_quiet (fail)
    go_wp2_with fail
    go_ret
    exact ⟨none, 0, rfl, SlI.nil _ _, HR.out.below (below_drewN (Below.refl _ _) _), grown_drewN w _ _⟩
theorem tk_limit (r : List Int) (e n : Int) (hn : n ≤ 9223372036854775807) (h8 : ¬ (e = 0 ∧ n > 8)) : tk r e n 8 = tk r e n 9223372036854775807 := by
  unfold tk
  split
  · rfl
  · rename_i he
    have : ¬ n > 8 := fun h => h8 ⟨by simpa using he, h⟩
    by_cases h0 : n < 0
    · rw [if_pos (.inl h0), if_pos (.inl h0)]
    · have e1 : ¬ (n < 0 ∨ n > 8) := by omega
      have e2 : ¬ (n < 0 ∨ n > 9223372036854775807) := by omega
      rw [if_neg e1, if_neg e2]
theorem RNumber_calls (lo p : Nat) (b : List Int) (e n : Int) (w : World) (h : RRd w lo p b e) (hb : Bytes b) (t b' : List Int) (e' : Int) (hr : Hid (tk b e n 8 = (t, b', e'))) (v : Int) (hv : Hid (ofB (t.take 8) = v)) (hn64 : n ≤ 9223372036854775807) (hr8 : b.length ≤ 1000000) :
    Calls Try.prog 45 #[.pointer (some ⟨p, 0, none⟩), .int .i64 n] w fun en w' => en = .returned (.int .u64 v) ∧ RRd w' lo p b' e' ∧ w.grownBy w' (some p) := by
  have h' := h
  obtain ⟨A, c, b0, at_, h0, h1, h2, h3, h4, h5, h6, h7, h8⟩ := h'
  by_cases hx : e = 0 ∧ n > 8
  · obtain ⟨rfl, hn⟩ := hx
    have H := Lib.hid (show tk b 0 n 8 = ([], b, 2) by simp [tk, hn])
    have hr2 := H.out.symm.trans hr.out
    obtain ⟨rfl, rfl, rfl⟩ := (by simpa using hr2 : [] = t ∧ b = b' ∧ 2 = e')
    clear hr2 H
    have HD := Lib.hid (h.err 2)
    clear h1 h2 h4 h5 h7 h0 h
    go_enter Try.func45, Try.ntmps45
    go_wp2_with fail
    refine (Rtake_calls lo p b 2 n _ HD.out [] b 2 (Lib.hid (by simp [tk])) hn64 hr8).mono ?_
    rintro en w1 ⟨A1, c1, rfl, s1, r1, g1⟩
    go_wp2_with fail
    refine (ROf_calls A1 c1 [] w1 s1 (by simp [Bytes])).mono ?_
    rintro en w2 ⟨rfl, rfl⟩
    go_wp2_with fail
    go_ret
    exact ⟨ret_int' hv.out, r1, (grown_set _ _ _ _).trans g1⟩
  · have hr2 : Hid (tk b e n 9223372036854775807 = (t, b', e')) := by show _ = _; rw [← tk_limit b e n hn64 hx]; exact hr.out
    have hB := tk_bytes hb hr.out
    have walk : ∀ (hg : decide (8 < n) = false ∨ (e == 0) = false), Calls Try.prog 45 #[.pointer (some ⟨p, 0, none⟩), .int .i64 n] w fun en w' => en = .returned (.int .u64 v) ∧ RRd w' lo p b' e' ∧ w.grownBy w' (some p) := by
      intro hg
      by_cases he : e = 0
      · subst he
        have hn : ¬ n > 8 := fun hh => hx ⟨rfl, hh⟩
        clear hg hx h1 h2 h4 h5 h6 h7 h8 h0
        have HR := Lib.hid h
        clear h
        go_enter Try.func45, Try.ntmps45
        go_wp2_with fail
        refine (Rtake_calls lo p b 0 n _ HR.out t b' e' hr2 hn64 hr8).mono ?_
        rintro en w1 ⟨A1, c1, rfl, s1, r1, g1⟩
        go_wp2_with fail
        refine (ROf_calls A1 c1 t w1 s1 hB.1).mono ?_
        rintro en w2 ⟨rfl, rfl⟩
        go_wp2_with fail
        go_ret
        exact ⟨ret_int' hv.out, r1, g1⟩
      · have hb2 : (e == 0) = false := by simpa using he
        clear hg hx h1 h2 h4 h5 h6 h7 h8 h0 he
        have HR := Lib.hid h
        clear h
        go_enter Try.func45, Try.ntmps45
        go_wp2_with fail
        refine (Rtake_calls lo p b e n _ HR.out t b' e' hr2 hn64 hr8).mono ?_
        rintro en w1 ⟨A1, c1, rfl, s1, r1, g1⟩
        go_wp2_with fail
        refine (ROf_calls A1 c1 t w1 s1 hB.1).mono ?_
        rintro en w2 ⟨rfl, rfl⟩
        go_wp2_with fail
        go_ret
        exact ⟨ret_int' hv.out, r1, g1⟩
    by_cases hn : n > 8
    · exact walk (.inr (by simpa using fun hh => hx ⟨hh, hn⟩))
    · exact walk (.inl (decide_eq_false (by omega)))
theorem RRdSigned_calls (lo p : Nat) (b : List Int) (e n : Int) (w : World) (h : RRd w lo p b e) (hb : Bytes b) (t b' : List Int) (e' : Int) (hr : Hid (tk b e n 8 = (t, b', e'))) (v : Int) (hv : Hid (sgn8 (ofB (t.take 8)) n = v)) (hn64 : n ≤ 9223372036854775807) (hr8 : b.length ≤ 1000000) :
    Calls Try.prog 47 #[.pointer (some ⟨p, 0, none⟩), .int .i64 n] w fun en w' => en = .returned (.int .i64 v) ∧ RRd w' lo p b' e' ∧ w.grownBy w' (some p) := by
  go_enter Try.func47, Try.ntmps47
  go_wp2_with fail
  refine (RNumber_calls lo p b e n w h hb t b' e' hr _ (Lib.hid rfl) hn64 hr8).mono ?_
  rintro en w1 ⟨rfl, h2, h3⟩
  obtain ⟨k0, k1⟩ := ofB8 t (tk_bytes hb hr.out).1
  go_wp2_with fail
  refine (RSigned_calls _ n w1 k0 k1).mono ?_
  rintro en w2 ⟨rfl, rfl⟩
  go_wp2_with fail
  go_ret
  exact ⟨ret_int' hv.out, h2, h3⟩
theorem RLeft_calls (lo p : Nat) (b : List Int) (e : Int) (w : World) (h : RRd w lo p b e) :
    Calls Try.prog 70 #[.pointer (some ⟨p, 0, none⟩)] w fun en w' => en = .returned (.int .i64 b.length) ∧ ∃ n, w' = w.drewN n := by
  obtain ⟨A, c, b0, at_, h0, h1, h2, h3, h4, h5, h6, h7, h8⟩ := h
  have hm := h7.len
  have g1 : (b0.length : Int) - at_ = b.length := by
    have := congrArg List.length h0.out.2
    have := h0.out.1
    simp at *; omega
  have k1 : at_ ≤ b0.length := h0.out.1
  have G1 := Lib.hid g1
  clear g1 h7 h8
  go_enter Try.func70, Try.ntmps70
  go_wp2_with fail
  go_quiet (fail)
  go_wp2_with fail
  go_ret
  exact ⟨ret_int' (by first | exact G1.out | (rw [← G1.out]; exact IntWalk.i64_in _ (by omega))), _, rfl⟩
theorem RLeft_q (lo p : Nat) (b : List Int) (e : Int) (w : World) (h : RRd w lo p b e) (n : Nat) :
    Calls Try.prog 70 #[.pointer (some ⟨p, 0, none⟩)] (w.drewN n) fun en w'' => en = .returned (.int .i64 b.length) ∧ ∃ m, w'' = w.drewN m :=
  (RLeft_calls lo p b e _ (h.below (below_drewN (Below.refl _ _) n))).mono fun _ _ ⟨h1, m, h2⟩ => ⟨h1, n + m, by rw [h2, World.drewN_drewN]⟩
theorem Left_q (lo p : Nat) (b : List Int) (e : Int) (w : World) (h : Rdr w lo p b e) (n : Nat) :
    Calls Try.prog 66 #[.pointer (some ⟨p, 0, none⟩)] (w.drewN n) fun en w'' => en = .returned (.int .i64 b.length) ∧ ∃ m, w'' = w.drewN m :=
  (Left_calls lo p b e _ (h.below (below_drewN (Below.refl _ _) n))).mono fun _ _ ⟨h1, h2⟩ => ⟨h1, n, h2.symm⟩
theorem Err_q (lo p : Nat) (b : List Int) (e : Int) (w : World) (h : Rdr w lo p b e) (n : Nat) :
    Calls Try.prog 65 #[.pointer (some ⟨p, 0, none⟩)] (w.drewN n) fun en w'' => en = .returned (.int .i64 e) ∧ ∃ m, w'' = w.drewN m :=
  (Err_calls lo p b e _ (h.below (below_drewN (Below.refl _ _) n))).mono fun _ _ ⟨h1, h2⟩ => ⟨h1, n, h2.symm⟩
theorem End_q (lo p : Nat) (b : List Int) (e : Int) (w : World) (h : Rdr w lo p b e) (n : Nat) :
    Calls Try.prog 43 #[.pointer (some ⟨p, 0, none⟩)] (w.drewN n) fun en w'' => en = .returned (.int .i64 (endE b e)) ∧ ∃ m, w'' = w.drewN m :=
  (End_calls lo p b e _ (h.below (below_drewN (Below.refl _ _) n))).mono fun _ _ ⟨h1, h2⟩ => ⟨h1, n, h2.symm⟩
theorem REnd_calls (lo p : Nat) (b : List Int) (e : Int) (w : World) (h : RRd w lo p b e) :
    Calls Try.prog 51 #[.pointer (some ⟨p, 0, none⟩)] w fun en w' => en = .returned (.int .i64 (endE b e)) ∧ ∃ n, w' = w.drewN n := by
  have h' := h
  obtain ⟨A, c, b0, at_, h0, h1, h2, h3, h4, h5, h6, h7, h8⟩ := h'
  clear h1 h2 h4 h5 h6 h7 h8 h0
  by_cases he : e = 0
  · subst he
    have HR := Lib.hid h
    clear h
    by_cases hb : 0 < b.length
    · have H := Lib.hid (show endE b 0 = 4 by simp [endE, hb])
      have hb2 : (0 : Int) < (b.length : Int) := by omega
      go_enter Try.func51, Try.ntmps51
      go_wp2_with fail
      refine (RLeft_calls lo p b 0 w HR.out).mono ?_
      rintro en w1 ⟨rfl, n, rfl⟩
      go_wp2_with fail
      go_ret
      exact ⟨ret_int' H.out.symm, _, rfl⟩
    · have H := Lib.hid (show endE b 0 = 0 by simp [endE, hb])
      have hb2 : ¬ (0 : Int) < (b.length : Int) := by omega
      go_enter Try.func51, Try.ntmps51
      go_wp2_with fail
      refine (RLeft_calls lo p b 0 w HR.out).mono ?_
      rintro en w1 ⟨rfl, n, rfl⟩
      go_wp2_with fail
      go_ret
      exact ⟨ret_int' H.out.symm, _, rfl⟩
  · have H := Lib.hid (show endE b e = e by simp [endE, he])
    have hb : (e == 0) = false := by simpa using he
    clear he h
    go_enter Try.func51, Try.ntmps51
    go_wp2_with fail
    go_ret
    exact ⟨ret_int' H.out.symm, 0, rfl⟩
theorem REnd_q (lo p : Nat) (b : List Int) (e : Int) (w : World) (h : RRd w lo p b e) (n : Nat) :
    Calls Try.prog 51 #[.pointer (some ⟨p, 0, none⟩)] (w.drewN n) fun en w'' => en = .returned (.int .i64 (endE b e)) ∧ ∃ m, w'' = w.drewN m :=
  (REnd_calls lo p b e _ (h.below (below_drewN (Below.refl _ _) n))).mono fun _ _ ⟨h1, m, h2⟩ => ⟨h1, n + m, by rw [h2, World.drewN_drewN]⟩
end Go.Proofs.Ytjdablkdndmcgaa
