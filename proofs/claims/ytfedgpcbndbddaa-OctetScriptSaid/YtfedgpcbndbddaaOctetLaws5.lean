import Derived.Test.YtfedgpcbndbddaaRefReader
import Derived.Test.YtfedgpcbndbddaaOctetLaws4
namespace Go.Proofs.Ytfedgpcbndbddaa
set_option linter.unusedVariables false
set_option linter.unusedSimpArgs false
open Go.RowKit
/-- A slice of pairs of ints. -/
structure SlP (w : World) (A : Option Addr) (c : Nat) (l : List (Int × Int)) : Prop where
  le : l.length ≤ c
  cap : c ≤ maxLen
  get : ∀ j, j < l.length → ∃ ad, A = some ad ∧ w.cell? (ad.add (j * 2)) = some (.int .i64 (l.getD j (0, 0)).1) ∧ w.cell? ⟨(ad.add (j * 2)).block, (ad.add (j * 2)).off + 1, none⟩ = some (.int .i64 (l.getD j (0, 0)).2)
  wf : ∀ x ∈ l, x.2 ≤ 9223372036854775807
theorem SlP.below {w w' : World} {A : Option Addr} {c : Nat} {l : List (Int × Int)} (h : SlP w A c l) (hb : Below w.heap.size w w') : SlP w' A c l :=
  ⟨h.le, h.cap, fun j hj => by obtain ⟨ad, h1, h2, h3⟩ := h.get j hj; exact ⟨ad, h1, cell_below hb _ _ h2, cell_below hb _ _ h3⟩, h.wf⟩
/-- What holds at each round's head. -/
def ScriptInv (w : World) (lo p lo2 q : Nat) (w' : World) : Prop :=
  ∃ (b : List Int) (e : Int), Rdr w' lo p b e ∧ RRd w' lo2 q b e ∧ Bytes b ∧ b.length ≤ 200 ∧ Below w.heap.size w w'
theorem RRd.e {w : World} {lo p : Nat} {r : List Int} {e : Int} (h : RRd w lo p r e) : w.cell? ⟨p, 2, none⟩ = some (.int .i64 e) := by
  obtain ⟨A, c, b0, at_, h0, h1, h2, h3, _⟩ := h
  exact h3
theorem tk_len {b t b' : List Int} {e n l e' : Int} (h : b.length ≤ 200) (hr : tk b e n l = (t, b', e')) : b'.length ≤ 200 := by
  unfold tk at hr
  split at hr
  · obtain ⟨rfl, rfl, rfl⟩ := hr; exact h
  · split at hr
    · obtain ⟨rfl, rfl, rfl⟩ := hr; exact h
    · split at hr
      · obtain ⟨rfl, rfl, rfl⟩ := hr; exact h
      · obtain ⟨rfl, rfl, rfl⟩ := hr; simp; omega
set_option maxHeartbeats 2000000 in
set_option maxRecDepth 100000 in
theorem script_core (A L : Option Addr) (c cl : Nat) (b : List Int) (l : List (Int × Int)) (w : World) (h : SlI w .u8 A c b) (hb : Bytes b) (hl : b.length ≤ 200) (hs : SlP w L cl l) (hl2 : l.length ≤ 200) :
    Calls Try.prog 9 #[.slice A b.length c, .slice L l.length cl] w fun e w' => e = .returned (.bool true) ∧ Below w.heap.size w w' := by
  have i1 : ¬ (b.length : Int) > 200 := by omega
  have i2 : ¬ (l.length : Int) > 200 := by omega
  go_enter Try.func9, Try.ntmps9
  go_wp2_with fail
  refine (lives_calls _).mono ?_
  rintro e w1 ⟨rfl, b1⟩
  go_wp2_with fail
  refine (Own_byte_calls A c b _ (h.below b1) (by omega)).mono ?_
  rintro e w2 ⟨A2, c2, rfl, h2, b2⟩
  have b02 := below_trans b1 b2
  clear b1 b2
  go_wp2_with fail
  refine (New_calls A2 c2 b _ h2.sl (by omega)).mono ?_
  rintro e w3 ⟨p, rfl, p0, p1, r3, b3⟩
  have b03 := below_trans b02 b3
  have pw : w.heap.size ≤ p := Nat.le_trans b02.size p0
  clear b02 b3 h2
  go_wp2_with fail
  refine (RNew_calls A c b _ (h.below b03) (by omega)).mono ?_
  rintro e w4 ⟨q, rfl, q0, q1, s4, b4⟩
  have r4 := r3.below b4
  have b04 := below_trans b03 b4
  have qw : w.heap.size ≤ q := Nat.le_trans b03.size q0
  clear b03 b4 r3
  generalize w2.heap.size = lo at *
  generalize w3.heap.size = lo2 at *
  go_wp2_with fail
  go_loopg [7] (l.length + 1) (fun gk i w' => ∃ j : Nat, i = .int .i64 (j : Int) ∧ j ≤ l.length ∧ l.length < j + gk ∧ ScriptInv w lo p lo2 q w')
  case atStart => exact ⟨0, rfl, by omega, by omega, b, 0, r4, s4, hb, hl, b04⟩
  case round =>
    clear r4 s4 b04
    obtain ⟨j, rfl, hj, hg, bb, e, r5, s5, hbb, hbl, b5⟩ := hrel
    by_cases hlt : j < l.length
    · obtain ⟨ad, rfl, hd1, hd2⟩ := hs.get j hlt
      have hX : (ad.add (j * 2)).block < w.heap.size := World.block_lt_of_cell? w (⟨(ad.add (j * 2)).block, (ad.add (j * 2)).off + 1, none⟩ : Addr) hd2
      have hc1 := cell_below b5 _ _ hd1
      have hc2 := cell_below b5 _ _ hd2
      clear hd1 hd2
      have hjl : (j : Int) < (l.length : Int) := by omega
      have hn64 : (l.getD j (0, 0)).2 ≤ 9223372036854775807 := hs.wf _ (by simp [List.getD_eq_getElem?_getD, List.getElem?_eq_getElem hlt])
      generalize (l.getD j (0, 0)).1 = kd at *
      generalize (l.getD j (0, 0)).2 = n at *
      obtain ⟨t, b', e', hr⟩ : ∃ t b' e', Hid (tk bb e n 8 = (t, b', e')) := ⟨_, _, _, Lib.hid rfl⟩
      obtain ⟨t2, b2, e2, hr2⟩ : ∃ t b' e', Hid (tk bb e n 9223372036854775807 = (t, b', e')) := ⟨_, _, _, Lib.hid rfl⟩
      have hb1 := (tk_bytes hbb hr.out).2
      have hb2 := (tk_bytes hbb hr2.out).2
      have hn1 := tk_len hbl hr.out
      have hn2 := tk_len hbl hr2.out
      have hXp : (ad.add (j * 2)).block < p := by omega
      have hXq : (ad.add (j * 2)).block < q := by omega
      have hXw : (ad.add (j * 2)).block < wr.heap.size := Nat.lt_of_lt_of_le hX b5.size
      have rD := fun n => r5.below (below_drewN (Below.refl _ _) n)
      have k3 : kd % 3 = 0 ∨ kd % 3 = 1 ∨ kd % 3 = 2 := by omega
      obtain ⟨v, hv⟩ : ∃ v, Hid (ofB (t.take 8) = v) := ⟨_, Lib.hid rfl⟩
      obtain ⟨vs, hvs⟩ : ∃ v, Hid (sgn8 (ofB (t.take 8)) n = v) := ⟨_, Lib.hid rfl⟩
      rcases k3 with k3 | k3 | k3
      · have K := Lib.hid k3
        clear k3
        go_wp2_with fail
        refine (K.out ▸ Pick_calls kd 3 _ (by decide) (by decide) : Calls Try.prog 21 #[.int .i64 kd, .int .i64 3] _ fun e w' => e = .returned (.int .i64 0) ∧ _ = w').mono ?_
        rintro en w' ⟨rfl, rfl⟩
        go_wp2_with fail
        go_region_held3 (fun w' => w'.cell? ⟨(ad.add (j * 2)).block, (ad.add (j * 2)).off + 1, none⟩ = some (.int .i64 n))
          (first
            | go_keep
            | exact g6.cell (by assumption) (by simp; omega)
            | exact g7.cell (by assumption) (by simp; omega)
            | fail)
          (first
            | (go_at_call 22; refine (Number_calls _ p bb e n _ (r5.below (Below.refl _ _).drew) hbb t b' e' hr v hv).mono ?_; rintro en w6 ⟨rfl, r6, g6⟩)
            | (go_at_call 28; refine (RNumber_calls _ q bb e n _ ((s5.below (Below.refl _ _).drew).grown g6 (by omega) (by omega)) hbb t b' e' hr v hv hn64 (by omega)).mono ?_; rintro en w7 ⟨rfl, s7, g7⟩))
        go_wp2_with fail
        have r7 := r6.grown g7 (by omega) (by omega)
        have b7 := below_grown_p (below_grown_p b5.drew g6 pw) g7 qw
        have hq2 := s7.e
        clear g6 g7 r6 b5
        go_quiet (first
          | (go_at_call 24; exact Left_q _ _ _ _ _ r7 _)
          | (go_at_call 31; exact RLeft_q _ _ _ _ _ s7 _)
          | (go_at_call 23; exact Err_q _ _ _ _ _ r7 _)
          | (go_at_call 25; exact End_q _ _ _ _ _ r7 _)
          | (go_at_call 32; exact REnd_q _ _ _ _ _ s7 _))
        go_wp2_with fail
        go_roundg (gk - 1)
        case measure => omega
        case rel => exact ⟨j + 1, by simp, by omega, by omega, b', e', r7.below (below_drewN (Below.refl _ _) _), s7.below (below_drewN (Below.refl _ _) _), hb1, hn1, below_trans b7 (below_drewN (Below.refl _ _) _)⟩
      · have K := Lib.hid k3
        clear k3
        go_wp2_with fail
        refine (K.out ▸ Pick_calls kd 3 _ (by decide) (by decide) : Calls Try.prog 21 #[.int .i64 kd, .int .i64 3] _ fun e w' => e = .returned (.int .i64 1) ∧ _ = w').mono ?_
        rintro en w' ⟨rfl, rfl⟩
        go_wp2_with fail
        go_region_held3 (fun w' => w'.cell? ⟨(ad.add (j * 2)).block, (ad.add (j * 2)).off + 1, none⟩ = some (.int .i64 n))
          (first
            | go_keep
            | exact g6.cell (by assumption) (by simp; omega)
            | exact g7.cell (by assumption) (by simp; omega)
            | fail)
          (first
            | (go_at_call 26; refine (RdSigned_calls _ p bb e n _ (r5.below (Below.refl _ _).drew) hbb t b' e' hr vs hvs).mono ?_; rintro en w6 ⟨rfl, r6, g6⟩)
            | (go_at_call 29; refine (RRdSigned_calls _ q bb e n _ ((s5.below (Below.refl _ _).drew).grown g6 (by omega) (by omega)) hbb t b' e' hr vs hvs hn64 (by omega)).mono ?_; rintro en w7 ⟨rfl, s7, g7⟩))
        go_wp2_with fail
        have r7 := r6.grown g7 (by omega) (by omega)
        have b7 := below_grown_p (below_grown_p b5.drew g6 pw) g7 qw
        have hq2 := s7.e
        clear g6 g7 r6 b5
        go_quiet (first
          | (go_at_call 24; exact Left_q _ _ _ _ _ r7 _)
          | (go_at_call 31; exact RLeft_q _ _ _ _ _ s7 _)
          | (go_at_call 23; exact Err_q _ _ _ _ _ r7 _)
          | (go_at_call 25; exact End_q _ _ _ _ _ r7 _)
          | (go_at_call 32; exact REnd_q _ _ _ _ _ s7 _))
        go_wp2_with fail
        go_roundg (gk - 1)
        case measure => omega
        case rel => exact ⟨j + 1, by simp, by omega, by omega, b', e', r7.below (below_drewN (Below.refl _ _) _), s7.below (below_drewN (Below.refl _ _) _), hb1, hn1, below_trans b7 (below_drewN (Below.refl _ _) _)⟩
      · have K := Lib.hid k3
        clear k3
        go_wp2_with fail
        refine (K.out ▸ Pick_calls kd 3 _ (by decide) (by decide) : Calls Try.prog 21 #[.int .i64 kd, .int .i64 3] _ fun e w' => e = .returned (.int .i64 2) ∧ _ = w').mono ?_
        rintro en w' ⟨rfl, rfl⟩
        go_wp2_with fail
        go_region_held3 (fun w' => w'.cell? ⟨(ad.add (j * 2)).block, (ad.add (j * 2)).off + 1, none⟩ = some (.int .i64 n))
          (first
            | go_keep
            | exact cell_below b8 _ _ (by assumption)
            | exact g6.cell (by assumption) (by simp; omega)
            | exact g7.cell (by assumption) (by simp; omega)
            | fail)
          (first
            | (go_at_call 20; refine (Bytes2_calls _ p bb e n _ (r5.below (Below.refl _ _).drew) t2 b2 e2 hr2).mono ?_; rintro en w6 ⟨A6, c6, rfl, t6, r6, g6, f6⟩)
            | (go_at_call 30; refine (RBytes_calls _ q bb e n _ ((s5.below (Below.refl _ _).drew).grown g6 (by omega) (by omega)) t2 b2 e2 hr2 hn64 (by omega)).mono ?_; rintro en w7 ⟨A7, c7, rfl, t7, s7, g7⟩)
            | (go_at_call 11; refine (Same_byte_b A6 A7 c6 c7 t2 t2 _ (sl_grown t6 g7 (fun x hx => by have := f6 x hx; omega)) t7).mono ?_; rintro en w8 ⟨rfl, b8⟩))
        go_wp2_with fail
        have r7 := (r6.grown g7 (by omega) (by omega)).below b8
        have b7 := below_trans (below_grown_p (below_grown_p b5.drew g6 pw) g7 qw) b8
        have s7 := s7.below b8
        have hq2 := s7.e
        clear g6 g7 r6 b5 b8
        go_quiet (first
          | (go_at_call 24; exact Left_q _ _ _ _ _ r7 _)
          | (go_at_call 31; exact RLeft_q _ _ _ _ _ s7 _)
          | (go_at_call 23; exact Err_q _ _ _ _ _ r7 _)
          | (go_at_call 25; exact End_q _ _ _ _ _ r7 _)
          | (go_at_call 32; exact REnd_q _ _ _ _ _ s7 _))
        go_wp2_with fail
        go_roundg (gk - 1)
        case measure => omega
        case rel => exact ⟨j + 1, by simp, by omega, by omega, b2, e2, r7.below (below_drewN (Below.refl _ _) _), s7.below (below_drewN (Below.refl _ _) _), hb2, hn2, below_trans b7 (below_drewN (Below.refl _ _) _)⟩
    · have hjl : ¬ (j : Int) < (l.length : Int) := by omega
      go_wp2_with fail
      go_ret
      exact ⟨rfl, b5⟩
theorem OctetScript_calls (A L : Option Addr) (c cl : Nat) (b : List Int) (l : List (Int × Int)) (w : World) (h : SlI w .u8 A c b) (hb : Bytes b) (hs : SlP w L cl l) :
    Calls Try.prog 9 #[.slice A b.length c, .slice L l.length cl] w fun e w' => e = .returned (.bool true) ∧ Below w.heap.size w w' := by
  have hm := h.len
  by_cases hl : b.length > 200
  · have i1 : (b.length : Int) > 200 := by omega
    go_enter Try.func9, Try.ntmps9
    go_wp2_with fail
    refine (lives_calls _).mono ?_
    rintro e w1 ⟨rfl, b1⟩
    go_wp2_with fail
    go_ret
    exact ⟨rfl, b1⟩
  · by_cases hl2 : l.length > 200
    · have i1 : ¬ (b.length : Int) > 200 := by omega
      have i2 : (l.length : Int) > 200 := by omega
      go_enter Try.func9, Try.ntmps9
      go_wp2_with fail
      refine (lives_calls _).mono ?_
      rintro e w1 ⟨rfl, b1⟩
      go_wp2_with fail
      go_ret
      exact ⟨rfl, b1⟩
    · exact script_core A L c cl b l w h hb (by omega) hs (by omega)
end Go.Proofs.Ytfedgpcbndbddaa
