/- Slots in memory: Put, Get, Free, whatever they are given; lives; SlotNil. -/
import Derived.Test.YtcmdjnllpcnpjaaDoorSlotClone
namespace Go.Proofs.YtcmdjnllpcnpjaaDoor
set_option linter.unusedVariables false
set_option linter.unusedSimpArgs false
open Go.RowKit
def okP (dim room : Nat) (st : St) (v : List Int) : Prop := v.length = dim ∧ leastS st < room
instance (dim room : Nat) (st : St) (v : List Int) : Decidable (okP dim room st v) := by unfold okP; infer_instance
/-- What Put tells. -/
def putN (dim room : Nat) (st : St) (v : List Int) : Int := if okP dim room st v then (leastS st : Nat) else 0
def putX (dim room : Nat) (st : St) (v : List Int) : Int := if v.length ≠ dim then 2 else if leastS st < room then 0 else 7
def putE (dim room : Nat) (st : St) (v : List Int) : St := if okP dim room st v then putS st v else st
def RetPA (S : Nat → Prop) (g dim room : Nat) (st : St) (tr : List Int) (v : List Int) (w : World) (e : Ending) (w' : World) : Prop :=
  ∃ S', e = .returned (.tuple #[.int .i64 (putN dim room st v), .int .i64 (putX dim room st v)]) ∧ SLOTS w' S' g dim room (putE dim room st v) tr ∧ Keep S w w' ∧ ∀ k, S' k → S k ∨ (w.heap.size ≤ k ∧ k < w'.heap.size)
theorem SPut_any (S : Nat → Prop) (g dim room : Nat) (st : St) (tr : List Int) (V : Option Addr) (c : Nat) (v : List Int) (w : World) (h : SLOTS w S g dim room st tr) (hT : TabG w) (hv : SlI w .i16 V c v) (hva : ∀ x, V = some x → ¬ S x.block) (hs : st.length ≤ 1000) :
    Calls Tryd.prog 11 #[PtrS g, .slice V v.length c] w (RetPA S g dim room st tr v w) := by
  by_cases h1 : v.length = dim
  · by_cases h2 : leastS st < room
    · refine (SPut_ok S g dim room st tr V c v w h hT hv hva h1 hs h2).mono ?_
      rintro e w' ⟨S', rfl, M, K, hS⟩
      have hok : okP dim room st v := ⟨h1, h2⟩
      exact ⟨S', by unfold putN putX; rw [if_pos hok, if_neg (by simp [h1]), if_pos h2], by unfold putE; rw [if_pos hok]; exact M, K, hS⟩
    · refine (SPut_full S g dim room st tr V c v w h hT hv h1 hs (by omega)).mono ?_
      rintro e w' ⟨rfl, rfl⟩
      have hok : ¬ okP dim room st v := fun hh => h2 hh.2
      exact ⟨S, by unfold putN putX; rw [if_neg hok, if_neg (by simp [h1]), if_neg h2], by unfold putE; rw [if_neg hok]; exact h, Keep.refl S w, fun k hk => .inl hk⟩
  · refine (SPut_bad S g dim room st tr V c v w h hv h1).mono ?_
    rintro e w' ⟨rfl, rfl⟩
    have hok : ¬ okP dim room st v := fun hh => h1 hh.1
    exact ⟨S, by unfold putN putX; rw [if_neg hok, if_pos h1], by unfold putE; rw [if_neg hok]; exact h, Keep.refl S w, fun k hk => .inl hk⟩
def getV (st : St) (n : Int) : List Int := if hasI st n then (st.getD n.toNat none).getD [] else []
def getT (st : St) (tr : List Int) (n : Int) : List Int := if hasI st n then tr ++ [n] else tr
def RetGA (S : Nat → Prop) (g dim room : Nat) (st : St) (tr : List Int) (n : Int) (w : World) (e : Ending) (w' : World) : Prop :=
  ∃ S' B A' c', e = .returned (.tuple #[.slice A' (getV st n).length c', .int .i64 (if hasI st n then 0 else 6)]) ∧ SLOTS w' S' g dim room st (getT st tr n) ∧ OwnI w' B 31 .i16 A' c' (getV st n) ∧ Keep S w w' ∧ (∀ k, S' k → S k ∨ (w.heap.size ≤ k ∧ k < B)) ∧ w.heap.size ≤ B ∧ B ≤ w'.heap.size
theorem SGet_any (S : Nat → Prop) (g dim room : Nat) (st : St) (tr : List Int) (n : Int) (w : World) (h : SLOTS w S g dim room st tr) (hn : n ≤ 9223372036854775807) (hs : st.length ≤ 1000) (hr : tr.length ≤ 1000000) :
    Calls Tryd.prog 17 #[PtrS g, .int .i64 n] w (RetGA S g dim room st tr n w) := by
  cases hu : hasI st n with
  | false =>
    refine (SGet_no S g dim room st tr n w h hn hs hu).mono ?_
    rintro e w' ⟨rfl, rfl⟩
    refine ⟨S, w.heap.size, none, 0, ?_, ?_, ?_, Keep.refl S w, fun k hk => .inl hk, Nat.le_refl _, Nat.le_refl _⟩
    · unfold getV; rw [hu]; rfl
    · unfold getT; rw [hu]; exact h
    · unfold getV; rw [hu]; exact own_nil _ _ _ _
  | true =>
    have hu2 := hu
    unfold hasI at hu2
    simp only [Bool.and_eq_true, decide_eq_true_eq] at hu2
    obtain ⟨m, rfl⟩ := Int.eq_ofNat_of_zero_le hu2.1
    obtain ⟨v, hv⟩ := used_some hu2.2
    rw [Int.toNat_natCast] at hv
    refine (SGet_yes S g dim room st tr m v w h hs hr hv).mono ?_
    rintro e w' ⟨S', B, A', c', rfl, M, o, K, hS, h1, h2⟩
    have hg : getV st (m : Int) = v := by unfold getV; rw [hu, if_pos rfl, Int.toNat_natCast, hv]; rfl
    refine ⟨S', B, A', c', by rw [hg, hu]; rfl, ?_, by rw [hg]; exact o, K, hS, h1, h2⟩
    unfold getT; rw [hu]; exact M
def freeE (st : St) (n : Int) : St := if hasI st n then freeS st n.toNat else st
theorem SFree_any (S : Nat → Prop) (g dim room : Nat) (st : St) (tr : List Int) (n : Int) (w : World) (h : SLOTS w S g dim room st tr) (hn : n ≤ 9223372036854775807) (hs : st.length ≤ 1000) :
    Calls Tryd.prog 12 #[PtrS g, .int .i64 n] w fun e w' => e = .returned (.int .i64 (if hasI st n then 0 else 6)) ∧ SLOTS w' S g dim room (freeE st n) tr ∧ Keep S w w' := by
  cases hu : hasI st n with
  | false =>
    refine (SFree_no S g dim room st tr n w h hn hs hu).mono ?_
    rintro e w' ⟨rfl, rfl⟩
    exact ⟨rfl, by unfold freeE; rw [hu]; exact h, Keep.refl S w⟩
  | true =>
    have hu2 := hu
    unfold hasI at hu2
    simp only [Bool.and_eq_true, decide_eq_true_eq] at hu2
    obtain ⟨m, rfl⟩ := Int.eq_ofNat_of_zero_le hu2.1
    refine (SFree_yes S g dim room st tr m w h hs hu2.2).mono ?_
    rintro e w' ⟨rfl, M, K⟩
    exact ⟨rfl, by unfold freeE; rw [hu]; exact M, K⟩
theorem putE_length (dim room : Nat) (st : St) (v : List Int) : (putE dim room st v).length ≤ st.length + 1 := by
  unfold putE
  split
  · rw [putS_length]; have := least_le st; omega
  · omega
theorem freeE_length (st : St) (n : Int) : (freeE st n).length = st.length := by
  unfold freeE; split
  · exact freeS_length _ _
  · rfl
theorem TabG.pos {w : World} (h : TabG w) : 0 < w.heap.size := by
  have := World.block_lt_of_cell? w _ (h 0 (by decide)); exact this
set_option maxHeartbeats 1000000 in
theorem lives_calls (w : World) (hT : TabG w) : Calls Tryd.prog 8 #[] w fun e w' => e = .returned (.bool true) ∧ Below w.heap.size w w' := by
  have hp := hT.pos
  go_enter Tryd.func8, Tryd.ntmps8
  go_wp2_with fail
  refine (SNew_calls 1 3 _ (by decide) (by decide) (by decide) (by decide)).mono ?_
  rintro e w1 ⟨g, rfl, M1, b1⟩
  have z1 := b1.size
  have p1 : ∀ k, seg w.heap.size w1.heap.size k → w.heap.size ≤ k ∧ k < w1.heap.size := fun k hk => hk
  generalize seg w.heap.size w1.heap.size = S1 at *
  have T1 := hT.below b1
  have a1 := below_box0 w1 (.cells #[.int .i16 5] 31)
  have P1 := SPut_any S1 g 1 3 [] [] (some ⟨w1.heap.size, 0, none⟩) 1 [5] _ (M1.below a1) (T1.below a1) (lit_sl [5] (by decide)) (fun x hx => by cases hx; intro hh; have := (p1 _ hh).2; exact absurd this (Nat.lt_irrefl _)) (by decide)
  unfold PtrS at P1 ⊢
  go_wp2_with fail
  refine P1.mono ?_
  rintro e w2 ⟨S2, rfl, M2, k2, p2⟩
  have z2 := k2.size
  simp only [World.size_alloc] at z2
  have q2 : ∀ k, S2 k → w.heap.size ≤ k ∧ k < w2.heap.size := fun k hk => by
    rcases p2 k hk with h | h
    · have := p1 k h; omega
    · simp only [World.size_alloc] at h; omega
  have B2 := below_keep (below_trans b1 a1) k2 (by simp; omega) (fun k hk => (p1 k hk).1)
  have T2 := hT.below B2
  clear P1 T1 a1 M1 k2 p2 p1 b1
  have e2 : putE 1 3 [] [5] = [some [5]] := by decide
  rw [e2] at M2
  have a2 := below_box0 w2 (.cells #[.int .i16 6] 31)
  have P2 := SPut_any S2 g 1 3 [some [5]] [] (some ⟨w2.heap.size, 0, none⟩) 1 [6] _ (M2.below a2) (T2.below a2) (lit_sl [6] (by decide)) (fun x hx => by cases hx; intro hh; have := (q2 _ hh).2; exact absurd this (Nat.lt_irrefl _)) (by decide)
  unfold PtrS at P2
  have r1 : putN 1 3 [] [5] = 0 := by decide
  have r2 : putX 1 3 [] [5] = 0 := by decide
  rw [r1, r2]
  go_wp2_with fail
  refine P2.mono ?_
  rintro e w3 ⟨S3, rfl, M3, k3, p3⟩
  have z3 := k3.size
  simp only [World.size_alloc] at z3
  have q3 : ∀ k, S3 k → w.heap.size ≤ k ∧ k < w3.heap.size := fun k hk => by
    rcases p3 k hk with h | h
    · have := q2 k h; omega
    · simp only [World.size_alloc] at h; omega
  have B3 := below_keep (below_trans B2 a2) k3 (by simp; omega) (fun k hk => (q2 k hk).1)
  clear P2 T2 a2 M2 k3 p3 q2 B2
  have e3 : putE 1 3 [some [5]] [6] = [some [5], some [6]] := by decide
  rw [e3] at M3
  have r3 : putN 1 3 [some [5]] [6] = 1 := by decide
  have r4 : putX 1 3 [some [5]] [6] = 0 := by decide
  rw [r3, r4]
  have F3 := SFree_any S3 g 1 3 _ [] 0 _ M3 (by decide) (by decide)
  unfold PtrS at F3
  go_wp2_with fail
  refine F3.mono ?_
  rintro e w4 ⟨rfl, M4, k4⟩
  have z4 := k4.size
  have q4 : ∀ k, S3 k → w.heap.size ≤ k ∧ k < w4.heap.size := fun k hk => by have := q3 k hk; omega
  have B4 := below_keep B3 k4 (by omega) (fun k hk => (q3 k hk).1)
  have T4 := hT.below B4
  clear F3 M3 k4 q3 B3
  have e4 : freeE [some [5], some [6]] 0 = [none, some [6]] := by decide
  rw [e4] at M4
  have r5 : (if hasI [some [5], some [6]] 0 = true then (0 : Int) else 6) = 0 := by decide
  rw [r5]
  have a4 := below_box0 w4 (.cells #[.int .i16 7] 31)
  have P4 := SPut_any S3 g 1 3 [none, some [6]] [] (some ⟨w4.heap.size, 0, none⟩) 1 [7] _ (M4.below a4) (T4.below a4) (lit_sl [7] (by decide)) (fun x hx => by cases hx; intro hh; have := (q4 _ hh).2; exact absurd this (Nat.lt_irrefl _)) (by decide)
  unfold PtrS at P4
  go_wp2_with fail
  refine P4.mono ?_
  rintro e w5 ⟨S5, rfl, M5, k5, p5⟩
  have B5 := below_keep (below_trans B4 a4) k5 (by simp; omega) (fun k hk => (q4 k hk).1)
  clear P4
  have r6 : putN 1 3 [none, some [6]] [7] = 0 := by decide
  have r7 : putX 1 3 [none, some [6]] [7] = 0 := by decide
  rw [r6, r7]
  go_wp2_with fail
  go_ret
  exact ⟨rfl, B5⟩
theorem SlotNil_row (n : Int) (A : Option Addr) (c : Nat) (v : List Int) (w : World) (hT : TabG w) (hn : (Lit.int .i64 n).wf = true) (hv : SlI w .i16 A c v) (_fv : ∀ n ∈ v, (Lit.int .i16 n).wf = true) (_sv : v.length * 2 ≤ 140737488351232) :
    Calls Tryd.prog 7 #[.int .i64 n, .slice A v.length c] w fun e w' => e = .returned (.bool true) ∧ Below w.heap.size w w' := by
  go_enter Tryd.func7, Tryd.ntmps7
  go_wp2_with fail
  refine (lives_calls w hT).mono ?_
  rintro e w1 ⟨rfl, b1⟩
  go_wp2_with fail
  refine (SPut_nil A v.length c _).mono ?_
  rintro e _ ⟨rfl, rfl⟩
  go_wp2_with fail
  refine (SGet_nil n _).mono ?_
  rintro e _ ⟨rfl, rfl⟩
  go_wp2_with fail
  refine (SClear_nil _).mono ?_
  rintro e _ ⟨rfl, rfl⟩
  go_wp2_with fail
  refine (SFree_nil n _).mono ?_
  rintro e _ ⟨rfl, rfl⟩
  go_wp2_with fail
  refine (SHas_nil n _).mono ?_
  rintro e _ ⟨rfl, rfl⟩
  go_wp2_with fail
  refine (SCount_nil _).mono ?_
  rintro e _ ⟨rfl, rfl⟩
  go_wp2_with fail
  refine (STrace_nil _).mono ?_
  rintro e _ ⟨rfl, rfl⟩
  go_wp2_with fail
  refine (SClone_nil _).mono ?_
  rintro e _ ⟨rfl, rfl⟩
  go_wp2_with fail
  go_ret
  exact ⟨rfl, b1⟩
end Go.Proofs.YtcmdjnllpcnpjaaDoor
