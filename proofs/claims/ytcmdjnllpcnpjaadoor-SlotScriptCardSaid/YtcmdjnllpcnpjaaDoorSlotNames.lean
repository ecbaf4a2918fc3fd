/- SlotNames. -/
import Derived.Test.YtcmdjnllpcnpjaaDoorSlotAny
namespace Go.Proofs.YtcmdjnllpcnpjaaDoor
set_option linter.unusedVariables false
set_option linter.unusedSimpArgs false
open Go.RowKit
/-- A slice that lies away from a set of blocks. -/
def Away (w : World) (S : Nat → Prop) (A : Option Addr) : Prop := ∀ x, A = some x → ¬ S x.block ∧ x.block < w.heap.size
theorem Away.step {w w' : World} {S S' : Nat → Prop} {A : Option Addr} (h : Away w S A) (hs : w.heap.size ≤ w'.heap.size) (hS : ∀ k, S' k → S k ∨ (w.heap.size ≤ k ∧ k < w'.heap.size)) : Away w' S' A := fun x hx =>
  ⟨fun hh => by rcases hS _ hh with h1 | h1; exact (h x hx).1 h1; have := (h x hx).2; omega, by have := (h x hx).2; omega⟩
/-- Slots of the call's own: they lie behind w0, and the library's table is as it was. -/
structure Mine (w0 w : World) (S : Nat → Prop) (g dim room : Nat) (st : St) (tr : List Int) : Prop where
  M : SLOTS w S g dim room st tr
  lo : ∀ k, S k → w0.heap.size ≤ k ∧ k < w.heap.size
  B : Below w0.heap.size w0 w
  T : TabG w0
section
variable {w0 w w' : World} {S S' : Nat → Prop} {g dim room : Nat} {st st' : St} {tr tr' : List Int}
theorem Mine.tab (h : Mine w0 w S g dim room st tr) : TabG w := h.T.below h.B
theorem Mine.below (h : Mine w0 w S g dim room st tr) (b : Below w.heap.size w w') : Mine w0 w' S g dim room st tr :=
  ⟨h.M.below b, fun k hk => by have := h.lo k hk; have := b.size; omega, below_then h.B h.B.size b, h.T⟩
theorem Mine.step (h : Mine w0 w S g dim room st tr) (M : SLOTS w' S' g dim room st' tr') (K : Keep S w w') (hS : ∀ k, S' k → S k ∨ (w.heap.size ≤ k ∧ k < w'.heap.size)) : Mine w0 w' S' g dim room st' tr' :=
  ⟨M, fun k hk => by
    have := h.B.size; have := K.size
    rcases hS k hk with h1 | h1
    · have := h.lo k h1; omega
    · omega, below_keep h.B K h.B.size fun k hk => (h.lo k hk).1, h.T⟩
/-- Another's slots behind a call. -/
theorem Mine.other {U : Nat → Prop} (h : Mine w0 w S g dim room st tr) (K : Keep U w w') (hU : ∀ k, U k → w0.heap.size ≤ k) (hd : ∀ k, S k → ¬ U k) : Mine w0 w' S g dim room st tr :=
  ⟨h.M.keep K fun k _ hk => hd k hk, fun k hk => by have := h.lo k hk; have := K.size; omega, below_keep h.B K h.B.size hU, h.T⟩
theorem New_mine (dim room : Nat) (h : TabG w0) (b : Below w0.heap.size w0 w) (h1 : 1 ≤ dim) (h2 : dim ≤ 1024) (h3 : 1 ≤ room) (h4 : room ≤ 16777216) :
    Calls Tryd.prog 10 #[.int .i64 dim, .int .i64 room] w fun e w' => ∃ g S, e = .returned (.tuple #[PtrS g, .int .i64 0]) ∧ Mine w0 w' S g dim room [] [] ∧ Below w.heap.size w w' ∧ ∀ k, S k → w.heap.size ≤ k := by
  refine (SNew_calls dim room w h1 h2 h3 h4).mono ?_
  rintro e w' ⟨g, rfl, M, b1⟩
  exact ⟨g, _, rfl, ⟨M, fun k hk => ⟨by have := hk.1; have := b.size; omega, hk.2⟩, below_then b b.size b1, h⟩, b1, fun k hk => hk.1⟩
theorem Put_mine (V : Option Addr) (c : Nat) (v : List Int) (h : Mine w0 w S g dim room st tr) (hv : SlI w .i16 V c v) (hva : ∀ x, V = some x → ¬ S x.block) (hs : st.length ≤ 1000) :
    Calls Tryd.prog 11 #[PtrS g, .slice V v.length c] w fun e w' => ∃ S', e = .returned (.tuple #[.int .i64 (putN dim room st v), .int .i64 (putX dim room st v)]) ∧ Mine w0 w' S' g dim room (putE dim room st v) tr ∧ Keep S w w' ∧ ∀ k, S' k → S k ∨ (w.heap.size ≤ k ∧ k < w'.heap.size) := by
  refine (SPut_any S g dim room st tr V c v w h.M h.tab hv hva hs).mono ?_
  rintro e w' ⟨S', rfl, M, K, hS⟩
  exact ⟨S', rfl, h.step M K hS, K, hS⟩
theorem Get_mine (n : Int) (h : Mine w0 w S g dim room st tr) (hn : n ≤ 9223372036854775807) (hs : st.length ≤ 1000) (hr : tr.length ≤ 1000000) :
    Calls Tryd.prog 17 #[PtrS g, .int .i64 n] w fun e w' => ∃ S' A' c', e = .returned (.tuple #[.slice A' (getV st n).length c', .int .i64 (if hasI st n then 0 else 6)]) ∧ Mine w0 w' S' g dim room st (getT st tr n) ∧ OwnI w' w.heap.size 31 .i16 A' c' (getV st n) ∧ Keep S w w' ∧ (∀ k, S' k → S k ∨ (w.heap.size ≤ k ∧ k < w'.heap.size)) ∧ Away w' S' A' := by
  refine (SGet_any S g dim room st tr n w h.M hn hs hr).mono ?_
  rintro e w' ⟨S', B, A', c', rfl, M, o, K, hS, h1, h2⟩
  refine ⟨S', A', c', rfl, h.step M K (fun k hk => (hS k hk).imp id fun hh => ⟨hh.1, by omega⟩), own_mono o h1, K, fun k hk => (hS k hk).imp id fun hh => ⟨hh.1, by omega⟩, fun x hx => ⟨fun hh => ?_, (own_block o x hx).2⟩⟩
  have := own_block o x hx
  rcases hS _ hh with h3 | h3
  · have := (h.lo _ h3).2; omega
  · omega
/-- What is read elsewhere stays. -/
theorem SlI.keep {k : IntKind} {A : Option Addr} {c : Nat} {xs : List Int} {U : Nat → Prop} (h : SlI w k A c xs) (K : Keep U w w') (hA : Away w U A) : SlI w' k A c xs := by
  refine ⟨?_, h.le, h.cap⟩
  rcases h.rd with h1 | ⟨ad, h1, h2⟩
  · exact .inl h1
  · refine .inr ⟨ad, h1, fun j u hj => ?_⟩
    have hc := h2 j u hj
    have hb : (ad.add j).block = ad.block := by unfold Addr.add; split <;> rfl
    have hl := World.block_lt_of_cell? w _ hc
    rw [World.cell?_of_block (w := w) (K.block _ hl (by rw [hb]; exact (hA ad h1).1))]
    exact hc
theorem Free_mine (n : Int) (h : Mine w0 w S g dim room st tr) (hn : n ≤ 9223372036854775807) (hs : st.length ≤ 1000) :
    Calls Tryd.prog 12 #[PtrS g, .int .i64 n] w fun e w' => e = .returned (.int .i64 (if hasI st n then 0 else 6)) ∧ Mine w0 w' S g dim room (freeE st n) tr ∧ Keep S w w' := by
  refine (SFree_any S g dim room st tr n w h.M hn hs).mono ?_
  rintro e w' ⟨rfl, M, K⟩
  exact ⟨rfl, h.step M K (fun k hk => .inl hk), K⟩
theorem Clear_mine (h : Mine w0 w S g dim room st tr) :
    Calls Tryd.prog 20 #[PtrS g] w fun e w' => e = .returned (.tuple #[]) ∧ Mine w0 w' S g dim room st [] ∧ Keep S w w' := by
  refine (SClear_calls S g dim room st tr w h.M).mono ?_
  rintro e w' ⟨rfl, M, K⟩
  exact ⟨rfl, h.step M K (fun k hk => .inl hk), K⟩
end
set_option maxHeartbeats 2000000 in
set_option maxRecDepth 100000 in
theorem SlotNames_row (w : World) (hT : TabG w) : Calls Tryd.prog 5 #[] w fun e w' => e = .returned (.bool true) ∧ Below w.heap.size w w' := by
  go_enter Tryd.func5, Tryd.ntmps5
  go_wp2_with fail
  refine (lives_calls w hT).mono ?_
  rintro e w1 ⟨rfl, b1⟩
  go_wp2_with fail
  refine (SNew_bad 0 1 _ (.inl (by decide))).mono ?_
  rintro e _ ⟨rfl, rfl⟩
  go_wp2_with fail
  refine (SNew_bad 1 0 _ (.inr (.inr (.inl (by decide))))).mono ?_
  rintro e _ ⟨rfl, rfl⟩
  go_wp2_with fail
  refine (New_mine 2 1 hT b1 (by decide) (by decide) (by decide) (by decide)).mono ?_
  rintro e w2 ⟨g, S2, rfl, M2, _, _⟩
  have a2 := M2.below (below_box0 w2 (.cells #[.int .i16 1] 31))
  have P2 := Put_mine (some ⟨w2.heap.size, 0, none⟩) 1 [1] a2 (lit_sl [1] (by decide)) (fun x hx => by cases hx; intro hh; have := (M2.lo _ hh).2; exact absurd this (Nat.lt_irrefl _)) (by decide)
  rw [show putN 2 1 [] [1] = 0 from by decide, show putX 2 1 [] [1] = 2 from by decide, show putE 2 1 [] [1] = [] from by decide] at P2
  go_wp2_with fail
  refine P2.mono ?_
  rintro e w3 ⟨S3, rfl, M3, K3, hS3⟩
  clear P2 a2 K3 hS3 M2
  have a3 := M3.below (below_box0 w3 (.cells #[.int .i16 1, .int .i16 2] 31))
  have P3 := Put_mine (some ⟨w3.heap.size, 0, none⟩) 2 [1, 2] a3 (lit_sl [1, 2] (by decide)) (fun x hx => by cases hx; intro hh; have := (M3.lo _ hh).2; exact absurd this (Nat.lt_irrefl _)) (by decide)
  rw [show putN 2 1 [] [1, 2] = 0 from by decide, show putX 2 1 [] [1, 2] = 0 from by decide, show putE 2 1 [] [1, 2] = [some [1, 2]] from by decide] at P3
  go_wp2_with fail
  refine P3.mono ?_
  rintro e w4 ⟨S4, rfl, M4, K4, hS4⟩
  clear P3 a3 K4 hS4 M3
  have a4 := M4.below (below_box0 w4 (.cells #[.int .i16 3, .int .i16 4] 31))
  have P4 := Put_mine (some ⟨w4.heap.size, 0, none⟩) 2 [3, 4] a4 (lit_sl [3, 4] (by decide)) (fun x hx => by cases hx; intro hh; have := (M4.lo _ hh).2; exact absurd this (Nat.lt_irrefl _)) (by decide)
  rw [show putN 2 1 [some [1, 2]] [3, 4] = 0 from by decide, show putX 2 1 [some [1, 2]] [3, 4] = 7 from by decide, show putE 2 1 [some [1, 2]] [3, 4] = [some [1, 2]] from by decide] at P4
  go_wp2_with fail
  refine P4.mono ?_
  rintro e w5 ⟨S5, rfl, M5, K5, hS5⟩
  clear P4 a4 K5 hS5 M4
  have G5 := Get_mine 0 M5 (by decide) (by decide) (by decide)
  rw [show getV [some [1, 2]] 0 = [1, 2] from by decide, show hasI [some [1, 2]] 0 = true from by decide, show getT [some [1, 2]] [] 0 = [0] from by decide] at G5
  go_wp2_with fail
  refine G5.mono ?_
  rintro e w6 ⟨S6, A6, c6, rfl, M6, o6, K6, hS6, f6⟩
  clear G5 M5
  have sv := OwnI.sl o6
  clear K6 hS6 o6
  have G6 := Get_mine 1 M6 (by decide) (by decide) (by decide)
  rw [show getV [some [1, 2]] 1 = [] from by decide, show hasI [some [1, 2]] 1 = false from by decide, show getT [some [1, 2]] [0] 1 = [0] from by decide] at G6
  go_wp2_with fail
  refine G6.mono ?_
  rintro e w7 ⟨S7, A7, c7, rfl, M7, o7, K7, hS7, f7⟩
  clear G6 M6
  replace sv := sv.keep K7 (f6.step (Nat.le_refl _) fun k hk => .inl hk)
  replace f6 := f6.step K7.size hS7
  clear K7 hS7 o7 f7
  have TR := STrace_calls S7 g 2 1 _ [0] w7 M7.M (by decide)
  go_wp2_with fail
  refine TR.mono ?_
  rintro e w8 ⟨A8, c8, rfl, o8, b8⟩
  clear TR
  replace sv := sv.below b8
  replace f6 := f6.step b8.size fun k hk => .inl hk
  have M8 := M7.below b8
  have s8 := OwnI.sl o8
  have f8 : Away w8 S7 A8 := fun x hx => ⟨fun hh => by have := (M7.lo _ hh).2; have := own_block o8 x hx; omega, (own_block o8 x hx).2⟩
  clear o8 M7 b8
  have CL := Clear_mine M8
  go_wp2_with fail
  refine CL.mono ?_
  rintro e w9 ⟨rfl, M9, K9⟩
  clear CL M8
  replace sv := sv.keep K9 f6
  replace s8 := s8.keep K9 f8
  clear K9 f8 f6
  have n1 := below_box0 w9 (.cells #[.int .i16 1, .int .i16 2] 31)
  have SM := Same_int16_b A6 (some ⟨w9.heap.size, 0, none⟩) c6 2 [1, 2] [1, 2] _ (sv.below n1) (lit_sl [1, 2] (by decide))
  rw [show decide (([1, 2] : List Int) = [1, 2]) = true from by decide] at SM
  replace s8 := s8.below n1
  replace M9 := M9.below n1
  clear sv n1
  go_wp2_with fail
  refine SM.mono ?_
  rintro e wa ⟨rfl, bS⟩
  replace s8 := s8.below bS
  replace M9 := M9.below bS
  clear SM bS
  have n2 := below_box0 wa (.cells #[.int .i64 0] 3)
  have SN := Same_int_b A8 (some ⟨wa.heap.size, 0, none⟩) c8 1 [0] [0] _ (s8.below n2) (lit_sl [0] (by decide))
  rw [show decide (([0] : List Int) = [0]) = true from by decide] at SN
  replace M9 := M9.below n2
  clear s8 n2
  go_wp2_with fail
  refine SN.mono ?_
  rintro e wb ⟨rfl, bS⟩
  replace M9 := M9.below bS
  clear SN bS
  have TR := STrace_calls S7 g 2 1 _ [] wb M9.M (by decide)
  go_wp2_with fail
  refine TR.mono ?_
  rintro e w12 ⟨A12, c12, rfl, o12, b12⟩
  replace M9 := M9.below b12
  clear TR o12 b12
  have FR := Free_mine (-1) M9 (by decide) (by decide)
  rw [show hasI [some [1, 2]] (-1) = false from by decide, show freeE [some [1, 2]] (-1) = [some [1, 2]] from by decide] at FR
  go_wp2_with fail
  refine FR.mono ?_
  rintro e w13 ⟨rfl, M13, K13⟩
  clear FR K13 M9
  have H0 := SHas_calls S7 g 2 1 _ [] 0 w13 M13.M (by decide) (by decide)
  have H1 := SHas_calls S7 g 2 1 _ [] 1 w13 M13.M (by decide) (by decide)
  have C1 := SCount_calls S7 g 2 1 _ [] w13 M13.M
  rw [show hasI [some [1, 2]] 0 = true from by decide] at H0
  rw [show hasI [some [1, 2]] 1 = false from by decide] at H1
  rw [show cntS [some [1, 2]] = 1 from by decide] at C1
  have B13 := M13.B
  clear M13
  go_wp2_with fail
  refine H0.mono ?_
  rintro e _ ⟨rfl, rfl⟩
  go_wp2_with fail
  refine H1.mono ?_
  rintro e _ ⟨rfl, rfl⟩
  go_wp2_with fail
  refine C1.mono ?_
  rintro e _ ⟨rfl, rfl⟩
  go_wp2_with fail
  go_ret
  exact ⟨rfl, B13⟩
end Go.Proofs.YtcmdjnllpcnpjaaDoor
