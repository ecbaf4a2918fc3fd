/- CmdRU: the reference's Status. -/
import Derived.Test.YtjdablkdndmcgaaCmdRQ
import Derived.Test.YtjdablkdndmcgaaCmdT
namespace Go.Proofs.Ytjdablkdndmcgaa
set_option linter.unusedVariables false
set_option linter.unusedSimpArgs false
open Go.RowKit
set_option maxHeartbeats 1000000 in
theorem RStatus_calls (A : Option Addr) (c : Nat) (raw : List Int) (dim : Int) (w : World) (h : SlI w .u8 A c raw) (hb : Bytes raw) (hl : Hid (raw.length ≤ 1000000)) (x : Cm) (st : Int) (hr : Hid (statusR raw dim = (x, st))) :
    Calls Try.prog 28 #[.slice A raw.length c, .int .i64 dim] w fun en w' => (∃ A1 a1 B1 c1, en = .returned (.tuple #[.agg (cmC x A1 a1 B1 c1).toArray, .int .i64 st]) ∧ CmK w' x A1 a1 B1 c1 ∧ ∀ ad, A1 = some ad ∨ B1 = some ad → w.heap.size ≤ ad.block) ∧ Below w.heap.size w w' := by
  have h0 : Blk (w.alloc (.cells #[.int .i64 0, .int .i64 0, .slice none 0 0, .int .i64 0, .int .i64 0, .slice none 0 0] 34)) w.heap.size 34 (cmC cm0 none 0 none 0) := Blk.new w _ _
  have B0 := below_box0 w (.cells #[.int .i64 0, .int .i64 0, .slice none 0 0, .int .i64 0, .int .i64 0, .slice none 0 0] 34)
  have s0 := h.below B0
  have HX := Lib.hid (And.intro h0 (And.intro B0 s0))
  clear h0 B0 s0 h
  obtain ⟨r, hp⟩ : ∃ r, r = parseR raw := ⟨_, rfl⟩
  have hr2 : stOf r dim = (x, st) := by rw [hp]; exact hr.out
  replace hp := Lib.hid hp.symm
  replace hr2 := Lib.hid hr2
  clear hr
  go_enter Try.func28, Try.ntmps28
  go_wp2_with fail
  refine (RParse_calls A c raw _ HX.out.2.2 hb hl r hp).mono ?_
  rintro en w1 ⟨⟨A1, a1, B1, c1, rfl, k1, hfr⟩, b1⟩
  simp at hfr
  have m1 := HX.out.1.below b1
  have B1' := below_lo HX.out.2.1 b1 (by simp)
  have z1 := b1.size
  simp at z1
  clear b1 HX
  obtain ⟨y, hy⟩ : ∃ y, y = r.getD cm0 := ⟨_, rfl⟩
  rw [← hy] at k1 ⊢
  have bb := below_box0 w1 (.cells (cmC y A1 a1 B1 c1).toArray 34)
  have m2 := m1.below bb
  have k2 := k1.below bb
  have B2 := below_row B1' B1'.size (grown_of_below bb none) (fun k hk => by cases hk)
  have q2 : Blk (w1.alloc (.cells (cmC y A1 a1 B1 c1).toArray 34)) w1.heap.size 34 (cmC y A1 a1 B1 c1) := Blk.new w1 _ _
  have HK := Lib.hid k2
  have HB := Lib.hid B2
  obtain ⟨l0, l1, l2, l3, l4, l5⟩ := load_cm q2
  have c0 := m2.cell 0
  have c1' := m2.cell 1
  have c2 := m2.cell 2
  have c3 := m2.cell 3
  have c4 := m2.cell 4
  have c5 := m2.cell 5
  have f0 := m2.frozen 0
  have f1 := m2.frozen 1
  have f2 := m2.frozen 2
  have f3 := m2.frozen 3
  have f4 := m2.frozen 4
  have f5 := m2.frozen 5
  simp only [cmC, cm0, List.length_nil, List.getElem?_cons_zero, List.getElem?_cons_succ] at c0 c1' c2 c3 c4 c5 l0 l1 l2 l3 l4 l5
  replace m2 := Lib.hid m2
  clear bb m1 k1 B1' k2 B2 q2
  cases r with
  | none =>
    have hyz : y = cm0 := hy
    subst hyz
    have e2 : (cm0, (1 : Int)) = (x, st) := hr2.out
    obtain ⟨rfl, rfl⟩ := Prod.mk.inj e2
    clear e2 hr2 hy
    clear l1 l2 l3 l4 l5
    simp only [cmC, cm0, List.length_nil] at c0 c1' c2 c3 c4 c5 f0 f1 f2 f3 f4 f5 l0 ⊢
    go_wp2_with fail
    refine ret_blk2 (cs := cmC cm0 none 0 none 0) rfl rfl rfl (m2.out.six cm0 none 0 none 0) Try.underlying34 rfl (by kernel_rfl) ?_
    exact ⟨⟨none, 0, none, 0, rfl, ⟨SlI.nil _ _, SlI.nil _ _⟩, fun ad had => by rcases had with had | had <;> cases had⟩, below_row HB.out HB.out.size (six_grown _ _ cm0 none 0 none 0) (fun k hk => by injection hk with hk; omega)⟩
  | some z =>
    have hyz : y = z := hy
    subst hyz
    clear hy
    have e2 : (y, (if hasN y.op 2 = true ∧ (y.v.length : Int) ≠ dim then (2 : Int) else 0)) = (x, st) := hr2.out
    obtain ⟨rfl, hst⟩ := Prod.mk.inj e2
    clear e2 hr2
    have hgr := fun w2 => six_grown w2 w.heap.size y A1 a1 B1 c1
    replace hst := Lib.hid hst
    simp only [cmC] at f0 f1 f2 f3 f4 f5 ⊢
    go_wp2_with fail
    refine (RhasVec_h y.op _).mono ?_
    rintro en W ⟨rfl, hW⟩
    subst hW
    have fin : Hid (∀ t, st = t → ∀ e W', W' = ((((((w1.alloc (.cells (cmC y A1 a1 B1 c1).toArray 34)).setCell ⟨w.heap.size, 0, none⟩ (.int .i64 y.op)).setCell ⟨w.heap.size, 1, none⟩ (.int .i64 y.id)).setCell ⟨w.heap.size, 2, none⟩ (.slice A1 y.v.length a1)).setCell ⟨w.heap.size, 3, none⟩ (.int .i64 y.k)).setCell ⟨w.heap.size, 4, none⟩ (.int .i64 y.p)).setCell ⟨w.heap.size, 5, none⟩ (.slice B1 y.d.length c1) →
        e = Ending.returned (.tuple #[.agg (cmC y A1 a1 B1 c1).toArray, .int .i64 t]) → (∃ A1 a1 B1 c1, e = .returned (.tuple #[.agg (cmC y A1 a1 B1 c1).toArray, .int .i64 st]) ∧ CmK W' y A1 a1 B1 c1 ∧ ∀ ad, A1 = some ad ∨ B1 = some ad → w.heap.size ≤ ad.block) ∧ Below w.heap.size w W') := Lib.hid (by
      rintro t rfl e W' rfl rfl
      have hA : ∀ ad, A1 = some ad → ad.block ≠ w.heap.size := fun ad h => by have := hfr ad (.inl h); omega
      have hB : ∀ ad, B1 = some ad → ad.block ≠ w.heap.size := fun ad h => by have := hfr ad (.inr h); omega
      exact ⟨⟨A1, a1, B1, c1, rfl, ⟨sl_set (sl_set (sl_set (sl_set (sl_set (sl_set HK.out.v hA) hA) hA) hA) hA) hA, sl_set (sl_set (sl_set (sl_set (sl_set (sl_set HK.out.d hB) hB) hB) hB) hB) hB⟩, fun ad had => by have := hfr ad had; omega⟩, below_row HB.out HB.out.size (six_grown _ _ y A1 a1 B1 c1) (fun k hk => by injection hk with hk; omega)⟩)
    cases hh : hasN y.op 2 with
    | false =>
      have hs : st = 0 := by rw [← hst.out, hh]; rfl
      go_wp2_with fail
      refine ret_blk2 (cs := cmC y A1 a1 B1 c1) rfl rfl rfl (m2.out.six y A1 a1 B1 c1) Try.underlying34 rfl (by kernel_rfl) ?_
      exact fin.out _ hs _ _ rfl rfl
    | true =>
      by_cases hd : (y.v.length : Int) = dim
      · have hs : st = 0 := by rw [← hst.out, if_neg (fun hx => hx.2 hd)]
        subst hd
        go_wp2_with fail
        refine ret_blk2 (cs := cmC y A1 a1 B1 c1) rfl rfl rfl (m2.out.six y A1 a1 B1 c1) Try.underlying34 rfl (by kernel_rfl) ?_
        exact fin.out _ hs _ _ rfl rfl
      · have hs : st = 2 := by rw [← hst.out, if_pos ⟨hh, hd⟩]
        have hd' : ((y.v.length : Int) != dim) = true := by simpa using hd
        go_wp2_with fail
        refine ret_blk2 (cs := cmC y A1 a1 B1 c1) rfl rfl rfl (m2.out.six y A1 a1 B1 c1) Try.underlying34 rfl (by kernel_rfl) ?_
        exact fin.out _ hs _ _ rfl rfl
end Go.Proofs.Ytjdablkdndmcgaa
