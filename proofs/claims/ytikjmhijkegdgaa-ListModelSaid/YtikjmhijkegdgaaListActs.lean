/- Acts: a slice of them, out of its reading; light. -/
import Derived.Test.YtikjmhijkegdgaaListNil
namespace Go.Proofs.Ytikjmhijkegdgaa
set_option linter.unusedVariables false
set_option linter.unusedSimpArgs false
open Go.RowKit Go.ChangeShapes Go.WideShapes
/-- A call that is done with a list: its kind, its entry. -/
structure Ac where
  kind : Int
  q : HE
instance : Inhabited Ac := ⟨⟨0, default⟩⟩
def ActAt (w : World) (ad : Addr) (a : Ac) : Prop := w.cell? ad = some (.int .i64 a.kind) ∧ EntAt w ⟨ad.block, ad.off + 1, none⟩ a.q.e a.q.A a.q.c
theorem ActAt.below {w w' : World} {ad : Addr} {a : Ac} (h : ActAt w ad a) (hb : Below w.heap.size w w') : ActAt w' ad a := ⟨cell_below hb _ _ h.1, h.2.below hb⟩
def SlA (w : World) (A : Option Addr) (c : Nat) (xs : List Ac) : Prop :=
  xs.length ≤ c ∧ c ≤ maxLen ∧ (∀ a ∈ xs, EntOk w a.q ∧ (Lit.int .i64 a.kind).wf = true) ∧ ∀ j, j < xs.length → ∃ ad, A = some ad ∧ ActAt w (ad.add (j * 5)) (xs.getD j default)
theorem EntOk.below {w w' : World} {q : HE} (h : EntOk w q) (hb : Below w.heap.size w w') : EntOk w' q := ⟨h.1.below hb, h.2⟩
theorem SlA.below {w w' : World} {A : Option Addr} {c : Nat} {xs : List Ac} (h : SlA w A c xs) (hb : Below w.heap.size w w') : SlA w' A c xs :=
  ⟨h.1, h.2.1, fun a ha => ⟨(h.2.2.1 a ha).1.below hb, (h.2.2.1 a ha).2⟩, fun j hj => by obtain ⟨ad, h1, h2⟩ := h.2.2.2 j hj; exact ⟨ad, h1, h2.below hb⟩⟩
theorem SlA.nil (w : World) : SlA w none 0 [] := ⟨Nat.le_refl _, Nat.zero_le _, by simp, fun j hj => absurd hj (by simp)⟩
theorem SlA.at {w : World} {A : Option Addr} {c : Nat} {xs : List Ac} (h : SlA w A c xs) (j : Nat) (hj : j < xs.length) : ∃ ad, A = some ad ∧ ActAt w (ad.add (j * 5)) (xs.getD j default) ∧ EntOk w (xs.getD j default).q ∧ (Lit.int .i64 (xs.getD j default).kind).wf = true := by
  obtain ⟨ad, h1, h2⟩ := h.2.2.2 j hj
  have hm := h.2.2.1 (xs.getD j default) (by rw [List.getD_eq_getElem?_getD, List.getElem?_eq_getElem hj]; exact List.getElem_mem hj)
  exact ⟨ad, h1, h2, hm⟩
section
variable {H : Type} {enc : TypeId × Value → H} {P : Program} {W : World} {base : Nat} {held : Bool}
theorem add0 (a : Addr) : a.add 0 = a := by simp [Addr.add]
theorem open_acts {t ta ti tE tc te tr tb : TypeId} {f0 f1 s0 s1 s2 s3 : Field} {a : Option Addr} {len cap : Nat} {d : DataW H} {ps : List MemPlace} (hu : P.underlying t = some (.slice ta)) (ha : P.underlying ta = some (.struct #[f0, f1])) (hC : P.cellsOf ta = 5)
    (hf0 : f0.type = ti ∧ f0.offset = 0) (hf1 : f1.type = tE ∧ f1.offset = 1) (hs : P.underlying tE = some (.struct #[s0, s1, s2, s3])) (hE : P.cellsOf tE = 4)
    (h0 : s0.type = tr ∧ s0.offset = 0) (h1 : s1.type = tc ∧ s1.offset = 1) (h2 : s2.type = tr ∧ s2.offset = 2) (h3 : s3.type = tb ∧ s3.offset = 3)
    (ci : P.cellsOf ti = 1) (c0 : P.cellsOf tr = 1) (c1 : P.cellsOf tc = 1) (c3 : P.cellsOf tb = 1)
    (ui : P.underlying ti = some (.int .i64)) (u0 : P.underlying tr = some (.int .i64)) (u1 : P.underlying tc = some (.slice te)) (u3 : P.underlying tb = some .bool) (ue : P.underlying te = some (.int .u8)) (ce : P.cellsOf te = 1)
    (h : DataW.Trod enc P W base (fun _ => true) held t (.slice a len cap) d ps) : ∃ xs : List Ac, len = xs.length ∧ SlA W a cap xs := by
  obtain ⟨fuel, hf⟩ := h
  rcases Deep.open_slice hu hf with ⟨hcs, _⟩ | ⟨ad, l, c, m, n, D, Pl, hcs, _, hl, hm, hmm, _, hx⟩
  · simp [Value.cells] at hcs
    obtain ⟨rfl, rfl, rfl⟩ := hcs
    exact ⟨[], rfl, SlA.nil _⟩
  · simp [Value.cells] at hcs
    obtain ⟨rfl, rfl, rfl⟩ := hcs
    simp only [if_true] at hmm
    subst hmm
    have each : ∀ i, i < m → ∃ y : Ac, ActAt W (ad.add (i * 5)) y ∧ EntOk W y.q ∧ (Lit.int .i64 y.kind).wf = true := fun i hi => by
      obtain ⟨cs', e1, e2⟩ := hx i hi
      rw [hC] at e1
      obtain ⟨_, hlen, hcell⟩ := World.cells?_some e1
      obtain ⟨xs, m', _, _, _, hxl, hf⟩ := DataW.trod_struct ha e2
      have hxl : xs.length = 2 := by simpa using hxl
      match cs', hlen with
      | [v0, v1, v2, v3, v4], _ =>
      have g0 := hf 0 f0 rfl
      have g1 := hf 1 f1 rfl
      match xs, hxl with
      | [x0, x1], _ =>
      rw [hf0.1, hf0.2, ci] at g0
      rw [hf1.1, hf1.2, hE] at g1
      simp only [List.drop_zero, List.drop_succ_cons, List.take_succ_cons, List.take_zero, List.getElem?_cons_zero, List.getElem?_cons_succ] at g0 g1
      obtain ⟨n0, e0, _, w0⟩ := DataW.trod_int ui g0
      obtain ⟨q, hq, ok⟩ := open_ent_cells hs rfl h0 h1 h2 h3 c0 c1 c0 c3 u0 u1 u0 u3 ue ce g1
      simp only [cells4, List.cons.injEq, and_true] at e0 hq
      obtain ⟨q0, q1, q2, q3⟩ := hq
      have k0 := hcell 0 (by decide)
      have k1 := hcell 1 (by decide)
      have k2 := hcell 2 (by decide)
      have k3 := hcell 3 (by decide)
      have k4 := hcell 4 (by decide)
      simp only [List.getElem?_cons_zero, List.getElem?_cons_succ, e0, q0, q1, q2, q3] at k0 k1 k2 k3 k4
      exact ⟨⟨n0, q⟩, ⟨add0 _ ▸ k0, k1, k2, k3, k4⟩, ok, w0⟩
    obtain ⟨y, hy⟩ := Deep.choose_lt each
    have gd : ∀ j, j < len → ((List.range len).map y).getD j default = y j := fun j hj => by simp [List.getD_eq_getElem?_getD, hj]
    refine ⟨(List.range len).map y, by simp, by simpa using hl, hm, fun b hb => ?_, fun j hj => ⟨ad, rfl, ?_⟩⟩
    · obtain ⟨r, hr, rfl⟩ := List.mem_map.1 hb
      have hr := List.mem_range.1 hr
      exact (hy r (by omega)).2
    · have hjl : j < len := by simpa using hj
      rw [gd j hjl]
      exact (hy j (by omega)).1
end
def lightA (xs : List Ac) : Prop := (∀ a ∈ xs, a.q.e.code.length ≤ 2000) ∧ xs.length ≤ 200
instance (xs : List Ac) : Decidable (lightA xs) := by unfold lightA; infer_instance
set_option maxHeartbeats 1000000 in
theorem light_calls (A : Option Addr) (c : Nat) (xs : List Ac) (w : World) (h : SlA w A c xs) : Calls Try.prog 10 #[.slice A xs.length c] w fun e w' => e = .returned (.bool (decide (lightA xs))) ∧ w = w' := by
  have hm : xs.length ≤ 9223372036854775807 := Nat.le_trans h.1 (Nat.le_trans h.2.1 (by decide))
  go_enter Try.func10, Try.ntmps10
  go_wp2_with fail
  go_loopg [3] (xs.length + 1) (fun gk i w' => ∃ j : Nat, i = .int .i64 (j : Int) ∧ j ≤ xs.length ∧ xs.length < j + gk ∧ Hid (∀ t, t < j → (xs.getD t default).q.e.code.length ≤ 2000) ∧ w = w')
  case atStart => exact ⟨0, rfl, by omega, by omega, (fun _ h => absurd h (by omega)), rfl⟩
  case round =>
    obtain ⟨j, rfl, hj, hg, HE, rfl⟩ := hrel
    by_cases hlt : j < xs.length
    · obtain ⟨ad, rfl, ha, _, _⟩ := h.at j hlt
      obtain ⟨x0, y0, y1, y2, y3⟩ := ha
      dsimp only at y0 y1 y2 y3
      have i1 : (j : Int) < (xs.length : Int) := by omega
      have HE2 := Lib.hid (fun (hc : (xs.getD j default).q.e.code.length ≤ 2000) t (ht : t < j + 1) => show (xs.getD t default).q.e.code.length ≤ 2000 by
        rcases Nat.lt_or_ge t j with h1 | h1
        · exact HE.out t h1
        · obtain rfl : t = j := by omega
          exact hc)
      have HF := Lib.hid (fun (hc : ¬ (xs.getD j default).q.e.code.length ≤ 2000) => show ¬ lightA xs from fun hh => hc (hh.1 _ (by rw [List.getD_eq_getElem?_getD, List.getElem?_eq_getElem hlt]; exact List.getElem_mem hlt)))
      generalize xs.getD j default = p at *
      by_cases hc : p.q.e.code.length ≤ 2000
      · have hb : ¬ 2000 < (p.q.e.code.length : Int) := by omega
        have HE3 := Lib.hid (HE2.out hc)
        clear HE2 HF
        go_wp2_with fail
        go_roundg (gk - 1)
        case measure => omega
        case rel => exact ⟨j + 1, by simp, by omega, by omega, HE3.out, rfl⟩
      · have hb : 2000 < (p.q.e.code.length : Int) := by omega
        have HF3 := Lib.hid (HF.out hc)
        clear HE2 HF
        go_wp2_with fail
        go_ret
        exact ⟨ret_bool (decide_eq_false HF3.out).symm, rfl⟩
    · have i1 : ¬ (j : Int) < (xs.length : Int) := by omega
      have HF := Lib.hid (show (xs.length ≤ 200) ↔ lightA xs from ⟨fun hl => ⟨fun a ha => by
        obtain ⟨t, ht, rfl⟩ := List.mem_iff_getElem.1 ha
        have := HE.out t (by omega)
        rwa [List.getD_eq_getElem?_getD, List.getElem?_eq_getElem ht] at this, hl⟩, fun hh => hh.2⟩)
      by_cases hl : xs.length ≤ 200
      · have i2 : (xs.length : Int) ≤ 200 := by omega
        have HF2 := Lib.hid (HF.out.1 hl)
        go_wp2_with fail
        go_ret
        exact ⟨ret_bool (decide_eq_true HF2.out).symm, rfl⟩
      · have i2 : ¬ (xs.length : Int) ≤ 200 := by omega
        have HF2 := Lib.hid (fun hh => hl (HF.out.2 hh))
        go_wp2_with fail
        go_ret
        exact ⟨ret_bool (decide_eq_false HF2.out).symm, rfl⟩
end Go.Proofs.Ytikjmhijkegdgaa
