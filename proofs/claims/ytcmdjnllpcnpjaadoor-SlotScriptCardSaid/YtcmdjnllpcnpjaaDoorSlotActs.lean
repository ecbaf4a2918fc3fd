/- Acts of slots: a slice of them, out of its reading; light. -/
import Derived.Test.YtcmdjnllpcnpjaaDoorSlotNames
import Derived.Test.YtcmdjnllpcnpjaaDoorSized
import Derived.Lib.SmallJoins
namespace Go.Proofs.YtcmdjnllpcnpjaaDoor
set_option linter.unusedVariables false
set_option linter.unusedSimpArgs false
open Go.RowKit Go.ChangeShapes Go.WideShapes
/-- What is done: its kind, its number, its vector. -/
structure Ak where
  kind : Int
  n : Int
  v : List Int
  A : Option Addr
  c : Nat
instance : Inhabited Ak := ⟨⟨0, 0, [], none, 0⟩⟩
def AkAt (w : World) (ad : Addr) (a : Ak) : Prop := w.cell? ad = some (.int .i64 a.kind) ∧ w.cell? ⟨ad.block, ad.off + 1, none⟩ = some (.int .i64 a.n) ∧ w.cell? ⟨ad.block, ad.off + 2, none⟩ = some (.slice a.A a.v.length a.c)
theorem AkAt.below {w w' : World} {ad : Addr} {a : Ak} (h : AkAt w ad a) (hb : Below w.heap.size w w') : AkAt w' ad a := ⟨cell_below hb _ _ h.1, cell_below hb _ _ h.2.1, cell_below hb _ _ h.2.2⟩
def AkOk (w : World) (a : Ak) : Prop := SlI w .i16 a.A a.c a.v ∧ (Lit.int .i64 a.kind).wf = true ∧ (Lit.int .i64 a.n).wf = true
theorem AkOk.below {w w' : World} {a : Ak} (h : AkOk w a) (hb : Below w.heap.size w w') : AkOk w' a := ⟨h.1.below hb, h.2⟩
def SlK (w : World) (A : Option Addr) (c : Nat) (xs : List Ak) : Prop :=
  xs.length ≤ c ∧ c ≤ maxLen ∧ (∀ a ∈ xs, AkOk w a) ∧ ∀ j, j < xs.length → ∃ ad, A = some ad ∧ AkAt w (ad.add (j * 3)) (xs.getD j default)
theorem SlK.below {w w' : World} {A : Option Addr} {c : Nat} {xs : List Ak} (h : SlK w A c xs) (hb : Below w.heap.size w w') : SlK w' A c xs :=
  ⟨h.1, h.2.1, fun a ha => (h.2.2.1 a ha).below hb, fun j hj => by obtain ⟨ad, h1, h2⟩ := h.2.2.2 j hj; exact ⟨ad, h1, h2.below hb⟩⟩
theorem SlK.nil (w : World) : SlK w none 0 [] := ⟨Nat.le_refl _, Nat.zero_le _, by simp, fun j hj => absurd hj (by simp)⟩
theorem getD_memK {xs : List Ak} {j : Nat} (hj : j < xs.length) : xs.getD j default ∈ xs := by rw [List.getD_eq_getElem?_getD, List.getElem?_eq_getElem hj]; exact List.getElem_mem hj
theorem SlK.at {w : World} {A : Option Addr} {c : Nat} {xs : List Ak} (h : SlK w A c xs) (j : Nat) (hj : j < xs.length) : ∃ ad, A = some ad ∧ AkAt w (ad.add (j * 3)) (xs.getD j default) ∧ AkOk w (xs.getD j default) := by
  obtain ⟨ad, h1, h2⟩ := h.2.2.2 j hj
  exact ⟨ad, h1, h2, h.2.2.1 _ (getD_memK hj)⟩
section
variable {H : Type} {enc : TypeId × Value → H} {P : Program} {W : World} {base : Nat} {held : Bool}
theorem add0 (a : Addr) : a.add 0 = a := by simp [Addr.add]
theorem open_slI_cells {t e : TypeId} {k : IntKind} {fuel : Nat} {cs : List Value} {x : DataW H × List MemPlace} (hu : P.underlying t = some (.slice e)) (he : P.underlying e = some (.int k)) (hc : P.cellsOf e = 1)
    (h : DataW.trod enc P W base (fun _ => true) held fuel t cs = some x) : ∃ (A : Option Addr) (c : Nat) (xs : List Int), cs = [.slice A xs.length c] ∧ SlI W k A c xs ∧ ∀ n ∈ xs, (Lit.int k n).wf = true := by
  rcases open_ints hu he hc h with ⟨hcs, _⟩ | ⟨a, len, c, zs, hcs, _, hl, hm, hz, hx, hcell, hwz⟩
  · exact ⟨none, 0, [], hcs, SlI.nil _ _, by simp⟩
  · simp only [if_true] at hz
    have hlen : (zs.take len).length = len := by rw [List.length_take]; omega
    refine ⟨some a, c, zs.take len, by rw [hlen]; exact hcs, ⟨.inr ⟨_, rfl, fun i u hu => ?_⟩, by omega, hm⟩, fun n hn => hwz n (List.mem_of_mem_take hn)⟩
    have hil : i < len := by
      have := (List.getElem?_eq_some_iff.1 hu).1
      simp [nums] at this; omega
    have hi : i < zs.length := by omega
    rw [hcell i hi, ← hu]
    simp [nums, List.getD_eq_getElem?_getD, List.getElem?_take, hil, hi]
theorem open_aks {t ta ti tv te : TypeId} {f0 f1 f2 : Field} {a : Option Addr} {len cap : Nat} {d : DataW H} {ps : List MemPlace} (hu : P.underlying t = some (.slice ta)) (ha : P.underlying ta = some (.struct #[f0, f1, f2])) (hC : P.cellsOf ta = 3)
    (hf0 : f0.type = ti ∧ f0.offset = 0) (hf1 : f1.type = ti ∧ f1.offset = 1) (hf2 : f2.type = tv ∧ f2.offset = 2)
    (ci : P.cellsOf ti = 1) (cv : P.cellsOf tv = 1) (ce : P.cellsOf te = 1)
    (ui : P.underlying ti = some (.int .i64)) (uv : P.underlying tv = some (.slice te)) (ue : P.underlying te = some (.int .i16))
    (h : DataW.Trod enc P W base (fun _ => true) held t (.slice a len cap) d ps) : ∃ xs : List Ak, len = xs.length ∧ SlK W a cap xs := by
  obtain ⟨fuel, hf⟩ := h
  rcases Deep.open_slice hu hf with ⟨hcs, _⟩ | ⟨ad, l, c, m, n, D, Pl, hcs, _, hl, hm, hmm, _, hx⟩
  · simp [Value.cells] at hcs
    obtain ⟨rfl, rfl, rfl⟩ := hcs
    exact ⟨[], rfl, SlK.nil _⟩
  · simp [Value.cells] at hcs
    obtain ⟨rfl, rfl, rfl⟩ := hcs
    simp only [if_true] at hmm
    subst hmm
    have each : ∀ i, i < m → ∃ y : Ak, AkAt W (ad.add (i * 3)) y ∧ AkOk W y := fun i hi => by
      obtain ⟨cs', e1, e2⟩ := hx i hi
      rw [hC] at e1
      obtain ⟨_, hlen, hcell⟩ := World.cells?_some e1
      obtain ⟨xs, m', _, _, _, hxl, hf⟩ := DataW.trod_struct ha e2
      have hxl : xs.length = 3 := by simpa using hxl
      match cs', hlen with
      | [v0, v1, v2], _ =>
      have g0 := hf 0 f0 rfl
      have g1 := hf 1 f1 rfl
      have g2 := hf 2 f2 rfl
      match xs, hxl with
      | [x0, x1, x2], _ =>
      rw [hf0.1, hf0.2, ci] at g0
      rw [hf1.1, hf1.2, ci] at g1
      rw [hf2.1, hf2.2, cv] at g2
      simp only [List.drop_zero, List.drop_succ_cons, List.take_succ_cons, List.take_zero, List.getElem?_cons_zero, List.getElem?_cons_succ] at g0 g1 g2
      obtain ⟨n0, e0, _, w0⟩ := DataW.trod_int ui g0
      obtain ⟨n1, e1', _, w1⟩ := DataW.trod_int ui g1
      obtain ⟨B, d', v, e2', hs, _⟩ := open_slI_cells uv ue ce g2
      simp only [List.cons.injEq, and_true] at e0 e1' e2'
      have k0 := hcell 0 (by decide)
      have k1 := hcell 1 (by decide)
      have k2 := hcell 2 (by decide)
      simp only [List.getElem?_cons_zero, List.getElem?_cons_succ, e0, e1', e2'] at k0 k1 k2
      exact ⟨⟨n0, n1, v, B, d'⟩, ⟨add0 _ ▸ k0, k1, k2⟩, hs, w0, w1⟩
    obtain ⟨y, hy⟩ := Deep.choose_lt each
    have gd : ∀ j, j < len → ((List.range len).map y).getD j default = y j := fun j hj => by simp [List.getD_eq_getElem?_getD, hj]
    refine ⟨(List.range len).map y, by simp, by simpa using hl, hm, fun b hb => ?_, fun j hj => ⟨ad, rfl, ?_⟩⟩
    · obtain ⟨r, hr, rfl⟩ := List.mem_map.1 hb
      have hr := List.mem_range.1 hr
      exact (hy r (by omega)).2
    · have hjl : j < len := by simpa using hj
      rw [gd j hjl]
      exact (hy j (by omega)).1
end
def lightK (xs : List Ak) : Prop := (∀ a ∈ xs, a.v.length ≤ 100) ∧ xs.length ≤ 100
instance (xs : List Ak) : Decidable (lightK xs) := by unfold lightK; infer_instance
set_option maxHeartbeats 1000000 in
theorem light_calls (A : Option Addr) (c : Nat) (xs : List Ak) (w : World) (h : SlK w A c xs) : Calls Tryd.prog 15 #[.slice A xs.length c] w fun e w' => e = .returned (.bool (decide (lightK xs))) ∧ w = w' := by
  have hm : xs.length ≤ 9223372036854775807 := Nat.le_trans h.1 (Nat.le_trans h.2.1 (by decide))
  go_enter Tryd.func15, Tryd.ntmps15
  go_wp2_with fail
  go_loopg [3] (xs.length + 1) (fun gk i w' => ∃ j : Nat, i = .int .i64 (j : Int) ∧ j ≤ xs.length ∧ xs.length < j + gk ∧ Hid (∀ t, t < j → (xs.getD t default).v.length ≤ 100) ∧ w = w')
  case atStart => exact ⟨0, rfl, by omega, by omega, (fun _ h => absurd h (by omega)), rfl⟩
  case round =>
    obtain ⟨j, rfl, hj, hg, HE, rfl⟩ := hrel
    by_cases hlt : j < xs.length
    · by_cases h100 : j ≤ 100
      · obtain ⟨ad, rfl, ha, _⟩ := h.at j hlt
        obtain ⟨x0, x1, x2⟩ := ha
        have i1 : (j : Int) < (xs.length : Int) := by omega
        have i2 : (j : Int) ≤ 100 := by omega
        have HE2 := Lib.hid (fun (hc : (xs.getD j default).v.length ≤ 100) t (ht : t < j + 1) => show (xs.getD t default).v.length ≤ 100 by
          rcases Nat.lt_or_ge t j with h1 | h1
          · exact HE.out t h1
          · obtain rfl : t = j := by omega
            exact hc)
        have HF := Lib.hid (fun (hc : ¬ (xs.getD j default).v.length ≤ 100) => show ¬ lightK xs from fun hh => hc (hh.1 _ (getD_memK hlt)))
        generalize xs.getD j default = p at *
        by_cases hc : p.v.length ≤ 100
        · have hb : ¬ (p.v.length : Int) > 100 := by omega
          have HE3 := Lib.hid (HE2.out hc)
          clear HE2 HF
          go_wp2_with fail
          go_roundg (gk - 1)
          case measure => omega
          case rel => exact ⟨j + 1, by simp, by omega, by omega, HE3.out, rfl⟩
        · have hb : (p.v.length : Int) > 100 := by omega
          have HF3 := Lib.hid (HF.out hc)
          clear HE2 HF
          go_wp2_with fail
          go_ret
          exact ⟨ret_bool (decide_eq_false HF3.out).symm, rfl⟩
      · have i1 : (j : Int) < (xs.length : Int) := by omega
        have i2 : ¬ (j : Int) ≤ 100 := by omega
        have i3 : ¬ (xs.length : Int) ≤ 100 := by omega
        have HF := Lib.hid (show ¬ lightK xs from fun hh => by have := hh.2; omega)
        go_wp2_with fail
        go_ret
        exact ⟨ret_bool (decide_eq_false HF.out).symm, rfl⟩
    · have i1 : ¬ (j : Int) < (xs.length : Int) := by omega
      have HF := Lib.hid (show (xs.length ≤ 100) ↔ lightK xs from ⟨fun hl => ⟨fun a ha => by
        obtain ⟨t, ht, rfl⟩ := List.mem_iff_getElem.1 ha
        have := HE.out t (by omega)
        rwa [List.getD_eq_getElem?_getD, List.getElem?_eq_getElem ht] at this, hl⟩, fun hh => hh.2⟩)
      by_cases hl : xs.length ≤ 100
      · have i2 : (xs.length : Int) ≤ 100 := by omega
        have HF2 := Lib.hid (HF.out.1 hl)
        go_wp2_with fail
        go_ret
        exact ⟨ret_bool (decide_eq_true HF2.out).symm, rfl⟩
      · have i2 : ¬ (xs.length : Int) ≤ 100 := by omega
        have HF2 := Lib.hid (fun hh => hl (HF.out.2 hh))
        go_wp2_with fail
        go_ret
        exact ⟨ret_bool (decide_eq_false HF2.out).symm, rfl⟩
end Go.Proofs.YtcmdjnllpcnpjaaDoor
