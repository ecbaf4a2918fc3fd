/- Slices of slices whose rows lie apart, each owned; wayfinderkit's OwnLists of int64 once more. -/
import Derived.Test.YthpgaggceefamaaKitS
import Derived.Test.YthpgaggceefamaaMemV2
import Derived.Test.YthpgaggceefamaaMemB
import Derived.Test.YthpgaggceefamaaOwnBook
namespace Go.Proofs.Ythpgaggceefamaa
set_option linter.unusedVariables false
set_option linter.unusedSimpArgs false
open Go.RowKit
/-- Each row is owned, and no two lie in one block. -/
def RowsD (w : World) (base E : Nat) (k : IntKind) (vs : List Value) (xss : List (List Int)) : Prop :=
  ∀ j, j < xss.length → ∃ A c, vs[j]? = some (.slice A (xss.getD j []).length c) ∧ OwnI w base E k A c (xss.getD j []) ∧
    ∀ i, i < xss.length → i ≠ j → ∀ x d n y, vs[i]? = some (.slice (some x) n d) → A = some y → x.block ≠ y.block
theorem RowsD.nil (w : World) (base E : Nat) (k : IntKind) : RowsD w base E k [] [] := fun j hj => absurd hj (by simp)
theorem RowsD.below {w w' : World} {base E : Nat} {k : IntKind} {vs : List Value} {xss : List (List Int)} (h : RowsD w base E k vs xss) (hb : Below w.heap.size w w') : RowsD w' base E k vs xss := fun j hj => by
  obtain ⟨A, c, h1, h2, h3⟩ := h j hj
  exact ⟨A, c, h1, own_below h2 hb, h3⟩
theorem RowsD.kept {w w' : World} {base E : Nat} {k : IntKind} {vs : List Value} {xss : List (List Int)} {ok : Nat → Prop} {row : Option Nat} (h : RowsD w base E k vs xss) (hr : RowsI w k ok vs xss) (hg : w.grownBy w' row) (hok : ∀ b, ok b → some b ≠ row) : RowsD w' base E k vs xss := fun j hj => by
  obtain ⟨A, c, h1, h2, h3⟩ := h j hj
  refine ⟨A, c, h1, h2.kept hg ?_, h3⟩
  cases hv : (Value.slice A (xss.getD j []).length c).ownBlock with
  | none => exact .inl rfl
  | some g =>
    right
    obtain ⟨A', c', e1, e2, e3⟩ := hr.2 j hj
    rw [h1] at e1
    injection e1 with e1
    injection e1 with e1 _ _
    subst e1
    cases A with
    | none => simp [Value.ownBlock] at hv
    | some a =>
      have hx := e3 a rfl
      have : g = a.block := by
        rcases h2.2 with ⟨q1, _⟩ | ⟨g', cap, cur, q1, _⟩
        · cases q1
        · injection q1 with q1 _ _
          injection q1 with q1
          subst q1
          simp [Value.ownBlock] at hv
          exact hv.symm
      rw [this]
      exact hok _ hx
theorem RowsD.snoc {w : World} {base E B : Nat} {k : IntKind} {vs : List Value} {xss : List (List Int)} {ok : Nat → Prop} {A : Option Addr} {c : Nat} {xs : List Int} (h : RowsD w base E k vs xss) (hr : RowsI w k ok vs xss) (hok : ∀ b, ok b → b < B) (hb : base ≤ B) (ho : OwnI w B E k A c xs) :
    RowsD w base E k (vs ++ [.slice A xs.length c]) (xss ++ [xs]) := by
  intro j hj
  have hl := hr.1
  rw [List.length_append] at hj
  rcases Nat.lt_or_ge j xss.length with h1 | h1
  · obtain ⟨A1, c1, e1, e2, e3⟩ := h j h1
    have e4 : (xss ++ [xs]).getD j [] = xss.getD j [] := by simp [List.getD_eq_getElem?_getD, List.getElem?_append_left h1]
    rw [e4, List.getElem?_append_left (by omega)]
    refine ⟨A1, c1, e1, e2, fun i hi hne x d n y hx hy => ?_⟩
    rw [List.length_append] at hi
    rcases Nat.lt_or_ge i xss.length with h2 | h2
    · rw [List.getElem?_append_left (by omega)] at hx
      exact e3 i h2 hne x d n y hx hy
    · obtain rfl : i = xss.length := by simp at hi; omega
      rw [← hl] at hx
      simp at hx
      obtain ⟨hx, _, _⟩ := hx
      have b1 := own_block ho x hx
      obtain ⟨A2, c2, f1, f2, f3⟩ := hr.2 j h1
      rw [e1] at f1
      injection f1 with f1
      injection f1 with f1 _ _
      subst f1
      have b2 := hok _ (f3 y hy)
      omega
  · obtain rfl : j = xss.length := by simp at hj; omega
    have e4 : (xss ++ [xs]).getD xss.length [] = xs := by simp [List.getD_eq_getElem?_getD]
    rw [e4]
    refine ⟨A, c, by rw [← hl]; simp, own_mono ho hb, fun i hi hne x d n y hx hy => ?_⟩
    rw [List.length_append] at hi
    have h2 : i < xss.length := by simp at hi; omega
    rw [List.getElem?_append_left (by omega)] at hx
    have b1 := own_block ho y hy
    obtain ⟨A2, c2, f1, f2, f3⟩ := hr.2 i h2
    rw [hx] at f1
    injection f1 with f1
    injection f1 with f1 _ _
    have b2 := hok _ (f3 x f1.symm)
    omega
/-- A slice of slices of the call's own, whose rows lie apart. -/
def OwnD (w : World) (base E E2 : Nat) (k : IntKind) (A : Option Addr) (c : Nat) (xss : List (List Int)) : Prop :=
  ∃ vs, OwnV w base E A c vs ∧ RowsI w k (fun b => base ≤ b ∧ b < w.heap.size ∧ some b ≠ (Value.slice A vs.length c).ownBlock) vs xss ∧ RowsD w base E2 k vs xss
theorem OwnD.own {w : World} {base E E2 : Nat} {k : IntKind} {A : Option Addr} {c : Nat} {xss : List (List Int)} (h : OwnD w base E E2 k A c xss) : OwnS w base E k A c xss := by
  obtain ⟨vs, h1, h2, _⟩ := h
  exact ⟨vs, h1, h2⟩
theorem OwnD.below {w w' : World} {base E E2 : Nat} {k : IntKind} {A : Option Addr} {c : Nat} {xss : List (List Int)} (h : OwnD w base E E2 k A c xss) (hb : Below w.heap.size w w') : OwnD w' base E E2 k A c xss := by
  obtain ⟨vs, h1, h2, h3⟩ := h
  have := hb.size
  exact ⟨vs, own_below h1 hb, (h2.below hb).weaken fun b hh => ⟨hh.1, by omega, hh.2.2⟩, h3.below hb⟩
theorem OwnD.mono {w : World} {base base' E E2 : Nat} {k : IntKind} {A : Option Addr} {c : Nat} {xss : List (List Int)} (h : OwnD w base E E2 k A c xss) (hb : base' ≤ base) : OwnD w base' E E2 k A c xss := by
  obtain ⟨vs, h1, h2, h3⟩ := h
  refine ⟨vs, own_mono h1 hb, h2.weaken fun b hh => ⟨by omega, hh.2⟩, fun j hj => ?_⟩
  obtain ⟨B, d, e1, e2, e3⟩ := h3 j hj
  exact ⟨B, d, e1, own_mono e2 hb, e3⟩
theorem getD_set_same (xss : List (List Int)) (j : Nat) (r : List Int) (h : j < xss.length) : (xss.set j r).getD j [] = r := by simp [List.getD_eq_getElem?_getD, h]
theorem getD_set_other (xss : List (List Int)) (i j : Nat) (r : List Int) (h : i ≠ j) : (xss.set j r).getD i [] = xss.getD i [] := by simp [List.getD_eq_getElem?_getD, List.getElem?_set_ne (Ne.symm h)]
/-- A number of a row is written. -/
theorem OwnD.put {w : World} {base E E2 : Nat} {k : IntKind} {A : Option Addr} {c : Nat} {xss : List (List Int)} (h : OwnD w base E E2 k A c xss) (j i : Nat) (hj : j < xss.length) (hi : i < (xss.getD j []).length) :
    ∃ ad g d, A = some ad ∧ w.cell? (ad.add j) = some (.slice (some ⟨g, 0, none⟩) (xss.getD j []).length d) ∧ w.cell? ⟨g, i, none⟩ = some (.int k ((xss.getD j []).getD i 0)) ∧ w.frozen? ⟨g, i, none⟩ = false ∧ base ≤ g ∧ g < w.heap.size ∧ (∀ x, w.grownBy (w.setCell ⟨g, i, none⟩ (.int k x)) (some g)) ∧
      ∀ x, SlS (w.setCell ⟨g, i, none⟩ (.int k x)) k A c (xss.set j ((xss.getD j []).set i x)) := by
  obtain ⟨vs, h1, h2, h3⟩ := h
  obtain ⟨B, d, e1, e2, e3⟩ := h3 j hj
  obtain ⟨g, rfl, g1, g2⟩ := own_form e2 (by omega)
  obtain ⟨oc1, oc2⟩ := OwnI.cell e2 i hi
  have hle := h1.le
  obtain ⟨B', d', f1, f2, f3⟩ := h2.2 j hj
  rw [e1] at f1
  injection f1 with f1
  injection f1 with f1 _ _
  have hgo := (f3 _ f1.symm).2.2
  have hsl : (OwnI.sl e2).rd = (OwnI.sl e2).rd := rfl
  obtain ⟨ad, hA, hcell⟩ : ∃ ad, A = some ad ∧ w.cell? (ad.add j) = some (.slice (some ⟨g, 0, none⟩) (xss.getD j []).length d) := by
    rcases h1.rd with r1 | ⟨ad, r1, r2⟩
    · subst r1; simp at e1
    · exact ⟨ad, r1, r2 j _ e1⟩
  refine ⟨ad, g, d, hA, hcell, oc1, oc2, g1, g2, fun x => (OwnI.store e2 i x).2, fun x => ?_⟩
  have hg : w.grownBy (w.setCell ⟨g, i, none⟩ (.int k x)) (some g) := (OwnI.store e2 i x).2
  have hlen : (xss.set j ((xss.getD j []).set i x)).length = xss.length := List.length_set
  refine ⟨⟨vs, ?_, by rw [hlen]; exact h2.1, ?_⟩, by rw [hlen, ← h2.1]; exact hle.1, hle.2⟩
  · have ov : OwnV (w.setCell ⟨g, i, none⟩ (.int k x)) base E A c vs := h1.kept hg (by
      cases hv : (Value.slice A vs.length c).ownBlock with
      | none => exact .inl rfl
      | some q => right; intro hh; apply hgo; rw [hv]; exact hh.symm)
    exact ov.rd
  · intro n hn
    rw [hlen] at hn
    by_cases hnj : n = j
    · subst hnj
      rw [getD_set_same _ _ _ hj]
      exact ⟨_, d, by rw [List.length_set]; exact e1, OwnI.sl (OwnI.put e2 i x), fun _ _ => trivial⟩
    · rw [getD_set_other _ _ _ _ hnj]
      obtain ⟨C, q, u1, u2, u3⟩ := h2.2 n hn
      refine ⟨C, q, u1, u2.kept hg fun y hy => ?_, fun _ _ => trivial⟩
      subst hy
      intro hh
      injection hh with hh
      exact e3 n hn hnj y q _ ⟨g, 0, none⟩ u1 rfl hh
set_option maxHeartbeats 1000000 in
/-- OwnLists: each row lies in a block of its own. -/
theorem OwnListsD_calls (A : Option Addr) (c : Nat) (xss : List (List Int)) (w : World) (h : SlS w .i64 A c xss) (hl : xss.length ≤ 1000000) (hl2 : ∀ j, j < xss.length → (xss.getD j []).length ≤ 1000000) :
    Calls Try.prog 27 #[.slice A xss.length c] w fun e w' => ∃ A' c', e = .returned (.slice A' xss.length c') ∧ OwnD w' w.heap.size 55 2 .i64 A' c' xss ∧ Below w.heap.size w w' := by
  have hm := h.len
  go_enter Try.func27, Try.ntmps27
  go_wp2_with fail
  go_loopg [3, 4] (xss.length + 1) (fun gk o i w' => ∃ (j : Nat) (A1 : Option Addr) (c1 : Nat), i = .int .i64 (j : Int) ∧ o = .slice A1 j c1 ∧ j ≤ xss.length ∧ xss.length < j + gk ∧ OwnD w' w.heap.size 55 2 .i64 A1 c1 (xss.take j) ∧ Below w.heap.size w w')
  case atStart => exact ⟨0, none, 0, rfl, rfl, by omega, by omega, by rw [List.take_zero]; exact ⟨[], own_nil _ _ _ _, RowsI.nil _ _ _, RowsD.nil _ _ _ _⟩, Below.refl _ _⟩
  case round =>
    obtain ⟨j, A1, c1, rfl, rfl, hj, hg, ho, bw⟩ := hrel
    by_cases hlt : j < xss.length
    · have i1 : (j : Int) < (xss.length : Int) := by omega
      obtain ⟨ad, C, e, rfl, hx, hxs⟩ := (h.below bw).get j hlt
      have hle := hl2 j hlt
      have htk : xss.take (j + 1) = xss.take j ++ [xss.getD j []] := by rw [List.take_add_one, List.getElem?_eq_getElem hlt, List.getD_eq_getElem?_getD, List.getElem?_eq_getElem hlt]; rfl
      have HT := Lib.hid htk
      clear htk
      obtain ⟨vs, ov, rv, rd⟩ := ho
      have hvl : vs.length = j := by rw [rv.1, List.length_take]; omega
      generalize xss.getD j [] = p at *
      generalize xss.take j = tk at *
      subst hvl
      go_wp2_with fail
      refine (Own_int64_calls C e p _ hxs (by omega)).mono ?_
      rintro e2 w1 ⟨A2, c2, rfl, o2, b2⟩
      have ov1 := own_below ov b2
      have rv1 := rv.below b2
      have rd1 := rd.below b2
      have bw1 := below_trans bw b2
      go_wp2_with (at_builtin; refine app_val w.heap.size rfl _ _ 33 55 (.slice none 0 0) 24 rfl Try.underlying33 (by kernel_rfl) (by decide) rfl A1 c1 vs (.slice A2 p.length c2) rfl rfl ov1 rfl bw1.size (by omega) ?_)
      intro B1 d1 w3 o3 hg3 hat
      have zS := ownS_app1 rv1 ov1 o2 (fun k hk => (ov.lt k hk).2) bw.size o3 hg3 (by simpa using hat) b2.size
      have bw3 : Below w.heap.size w w3 := (bw1.alloc bw1.size _).grown hg3 (by have := bw1.size; simp; omega) (fun k hk => own_base ov1 k hk)
      have zD : RowsD w3 w.heap.size 2 .i64 (vs ++ [.slice A2 p.length c2]) (tk ++ [p]) := by
        have r1 := (rv1.below (below_alloc (Below.refl _ _) (.cells #[.slice A2 p.length c2] 55)))
        have d1 := (rd1.below (below_alloc (Below.refl _ _) (.cells #[.slice A2 p.length c2] 55)))
        have o2' := own_below o2 (below_alloc (Below.refl _ _) (.cells #[.slice A2 p.length c2] 55))
        have q := RowsD.snoc d1 r1 (B := wr.heap.size) (fun b hb => hb.2.1) bw.size o2'
        have rr : RowsI _ .i64 (fun b => some b ≠ (Value.slice A1 vs.length c1).ownBlock) _ _ := (r1.weaken fun b hb => hb.2.2).snoc (OwnI.sl o2') fun x hx hh => by
          have e1 := own_block o2 x hx
          have e2 := (ov.lt _ hh.symm).2
          omega
        exact q.kept rr hg3 fun b hb => hb
      rw [← HT.out] at zS zD
      have zO : OwnD w3 w.heap.size 55 2 .i64 B1 d1 (xss.take (vs.length + 1)) := by
        obtain ⟨us, u1, u2⟩ := zS
        have hus : us.length = (vs ++ [Value.slice A2 p.length c2]).length := by rw [u2.1, HT.out]; simp [rv.1]
        refine ⟨_, o3, ?_, zD⟩
        refine ⟨by rw [HT.out]; simp [rv.1], fun n hn => ?_⟩
        obtain ⟨C1, q1, k1, k2, k3⟩ := u2.2 n hn
        have hsame : us[n]? = (vs ++ [Value.slice A2 p.length c2])[n]? := by
          have a1 := u1.rd
          have a2 := OwnV.rd o3
          have hnl : n < us.length := by rw [u2.1]; exact hn
          rcases a1 with a1 | ⟨x1, a1, a3⟩
          · subst a1; simp at hnl
          · rcases a2 with a2 | ⟨x2, a2, a4⟩
            · simp at a2
            · rw [a1] at a2
              injection a2 with a2
              subst a2
              have b1 := a3 n us[n] (List.getElem?_eq_getElem hnl)
              have b2 := a4 n (vs ++ [Value.slice A2 p.length c2])[n] (List.getElem?_eq_getElem (by omega))
              rw [b1] at b2
              rw [List.getElem?_eq_getElem hnl, List.getElem?_eq_getElem (by omega)]
              exact b2
        rw [← hsame]
        exact ⟨C1, q1, k1, k2, fun x hx => by have := k3 x hx; rw [hus] at this; exact this⟩
      clear hg3 hat o3 o2 ov1 rv1 rd1 ov rv rd hx hxs b2 bw bw1 zS zD
      have HL := Lib.hid (show (vs ++ [Value.slice A2 p.length c2]).length = vs.length + 1 by simp)
      go_wp2_with fail
      go_roundg (gk - 1)
      case measure => omega
      case rel => exact ⟨vs.length + 1, B1, d1, by simp, by simp, by omega, by omega, zO, bw3⟩
    · have i1 : ¬ (j : Int) < (xss.length : Int) := by omega
      obtain rfl : j = xss.length := by omega
      rw [List.take_length] at ho
      go_wp2_with fail
      go_ret
      exact ⟨A1, c1, rfl, ho, bw⟩
/-- Cuts of a slice of slices. -/
theorem SlS.take {w : World} {k : IntKind} {A : Option Addr} {c : Nat} {xss : List (List Int)} (h : SlS w k A c xss) (m : Nat) (hm : m ≤ xss.length) : SlS w k A c (xss.take m) := by
  obtain ⟨⟨vs, h1, h2⟩, h3, h4⟩ := h
  refine ⟨⟨vs.take m, h1.take m, by simp [h2.1], fun j hj => ?_⟩, by simp; omega, h4⟩
  rw [List.length_take] at hj
  obtain ⟨B, d, e1, e2, e3⟩ := h2.2 j (by omega)
  have e4 : (xss.take m).getD j [] = xss.getD j [] := by simp [List.getD_eq_getElem?_getD, List.getElem?_take, show j < m by omega]
  rw [e4, List.getElem?_take, if_pos (by omega)]
  exact ⟨B, d, e1, e2, e3⟩
theorem SlS.drop {w : World} {k : IntKind} {A : Option Addr} {c : Nat} {xss : List (List Int)} (h : SlS w k A c xss) (m : Nat) (hm : m ≤ xss.length) : SlS w k (if c = m then A else A.map (·.add m)) (c - m) (xss.drop m) := by
  obtain ⟨⟨vs, h1, h2⟩, h3, h4⟩ := h
  refine ⟨⟨vs.drop m, ?_, by simp [h2.1], fun j hj => ?_⟩, by simp; omega, by omega⟩
  · split
    · rename_i e
      have : vs.drop m = [] := List.drop_eq_nil_of_le (by rw [h2.1]; omega)
      rw [this]; exact .inl rfl
    · exact h1.drop m
  · rw [List.length_drop] at hj
    obtain ⟨B, d, e1, e2, e3⟩ := h2.2 (m + j) (by omega)
    have e4 : (xss.drop m).getD j [] = xss.getD (m + j) [] := by simp [List.getD_eq_getElem?_getD, List.getElem?_drop]
    rw [e4, List.getElem?_drop]
    exact ⟨B, d, e1, e2, e3⟩
theorem cutS_l {P : Program} (t e : TypeId) (kl : IntKind) {i : TypeInfo} (ht : P.underlying t = some (.slice e)) (hi : P.info? e = some i) (hsz : i.size = 1) (A : Option Addr) (n c m : Nat) (hm : m ≤ n) (hc : n ≤ c) :
    ∃ A' : Option Addr, (∀ W : World, (Instr.slice t (.slice A n c) (some (.int kl (m : Int))) none none).run P W = .ok (.slice A' (n - m) (c - m)) W) ∧
      (∀ (w : World) (k : IntKind) (xss : List (List Int)), n = xss.length → SlS w k A c xss → SlS w k A' (c - m) (xss.drop m)) := by
  refine ⟨if c = m then A else A.map (·.add m), fun W => ?_, fun w k xs hx h => h.drop m (by omega)⟩
  have hel : P.elem t = e := by simp [Program.elem, ht]
  have hu : P.underlying t = some (.slice (P.elem t)) := by rw [hel]; exact ht
  rw [run_slice_l W t A n c hu kl (m : Int) (Int.natCast_nonneg _) (by omega), hel]
  simp [sizeOf, typeInfo, hi, hsz, sliced, Result.andThen]
theorem sliced_zero (A : Option Addr) (m c s : Nat) : sliced A 0 m c s = .slice A m c := by
  unfold sliced
  cases A <;> simp [Addr.add]
theorem cutS_h {P : Program} (t e : TypeId) (kh : IntKind) {i : TypeInfo} (ht : P.underlying t = some (.slice e)) (hi : P.info? e = some i) (A : Option Addr) (n c m : Nat) (hm : m ≤ n) (hc : n ≤ c) :
    ∀ W : World, (Instr.slice t (.slice A n c) none (some (.int kh (m : Int))) none).run P W = .ok (.slice A m c) W := by
  intro W
  have hel : P.elem t = e := by simp [Program.elem, ht]
  have hu : P.underlying t = some (.slice (P.elem t)) := by rw [hel]; exact ht
  rw [run_slice_h W t A n c hu kh (m : Int) (Int.natCast_nonneg _) (by omega), hel]
  simp [sizeOf, typeInfo, hi, Result.andThen, sliced_zero]
section
variable {P : Program} {ops : Array Oper} {rest : List Oper} {o : Oper} {a : Act} {Q : Exit → Act → World → Prop}
/-- append(v, ys...) of one-cell values: v owned, ys read (nil let in); one operation. -/
theorem wp_app_valsR {W : World} {K : Act → World → Prop} (base : Nat) (s x : Operand) (t e : TypeId) (z : Value) (bytes : Nat)
    (ho : o.op = .call { callee := .builtin .append, args := #[s, x], argTypes := #[t, t] })
    (ht : P.underlying t = some (.slice e)) (hinfo : (P.info? e).map (fun i => (i.zero, i.size, i.bytes)) = some (some z, 1, bytes)) (hb0 : 0 < bytes) (hzc : z.cells.size = 1)
    (B : Option Addr) (cb n m : Nat) (xs ys : List Value) (A : Option Addr) (c : Nat) (hs : a.eval s = .slice B n cb) (hx : a.eval x = .slice A m c) (hn : xs.length = n) (hm : ys.length = m)
    (HO : OwnV W base e B cb xs) (HR : Rd W A ys) (h1 : ∀ u ∈ ys, u.oneCell' = true) (hbase : base ≤ W.heap.size) (hl : (xs.length + ys.length) * bytes ≤ 140737488355328)
    (h : ∀ B1 c1 w1, OwnV w1 base e B1 c1 (xs ++ ys) → W.grownBy w1 (Value.slice B xs.length cb).ownBlock →
      ((Value.slice B1 (xs ++ ys).length c1).ownBlock = (Value.slice B xs.length cb).ownBlock ∨ (Value.slice B1 (xs ++ ys).length c1).ownBlock = some W.heap.size) → K (a.put o.dst (.slice B1 (xs ++ ys).length c1)) w1) :
    o.wp P a W K Q := by
  subst hn; subst hm
  by_cases he : ys = []
  · subst he
    obtain ⟨i0, hi, hzz⟩ := Option.map_eq_some_iff.1 hinfo
    simp only [Prod.mk.injEq] at hzz
    obtain ⟨hz0, hz1, hz2⟩ := hzz
    have empty : (Builtin.append_ #[t, t] o.type #[.slice B xs.length cb, .slice A 0 c]).run P W = .ok (.slice B xs.length cb) W := by
      rcases HO.2 with ⟨h1, h2⟩ | ⟨g, cap, cur, h1, _, _, hnc, _⟩
      · rw [h1]
        cases A <;> simp [Builtin.append_, run_underlying ht, sizeOf, typeInfo, hi, Builtin.lenOf, Builtin.firstCells, loadCells, loadCellsFrom]
      · rw [h1]
        cases A <;> simp [Builtin.append_, run_underlying ht, sizeOf, typeInfo, hi, Builtin.lenOf, Builtin.firstCells, hnc, storeCells, loadCells, loadCellsFrom]
    unfold Oper.wp execOp
    simp only [ho, resolve, invoke, builtin, Sem.run_bind, Sem.run_pure, Result.andThen_ok, List.map_toArray, List.map_cons, List.map_nil, hs, hx, List.length_nil, empty]
    have := h B cb W (by rw [List.append_nil]; exact HO) (World.grownBy.refl W _) (by rw [List.append_nil]; exact .inl rfl)
    rw [List.append_nil] at this
    exact this
  · rcases HR with hr | ⟨ad, rfl, hc⟩
    · exact absurd hr he
    · exact wp_app_vals base s x t e z bytes ho ht hinfo hb0 hzc B cb xs ys ad c hs hx HO (by cases ys; exact absurd rfl he; simp) hc h1 hbase hl h
end
/-- Behind 'append(own, own2...)': the slices of both are read. -/
theorem ownS_appD {W w1 : World} {base E : Nat} {k : IntKind} {A B1 : Option Addr} {c c1 : Nat} {vs us : List Value} {xss yss : List (List Int)} {oka okb : Nat → Prop}
    (rv : RowsI W k oka vs xss) (hok1 : ∀ b, oka b → some b ≠ (Value.slice A vs.length c).ownBlock) (ru : RowsI W k okb us yss) (hok : ∀ b, okb b → some b ≠ (Value.slice A vs.length c).ownBlock)
    (ho : OwnV w1 base E B1 c1 (vs ++ us)) (hg : W.grownBy w1 (Value.slice A vs.length c).ownBlock) : SlS w1 k B1 c1 (xss ++ yss) := by
  have r1 := (rv.kept hg hok1).weaken (ok' := fun _ => True) fun _ _ => trivial
  have r2 := (ru.kept hg hok).weaken (ok' := fun _ => True) fun _ _ => trivial
  have := ho.le
  have hl : (vs ++ us).length = (xss ++ yss).length := by rw [List.length_append, List.length_append, rv.1, ru.1]
  exact ⟨⟨_, ho.rd, r1.append r2⟩, by rw [← hl]; exact this.1, this.2⟩
/-- The same, none of them in block g. -/
theorem ownS_appK {W w1 : World} {base E g : Nat} {k : IntKind} {A B1 : Option Addr} {c c1 : Nat} {vs us : List Value} {xss yss : List (List Int)} {oka okb : Nat → Prop} (ov : OwnV W base E A c vs)
    (rv : RowsI W k oka vs xss) (hok1 : ∀ b, oka b → some b ≠ (Value.slice A vs.length c).ownBlock) (ru : RowsI W k okb us yss) (hok : ∀ b, okb b → some b ≠ (Value.slice A vs.length c).ownBlock)
    (ho : OwnV w1 base E B1 c1 (vs ++ us)) (hg : W.grownBy w1 (Value.slice A vs.length c).ownBlock)
    (hat : (Value.slice B1 (vs ++ us).length c1).ownBlock = (Value.slice A vs.length c).ownBlock ∨ (Value.slice B1 (vs ++ us).length c1).ownBlock = some W.heap.size)
    (q1 : ∀ b, oka b → b ≠ g) (q2 : ∀ b, okb b → b ≠ g) (q3 : ∀ b, (Value.slice A vs.length c).ownBlock = some b → b ≠ g) (q4 : g < W.heap.size) : SlK w1 k (fun b => b ≠ g) B1 c1 (xss ++ yss) := by
  have r1 := (rv.kept hg hok1).weaken q1
  have r2 := (ru.kept hg hok).weaken q2
  have hle := ho.le
  have hl : (vs ++ us).length = (xss ++ yss).length := by rw [List.length_append, List.length_append, rv.1, ru.1]
  refine ⟨_, ho.rd, r1.append r2, fun x hx => ?_, by rw [← hl]; exact hle.1, hle.2⟩
  rcases ho.2 with ⟨e1, _⟩ | ⟨q, cap, cur, e1, _⟩
  · injection e1 with e1
    rw [e1] at hx; cases hx
  · injection e1 with e1 _ _
    rw [e1] at hx
    injection hx with hx
    subst hx
    have hb : (Value.slice B1 (vs ++ us).length c1).ownBlock = some q := by rw [e1]; rfl
    rw [hb] at hat
    rcases hat with h | h
    · exact q3 q h.symm
    · injection h with h
      show q ≠ g
      omega
end Go.Proofs.Ythpgaggceefamaa
