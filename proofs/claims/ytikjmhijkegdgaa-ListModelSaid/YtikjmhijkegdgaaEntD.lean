/- slices.DeleteFunc of the dead entries; slices.Clip. -/
import Derived.Test.YtikjmhijkegdgaaEntA
namespace Go.Proofs.Ytikjmhijkegdgaa
set_option linter.unusedVariables false
set_option linter.unusedSimpArgs false
open Go.RowKit
def liveX (xs : List HE) : List HE := xs.filter fun q => !q.e.dead
def liveE (es : List En) : List En := es.filter fun e => !e.dead
theorem ents_live (xs : List HE) : ents (liveX xs) = liveE (ents xs) := by
  unfold ents liveX liveE
  rw [List.filter_map]
  rfl
theorem liveX_take (xs : List HE) (j : Nat) (hj : j < xs.length) : liveX (xs.take (j + 1)) = liveX (xs.take j) ++ (if (xs.getD j default).e.dead then [] else [xs.getD j default]) := by
  unfold liveX
  rw [List.take_add_one, List.getElem?_eq_getElem hj, List.getD_eq_getElem?_getD, List.getElem?_eq_getElem hj, List.filter_append]
  simp only [Option.getD_some, Option.toList_some]
  cases h : xs[j].e.dead <;> simp [List.filter_cons, h]
theorem liveX_le (xs : List HE) (j : Nat) : (liveX (xs.take j)).length ≤ j := Nat.le_trans (List.length_filter_le _ _) (List.length_take_le _ _)
/-- The row is cut at m, and what stands behind is cleared. -/
theorem rowE_clear {P : Program} {w : World} {base E g c n m : Nat} {xs : List HE} (t ty : TypeId) {i : TypeInfo} (ht : P.underlying t = some (.slice E)) (hi : P.info? E = some i) (hz : i.zero = some zeroE) (hs : i.size = 4)
    (h : w.ownsRow base E 4 (.slice (some ⟨g, 0, none⟩) n c) n (flat xs)) (hm : m ≤ n) :
    ∃ A' w', (∀ W : World, (Instr.slice t (.slice (some ⟨g, 0, none⟩) n c) (some (.int .i64 (m : Int))) none none).run P W = .ok (.slice A' (n - m) (c - m)) W) ∧
      (Builtin.clear_ #[t] ty #[.slice A' (n - m) (c - m)]).run P w = .ok (.tuple #[]) w' ∧ w'.ownsRow base E 4 (.slice (some ⟨g, 0, none⟩) m c) m (flat (xs.take m)) ∧ w.grownBy w' (some g) := by
  rcases h.2 with ⟨e1, _⟩ | ⟨g', cap, cur, e1, hb, hh, hn, hmx, hcs, htk⟩
  · cases e1
  · injection e1 with e1 _ e2
    injection e1 with e1
    injection e1 with e1 _ _
    subst e1 e2
    have hlx : xs.length = n := by have := h.1; rw [flat_length] at this; omega
    have hel : P.elem t = E := by simp [Program.elem, ht]
    have hu : P.underlying t = some (.slice (P.elem t)) := by rw [hel]; exact ht
    have hsl : ∀ W : World, (Instr.slice t (.slice (some ⟨g, 0, none⟩) n c) (some (.int .i64 (m : Int))) none none).run P W = .ok (.slice (if c = m then some ⟨g, 0, none⟩ else some ⟨g, m * 4, none⟩) (n - m) (c - m)) W := by
      intro W
      rw [run_slice_l W t (some ⟨g, 0, none⟩) n c hu .i64 (m : Int) (Int.natCast_nonneg _) (by omega), hel]
      simp [sizeOf, typeInfo, hi, hs, sliced, Result.andThen, add_plain]
    have keep : ∀ cur' : Array Value, cur'.size = cur.size → cur'.toList.take (m * 4) = cur.toList.take (m * 4) → (w.setRow g cur').ownsRow base E 4 (.slice (some ⟨g, 0, none⟩) m c) m (flat (xs.take m)) := by
      intro cur' h1 h2
      refine ⟨by rw [flat_length, List.length_take]; omega, .inr ⟨g, c, cur', rfl, hb, ?_, by omega, hmx, by omega, ?_⟩⟩
      · exact setRow_heap w g cur cur' E (0, 0) hh
      · rw [h2, flat_take, ← htk, List.take_take]; congr 1; omega
    refine ⟨if c = m then some ⟨g, 0, none⟩ else some ⟨g, m * 4, none⟩, ?_⟩
    by_cases hnm : n - m = 0
    · refine ⟨w, hsl, ?_, ?_, World.grownBy.refl w _⟩
      · rw [hnm]
        split <;> simp [Builtin.clear_, run_underlying ht]
      · have := keep cur rfl rfl
        rwa [setRow_self w g cur E (0, 0) hh] at this
    · have hcm : ¬ c = m := by omega
      simp only [if_neg hcm] at hsl ⊢
      have hzr : (zeroValue E).run P w = .ok zeroE w := by simp [zeroValue, typeInfo, hi, hz]
      have hzl : (Builtin.zeroCells zeroE.cells (n - m)).toList.length = (n - m) * 4 := by rw [Array.length_toList, size_zeroCells]; rfl
      have h1c : ∀ u ∈ (Builtin.zeroCells zeroE.cells (n - m)).toList, u.oneCell' = true := by
        intro u hu
        rw [Array.mem_toList_iff] at hu
        unfold Builtin.zeroCells at hu
        rw [Array.mem_map] at hu
        obtain ⟨k, _, rfl⟩ := hu
        have hz4 : zeroE.cells = #[.int .i64 0, .slice none 0 0, .int .i64 0, .bool false] := rfl
        rw [hz4]
        have : k % 4 = 0 ∨ k % 4 = 1 ∨ k % 4 = 2 ∨ k % 4 = 3 := by omega
        rcases this with hk | hk | hk | hk <;> simp [hk] <;> rfl
      have hst := run_storeCells_at P g (m * 4) E (Builtin.zeroCells zeroE.cells (n - m)).toList 0 cur w hh (by rw [hzl]; omega) h1c
      rw [Nat.add_zero] at hst
      obtain ⟨k, hk⟩ : ∃ k, n - m = k + 1 := ⟨n - m - 1, by omega⟩
      refine ⟨w.setRow g (cur.toList.take (m * 4) ++ (Builtin.zeroCells zeroE.cells (n - m)).toList ++ cur.toList.drop (m * 4 + (Builtin.zeroCells zeroE.cells (n - m)).toList.length)).toArray, hsl, ?_, keep _ ?_ ?_, ?_⟩
      · rw [hk] at hst ⊢
        simp [Builtin.clear_, run_underlying ht, hzr, hst, Result.andThen]
      · simp [hzl]; omega
      · simp
        rw [List.take_append_of_le_length (by simp; omega), List.take_take, Nat.min_self]
      · refine ⟨rfl, rfl, rfl, by simp, fun q _ hq => setRow_other w g q _ fun e => hq (by rw [e])⟩
theorem deadAt_no {xs : List HE} (h : (ents xs).findIdx? (·.dead) = none) : deadAt (ents xs) = -1 ∧ liveX xs = xs := by
  refine ⟨by unfold deadAt; rw [h], ?_⟩
  rw [List.findIdx?_eq_none_iff] at h
  unfold liveX
  rw [List.filter_eq_self]
  intro q hq
  have := h q.e (by simp [ents]; exact ⟨q, hq, rfl⟩)
  simp [this]
theorem deadAt_yes {xs : List HE} {i : Nat} (h : (ents xs).findIdx? (·.dead) = some i) : deadAt (ents xs) = (i : Int) ∧ i < xs.length ∧ liveX (xs.take (i + 1)) = xs.take i := by
  refine ⟨by unfold deadAt; rw [h], ?_⟩
  rw [List.findIdx?_eq_some_iff_getElem] at h
  obtain ⟨h1, h2, h3⟩ := h
  rw [ents_length] at h1
  refine ⟨h1, ?_⟩
  rw [liveX_take xs i h1]
  have hd : (xs.getD i default).e.dead = true := by
    rw [ents_get xs i h1]
    simpa [List.getD_eq_getElem?_getD, show i < (ents xs).length by rw [ents_length]; exact h1] using h2
  rw [if_pos hd, List.append_nil]
  unfold liveX
  rw [List.filter_eq_self]
  intro q hq
  obtain ⟨t, ht, rfl⟩ := List.mem_iff_getElem.1 hq
  simp only [List.length_take] at ht
  have := h3 t (by omega)
  simp [ents] at this
  simp [this]
set_option maxHeartbeats 1000000 in
theorem DelDead_calls (A : Option Addr) (c : Nat) (xs : List HE) (ok : Nat → Prop) (base : Nat) (w : World) (h : OwnX w base 33 A c xs ok) (hok : ∀ b, ok b → some b ≠ (Value.slice A xs.length c).ownBlock) (hl : xs.length ≤ 1000000) :
    Calls Try.prog 35 #[.slice A xs.length c, .func (.func 36) #[] #[]] w fun e w' => e = .returned (.slice A (liveX xs).length c) ∧ OwnX w' base 33 A c (liveX xs) ok ∧ w.grownBy w' (Value.slice A xs.length c).ownBlock := by
  have hm : xs.length ≤ 9223372036854775807 := by omega
  have ID := fun W (hW : Below w.heap.size w W) => IndexDead_calls A c (ents xs) W (h.sle.below hW)
  rw [ents_length] at ID
  cases hi : (ents xs).findIdx? (·.dead) with
  | none =>
    obtain ⟨e1, e2⟩ := deadAt_no hi
    rw [e1] at ID
    have HEE := Lib.hid e2
    clear e1 e2 hi
    go_enter Try.func35, Try.ntmps35
    go_wp2_with fail
    refine (ID _ (Below.refl _ _)).mono ?_
    rintro e w1 ⟨rfl, b1⟩
    go_wp2_with fail
    go_ret
    rw [HEE.out]
    exact ⟨rfl, h.below b1, grown_of_below b1 _⟩
  | some i0 =>
    obtain ⟨e1, hi0, e2⟩ := deadAt_yes hi
    rw [e1] at ID
    have HEE := Lib.hid e2
    clear e1 e2 hi
    obtain ⟨h1, h2⟩ := h
    obtain ⟨g, rfl, hg1, hg2⟩ := rowE_form h1 (by omega)
    go_enter Try.func35, Try.ntmps35
    go_wp2_with fail
    refine (ID _ (Below.refl _ _)).mono ?_
    rintro e w1 ⟨rfl, b1⟩
    have hneg : ((i0 : Int) == -1) = false := by rw [beq_eq_false_iff_ne]; omega
    go_wp2_with fail
    go_loopg [5, 6, 7] (xs.length + 1) (fun gk i5 i6 u7 w' => ∃ (j : Nat) (zs : List HE), i6 = .int .i64 (j : Int) ∧ i5 = .int .i64 ((liveX (xs.take j)).length : Int) ∧ j ≤ xs.length ∧ xs.length < j + gk ∧ zs.length = xs.length ∧ zs.take (liveX (xs.take j)).length = liveX (xs.take j) ∧ zs.drop j = xs.drop j ∧ w'.ownsRow base 33 4 (.slice (some ⟨g, 0, none⟩) xs.length c) xs.length (flat zs) ∧ w.grownBy w' (some g))
    case atStart =>
      have hlen : (liveX (xs.take (i0 + 1))).length = i0 := by rw [HEE.out, List.length_take]; omega
      exact ⟨i0 + 1, xs, by simp, by rw [hlen], by omega, by omega, rfl, by rw [hlen, HEE.out], rfl, own_below h1 b1, grown_of_below b1 _⟩
    case round =>
      obtain ⟨j, zs, rfl, rfl, hj, hgk, hzl, hzt, hzd, oo, hgr⟩ := hrel
      have hle := liveX_le xs j
      by_cases hlt : j < xs.length
      · have i1 : (j : Int) < (xs.length : Int) := by omega
        have hzj : zs.getD j default = xs.getD j default := by
          have e1 : zs.getD j default = (zs.drop j).getD 0 default := by simp [List.getD_eq_getElem?_getD, List.getElem?_drop]
          have e2 : xs.getD j default = (xs.drop j).getD 0 default := by simp [List.getD_eq_getElem?_getD, List.getElem?_drop]
          rw [e1, e2, hzd]
        have hlv := liveX_take xs j hlt
        have oo' : wr.ownsRow base 33 4 (.slice (some ⟨g, 0, none⟩) zs.length c) zs.length (flat zs) := by rw [hzl]; exact oo
        have x0 := (rowE_at oo' j 0 (by omega) (by decide)).1
        have x1 := (rowE_at oo' j 1 (by omega) (by decide)).1
        have x2 := (rowE_at oo' j 2 (by omega) (by decide)).1
        have x3 := (rowE_at oo' j 3 (by omega) (by decide)).1
        rw [hzj] at x0 x1 x2 x3
        have gsz := hgr.size
        generalize hqq : xs.getD j default = q at *
        obtain ⟨⟨qid, qcode, qrad, qdead⟩, qA, qc⟩ := q
        simp only [cells4, List.getElem?_cons_zero, List.getElem?_cons_succ, Nat.add_zero] at x0 x1 x2 x3
        have kb := Blk.new wr 33 [.int .i64 qid, .slice qA qcode.length qc, .int .i64 qrad, .bool qdead]
        have z0 := kb.cell 0
        have z1 := kb.cell 1
        have z2 := kb.cell 2
        have z3 := kb.cell 3
        simp only [List.getElem?_cons_zero, List.getElem?_cons_succ] at z0 z1 z2 z3
        have bb := below_box0 wr (.cells #[.int .i64 qid, .slice qA qcode.length qc, .int .i64 qrad, .bool qdead] 33)
        have HZL := Lib.hid hzl
        have HZT := Lib.hid hzt
        have HZD := Lib.hid hzd
        have HLV := Lib.hid hlv
        have HQ := Lib.hid hqq
        clear hzl hzt hzd hlv hzj hqq
        cases qdead with
        | true =>
          have HL2 := Lib.hid (show liveX (xs.take (j + 1)) = liveX (xs.take j) from by rw [HLV.out]; simp)
          clear HLV
          generalize (liveX (xs.take j)) = ks at *
          go_wp2_with fail
          refine (dead_calls ⟨qid, qcode, qrad, true⟩ qA qc _).mono ?_
          rintro e w2 ⟨rfl, b2⟩
          have b3 := below_trans bb b2
          go_wp2_with fail
          go_roundg (gk - 1)
          case measure => omega
          case rel => exact ⟨j + 1, zs, by simp, by rw [HL2.out], by omega, by omega, HZL.out, by rw [HL2.out]; exact HZT.out, by rw [← List.drop_drop, HZD.out, List.drop_drop], own_below oo b3, hgr.trans (grown_of_below b3 _)⟩
        | false =>
          have HL2 := Lib.hid (show liveX (xs.take (j + 1)) = liveX (xs.take j) ++ [⟨⟨qid, qcode, qrad, false⟩, qA, qc⟩] from by rw [HLV.out]; simp)
          clear HLV
          generalize (liveX (xs.take j)) = ks at *
          go_wp2_with fail
          refine (dead_calls ⟨qid, qcode, qrad, false⟩ qA qc _).mono ?_
          rintro e w2 ⟨rfl, b2⟩
          have b3 := below_trans bb b2
          replace kb := kb.below b2
          have y0 := kb.cell 0
          have y1 := kb.cell 1
          have y2 := kb.cell 2
          have y3 := kb.cell 3
          simp only [List.getElem?_cons_zero, List.getElem?_cons_succ] at y0 y1 y2 y3
          have oo2 := own_below oo b3
          have oo3 : w2.ownsRow base 33 4 (.slice (some ⟨g, 0, none⟩) zs.length c) zs.length (flat zs) := by rw [HZL.out]; exact oo2
          have u0 := rowE_at oo3 ks.length 0 (by have := HZL.out; omega) (by decide)
          have u1 := rowE_at oo3 ks.length 1 (by have := HZL.out; omega) (by decide)
          have u2 := rowE_at oo3 ks.length 2 (by have := HZL.out; omega) (by decide)
          have u3 := rowE_at oo3 ks.length 3 (by have := HZL.out; omega) (by decide)
          generalize zs.getD ks.length default = q2 at *
          obtain ⟨⟨rid, rcode, rrad, rdead⟩, rA, rc⟩ := q2
          simp only [cells4, List.getElem?_cons_zero, List.getElem?_cons_succ, Nat.add_zero] at u0 u1 u2 u3
          obtain ⟨u0, v0⟩ := u0
          obtain ⟨u1, v1⟩ := u1
          obtain ⟨u2, v2⟩ := u2
          obtain ⟨u3, v3⟩ := u3
          have hset := rowE_put oo2 ks.length (by have := HZL.out; omega) ⟨⟨qid, qcode, qrad, false⟩, qA, qc⟩
          have hgr4 := grownBy4 w2 g (ks.length * 4) (ks.length * 4 + 1) (ks.length * 4 + 2) (ks.length * 4 + 3) (.int .i64 qid) (.slice qA qcode.length qc) (.int .i64 qrad) (.bool false)
          have hgrn := (hgr.trans (grown_of_below b3 (some g))).trans hgr4
          have k1 : (ks.length : Int) < (xs.length : Int) := by omega
          clear x0 x1 x2 x3 z0 z1 z2 z3 oo oo' oo2 oo3 hgr hgr4 hg2
          go_wp2_with fail
          go_roundg (gk - 1)
          case measure => omega
          case rel => exact ⟨j + 1, zs.set ks.length ⟨⟨qid, qcode, qrad, false⟩, qA, qc⟩, by simp, by rw [HL2.out]; simp, by omega, by omega, by rw [List.length_set]; exact HZL.out, by
            rw [HL2.out, List.length_append, List.length_singleton, List.take_set, List.take_add_one, HZT.out]
            rw [List.getElem?_eq_getElem (show ks.length < zs.length by have := HZL.out; omega)]
            simp, by rw [List.drop_set, if_pos (by omega), ← List.drop_drop, HZD.out, List.drop_drop], hset, hgrn⟩
      · have i1 : ¬ (j : Int) < (xs.length : Int) := by omega
        obtain rfl : j = xs.length := by omega
        rw [List.take_length] at hzt hle ⊢
        obtain ⟨i0', hi0', hz0, hs0, _⟩ : ∃ i, Try.prog.info? 33 = some i ∧ i.zero = some zeroE ∧ i.size = 4 ∧ True := by
          obtain ⟨i, hi, h1, h2, _⟩ := info_parts (P := Try.prog) (e := 33) (z := zeroE) (size := 4) (bytes := 48) (by kernel_rfl)
          exact ⟨i, hi, h1, h2, trivial⟩
        obtain ⟨A', w3, hsl, hcl, hrow, hg3⟩ := rowE_clear (P := Try.prog) 30 0 Try.underlying30 hi0' hz0 hs0 oo hle
        rw [hzt] at hrow
        have hcodes : CodesE w3 ok (liveX xs) := (h2.kept (hgr.trans hg3) hok).sub fun q hq => (List.mem_filter.1 hq).1
        have hgf := hgr.trans hg3
        have hkc : (liveX xs).length ≤ c := by have := OwnX.sl (ok := fun _ => True) ⟨hrow, CodesE.weaken hcodes fun _ _ => trivial⟩; exact this.1
        clear hok
        go_wp2_with fail
        go_ret
        exact ⟨rfl, ⟨hrow, hcodes⟩, hgf⟩
/-- slices.Clip. -/
theorem Clip_calls (A : Option Addr) (n c : Nat) (w : World) (hn : n ≤ c) (hm : n ≤ 9223372036854775807) :
    Calls Try.prog 37 #[.slice A n c] w fun e w' => e = .returned (.slice A n n) ∧ w = w' := by
  go_enter Try.func37, Try.ntmps37
  go_wp2_with fail
  go_ret
  exact ⟨rfl, rfl⟩
end Go.Proofs.Ytikjmhijkegdgaa
