import Derived.Test.YteajcneojclddaaSum2
namespace Go.Proofs.Yteajcneojclddaa
set_option linter.unusedVariables false
set_option linter.unusedSimpArgs false
open Go.RowKit
theorem mat_dbl (e : Nat) (k : Nat) : TN e (TN e (1#32 <<< k)) = TN (e + e) (1#32 <<< k) := by rw [TN_add]
theorem mat_of {xs : List Int} {e : Nat} (hl : xs.length = 32) (h : ∀ k, k < 32 → xs.getD k 0 = uv (TN e (1#32 <<< k))) : xs = mat e := by
  apply List.ext_getElem
  · rw [hl, mat_len]
  · intro k h1 h2
    have := h k (by omega)
    rw [← mat_get e (by omega), List.getD_eq_getElem?_getD, List.getElem?_eq_getElem h1, List.getD_eq_getElem?_getD, List.getElem?_eq_getElem h2] at this
    simpa using this
theorem getD_set_lt {xs : List Int} {j k : Nat} {v : Int} {n : Nat} (hl : xs.length = n) (hj : j < n) {f : Nat → Int} (hv : v = f j) (h : ∀ k, k < j → xs.getD k 0 = f k) (hk : k < j + 1) : (xs.set j v).getD k 0 = f k := by
  by_cases hkj : k = j
  · subst hkj; simp [List.getD_eq_getElem?_getD, List.getElem?_set_self, hl, hj, hv]
  · have := h k (by omega)
    simpa [List.getD_eq_getElem?_getD, List.getElem?_set_ne (Ne.symm hkj)] using this
theorem square_calls (g : Nat) (e : Nat) (w : World) (ha : Arr w g 42 (mat e)) :
    Calls Try.prog 27 #[.pointer (some ⟨g, 0, none⟩)] w fun en w' => en = .returned (.agg (nums .u32 (mat (e + e))).toArray) ∧ Below w.heap.size w w' := by
  have zv := (zero_of_info (P := Try.prog) (t := 42) (v := .agg (nums .u32 (List.replicate 32 0)).toArray) (n := 32) (by kernel_rfl)).1
  have hn := Arr.alloc w 42 (List.replicate 32 0)
  obtain ⟨zs, hz⟩ : ∃ zs : List Int, Hid (zs = List.replicate 32 0) := ⟨_, Lib.hid rfl⟩
  rw [← hz.out] at zv hn
  have hgw := ha.lt
  go_enter Try.func27, Try.ntmps27
  go_wp2_with fail
  go_loopg [3, 4, 6] 33 (fun gk u3 u4 i w' => ∃ (j : Nat) (xs : List Int), i = .int .i64 (j : Int) ∧ j ≤ 32 ∧ 32 < j + gk ∧ Hid (xs.length = 32 ∧ ∀ k, k < j → xs.getD k 0 = uv (TN (e + e) (1#32 <<< k))) ∧ Arr w' w.heap.size 42 xs ∧ Below w.heap.size w w')
  case atStart => exact ⟨0, zs, rfl, by omega, by omega, ⟨by rw [hz.out]; exact List.length_replicate, fun k hk => by omega⟩, hn, below_alloc (Below.refl _ _) _⟩
  case round =>
    clear hn
    obtain ⟨j, xs, rfl, hj, hg, hx, hn, hb⟩ := hrel
    by_cases hlt : j < 32
    · have hjl : (j : Int) < 32 := by omega
      have hc := (ha.below hb).cell j (by rw [mat_len]; exact hlt)
      rw [mat_get e hlt] at hc
      go_wp2_with fail
      go_quiet (fail)
      have hb3 := below_trans hb (below_drewN (Below.refl _ wr) nq)
      have hn3 := hn.below (below_drewN (Below.refl _ _) nq)
      generalize wr.drewN nq = w3 at *
      clear hc hn
      go_wp2_with fail
      refine (times_calls g e _ _ (ha.below hb3)).mono ?_
      rintro en w4 ⟨rfl, b4⟩
      have hb4 := below_trans hb3 b4
      have hn4 := hn3.below b4
      have hv := mat_dbl e j
      have hcell := hn4.cell j (by have := hx.out.1; omega)
      have hfr := hn4.froze j
      have hset := hn4.set j (uv (TN (e + e) (1#32 <<< j)))
      have bset := hb4.setCell (p := ⟨w.heap.size, j, none⟩) (Nat.le_refl _) (.int .u32 (uv (TN (e + e) (1#32 <<< j))))
      have HX := Lib.hid (show (xs.set j (uv (TN (e + e) (1#32 <<< j)))).length = 32 ∧ ∀ k, k < j + 1 → (xs.set j (uv (TN (e + e) (1#32 <<< j)))).getD k 0 = uv (TN (e + e) (1#32 <<< k)) from
        ⟨by simpa using hx.out.1, fun k hk => getD_set_lt hx.out.1 hlt (f := fun k => uv (TN (e + e) (1#32 <<< k))) rfl hx.out.2 hk⟩)
      generalize xs.getD j 0 = old at hcell
      go_wp2_with fail
      go_roundg (gk - 1)
      case measure => omega
      case rel => exact ⟨j + 1, _, by simp, by omega, by omega, HX, hset, bset⟩
    · have hjl : ¬ (j : Int) < 32 := by omega
      have hj2 : j = 32 := by omega
      have hT : Hid (xs = mat (e + e)) := mat_of hx.out.1 (fun k hk => hx.out.2 k (by omega))
      have HU := Lib.hid Try.underlying42
      have HS := Lib.hid (show (Try.prog.info? 42).map (·.size) = some 32 by kernel_rfl)
      have HN := Lib.hid hx.out.1
      clear hx hj2 hj
      go_wp2_with (first
        | (refine wp_load_arr rfl 42 _ rfl hn HU.out HS.out HN.out rfl ?_)
        | (refine wp_restore_arr rfl 42 _ _ rfl hn HS.out HN.out rfl rfl rfl ?_))
      exact ret_arr (rfl) rfl hn HU.out HS.out HN.out ⟨by rw [hT.out], hb⟩
end Go.Proofs.Yteajcneojclddaa
