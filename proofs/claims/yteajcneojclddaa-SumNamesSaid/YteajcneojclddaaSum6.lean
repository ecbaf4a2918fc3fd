import Derived.Test.YteajcneojclddaaSum5
import Derived.Deep.DrawnRows
namespace Go.Proofs.Yteajcneojclddaa
set_option linter.unusedVariables false
set_option linter.unusedSimpArgs false
open Go.RowKit
/-- The load of a whole [32]uint32, as the walk meets it: kept whole. -/
noncomputable def ldOp (v : Value) (w : World) : Result Next := (do pure (Next.value (← Instr.loadAt 41 v)) : Sem Next).run Try.prog w
theorem ld_op (ρ : Operand → Value) (d : Option Tmp) (x : Operand) (ty : TypeId) (pos : String) (aft : Array Edge) (g : Option (Nat × Bool)) (w : World) :
    (execOp ρ { dst := d, op := .load 41 x, type := ty, pos := pos, after := aft, guard := g }).run Try.prog w = ldOp (ρ x) w := rfl
attribute [local go_sem ↓] ld_op Go.wp_at_zero Go.wp_at_succ
theorem Arr.ldOp {w : World} {g : Nat} {xs : List Int} (h : Arr w g 41 xs) (hi : (Try.prog.info? 41).map (·.size) = some 32) (hn : xs.length = 32) :
    ldOp (.pointer (some ⟨g, 0, none⟩)) w = .ok (.value (.agg (nums .u32 xs).toArray)) w := by
  unfold Go.Proofs.Yteajcneojclddaa.ldOp
  rw [Sem.run_bind, h.load Try.underlying41 hi hn]; rfl
theorem Arr.apart {w : World} {g g2 i : Nat} {T : TypeId} {xs : List Int} (h : Arr w g T xs) (hne : g ≠ g2) (v : Value) : Arr (w.setCell ⟨g2, i, none⟩ v) g T xs := by
  unfold Arr; rw [heap_setCell_other w _ _ _ (by simpa using hne)]; exact h
theorem half_odd (e : Nat) {n : Int} (h : 0 < n) (ho : n.tmod 2 = 1) : n % 2 = 1 := by rw [Int.tmod_eq_emod_of_nonneg (by omega)] at ho; exact ho
set_option maxHeartbeats 2000000 in
theorem RMoved_calls (r0 : BitVec 32) (n : Int) (w : World) (hn64 : n ≤ 9223372036854775807) :
    Calls Try.prog 24 #[.int .u32 (uv r0), .int .i64 n] w fun en w' => en = .returned (.int .u32 (uv (TN n.toNat r0))) ∧ Below w.heap.size w w' := by
  by_cases hn0 : n ≤ 0
  · have : n.toNat = 0 := by omega
    have H := Lib.hid (show TN n.toNat r0 = r0 by rw [this]; rfl)
    clear this
    go_enter Try.func24, Try.ntmps24
    go_wp2_with fail
    go_ret
    rw [H.out]
    exact ⟨rfl, Below.refl _ _⟩
  · have zv := (zero_of_info (P := Try.prog) (t := 41) (v := .agg (nums .u32 (List.replicate 32 0)).toArray) (n := 32) (by kernel_rfl)).1
    have hn := Arr.alloc w 41 (List.replicate 32 0)
    obtain ⟨zs, hz⟩ : ∃ zs : List Int, Hid (zs = List.replicate 32 0) := ⟨_, Lib.hid rfl⟩
    rw [← hz.out] at zv hn
    have HS := Lib.hid (show (Try.prog.info? 41).map (·.size) = some 32 by kernel_rfl)
    have HZ := Lib.hid (show zs.length = 32 by rw [hz.out]; exact List.length_replicate)
    have HM := Lib.hid mat_len
    have HU := Lib.hid Try.underlying41
    have hb0 : by32 0 = 0#32 := by decide
    go_enter Try.func24, Try.ntmps24
    go_wp2_with fail
    go_loopg [6] 33 (fun gk i w' => ∃ (j : Nat) (xs : List Int), i = .int .i64 (j : Int) ∧ j ≤ 32 ∧ 32 < j + gk ∧ Hid (xs.length = 32 ∧ ∀ k, k < j → xs.getD k 0 = uv (TN 1 (1#32 <<< k))) ∧ Arr w' w.heap.size 41 xs ∧ Below w.heap.size w w')
    case atStart => exact ⟨0, zs, rfl, by omega, by omega, ⟨HZ.out, fun k hk => by omega⟩, hn, below_alloc (Below.refl _ _) _⟩
    case round =>
      clear hn
      obtain ⟨j, xs, rfl, hj, hg, hx, hn, hb⟩ := hrel
      by_cases hlt : j < 32
      · have hjl : (j : Int) < 32 := by omega
        have hone := uv_one j
        have hcell := hn.cell j (by have := hx.out.1; omega)
        have hfr := hn.froze j
        have hset := hn.set j (uv (TN 1 (1#32 <<< j)))
        have bset := hb.setCell (p := ⟨w.heap.size, j, none⟩) (Nat.le_refl _) (.int .u32 (uv (TN 1 (1#32 <<< j))))
        have HX := Lib.hid (show (xs.set j (uv (TN 1 (1#32 <<< j)))).length = 32 ∧ ∀ k, k < j + 1 → (xs.set j (uv (TN 1 (1#32 <<< j)))).getD k 0 = uv (TN 1 (1#32 <<< k)) from
          ⟨by simpa using hx.out.1, fun k hk => getD_set_lt hx.out.1 hlt (f := fun k => uv (TN 1 (1#32 <<< k))) rfl hx.out.2 hk⟩)
        generalize xs.getD j 0 = old at hcell
        have ST := fun w' => RStep_calls (1#32 <<< j) 0 w' (by decide) (by decide)
        rw [hb0, BitVec.xor_zero] at ST
        go_wp2_with fail
        refine (ST _).mono ?_
        rintro e w' ⟨rfl, rfl⟩
        go_wp2_with fail
        go_roundg (gk - 1)
        case measure => omega
        case rel => exact ⟨j + 1, _, by simp, by omega, by omega, HX, hset, bset⟩
      · have hjl : ¬ (j : Int) < 32 := by omega
        have hT : xs = mat 1 := mat_of hx.out.1 (fun k hk => hx.out.2 k (by omega))
        subst hT
        clear hx
        obtain ⟨N, hN⟩ : ∃ N : Nat, Hid (N = n.toNat) := ⟨_, Lib.hid rfl⟩
        go_wp2_with fail
        go_loopg [0, 1, 7, 8] (n.toNat + 1) (fun gk s' u u7 u8 w' => ∃ (r : BitVec 32) (m : Int) (e : Nat), s' = .int .u32 (uv r) ∧ u = .int .i64 m ∧ m ≤ 9223372036854775807 ∧ m.toNat < gk ∧ Hid (TN (e * m.toNat) r = TN N r0) ∧ Arr w' w.heap.size 41 (mat e) ∧ Below w.heap.size w w')
        case atStart => exact ⟨r0, n, 1, rfl, rfl, hn64, by omega, by show _ = _; rw [hN.out, Nat.one_mul], hn, hb⟩
        case round =>
          clear hn hb
          obtain ⟨r, m, e, rfl, rfl, hm, hg2, hr, ha, hb⟩ := hrel
          by_cases h0 : m > 0
          · skip
            have hod : (m % 2 == 1) = true ∨ (m % 2 == 1) = false := by cases (m % 2 == 1) <;> simp
            rcases hod with hod | hod
            · have hst := Lib.hid ((TN_step_odd e h0 (by simpa using hod) r).trans hr.out)
              go_wp2_with (refine wp_load_arr rfl 41 _ rfl ha HU.out HS.out (HM.out e) rfl ?_)
              refine (RTimes_calls e r _).mono ?_
              rintro en w2 ⟨rfl, b2⟩
              have HA := ha.below b2
              have HB := below_trans hb b2
              clear ha hb b2
              obtain ⟨G, hG⟩ : ∃ G, Hid (G = gk) := ⟨gk, Lib.hid rfl⟩
              have hn2 := Arr.alloc w2 41 zs
              have ha2 := HA.below (below_alloc (Below.refl w2.heap.size w2) (.cells (nums .u32 zs).toArray 41))
              have hb2 := below_alloc HB (.cells (nums .u32 zs).toArray 41)
              have pg : w.heap.size ≤ w2.heap.size := HB.size
              have hne : w.heap.size ≠ w2.heap.size := Nat.ne_of_lt HA.lt
              go_wp2_with fail
              generalize w2.heap.size = g2 at *
              clear HA HB
              go_loopg [8] 33 (fun gk i w' => ∃ (j : Nat) (xs : List Int), i = .int .i64 (j : Int) ∧ j ≤ 32 ∧ 32 < j + gk ∧ Hid (xs.length = 32 ∧ ∀ k, k < j → xs.getD k 0 = uv (TN (e + e) (1#32 <<< k))) ∧ Arr w' g2 41 xs ∧ Arr w' w.heap.size 41 (mat e) ∧ Below w.heap.size w w')
              case atStart => exact ⟨0, zs, rfl, by omega, by omega, ⟨HZ.out, fun k hk => by omega⟩, hn2, ha2, hb2⟩
              case round =>
                clear hn2 ha2 hb2
                obtain ⟨j, xs, rfl, hj, hg, hx, hn2, ha2, hb2⟩ := hrel
                by_cases hlt : j < 32
                · have hjl : (j : Int) < 32 := by omega
                  have hc1 := ha2.cell j (by rw [mat_len]; exact hlt)
                  rw [mat_get e hlt] at hc1
                  have hld := (ha2.below (Below.refl wr.heap.size wr).drew).ldOp HS.out (mat_len e)
                  have hv := mat_dbl e j
                  have hn2d := hn2.below (Below.refl wr.heap.size wr).drew
                  have ha2d := ha2.below (Below.refl wr.heap.size wr).drew
                  have hb2d := hb2.drew
                  have hxl := hx.out.1
                  go_wp2_with fail
                  go_region_with (go_at_call 29; refine (RTimes_calls e _ _).mono ?_; rintro en w3 ⟨rfl, b3⟩; have hn3 := hn2d.below b3; have hc3 := hn3.cell j (by omega); have hfr3 := hn3.froze j; have ha3 := ha2d.below b3; have hb3 := below_trans hb2d b3)
                  all_goals
                    have hset := hn3.set j (uv (TN (e + e) (1#32 <<< j)))
                    have aset := ha3.apart hne (i := j) (.int .u32 (uv (TN (e + e) (1#32 <<< j))))
                    have bset := hb3.setCell (p := ⟨g2, j, none⟩) pg (.int .u32 (uv (TN (e + e) (1#32 <<< j))))
                    have HX := Lib.hid (show (xs.set j (uv (TN (e + e) (1#32 <<< j)))).length = 32 ∧ ∀ k, k < j + 1 → (xs.set j (uv (TN (e + e) (1#32 <<< j)))).getD k 0 = uv (TN (e + e) (1#32 <<< k)) from
                      ⟨by simpa using hx.out.1, fun k hk => getD_set_lt hx.out.1 hlt (f := fun k => uv (TN (e + e) (1#32 <<< k))) rfl hx.out.2 hk⟩)
                    go_wp2_with fail
                    go_roundg (gk - 1)
                    case measure => omega
                    case rel => exact ⟨j + 1, _, by simp, by omega, by omega, HX, hset, aset, bset⟩
                · have hjl : ¬ (j : Int) < 32 := by omega
                  have hT : xs = mat (e + e) := mat_of hx.out.1 (fun k hk => hx.out.2 k (by omega))
                  subst hT
                  have ha4 := ha2.row (mat (e + e))
                  have hb4 := below_setRow hb2 (Nat.le_refl _) (nums .u32 (mat (e + e))).toArray
                  clear hx
                  go_wp2_with (first
                    | (refine wp_load_arr rfl 41 _ rfl hn2 HU.out HS.out (HM.out (e + e)) rfl ?_)
                    | (refine wp_store_arr rfl 41 _ _ rfl (mat (e + e)) ha2 HS.out (HM.out e) (HM.out (e + e)) rfl rfl rfl ?_))
                  go_roundg (G - 1)
                  case measure => have := hG.out; omega
                  case rel => exact ⟨_, m / 2, e + e, rfl, rfl, by omega, by have := hG.out; omega, hst, ha4, hb4⟩
            · have hst := Lib.hid ((TN_step_even e h0 (by simpa using hod) r).trans hr.out)
              have HA := ha
              have HB := hb
              clear ha hb
              obtain ⟨G, hG⟩ : ∃ G, Hid (G = gk) := ⟨gk, Lib.hid rfl⟩
              have hn2 := Arr.alloc wr 41 zs
              have ha2 := HA.below (below_alloc (Below.refl wr.heap.size wr) (.cells (nums .u32 zs).toArray 41))
              have hb2 := below_alloc HB (.cells (nums .u32 zs).toArray 41)
              have pg : w.heap.size ≤ wr.heap.size := HB.size
              have hne : w.heap.size ≠ wr.heap.size := Nat.ne_of_lt HA.lt
              go_wp2_with fail
              generalize wr.heap.size = g2 at *
              clear HA HB
              go_loopg [8] 33 (fun gk i w' => ∃ (j : Nat) (xs : List Int), i = .int .i64 (j : Int) ∧ j ≤ 32 ∧ 32 < j + gk ∧ Hid (xs.length = 32 ∧ ∀ k, k < j → xs.getD k 0 = uv (TN (e + e) (1#32 <<< k))) ∧ Arr w' g2 41 xs ∧ Arr w' w.heap.size 41 (mat e) ∧ Below w.heap.size w w')
              case atStart => exact ⟨0, zs, rfl, by omega, by omega, ⟨HZ.out, fun k hk => by omega⟩, hn2, ha2, hb2⟩
              case round =>
                clear hn2 ha2 hb2
                obtain ⟨j, xs, rfl, hj, hg, hx, hn2, ha2, hb2⟩ := hrel
                by_cases hlt : j < 32
                · have hjl : (j : Int) < 32 := by omega
                  have hc1 := ha2.cell j (by rw [mat_len]; exact hlt)
                  rw [mat_get e hlt] at hc1
                  have hld := (ha2.below (Below.refl wr.heap.size wr).drew).ldOp HS.out (mat_len e)
                  have hv := mat_dbl e j
                  have hn2d := hn2.below (Below.refl wr.heap.size wr).drew
                  have ha2d := ha2.below (Below.refl wr.heap.size wr).drew
                  have hb2d := hb2.drew
                  have hxl := hx.out.1
                  go_wp2_with fail
                  go_region_with (go_at_call 29; refine (RTimes_calls e _ _).mono ?_; rintro en w3 ⟨rfl, b3⟩; have hn3 := hn2d.below b3; have hc3 := hn3.cell j (by omega); have hfr3 := hn3.froze j; have ha3 := ha2d.below b3; have hb3 := below_trans hb2d b3)
                  all_goals
                    have hset := hn3.set j (uv (TN (e + e) (1#32 <<< j)))
                    have aset := ha3.apart hne (i := j) (.int .u32 (uv (TN (e + e) (1#32 <<< j))))
                    have bset := hb3.setCell (p := ⟨g2, j, none⟩) pg (.int .u32 (uv (TN (e + e) (1#32 <<< j))))
                    have HX := Lib.hid (show (xs.set j (uv (TN (e + e) (1#32 <<< j)))).length = 32 ∧ ∀ k, k < j + 1 → (xs.set j (uv (TN (e + e) (1#32 <<< j)))).getD k 0 = uv (TN (e + e) (1#32 <<< k)) from
                      ⟨by simpa using hx.out.1, fun k hk => getD_set_lt hx.out.1 hlt (f := fun k => uv (TN (e + e) (1#32 <<< k))) rfl hx.out.2 hk⟩)
                    go_wp2_with fail
                    go_roundg (gk - 1)
                    case measure => omega
                    case rel => exact ⟨j + 1, _, by simp, by omega, by omega, HX, hset, aset, bset⟩
                · have hjl : ¬ (j : Int) < 32 := by omega
                  have hT : xs = mat (e + e) := mat_of hx.out.1 (fun k hk => hx.out.2 k (by omega))
                  subst hT
                  have ha4 := ha2.row (mat (e + e))
                  have hb4 := below_setRow hb2 (Nat.le_refl _) (nums .u32 (mat (e + e))).toArray
                  clear hx
                  go_wp2_with (first
                    | (refine wp_load_arr rfl 41 _ rfl hn2 HU.out HS.out (HM.out (e + e)) rfl ?_)
                    | (refine wp_store_arr rfl 41 _ _ rfl (mat (e + e)) ha2 HS.out (HM.out e) (HM.out (e + e)) rfl rfl rfl ?_))
                  go_roundg (G - 1)
                  case measure => have := hG.out; omega
                  case rel => exact ⟨_, m / 2, e + e, rfl, rfl, by omega, by have := hG.out; omega, hst, ha4, hb4⟩
          · have hz0 : m.toNat = 0 := by omega
            have hf := Lib.hid (show r = TN N r0 by have := hr.out; rw [hz0, Nat.mul_zero] at this; exact this)
            clear hz0
            go_wp2_with fail
            go_ret
            rw [← hN.out, ← hf.out]
            exact ⟨rfl, hb⟩
end Go.Proofs.Yteajcneojclddaa
