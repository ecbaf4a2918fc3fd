/- TableParts. -/
import Derived.Test.YthpgaggceefamaaTabLives
import Derived.Test.YthpgaggceefamaaRefB1
import Derived.Test.YthpgaggceefamaaSized
import Derived.Test.YthpgaggceefamaaSizedT
namespace Go.Proofs.Ythpgaggceefamaa
set_option linter.unusedVariables false
set_option linter.unusedSimpArgs false
open Go.RowKit
/-- x with y's numbers from lo to i. -/
def mixZ (x y : List Int) (lo i : Nat) : List Int := (List.range x.length).map fun k => if lo ≤ k ∧ k < i then y.getD k 0 else x.getD k 0
theorem mixZ_length (x y : List Int) (lo i : Nat) : (mixZ x y lo i).length = x.length := by simp [mixZ]
theorem mixZ_zero (x y : List Int) (lo : Nat) : mixZ x y lo lo = x := by
  apply List.ext_getElem
  · simp [mixZ]
  · intro k h1 h2
    simp only [mixZ, List.getElem_map, List.getElem_range]
    rw [if_neg (by omega)]
    simp [List.getD_eq_getElem?_getD, h2]
theorem mixZ_set (x y : List Int) (lo i : Nat) (h : lo ≤ i) : (mixZ x y lo i).set i (y.getD i 0) = mixZ x y lo (i + 1) := by
  apply List.ext_getElem
  · simp [mixZ]
  · intro k h1 h2
    simp only [mixZ, List.getElem_set, List.getElem_map, List.getElem_range]
    by_cases hk : i = k
    · subst hk; rw [if_pos rfl, if_pos (by omega)]
    · rw [if_neg hk]
      by_cases h3 : lo ≤ k ∧ k < i
      · rw [if_pos h3, if_pos (by omega)]
      · rw [if_neg h3, if_neg (by omega)]
theorem mixZ_mem {x y : List Int} {lo i : Nat} (hl : x.length = y.length) {v : Int} (h : v ∈ mixZ x y lo i) : v ∈ x ∨ v ∈ y := by
  unfold mixZ at h
  obtain ⟨k, hk, rfl⟩ := List.mem_map.1 h
  have hk := List.mem_range.1 hk
  split
  · exact .inr (getD_mem (by omega))
  · exact .inl (getD_mem hk)
theorem getD_mixZ {x y : List Int} {lo i k : Nat} (hk : k < x.length) : (mixZ x y lo i).getD k 0 = if lo ≤ k ∧ k < i then y.getD k 0 else x.getD k 0 := by
  simp [mixZ, List.getD_eq_getElem?_getD, hk]
theorem partR_get {r : List Int} {m p k : Nat} (hk : k < m) : (partR r m p).getD k 0 = r.getD (p * m + k) 0 := by
  simp [partR, List.getD_eq_getElem?_getD, List.getElem?_take, hk, List.getElem?_drop]
theorem partR_ext {r s : List Int} {m p n : Nat} (hr : r.length = n * m) (hs : s.length = n * m) (hp : p < n) (h : ∀ k, k < m → r.getD (p * m + k) 0 = s.getD (p * m + k) 0) : partR r m p = partR s m p := by
  have l1 := partR_length hr hp
  have l2 := partR_length hs hp
  refine List.ext_getElem (by omega) fun k h1 h2 => ?_
  have := h k (by omega)
  rw [← partR_get (by omega), ← partR_get (by omega)] at this
  simpa [List.getD_eq_getElem?_getD, h1, h2] using this
theorem mixZ_part {x y : List Int} {m n q : Nat} (hx : x.length = n * m) (hy : y.length = n * m) (hq : q < n) : partR (mixZ x y (q * m) (q * m + m)) m q = partR y m q :=
  partR_ext (by rw [mixZ_length]; exact hx) hy hq fun k hk => by
    have : q * m + m ≤ n * m := by have := Nat.mul_le_mul_right m (show q + 1 ≤ n by omega); rw [Nat.add_mul, Nat.one_mul] at this; exact this
    rw [getD_mixZ (by omega), if_pos (by omega)]
theorem mixZ_other {x y : List Int} {m n q p : Nat} (hx : x.length = n * m) (hp : p < n) (hne : p ≠ q) : partR (mixZ x y (q * m) (q * m + m)) m p = partR x m p :=
  partR_ext (by rw [mixZ_length]; exact hx) hx hp fun k hk => by
    have a1 : p * m + m ≤ n * m := by have := Nat.mul_le_mul_right m (show p + 1 ≤ n by omega); rw [Nat.add_mul, Nat.one_mul] at this; exact this
    rw [getD_mixZ (by omega), if_neg]
    rintro ⟨h1, h2⟩
    rcases Nat.lt_or_gt_of_ne hne with h | h
    · have := Nat.mul_le_mul_right m (show p + 1 ≤ q by omega); rw [Nat.add_mul, Nat.one_mul] at this; omega
    · have := Nat.mul_le_mul_right m (show q + 1 ≤ p by omega); rw [Nat.add_mul, Nat.one_mul] at this; omega
theorem makeT_ok {b : List (List (List Int))} {r : List Int} (h : (makeT b r).2 = 0) : ckB b = 0 ∧ ckW r = 0 ∧ r.length = b.length * wdB b ∧ makeT b r = (tabI b r, 0) := by
  unfold makeT at h
  split at h
  · contradiction
  · rename_i h1
    split at h
    · contradiction
    · rename_i h2
      split at h
      · cases h
      · rename_i h3
        have e1 : ckB b = 0 := by simpa using h1
        have e2 : ckW r = 0 := by simpa using h2
        have e3 : (r.length : Int) = dimB b := by simpa using h3
        have hd : dimB b = ((b.length * wdB b : Nat) : Int) := by unfold dimB; rw [if_neg (by rw [e1]; decide)]
        refine ⟨e1, e2, by rw [hd] at e3; exact Int.ofNat.inj e3, ?_⟩
        unfold makeT; rw [if_neg (by rw [e1]; decide), if_neg (by rw [e2]; decide), if_neg (by rw [e3]; simp)]
theorem makeT_of {b : List (List (List Int))} {r : List Int} (h1 : ckB b = 0) (h2 : ckW r = 0) (h3 : r.length = b.length * wdB b) : makeT b r = (tabI b r, 0) := by
  have hd : dimB b = ((b.length * wdB b : Nat) : Int) := by unfold dimB; rw [if_neg (by rw [h1]; decide)]
  unfold makeT; rw [if_neg (by rw [h1]; decide), if_neg (by rw [h2]; decide), if_neg (by rw [hd, h3]; simp)]
theorem ckW_of {l : List Int} (h1 : 1 ≤ l.length) (h2 : l.length ≤ 1024) (h : ∀ v ∈ l, -131072 ≤ v ∧ v ≤ 131072) : ckW l = 0 := by
  unfold ckW
  rw [if_neg (by omega), if_neg]
  unfold anyB
  simp only [Bool.not_eq_true, List.any_eq_false]
  intro v hv
  have := h v hv
  unfold bey
  simp; omega
theorem rowT_tabI {b : List (List (List Int))} {r : List Int} {p : Nat} (hp : p < b.length) : rowT (tabI b r) (p : Int) = rowI (partR r (wdB b) p) (b.getD p []) := by
  unfold rowT
  rw [if_neg (by rw [tabI_length]; omega)]
  simp [tabI, List.getD_eq_getElem?_getD, hp]
theorem light_short {b : List (List (List Int))} {p q r : Int} (h : lightBB b p q r = true) (hr : r ≤ 1000) : shortB b := fun j hj i hi => by
  have := (lightB_true ((lightBB_true h).2 j hj)).2 i hi
  omega
theorem TRow_n (t : List (List Int)) (p : Int) (nt : Nat) (ht : t.length = nt) (m : List Int) (hm : Hid (rowT t p = m)) (A : Option Addr) (c : Nat) (w : World) (h : SlS w .i64 A c t) (hl : m.length * 8 ≤ 140737488355328) :
    Calls Try.prog 25 #[.agg #[.slice A nt c], .int .i64 p] w fun e w' => ∃ A' c', e = .returned (.slice A' m.length c') ∧ OwnI w' w.heap.size 2 .i64 A' c' m ∧ Below w.heap.size w w' := by
  subst ht; rw [← hm.out] at hl ⊢; exact TRow_calls A c t p w h hl
set_option maxHeartbeats 2000000 in
set_option maxRecDepth 100000 in
theorem TableParts_row (A0 : Option Addr) (c0 : Nat) (b : List (List (List Int))) (A1 : Option Addr) (c1 : Nat) (x : List Int) (A2 : Option Addr) (c2 : Nat) (y : List Int) (part : Int) (w : World)
    (h0 : SlB w .i32 A0 c0 b ∧ ∀ l ∈ b, ∀ xs ∈ l, ∀ n ∈ xs, (Lit.int .i32 n).wf = true) (h1 : SlI w .i32 A1 c1 x) (f1 : ∀ n ∈ x, (Lit.int .i32 n).wf = true) (y1 : x.length * 4 ≤ 140737488351232) (h2 : SlI w .i32 A2 c2 y) (f2 : ∀ n ∈ y, (Lit.int .i32 n).wf = true) (y2 : y.length * 4 ≤ 140737488351232) (w3 : (Lit.int .i64 part).wf = true) :
    Calls Try.prog 4 #[.agg #[.slice A0 b.length c0], .slice A1 x.length c1, .slice A2 y.length c2, .int .i64 part] w fun e w' => e = .returned (.bool true) ∧ Below w.heap.size w w' := by
  replace h0 := h0.1
  clear f1 f2 w3
  have hmix : Try.prog.follows .mixedOrders = true := by kernel_rfl
  have hm := h0.len
  have xm := h1.len
  have ym := h2.len
  have b0 := below_alloc (Below.refl w.heap.size w) (.cells #[.slice A0 b.length c0] 24)
  have hbox := box_cell (w := w) 24 (.slice A0 b.length c0)
  have LB := fun W (hW : Below w.heap.size w W) => LightBook_calls A0 c0 b 40 40 40 W (h0.below hW)
  cases hlt : lightBB b 40 40 40 with
  | false =>
    rw [hlt] at LB
    go_enter Try.func4, Try.ntmps4
    go_wp2_with fail
    refine (lives_calls _).mono ?_
    rintro e w1 ⟨rfl, b1⟩
    have bt1 := below_trans b0 b1
    replace hbox := cell_below b1 _ _ hbox
    clear b0 b1
    go_wp2_with fail
    refine (LB _ bt1).mono ?_
    rintro e w2 ⟨rfl, b2⟩
    have bt2 := below_trans bt1 b2
    go_wp2_with fail
    go_ret
    exact ⟨rfl, bt2⟩
  | true =>
  rw [hlt] at LB
  have RB := fun W (hW : Below w.heap.size w W) => RBCheck_calls A0 c0 b W (h0.below hW) (light_short hlt (by decide))
  clear hlt
  by_cases hck : ckB b = 0
  · rw [hck] at RB
    by_cases hxy : x.length = y.length
    · have ixy : ((x.length : Int) != (y.length : Int)) = false := by rw [neq_len]; exact decide_eq_false (by simpa using hxy)
      have HXY := Lib.hid hxy
      clear hxy
      have MX := fun W (hW : Below w.heap.size w W) => TMake_calls A0 A1 c0 c1 b x W (h0.below hW) (h1.below hW)
      have MY := fun W (hW : Below w.heap.size w W) => TMake_calls A0 A2 c0 c2 b y W (h0.below hW) (h2.below hW)
      by_cases hex : (makeT b x).2 = 0
      · by_cases hey : (makeT b y).2 = 0
        · obtain ⟨q1, q2, q3, q4⟩ := makeT_ok hex
          obtain ⟨r1, r2, r3, r4⟩ := makeT_ok hey
          rw [q4] at MX
          rw [r4] at MY
          dsimp only at MX MY
          rw [tabI_length] at MX MY
          obtain ⟨l1, l2, l3, l4, l5, l6, l7, l8⟩ := ckB_ok hck
          have kx := ckW_ok q2
          have ky := ckW_ok r2
          clear q1 r1 q4 r4 hex hey
          have iq : (b.length : Int) ≠ 0 := by omega
          have hq : (x.length : Int).tdiv (b.length : Int) = (wdB b : Int) := by rw [q3, Int.natCast_mul, Int.mul_tdiv_cancel_left _ (by omega)]
          have hp0 := Int.emod_nonneg part (show (b.length : Int) ≠ 0 by omega)
          have hp1 := Int.emod_lt_of_pos part (show 0 < (b.length : Int) by omega)
          obtain ⟨q, hpq⟩ : ∃ q : Nat, part % (b.length : Int) = (q : Int) := ⟨(part % (b.length : Int)).toNat, by omega⟩
          have hqn : q < b.length := by omega
          obtain ⟨lo, hlo⟩ : ∃ lo, lo = q * wdB b := ⟨_, rfl⟩
          have hlm : lo + wdB b ≤ x.length := by rw [hlo, q3]; have := Nat.mul_le_mul_right (wdB b) (show q + 1 ≤ b.length by omega); rw [Nat.add_mul, Nat.one_mul] at this; exact this
          have hlo' : (q : Int) * (wdB b : Int) = (lo : Int) := by rw [hlo]; exact (Int.natCast_mul _ _).symm
          have hhi' : ((q : Int) + 1) * (wdB b : Int) = (lo : Int) + (wdB b : Int) := by rw [Int.add_mul, Int.one_mul, hlo']
          have PK := fun W => Pick_calls part (b.length : Int) W (by omega) (by omega)
          rw [hpq] at PK
          have OX := fun W (hW : Below w.heap.size w W) => Own_int32_calls A1 c1 x W (h1.below hW) (by omega)
          have hzk : ckW (mixZ x y lo (lo + wdB b)) = 0 := ckW_of (by rw [mixZ_length]; exact kx.1) (by rw [mixZ_length]; exact kx.2.1) fun v hv => (mixZ_mem HXY.out hv).elim (kx.2.2 v) (ky.2.2 v)
          have hmk := makeT_of (r := mixZ x y lo (lo + wdB b)) hck hzk (by rw [mixZ_length]; exact q3)
          have MZ := fun Az cz W (hW : Below w.heap.size w W) (hz : SlI W .i32 Az cz (mixZ x y lo (lo + wdB b))) => TMake_calls A0 Az c0 cz b (mixZ x y lo (lo + wdB b)) W (h0.below hW) hz
          rw [hmk, mixZ_length] at MZ
          dsimp only at MZ
          rw [tabI_length] at MZ
          have RZ := Lib.hid (fun p (hp : p < b.length) => rowT_tabI (r := mixZ x y lo (lo + wdB b)) hp)
          have RX := Lib.hid (fun p (hp : p < b.length) => rowT_tabI (r := x) hp)
          have RY := Lib.hid (fun p (hp : p < b.length) => rowT_tabI (r := y) hp)
          have EQ := Lib.hid (show partR (mixZ x y lo (lo + wdB b)) (wdB b) q = partR y (wdB b) q from by rw [hlo]; exact mixZ_part q3 r3 hqn)
          have EO := Lib.hid (fun p (hp : p < b.length) (hne : p ≠ q) => show partR (mixZ x y lo (lo + wdB b)) (wdB b) p = partR x (wdB b) p from by rw [hlo]; exact mixZ_other q3 hp hne)
          have RL := Lib.hid (fun r p (hp : p < b.length) => show (rowI (partR r (wdB b) p) (b.getD p [])).length ≤ 256 from by unfold rowI; rw [List.length_map, (l8 p hp).1]; exact l3)
          have ZS := Lib.hid (fun i (hi : lo ≤ i) => mixZ_set x y lo i hi)
          have Z0 := Lib.hid (mixZ_zero x y lo)
          have ZL := Lib.hid (fun i => mixZ_length x y lo i)
          have HLX := Lib.hid (tabI_length b x)
          have HLY := Lib.hid (tabI_length b y)
          have HLZ := Lib.hid (tabI_length b (mixZ x y lo (lo + wdB b)))
          clear hmk hzk hlo hp0 hp1 q2 q3 r2 r3 l5 l8 kx ky hck
          generalize wdB b = m at *
          generalize tabI b x = ta at *
          generalize tabI b y = tc at *
          generalize htm : tabI b (mixZ x y lo (lo + m)) = tm at *
          clear htm
          have wr1 : IntKind.i64.wrap ((q : Int) * (m : Int)) = (lo : Int) := by rw [hlo']; exact IntWalk.i64_in _ (by omega)
          have wr2 : IntKind.i64.wrap (((q : Int) + 1) * (m : Int)) = (lo : Int) + (m : Int) := by rw [hhi']; exact IntWalk.i64_in _ (by omega)
          go_enter Try.func4, Try.ntmps4
          go_wp2_with fail
          refine (lives_calls _).mono ?_
          rintro e w1 ⟨rfl, b1⟩
          have bt1 := below_trans b0 b1
          replace hbox := cell_below b1 _ _ hbox
          clear b0 b1
          go_wp2_with fail
          refine (LB _ bt1).mono ?_
          rintro e w2 ⟨rfl, b2⟩
          have bt2 := below_trans bt1 b2
          replace hbox := cell_below b2 _ _ hbox
          clear bt1 b2 LB
          go_wp2_with fail
          refine (RB _ bt2).mono ?_
          rintro e w3 ⟨rfl, b3⟩
          have bt3 := below_trans bt2 b3
          replace hbox := cell_below b3 _ _ hbox
          clear bt2 b3 RB
          go_wp2_with fail
          refine (MX _ bt3).mono ?_
          rintro e w4 ⟨Aa, ca, rfl, hsa, b4⟩
          have bt4 := below_alloc (below_trans bt3 b4) (.cells #[.slice Aa b.length ca] 35)
          replace hbox := cell_below (below_trans b4 (below_box (.cells #[.slice Aa b.length ca] 35))) _ _ hbox
          have boxa := box_cell (w := w4) 35 (.slice Aa b.length ca)
          replace hsa := hsa.below (below_box (.cells #[.slice Aa b.length ca] 35))
          clear bt3 b4 MX
          go_wp2_with fail
          refine (MY _ bt4).mono ?_
          rintro e w5 ⟨Ac, cc, rfl, hsc, b5⟩
          have b5' := below_trans b5 (below_box (.cells #[.slice Ac b.length cc] 35))
          have bt5 := below_trans bt4 b5'
          replace hbox := cell_below b5' _ _ hbox
          replace boxa := cell_below b5' _ _ boxa
          have boxc := box_cell (w := w5) 35 (.slice Ac b.length cc)
          replace hsa := hsa.below b5'
          replace hsc := hsc.below (below_box (.cells #[.slice Ac b.length cc] 35))
          clear bt4 b5 b5' MY
          go_wp2_with fail
          refine (PK _).mono ?_
          rintro e w' ⟨rfl, rfl⟩
          go_wp2_with fail
          refine (OX _ bt5).mono ?_
          rintro e w6 ⟨Az, cz, rfl, oz, b6⟩
          have hs5 : (w5.alloc (.cells #[.slice Ac b.length cc] 35)).heap.size = w5.heap.size + 1 := by simp
          generalize hW5 : w5.alloc (.cells #[.slice Ac b.length cc] 35) = W5 at *
          obtain ⟨g, rfl, gz1, gz2⟩ := own_form oz (by omega)
          have oz' : w6.ownsRow W5.heap.size 21 1 (.slice (some ⟨g, 0, none⟩) x.length cz) x.length (nums .i32 (mixZ x y lo lo)) := by rw [Z0.out]; exact oz
          clear oz
          go_wp2_with fail
          go_loopg [15] (m + 1) (fun gk u w' => ∃ i : Nat, u = .int .i64 (i : Int) ∧ lo ≤ i ∧ i ≤ lo + m ∧ lo + m < i + gk ∧ w'.ownsRow W5.heap.size 21 1 (.slice (some ⟨g, 0, none⟩) x.length cz) x.length (nums .i32 (mixZ x y lo i)) ∧ Below W5.heap.size W5 w')
          case atStart => exact ⟨lo, rfl, by omega, by omega, by omega, oz', b6⟩
          case round =>
            clear oz' b6
            obtain ⟨i, rfl, hi1, hi2, hg, oo, bz⟩ := hrel
            by_cases hlt : i < lo + m
            · have k1 : (i : Int) < (lo : Int) + (m : Int) := by omega
              have hiy : i < y.length := by have := HXY.out; omega
              have hix : i < x.length := by omega
              have k2 : (i : Int) < (y.length : Int) := by omega
              have k3 : (i : Int) < (x.length : Int) := by omega
              obtain ⟨ay, rfl, hcy⟩ := (h2.below (below_trans bt5 bz)).get i hiy
              have oc := OwnI.cell oo i (by rw [ZL.out]; exact hix)
              obtain ⟨oc1, oc2⟩ := oc
              have ow := OwnI.store oo i (y.getD i 0)
              rw [ZS.out i hi1] at ow
              generalize y.getD i 0 = v at *
              generalize (mixZ x y lo i).getD i 0 = v' at *
              go_wp2_with fail
              go_roundg (gk - 1)
              case measure => omega
              case rel => exact ⟨i + 1, by simp, by omega, by omega, by omega, ow.1, bz.setCell (p := ⟨g, i, none⟩) gz1 _⟩
            · obtain rfl : i = lo + m := by omega
              have k1 : ¬ ((lo + m : Nat) : Int) < (lo : Int) + (m : Int) := by omega
              have bt6 := below_trans bt5 bz
              replace hbox := cell_below bz _ _ hbox
              replace boxa := cell_below bz _ _ boxa
              replace boxc := cell_below bz _ _ boxc
              replace hsa := hsa.below bz
              replace hsc := hsc.below bz
              have hz : SlI wr .i32 (some ⟨g, 0, none⟩) cz (mixZ x y lo (lo + m)) := OwnI.sl (base := W5.heap.size) (E := 21) (by unfold OwnI; rw [ZL.out]; exact oo)
              clear oo bz bt5 h2
              go_wp2_with fail
              refine (MZ _ cz _ bt6 hz).mono ?_
              rintro e w7 ⟨Am, cm, rfl, hsm, b7⟩
              have b7' := below_trans b7 (below_box (.cells #[.slice Am b.length cm] 35))
              have bt7 := below_trans bt6 b7'
              replace boxa := cell_below b7' _ _ boxa
              replace boxc := cell_below b7' _ _ boxc
              have boxm := box_cell (w := w7) 35 (.slice Am b.length cm)
              replace hsa := hsa.below b7'
              replace hsc := hsc.below b7'
              replace hsm := hsm.below (below_box (.cells #[.slice Am b.length cm] 35))
              clear b7 b7' bt6 MZ hz
              have ibb : ((b.length : Int) != (b.length : Int)) = false := by simp
              go_wp2_with fail
              generalize w7.alloc (.cells #[.slice Am b.length cm] 35) = W7 at *
              go_loopg [18, 19] (b.length + 1) (fun gk u u19 w' => ∃ p : Nat, u = .int .i64 (p : Int) ∧ p ≤ b.length ∧ b.length < p + gk ∧ Below W7.heap.size W7 w')
              case atStart => exact ⟨0, rfl, by omega, by omega, Below.refl _ _⟩
              case round =>
                obtain ⟨p, rfl, hp, hg, bw⟩ := hrel
                have zm := cell_below bw _ _ boxm
                by_cases hlt : p < b.length
                · have i1 : (p : Int) < (b.length : Int) := by omega
                  have za := cell_below bw _ _ boxa
                  have zc := cell_below bw _ _ boxc
                  have sa := hsa.below bw
                  have sc := hsc.below bw
                  have sm := hsm.below bw
                  have btw := below_trans bt7 bw
                  have M0 := Lib.hid (RZ.out p hlt)
                  have ML := RL.out (mixZ x y lo (lo + m)) p hlt
                  by_cases hpq2 : p = q
                  · have M1 := Lib.hid (show rowT tc (p : Int) = rowI (partR (mixZ x y lo (lo + m)) m p) (b.getD p []) from by rw [RY.out p hlt, hpq2, EQ.out])
                    have ipq : ((p : Int) == (q : Int)) = true := by simp [hpq2]
                    clear hpq2
                    have zc' := cell_below (below_box (w := wr) (.cells #[.slice Aa b.length ca] 35)) _ _ zc
                    generalize rowI (partR (mixZ x y lo (lo + m)) m p) (b.getD p []) = rr at *
                    have bx := below_box (w := wr) (.cells #[.slice Ac b.length cc] 35)
                    have zw := box_cell (w := wr) 35 (.slice Ac b.length cc)
                    have zm' := cell_below bx _ _ zm
                    have sw := sc.below bx
                    have sm' := sm.below bx
                    have btx := below_trans bw bx
                    go_wp2_with fail
                    refine region_L (oneQ 99 (fun _ => True) (fun X => X.cell? ⟨w7.heap.size, 0, none⟩ = some (.slice Am b.length cm) ∧ X.cell? ⟨wr.heap.size, 0, none⟩ = some (.slice Ac b.length cc))) hmix ?_
                    generalize wr.alloc (.cells #[.slice Ac b.length cc] 35) = W8 at *
                    have hS : oneQ 99 (fun _ => True) (fun X => X.cell? ⟨w7.heap.size, 0, none⟩ = some (.slice Am b.length cm) ∧ X.cell? ⟨wr.heap.size, 0, none⟩ = some (.slice Ac b.length cc)) (Array.replicate 8 false) W8.drew := ⟨fun _ => trivial, zm', zw⟩
                    refine anyL_take (fun X => X.cell? ⟨w7.heap.size, 0, none⟩ = some (.slice Am b.length cm) ∧ X.cell? ⟨wr.heap.size, 0, none⟩ = some (.slice Ac b.length cc)) [] (i := 0) (v := ?_) rfl (by kernel_rfl) (by kernel_rfl) (by kernel_rfl) (fun _ _ _ h => h) (by kernel_rfl) (one_ind (i := 0) (by decide)) (fun L X h1 h2 => h2.2) (Or.inl ⟨by rfl, ?_⟩) hS ?_
                    rotate_left
                    · intro X hX
                      obtain ⟨g0, g1⟩ := hX
                      go_simp
                      try with_reducible rfl
                    simp only [Act.put, List.setIfInBounds_toArray, List.set_cons_zero, List.set_cons_succ]
                    replace hS := (one_ind (i := 0) (by decide) _ _).2 hS
                    refine anyL_take (fun _ => True) [] (i := 1) (v := ?_) rfl (by kernel_rfl) (by kernel_rfl) (by kernel_rfl) (fun _ _ _ h => h) (by kernel_rfl) (one_ind (i := 1) (by decide)) (fun _ _ _ _ => trivial) (Or.inl ⟨by rfl, ?_⟩) hS ?_
                    rotate_left
                    · intro X hX
                      clear hX
                      go_simp
                      try with_reducible rfl
                    simp only [Act.put, List.setIfInBounds_toArray, List.set_cons_zero, List.set_cons_succ]
                    replace hS := (one_ind (i := 1) (by decide) _ _).2 hS
                    refine anyL_take (fun X => X.cell? ⟨w7.heap.size, 0, none⟩ = some (.slice Am b.length cm) ∧ X.cell? ⟨wr.heap.size, 0, none⟩ = some (.slice Ac b.length cc)) [] (i := 3) (v := ?_) rfl (by kernel_rfl) (by kernel_rfl) (by kernel_rfl) (fun _ _ _ h => h) (by kernel_rfl) (one_ind (i := 3) (by decide)) (fun L X h1 h2 => h2.2) (Or.inl ⟨by rfl, ?_⟩) hS ?_
                    rotate_left
                    · intro X hX
                      obtain ⟨g0, g1⟩ := hX
                      go_simp
                      try with_reducible rfl
                    simp only [Act.put, List.setIfInBounds_toArray, List.set_cons_zero, List.set_cons_succ]
                    replace hS := (one_ind (i := 3) (by decide) _ _).2 hS
                    refine anyL_take (fun _ => True) [] (i := 4) (v := ?_) rfl (by kernel_rfl) (by kernel_rfl) (by kernel_rfl) (fun _ _ _ h => h) (by kernel_rfl) (one_ind (i := 4) (by decide)) (fun _ _ _ _ => trivial) (Or.inl ⟨by rfl, ?_⟩) hS ?_
                    rotate_left
                    · intro X hX
                      clear hX
                      go_simp
                      try with_reducible rfl
                    simp only [Act.put, List.setIfInBounds_toArray, List.set_cons_zero, List.set_cons_succ]
                    replace hS := (one_ind (i := 4) (by decide) _ _).2 hS
                    have bd : Below W8.heap.size W8 W8.drew := (Below.refl _ _).drew
                    refine anyL_step (i := 2) (by kernel_rfl) rfl (by rfl) (fun K hK => ?_)
                    go_simp
                    refine (TRow_n tm (p : Int) b.length HLZ.out rr M0 Am cm _ (sm'.below bd) (by omega)).mono ?_
                    rintro e w9 ⟨A9, c9, rfl, o9, b9⟩
                    have be := below_trans bd b9
                    dsimp only
                    refine hK.out _ _ ⟨fun _ => trivial, cell_below be _ _ zm', cell_below be _ _ zw⟩ ?_
                    clear hK K
                    try simp only [Act.put, List.setIfInBounds_toArray, List.set_cons_zero, List.set_cons_succ]
                    refine anyL_step (i := 5) (by kernel_rfl) rfl (by rfl) (fun K hK => ?_)
                    go_simp
                    refine (TRow_n tc (p : Int) b.length HLY.out rr M1 Ac cc _ (sw.below be) (by omega)).mono ?_
                    rintro e w10 ⟨A10, c10, rfl, o10, b10⟩
                    have be2 := below_trans be b10
                    have s9 := (OwnI.sl o9).below b10
                    dsimp only
                    refine hK.out _ _ ⟨fun _ => trivial, cell_below be2 _ _ zm', cell_below be2 _ _ zw⟩ ?_
                    clear hK K
                    try simp only [Act.put, List.setIfInBounds_toArray, List.set_cons_zero, List.set_cons_succ]
                    refine anyL_step (i := 6) (by kernel_rfl) rfl (by rfl) (fun K hK => ?_)
                    go_simp
                    refine (Same_int64_b A9 A10 c9 c10 rr rr _ s9 (OwnI.sl o10)).mono ?_
                    rintro e w11 ⟨rfl, b11⟩
                    have be3 := below_trans be2 b11
                    rw [decide_eq_true (rfl : rr = rr)]
                    dsimp only
                    refine hK.out _ _ ⟨fun _ => trivial, cell_below be3 _ _ zm', cell_below be3 _ _ zw⟩ ?_
                    clear hK K
                    try simp only [Act.put, List.setIfInBounds_toArray, List.set_cons_zero, List.set_cons_succ]
                    refine anyL_step (i := 7) (by kernel_rfl) rfl (by rfl) (fun K hK => ?_)
                    go_simp
                    refine hK.out _ _ ⟨fun _ => trivial, cell_below be3 _ _ zm', cell_below be3 _ _ zw⟩ ?_
                    clear hK K
                    try simp only [Act.put, List.setIfInBounds_toArray, List.set_cons_zero, List.set_cons_succ]
                    refine anyL_done (by kernel_rfl) ?_ _
                    have bend := below_trans btx be3
                    go_wp2_with fail
                    go_roundg (gk - 1)
                    case measure => omega
                    case rel => exact ⟨p + 1, by simp, by omega, by omega, bend⟩
                  · have M1 := Lib.hid (show rowT ta (p : Int) = rowI (partR (mixZ x y lo (lo + m)) m p) (b.getD p []) from by rw [RX.out p hlt, EO.out p hlt hpq2])
                    have ipq : ((p : Int) == (q : Int)) = false := by simp; omega
                    clear hpq2
                    generalize rowI (partR (mixZ x y lo (lo + m)) m p) (b.getD p []) = rr at *
                    have bx := below_box (w := wr) (.cells #[.slice Aa b.length ca] 35)
                    have zw := box_cell (w := wr) 35 (.slice Aa b.length ca)
                    have zm' := cell_below bx _ _ zm
                    have sw := sa.below bx
                    have sm' := sm.below bx
                    have btx := below_trans bw bx
                    go_wp2_with fail
                    refine region_L (oneQ 99 (fun _ => True) (fun X => X.cell? ⟨w7.heap.size, 0, none⟩ = some (.slice Am b.length cm) ∧ X.cell? ⟨wr.heap.size, 0, none⟩ = some (.slice Aa b.length ca))) hmix ?_
                    generalize wr.alloc (.cells #[.slice Aa b.length ca] 35) = W8 at *
                    have hS : oneQ 99 (fun _ => True) (fun X => X.cell? ⟨w7.heap.size, 0, none⟩ = some (.slice Am b.length cm) ∧ X.cell? ⟨wr.heap.size, 0, none⟩ = some (.slice Aa b.length ca)) (Array.replicate 8 false) W8.drew := ⟨fun _ => trivial, zm', zw⟩
                    refine anyL_take (fun X => X.cell? ⟨w7.heap.size, 0, none⟩ = some (.slice Am b.length cm) ∧ X.cell? ⟨wr.heap.size, 0, none⟩ = some (.slice Aa b.length ca)) [] (i := 0) (v := ?_) rfl (by kernel_rfl) (by kernel_rfl) (by kernel_rfl) (fun _ _ _ h => h) (by kernel_rfl) (one_ind (i := 0) (by decide)) (fun L X h1 h2 => h2.2) (Or.inl ⟨by rfl, ?_⟩) hS ?_
                    rotate_left
                    · intro X hX
                      obtain ⟨g0, g1⟩ := hX
                      go_simp
                      try with_reducible rfl
                    simp only [Act.put, List.setIfInBounds_toArray, List.set_cons_zero, List.set_cons_succ]
                    replace hS := (one_ind (i := 0) (by decide) _ _).2 hS
                    refine anyL_take (fun _ => True) [] (i := 1) (v := ?_) rfl (by kernel_rfl) (by kernel_rfl) (by kernel_rfl) (fun _ _ _ h => h) (by kernel_rfl) (one_ind (i := 1) (by decide)) (fun _ _ _ _ => trivial) (Or.inl ⟨by rfl, ?_⟩) hS ?_
                    rotate_left
                    · intro X hX
                      clear hX
                      go_simp
                      try with_reducible rfl
                    simp only [Act.put, List.setIfInBounds_toArray, List.set_cons_zero, List.set_cons_succ]
                    replace hS := (one_ind (i := 1) (by decide) _ _).2 hS
                    refine anyL_take (fun X => X.cell? ⟨w7.heap.size, 0, none⟩ = some (.slice Am b.length cm) ∧ X.cell? ⟨wr.heap.size, 0, none⟩ = some (.slice Aa b.length ca)) [] (i := 3) (v := ?_) rfl (by kernel_rfl) (by kernel_rfl) (by kernel_rfl) (fun _ _ _ h => h) (by kernel_rfl) (one_ind (i := 3) (by decide)) (fun L X h1 h2 => h2.2) (Or.inl ⟨by rfl, ?_⟩) hS ?_
                    rotate_left
                    · intro X hX
                      obtain ⟨g0, g1⟩ := hX
                      go_simp
                      try with_reducible rfl
                    simp only [Act.put, List.setIfInBounds_toArray, List.set_cons_zero, List.set_cons_succ]
                    replace hS := (one_ind (i := 3) (by decide) _ _).2 hS
                    refine anyL_take (fun _ => True) [] (i := 4) (v := ?_) rfl (by kernel_rfl) (by kernel_rfl) (by kernel_rfl) (fun _ _ _ h => h) (by kernel_rfl) (one_ind (i := 4) (by decide)) (fun _ _ _ _ => trivial) (Or.inl ⟨by rfl, ?_⟩) hS ?_
                    rotate_left
                    · intro X hX
                      clear hX
                      go_simp
                      try with_reducible rfl
                    simp only [Act.put, List.setIfInBounds_toArray, List.set_cons_zero, List.set_cons_succ]
                    replace hS := (one_ind (i := 4) (by decide) _ _).2 hS
                    have bd : Below W8.heap.size W8 W8.drew := (Below.refl _ _).drew
                    refine anyL_step (i := 2) (by kernel_rfl) rfl (by rfl) (fun K hK => ?_)
                    go_simp
                    refine (TRow_n tm (p : Int) b.length HLZ.out rr M0 Am cm _ (sm'.below bd) (by omega)).mono ?_
                    rintro e w9 ⟨A9, c9, rfl, o9, b9⟩
                    have be := below_trans bd b9
                    dsimp only
                    refine hK.out _ _ ⟨fun _ => trivial, cell_below be _ _ zm', cell_below be _ _ zw⟩ ?_
                    clear hK K
                    try simp only [Act.put, List.setIfInBounds_toArray, List.set_cons_zero, List.set_cons_succ]
                    refine anyL_step (i := 5) (by kernel_rfl) rfl (by rfl) (fun K hK => ?_)
                    go_simp
                    refine (TRow_n ta (p : Int) b.length HLX.out rr M1 Aa ca _ (sw.below be) (by omega)).mono ?_
                    rintro e w10 ⟨A10, c10, rfl, o10, b10⟩
                    have be2 := below_trans be b10
                    have s9 := (OwnI.sl o9).below b10
                    dsimp only
                    refine hK.out _ _ ⟨fun _ => trivial, cell_below be2 _ _ zm', cell_below be2 _ _ zw⟩ ?_
                    clear hK K
                    try simp only [Act.put, List.setIfInBounds_toArray, List.set_cons_zero, List.set_cons_succ]
                    refine anyL_step (i := 6) (by kernel_rfl) rfl (by rfl) (fun K hK => ?_)
                    go_simp
                    refine (Same_int64_b A9 A10 c9 c10 rr rr _ s9 (OwnI.sl o10)).mono ?_
                    rintro e w11 ⟨rfl, b11⟩
                    have be3 := below_trans be2 b11
                    rw [decide_eq_true (rfl : rr = rr)]
                    dsimp only
                    refine hK.out _ _ ⟨fun _ => trivial, cell_below be3 _ _ zm', cell_below be3 _ _ zw⟩ ?_
                    clear hK K
                    try simp only [Act.put, List.setIfInBounds_toArray, List.set_cons_zero, List.set_cons_succ]
                    refine anyL_step (i := 7) (by kernel_rfl) rfl (by rfl) (fun K hK => ?_)
                    go_simp
                    refine hK.out _ _ ⟨fun _ => trivial, cell_below be3 _ _ zm', cell_below be3 _ _ zw⟩ ?_
                    clear hK K
                    try simp only [Act.put, List.setIfInBounds_toArray, List.set_cons_zero, List.set_cons_succ]
                    refine anyL_done (by kernel_rfl) ?_ _
                    have bend := below_trans btx be3
                    go_wp2_with fail
                    go_roundg (gk - 1)
                    case measure => omega
                    case rel => exact ⟨p + 1, by simp, by omega, by omega, bend⟩
                · obtain rfl : p = b.length := by omega
                  have i1 : ¬ (b.length : Int) < (b.length : Int) := by omega
                  go_wp2_with fail
                  go_ret
                  exact ⟨rfl, below_trans bt7 bw⟩
          
        · obtain ⟨q1, q2, q3, q4⟩ := makeT_ok hex
          rw [q4] at MX
          clear q1 q2 q3 q4 hex
          generalize makeT b y = my at *
          obtain ⟨my1, my2⟩ := my
          try dsimp only at *
          have iy : (my2 != 0) = true := by simpa using hey
          clear hey
          try dsimp only at MX
          go_enter Try.func4, Try.ntmps4
          go_wp2_with fail
          refine (lives_calls _).mono ?_
          rintro e w1 ⟨rfl, b1⟩
          have bt1 := below_trans b0 b1
          replace hbox := cell_below b1 _ _ hbox
          clear b0 b1
          go_wp2_with fail
          refine (LB _ bt1).mono ?_
          rintro e w2 ⟨rfl, b2⟩
          have bt2 := below_trans bt1 b2
          replace hbox := cell_below b2 _ _ hbox
          clear bt1 b2 LB
          go_wp2_with fail
          refine (RB _ bt2).mono ?_
          rintro e w3 ⟨rfl, b3⟩
          have bt3 := below_trans bt2 b3
          replace hbox := cell_below b3 _ _ hbox
          clear bt2 b3 RB
          go_wp2_with fail
          refine (MX _ bt3).mono ?_
          rintro e w4 ⟨Aa, ca, rfl, hsa, b4⟩
          have bt4 := below_alloc (below_trans bt3 b4) (.cells #[.slice Aa (tabI b x).length ca] 35)
          replace hbox := cell_below (below_trans b4 (below_box (.cells #[.slice Aa (tabI b x).length ca] 35))) _ _ hbox
          have boxa := box_cell (w := w4) 35 (.slice Aa (tabI b x).length ca)
          replace hsa := hsa.below (below_box (.cells #[.slice Aa (tabI b x).length ca] 35))
          clear bt3 b4 MX
          go_wp2_with fail
          refine (MY _ bt4).mono ?_
          rintro e w5 ⟨Ac, cc, rfl, hsc, b5⟩
          have b5' := below_trans b5 (below_box (.cells #[.slice Ac my1.length cc] 35))
          have bt5 := below_trans bt4 b5'
          replace hbox := cell_below b5' _ _ hbox
          replace boxa := cell_below b5' _ _ boxa
          have boxc := box_cell (w := w5) 35 (.slice Ac my1.length cc)
          replace hsa := hsa.below b5'
          replace hsc := hsc.below (below_box (.cells #[.slice Ac my1.length cc] 35))
          clear bt4 b5 b5' MY
          go_wp2_with fail
          go_ret
          exact ⟨rfl, bt5⟩
      · generalize makeT b x = mx at *
        obtain ⟨mx1, mx2⟩ := mx
        try dsimp only at *
        generalize makeT b y = my at *
        obtain ⟨my1, my2⟩ := my
        try dsimp only at *
        have ix : (mx2 != 0) = true := by simpa using hex
        clear hex
        go_enter Try.func4, Try.ntmps4
        go_wp2_with fail
        refine (lives_calls _).mono ?_
        rintro e w1 ⟨rfl, b1⟩
        have bt1 := below_trans b0 b1
        replace hbox := cell_below b1 _ _ hbox
        clear b0 b1
        go_wp2_with fail
        refine (LB _ bt1).mono ?_
        rintro e w2 ⟨rfl, b2⟩
        have bt2 := below_trans bt1 b2
        replace hbox := cell_below b2 _ _ hbox
        clear bt1 b2 LB
        go_wp2_with fail
        refine (RB _ bt2).mono ?_
        rintro e w3 ⟨rfl, b3⟩
        have bt3 := below_trans bt2 b3
        replace hbox := cell_below b3 _ _ hbox
        clear bt2 b3 RB
        go_wp2_with fail
        refine (MX _ bt3).mono ?_
        rintro e w4 ⟨Aa, ca, rfl, hsa, b4⟩
        have bt4 := below_alloc (below_trans bt3 b4) (.cells #[.slice Aa mx1.length ca] 35)
        replace hbox := cell_below (below_trans b4 (below_box (.cells #[.slice Aa mx1.length ca] 35))) _ _ hbox
        have boxa := box_cell (w := w4) 35 (.slice Aa mx1.length ca)
        replace hsa := hsa.below (below_box (.cells #[.slice Aa mx1.length ca] 35))
        clear bt3 b4 MX
        go_wp2_with fail
        refine (MY _ bt4).mono ?_
        rintro e w5 ⟨Ac, cc, rfl, hsc, b5⟩
        have b5' := below_trans b5 (below_box (.cells #[.slice Ac my1.length cc] 35))
        have bt5 := below_trans bt4 b5'
        replace hbox := cell_below b5' _ _ hbox
        replace boxa := cell_below b5' _ _ boxa
        have boxc := box_cell (w := w5) 35 (.slice Ac my1.length cc)
        replace hsa := hsa.below b5'
        replace hsc := hsc.below (below_box (.cells #[.slice Ac my1.length cc] 35))
        clear bt4 b5 b5' MY
        go_wp2_with fail
        go_ret
        exact ⟨rfl, bt5⟩
    · have ixy : ((x.length : Int) != (y.length : Int)) = true := by rw [neq_len]; exact decide_eq_true hxy
      clear hxy
      go_enter Try.func4, Try.ntmps4
      go_wp2_with fail
      refine (lives_calls _).mono ?_
      rintro e w1 ⟨rfl, b1⟩
      have bt1 := below_trans b0 b1
      replace hbox := cell_below b1 _ _ hbox
      clear b0 b1
      go_wp2_with fail
      refine (LB _ bt1).mono ?_
      rintro e w2 ⟨rfl, b2⟩
      have bt2 := below_trans bt1 b2
      replace hbox := cell_below b2 _ _ hbox
      clear bt1 b2 LB
      go_wp2_with fail
      refine (RB _ bt2).mono ?_
      rintro e w3 ⟨rfl, b3⟩
      have bt3 := below_trans bt2 b3
      replace hbox := cell_below b3 _ _ hbox
      clear bt2 b3 RB
      go_wp2_with fail
      go_ret
      exact ⟨rfl, bt3⟩
  · generalize ckB b = ck at *
    have ick : (ck != 0) = true := by simpa using hck
    clear hck
    go_enter Try.func4, Try.ntmps4
    go_wp2_with fail
    refine (lives_calls _).mono ?_
    rintro e w1 ⟨rfl, b1⟩
    have bt1 := below_trans b0 b1
    replace hbox := cell_below b1 _ _ hbox
    clear b0 b1
    go_wp2_with fail
    refine (LB _ bt1).mono ?_
    rintro e w2 ⟨rfl, b2⟩
    have bt2 := below_trans bt1 b2
    replace hbox := cell_below b2 _ _ hbox
    clear bt1 b2 LB
    go_wp2_with fail
    refine (RB _ bt2).mono ?_
    rintro e w3 ⟨rfl, b3⟩
    have bt3 := below_trans bt2 b3
    replace hbox := cell_below b3 _ _ hbox
    clear bt2 b3 RB
    go_wp2_with fail
    go_ret
    exact ⟨rfl, bt3⟩
end Go.Proofs.Ythpgaggceefamaa
