import Derived.Test.YtaiibjbhblpbpaaBound9
import Derived.Test.YtaiibjbhblpbpaaBound7
import Derived.Test.YtaiibjbhblpbpaaKit
namespace Go.Proofs.Ytaiibjbhblpbpaa
set_option linter.unusedVariables false
set_option linter.unusedSimpArgs false
open Go.RowKit
def crs (q h x : List Int) : Nat → Int
  | 0 => 0
  | j + 1 => crs q h x j + (q.getD j 0 - h.getD j 0) * (h.getD j 0 - x.getD j 0)
theorem dsq_nn (a b : List Int) (j : Nat) : 0 ≤ dsq a b j := by
  induction j with
  | zero => exact Int.le_refl _
  | succ j ih => rw [dsq]; have := nn (a.getD j 0 - b.getD j 0); omega
theorem dsq_split (q h x : List Int) (j : Nat) : dsq q x j = dsq q h j + 2 * crs q h x j + dsq x h j := by
  induction j with
  | zero => rfl
  | succ j ih =>
    rw [dsq, dsq, dsq, crs, ih]
    generalize q.getD j 0 = u
    generalize h.getD j 0 = v
    generalize x.getD j 0 = t
    grind
theorem crs_cs (q h x : List Int) (j : Nat) : crs q h x j * crs q h x j ≤ dsq q h j * dsq x h j := by
  induction j with
  | zero => exact Int.le_refl _
  | succ j ih =>
    rw [dsq, dsq, crs]
    have e : (x.getD j 0 - h.getD j 0) * (x.getD j 0 - h.getD j 0) = (h.getD j 0 - x.getD j 0) * (h.getD j 0 - x.getD j 0) := by
      generalize h.getD j 0 = v
      generalize x.getD j 0 = t
      grind
    rw [e]
    exact cs_step (dsq_nn q h j) (dsq_nn x h j) ih
theorem dsq_zero {a b : List Int} : ∀ {j : Nat}, dsq a b j = 0 → ∀ t, t < j → a.getD t 0 = b.getD t 0 := by
  intro j
  induction j with
  | zero => intro _ t h; omega
  | succ j ih =>
    intro h t ht
    rw [dsq] at h
    have h1 := dsq_nn a b j
    have h2 := nn (a.getD j 0 - b.getD j 0)
    rcases Nat.lt_or_ge t j with h3 | h3
    · exact ih (by omega) t h3
    · obtain rfl : t = j := by omega
      have : (a.getD t 0 - b.getD t 0) * (a.getD t 0 - b.getD t 0) = 0 := by omega
      have := Int.mul_eq_zero.1 this
      omega
theorem dsq_self (a : List Int) (j : Nat) : dsq a a j = 0 := by
  induction j with
  | zero => rfl
  | succ j ih => rw [dsq, ih]; simp
theorem cel_zero_iff {s : Int} (h : 0 ≤ s) : cel s = 0 ↔ s = 0 := by
  obtain ⟨c0, c1, c2⟩ := cel_spec h
  constructor
  · intro e; rw [e] at c1; omega
  · intro e
    rcases Int.lt_or_le 0 (cel s) with h1 | h1
    · have := c2 h1; have := nn (cel s - 1); omega
    · omega
/-- The theorem of the stage, plain. -/
theorem holds_plain {q h x : List Int} {n : Nat} : dsq q x n ≤ dsq q h n + bnd (dsq q h n) (cel (dsq x h n)) ∧ dsq q h n - bnd (dsq q h n) (cel (dsq x h n)) ≤ dsq q x n := by
  have e := dsq_split q h x n
  have cs := crs_cs q h x n
  have a0 := dsq_nn q h n
  have s0 := dsq_nn x h n
  obtain ⟨c0, c1, _⟩ := cel_spec a0
  obtain ⟨r0, r1, _⟩ := cel_spec s0
  unfold bnd
  generalize dsq q h n = a at *
  generalize dsq x h n = s at *
  generalize crs q h x n = P at *
  generalize cel a = c at *
  generalize cel s = r at *
  have cr := Int.mul_nonneg c0 r0
  have k : P * P ≤ (c * r) * (c * r) := by
    have h1 := Int.mul_le_mul c1 r1 s0 (nn c)
    grind
  have k1 : P ≤ c * r := sq_le_sq cr k
  have k2 : -P ≤ c * r := sq_le_sq cr (by grind)
  have : 2 * c * r = 2 * (c * r) := by grind
  rw [e]
  omega
theorem same_iff {x h : List Int} (hl : x.length = h.length) : decide (cel (dsq x h x.length) = 0) = decide (x = h) := by
  apply decide_eq_decide.2
  rw [cel_zero_iff (dsq_nn _ _ _)]
  constructor
  · intro e
    exact List.ext_getElem hl fun t h1 h2 => by
      have := dsq_zero e t h1
      simpa [List.getD_eq_getElem?_getD, h1, h2] using this
  · rintro rfl; exact dsq_self _ _
theorem pairE_zero {a b : List Int} (h1 : ckW a = 0) (h2 : ckW b = 0) (h3 : a.length = b.length) : pairE a b = 0 := by unfold pairE; simp [h1, h2, h3]
set_option maxHeartbeats 1000000 in
set_option maxRecDepth 100000 in
theorem holds_core (X H Q : Option Addr) (cx ch cq : Nat) (x h q : List Int) (w : World) (hx : SlI w .i32 X cx x) (hh : SlI w .i32 H ch h) (hq : SlI w .i32 Q cq q)
    (k1 : ckW x = 0) (k2 : ckW h = 0) (k3 : ckW q = 0) (l1 : x.length = h.length) (l2 : x.length = q.length) :
    Calls Try.prog 4 #[.slice X x.length cx, .slice H h.length ch, .slice Q q.length cq] w fun e w' => e = .returned (.bool true) ∧ Below w.heap.size w w' := by
  have C1 := fun w (h1 : SlI w .i32 X cx x) => k1 ▸ RCheckWide_calls X cx x w h1
  have C2 := fun w (h1 : SlI w .i32 H ch h) => k2 ▸ RCheckWide_calls H ch h w h1
  have C3 := fun w (h1 : SlI w .i32 Q cq q) => k3 ▸ RCheckWide_calls Q cq q w h1
  have p1 := pairE_zero k3 k2 (l2.symm.trans l1)
  have p2 := pairE_zero k3 k1 l2.symm
  have p3 := pairE_zero k1 k2 l1
  obtain ⟨a0, a1⟩ := dist_bd p1
  obtain ⟨d0, d1⟩ := dist_bd p2
  obtain ⟨s0, s1⟩ := dist_bd p3
  have E1 : distI q h = (dsq q h x.length, 0) := by unfold distI; rw [if_pos p1, l2]
  have E2 : distI q x = (dsq q x x.length, 0) := by unfold distI; rw [if_pos p2, l2]
  have E3 : distI x h = (dsq x h x.length, 0) := by unfold distI; rw [if_pos p3]
  have E4 : radI x h = (cel (dsq x h x.length), 0) := by unfold radI; rw [if_pos p3]
  have D1 := fun w h1 h2 => RDist_calls Q H cq ch q h w h1 h2
  have D2 := fun w h1 h2 => RDist_calls Q X cq cx q x w h1 h2
  have D3 := fun w h1 h2 => RDist_calls X H cx ch x h w h1 h2
  have D4 := fun w h1 h2 => Radius_calls X H cx ch x h w h1 h2
  rw [E1] at D1
  rw [E2] at D2
  rw [E3] at D3
  rw [E4] at D4
  have S := fun w h1 h2 => Same_int32_b X H cx ch x h w h1 h2
  have sm := same_iff l1
  have pl := holds_plain (q := q) (h := h) (x := x) (n := x.length)
  obtain ⟨r0, r1⟩ := cel_bd s0 s1
  obtain ⟨_, r2, r3⟩ := cel_spec s0
  rw [← sm] at S
  rw [← l2] at a0 a1 d0 d1
  have L1 := Lib.hid l1
  have L2 := Lib.hid l2
  have i1 : ((x.length : Int) != (h.length : Int)) = false := by simp [l1]
  have i2 : ((x.length : Int) != (q.length : Int)) = false := by simp [l2]
  clear E1 E2 E3 E4 p1 p2 p3 sm l1 l2 k1 k2 k3
  generalize dsq q h x.length = a at *
  generalize dsq q x x.length = d at *
  generalize dsq x h x.length = s at *
  generalize cel s = r at *
  have hk : okB a r = true := okB_iff.2 ⟨a0, a1, r0, r1⟩
  obtain ⟨b0, b1, _, _, z0, z1⟩ := bnd_bd hk
  have O1 := Lib.hid (show endI a r 0 1 = (bnd a r, 0) by rw [endI_t hk]; congr 1; omega)
  have K1 := Lib.hid (show holdsB d a r = true by unfold holdsB; rw [hk, decide_eq_true pl.2, decide_eq_true pl.1]; rfl)
  have M1 := Lib.hid (show mayB a (bnd a r) d = true by
    unfold mayB
    simp only [Bool.and_eq_true, decide_eq_true_eq]
    omega)
  obtain ⟨pl1, pl2⟩ := pl
  have pl2 : d ≥ a - bnd a r := pl2
  generalize bnd a r = B at *
  have kk : (r > 0 ∧ ¬ (r - 1) * (r - 1) ≥ s ∧ 0 ≤ (r - 1) * (r - 1) ∧ (r - 1) * (r - 1) ≤ 70368744177664 ∧ (r == 0) = false ∧ decide (r = 0) = false) ∨ r = 0 := by
    by_cases hr : r > 0
    · exact .inl ⟨hr, by have := r3 hr; omega, nn _, by have := r3 hr; omega, by simp; omega, by simp; omega⟩
    · exact .inr (by omega)
  have r2' : ¬ r * r < s := by omega
  clear r3 hk
  rcases kk with ⟨t1, t2, t3, t4, t5, t6⟩ | rfl
  · rw [t6] at S
    go_enter Try.func4, Try.ntmps4
    go_wp2_with fail
    refine (lives_calls _).mono ?_
    rintro e w1 ⟨rfl, b1⟩
    go_wp2_with fail
    refine (C1 _ (hx.below b1)).mono ?_
    rintro e w2 ⟨rfl, b2⟩
    have b02 := below_trans b1 b2
    clear b1 b2
    go_wp2_with fail
    refine (C2 _ (hh.below b02)).mono ?_
    rintro e w3 ⟨rfl, b3⟩
    have b03 := below_trans b02 b3
    clear b02 b3
    go_wp2_with fail
    refine (C3 _ (hq.below b03)).mono ?_
    rintro e w4 ⟨rfl, b4⟩
    have b04 := below_trans b03 b4
    clear b03 b4
    go_wp2_with fail
    refine (D1 _ (hq.below b04) (hh.below b04)).mono ?_
    rintro e w5 ⟨rfl, b5⟩
    have b05 := below_trans b04 b5
    clear b04 b5
    go_wp2_with fail
    refine (D2 _ (hq.below b05) (hx.below b05)).mono ?_
    rintro e w6 ⟨rfl, b6⟩
    have b06 := below_trans b05 b6
    clear b05 b6
    go_wp2_with fail
    refine (D3 _ (hx.below b06) (hh.below b06)).mono ?_
    rintro e w7 ⟨rfl, b7⟩
    have b07 := below_trans b06 b7
    clear b06 b7
    go_wp2_with fail
    refine (D4 _ (hx.below b07) (hh.below b07)).mono ?_
    rintro e w8 ⟨rfl, b8⟩
    have b08 := below_trans b07 b8
    clear b07 b8
    go_wp2_with fail
    refine (Of_is _ _ _ _ O1).mono ?_
    rintro e w9 ⟨rfl, b9⟩
    have b09 := below_trans b08 b9
    clear b08 b9
    go_wp2_with fail
    refine (S _ (hx.below b09) (hh.below b09)).mono ?_
    rintro e w10 ⟨rfl, b10⟩
    have b010 := below_trans b09 b10
    clear b09 b10
    go_wp2_with fail
    refine (Holds_is _ _ _ _ _ K1).mono ?_
    rintro e w11 ⟨rfl, b11⟩
    have b011 := below_trans b010 b11
    clear b010 b11
    go_wp2_with fail
    refine (May_is _ _ _ _ _ M1).mono ?_
    rintro e w' ⟨rfl, rfl⟩
    go_wp2_with fail
    go_ret
    exact ⟨rfl, b011⟩
  · rw [show decide ((0 : Int) = 0) = true from rfl] at S
    clear z0 z1
    go_enter Try.func4, Try.ntmps4
    go_wp2_with fail
    refine (lives_calls _).mono ?_
    rintro e w1 ⟨rfl, b1⟩
    go_wp2_with fail
    refine (C1 _ (hx.below b1)).mono ?_
    rintro e w2 ⟨rfl, b2⟩
    have b02 := below_trans b1 b2
    clear b1 b2
    go_wp2_with fail
    refine (C2 _ (hh.below b02)).mono ?_
    rintro e w3 ⟨rfl, b3⟩
    have b03 := below_trans b02 b3
    clear b02 b3
    go_wp2_with fail
    refine (C3 _ (hq.below b03)).mono ?_
    rintro e w4 ⟨rfl, b4⟩
    have b04 := below_trans b03 b4
    clear b03 b4
    go_wp2_with fail
    refine (D1 _ (hq.below b04) (hh.below b04)).mono ?_
    rintro e w5 ⟨rfl, b5⟩
    have b05 := below_trans b04 b5
    clear b04 b5
    go_wp2_with fail
    refine (D2 _ (hq.below b05) (hx.below b05)).mono ?_
    rintro e w6 ⟨rfl, b6⟩
    have b06 := below_trans b05 b6
    clear b05 b6
    go_wp2_with fail
    refine (D3 _ (hx.below b06) (hh.below b06)).mono ?_
    rintro e w7 ⟨rfl, b7⟩
    have b07 := below_trans b06 b7
    clear b06 b7
    go_wp2_with fail
    refine (D4 _ (hx.below b07) (hh.below b07)).mono ?_
    rintro e w8 ⟨rfl, b8⟩
    have b08 := below_trans b07 b8
    clear b07 b8
    go_wp2_with fail
    refine (Of_is _ _ _ _ O1).mono ?_
    rintro e w9 ⟨rfl, b9⟩
    have b09 := below_trans b08 b9
    clear b08 b9
    go_wp2_with fail
    refine (S _ (hx.below b09) (hh.below b09)).mono ?_
    rintro e w10 ⟨rfl, b10⟩
    have b010 := below_trans b09 b10
    clear b09 b10
    go_wp2_with fail
    refine (Holds_is _ _ _ _ _ K1).mono ?_
    rintro e w11 ⟨rfl, b11⟩
    have b011 := below_trans b010 b11
    clear b010 b11
    go_wp2_with fail
    refine (May_is _ _ _ _ _ M1).mono ?_
    rintro e w' ⟨rfl, rfl⟩
    go_wp2_with fail
    go_ret
    exact ⟨rfl, b011⟩
end Go.Proofs.Ytaiibjbhblpbpaa
