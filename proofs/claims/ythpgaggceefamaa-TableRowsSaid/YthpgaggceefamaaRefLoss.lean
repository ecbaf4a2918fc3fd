/- The reference's Loss, of a valid book and a vector that fits; and a valid book's table is valid. -/
import Derived.Test.YthpgaggceefamaaRefEnc
import Derived.Test.YthpgaggceefamaaRefT1
namespace Go.Proofs.Ythpgaggceefamaa
set_option linter.unusedVariables false
set_option linter.unusedSimpArgs false
open Go.RowKit
theorem decN_mem {b : List (List (List Int))} {code : List Int} (hck : ckB b = 0) (hf : ∀ p, p < b.length → 0 ≤ code.getD p 0 ∧ code.getD p 0 < ((b.getD p []).length : Int)) (j : Nat) (hj : j ≤ b.length) : ∀ v ∈ decN b code j, -131072 ≤ v ∧ v ≤ 131072 := by
  induction j with
  | zero => intro v hv; cases hv
  | succ j ih =>
    intro v hv
    have h := hf j (by omega)
    have h2 := ((ckB_ok hck).2.2.2.2.2.2.2 j (by omega)).2 (code.getD j 0).toNat (by omega)
    unfold decN at hv
    rcases List.mem_append.1 hv with hv | hv
    · exact ih (by omega) v hv
    · exact (ckW_ok h2.2).2.2 v hv
theorem argT_length (t : List (List Int)) : (argT t).length = t.length := by simp [argT]
theorem argT_fit {b : List (List (List Int))} (r : List Int) (hck : ckB b = 0) : ∀ p, p < b.length → 0 ≤ (argT (tabI b r)).getD p 0 ∧ (argT (tabI b r)).getD p 0 < ((b.getD p []).length : Int) := by
  intro p hp
  have l := (ckB_ok hck).2.2.2.2.2.2.2 p hp
  have l2 := (ckB_ok hck).2.1
  have e : (argT (tabI b r)).getD p 0 = ((argN (rowI (partR r (wdB b) p) (b.getD p [])) ((rowI (partR r (wdB b) p) (b.getD p [])).length - 1) : Nat) : Int) := by
    simp [argT, tabI, List.getD_eq_getElem?_getD, hp]
  rw [e]
  have := argN_le (rowI (partR r (wdB b) p) (b.getD p [])) ((rowI (partR r (wdB b) p) (b.getD p [])).length - 1)
  have hl : (rowI (partR r (wdB b) p) (b.getD p [])).length = (b.getD p []).length := by simp [rowI]
  rw [hl] at this ⊢
  have := l.1
  omega
theorem dist_dec {b : List (List (List Int))} {r code : List Int} (h1 : ckB b = 0) (h2 : ckW r = 0) (hrl : r.length = b.length * wdB b) (hf : ∀ p, p < b.length → 0 ≤ code.getD p 0 ∧ code.getD p 0 < ((b.getD p []).length : Int)) : distI r (decN b code b.length) = (sumN (tabI b r) code b.length, 0) := by
  have hl := decN_length h1 hf b.length (Nat.le_refl _)
  have l9 := ckW_ok h2
  have hd : ckW (decN b code b.length) = 0 := ckW_of (by omega) (by omega) (decN_mem h1 hf b.length (Nat.le_refl _))
  unfold distI
  rw [if_pos (by unfold pairE; rw [h2, hd, hl, hrl]; simp), sumN_dsq h1 hf b.length (Nat.le_refl _), hrl]
theorem dsq_le {b : List (List (List Int))} {r : List Int} (h1 : ckB b = 0) (h2 : ckW r = 0) (hrl : r.length = b.length * wdB b) (p : Nat) (hp : p < b.length) (s : Nat) (hs : s < (b.getD p []).length) :
    0 ≤ dsq (partR r (wdB b) p) ((b.getD p []).getD s []) ((b.getD p []).getD s []).length ∧ dsq (partR r (wdB b) p) ((b.getD p []).getD s []) ((b.getD p []).getD s []).length ≤ 70368744177664 := by
  have l := ckB_ok h1
  have h := (l.2.2.2.2.2.2.2 p hp).2 s hs
  have hw := ckW_ok h.2
  have hr := ckW_ok h2
  have hb := dsq_bd (a := partR r (wdB b) p) (b := (b.getD p []).getD s []) (fun v hv => hr.2.2 v (partR_mem hv)) hw.2.2 ((b.getD p []).getD s []).length (by rw [partR_length hrl hp, h.1]; exact Nat.le_refl _) (Nat.le_refl _)
  have := hw.2.1
  omega
theorem ckT_tabI {b : List (List (List Int))} {r : List Int} (h1 : ckB b = 0) (h2 : ckW r = 0) (hrl : r.length = b.length * wdB b) : ckT (tabI b r) = 0 := by
  have l := ckB_ok h1
  have hg : ∀ p, p < b.length → (tabI b r).getD p [] = rowI (partR r (wdB b) p) (b.getD p []) := fun p hp => by simp [tabI, List.getD_eq_getElem?_getD, hp]
  refine ckT_good (by rw [tabI_length]; omega) (by rw [tabI_length]; omega) fun p hp => ?_
  rw [tabI_length] at hp
  rw [hg p hp]
  have hl : (rowI (partR r (wdB b) p) (b.getD p [])).length = (b.getD p []).length := by simp [rowI]
  have lp := (l.2.2.2.2.2.2.2 p hp).1
  refine badR_no (by omega) (by omega) fun i hi => ?_
  rw [hl] at hi
  have e : (rowI (partR r (wdB b) p) (b.getD p [])).getD i 0 = dsq (partR r (wdB b) p) ((b.getD p []).getD i []) ((b.getD p []).getD i []).length := by
    generalize b.getD p [] = l at *
    simp [rowI, List.getD_eq_getElem?_getD, hi]
  rw [e]
  have := dsq_le h1 h2 hrl p hp i hi
  omega
set_option maxHeartbeats 1000000 in
theorem RLoss_calls (A B : Option Addr) (c d : Nat) (b : List (List (List Int))) (r : List Int) (w : World) (h : SlB w .i32 A c b) (k : SlI w .i32 B d r) (hS : shortB b) (h1 : ckB b = 0) (h2 : ckW r = 0) (hrl : r.length = b.length * wdB b) :
    Calls Try.prog 22 #[.agg #[.slice A b.length c], .slice B r.length d] w fun e w' => e = .returned (.tuple #[.int .i64 (leastN (tabI b r) b.length), .int .i64 0]) ∧ Below w.heap.size w w' := by
  have hm := h.len
  have km := k.len
  have b1 := below_alloc (Below.refl w.heap.size w) (.cells #[.slice A b.length c] 24)
  have hbox := box_cell (w := w) 24 (.slice A b.length c)
  have CE := REncode_calls A B c d b r _ (h.below b1) (k.below b1) hS h1 h2 hrl
  have hal : (argT (tabI b r)).length = b.length := by rw [argT_length, tabI_length]
  have CD := fun A1 c1 W (hW : Below w.heap.size w W) (ho : SlI W .u8 A1 c1 (argT (tabI b r))) => RDecode_calls A A1 c c1 b (argT (tabI b r)) W (h.below hW) ho hS h1 hal (argT_fit r h1)
  rw [hal] at CD
  have CR := fun A1 c1 W (hW : Below w.heap.size w W) (ho : SlI W .i32 A1 c1 (decN b (argT (tabI b r)) b.length)) => RDist_calls B A1 d c1 r (decN b (argT (tabI b r)) b.length) W (k.below hW) ho
  rw [dist_dec h1 h2 hrl (argT_fit r h1)] at CR
  have HL := leastN_sumN (t := tabI b r) b.length (by rw [tabI_length]; exact Nat.le_refl _)
  rw [← HL] at CR
  dsimp only at CR
  clear h1 h2 hrl hal HL hS
  generalize leastN (tabI b r) b.length = lv at *
  generalize decN b (argT (tabI b r)) b.length = dn at *
  generalize argT (tabI b r) = at' at *
  go_enter Try.func22, Try.ntmps22
  go_wp2_with fail
  refine CE.mono ?_
  rintro e w1 ⟨A1, c1, rfl, o1, b2⟩
  have bt := below_trans b1 b2
  replace hbox := cell_below b2 _ _ hbox
  have s1 := OwnI.sl o1
  clear b1 b2 CE o1
  go_wp2_with fail
  refine (CD _ _ _ bt s1).mono ?_
  rintro e w2 ⟨A2, c2, rfl, o2, b2⟩
  have bt2 := below_trans bt b2
  have s2 := OwnI.sl o2
  clear bt b2 CD o2 s1
  go_wp2_with fail
  refine (CR _ _ _ bt2 s2).mono ?_
  rintro e w3 ⟨rfl, b3⟩
  go_wp2_with fail
  first | go_ret2 | go_ret
  exact ⟨rfl, below_trans bt2 b3⟩
end Go.Proofs.Ythpgaggceefamaa
