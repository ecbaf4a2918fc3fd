import Derived.Test.YtipjmglieedimaaFrameFlat
import Derived.Test.YtipjmglieedimaaFrame2
import Derived.Test.YtipjmglieedimaaFrameRef3
namespace Go.Proofs.Ytipjmglieedimaa
set_option linter.unusedVariables false
set_option linter.unusedSimpArgs false
open Go.RowKit
/-- Rows of different kinds lie apart. -/
theorem own_apart {w : World} {base base' : Nat} {e e' : TypeId} {size size' n n' : Nat} {v v' : Value} {xs xs' : List Value} (h : w.ownsRow base e size v n xs) (h' : w.ownsRow base' e' size' v' n' xs') (hne : e ≠ e') : v.ownBlock = none ∨ v.ownBlock ≠ v'.ownBlock := by
  rcases h.2 with ⟨rfl, _⟩ | ⟨g, cap, cur, rfl, _, hh, _⟩
  · exact .inl rfl
  · right
    rcases h'.2 with ⟨rfl, _⟩ | ⟨g', cap', cur', rfl, _, hh', _⟩
    · simp [Value.ownBlock]
    · intro hg
      have hg : g = g' := by simpa [Value.ownBlock] using hg
      subst hg
      rw [hh] at hh'
      injection hh' with h1
      injection h1 with _ h2
      exact hne h2
def endsL (l : List (List Int)) : List Int := (List.range l.length).map fun k => (used (l.take (k + 1)) : Int)
theorem endsL_len (l : List (List Int)) : (endsL l).length = l.length := by simp [endsL]
theorem endsL_get {l : List (List Int)} {k : Nat} (h : k < l.length) : (endsL l).getD k 0 = (used (l.take (k + 1)) : Int) := by simp [endsL, List.getD_eq_getElem?_getD, h]
theorem endsL_take {l : List (List Int)} {k : Nat} (h : k < l.length) : endsL (l.take (k + 1)) = endsL (l.take k) ++ [(used (l.take (k + 1)) : Int)] := by
  have e1 : (l.take (k + 1)).length = k + 1 := by rw [List.length_take]; omega
  have e2 : (l.take k).length = k := by rw [List.length_take]; omega
  unfold endsL
  rw [e1, e2, List.range_succ, List.map_append]
  congr 1
  · apply List.map_congr_left
    intro i hi
    have := List.mem_range.1 hi
    rw [List.take_take, List.take_take, Nat.min_eq_left (by omega), Nat.min_eq_left (by omega)]
  · simp [List.take_take]
theorem used_le {l : List (List Int)} {m : Nat} (h : ∀ j, j < l.length → (l.getD j []).length ≤ m) : used l ≤ (8 + m) * l.length := by
  induction l with
  | nil => simp [used]
  | cons p l ih =>
    have h0 := h 0 (by simp)
    have h1 := ih fun j hj => by have := h (j + 1) (by simpa using hj); simpa using this
    simp only [used, List.length_cons, Nat.mul_succ]
    simp at h0
    omega
theorem used_mono {l : List (List Int)} {j k : Nat} (h : j ≤ k) : used (l.take j) ≤ used (l.take k) := by
  have : l.take k = l.take j ++ (l.take k).drop j := by
    conv => lhs; rw [← List.take_append_drop j (l.take k), List.take_take, Nat.min_eq_left h]
  rw [this, used_app]; omega
set_option maxHeartbeats 1000000 in
theorem joined_calls (A : Option Addr) (c : Nat) (l : List (List Int)) (w : World) (h : SlS w .u8 A c l) (hb : okP l) (hl : l.length ≤ 100000) (hl2 : ∀ j, j < l.length → (l.getD j []).length ≤ 100000) :
    Calls Try.prog 16 #[.slice A l.length c] w fun e w' => ∃ A1 c1 A2 c2, e = .returned (.tuple #[.slice A1 (frs l).length c1, .slice A2 (endsL l).length c2, .bool true]) ∧
      OwnI w' w.heap.size 5 .u8 A1 c1 (frs l) ∧ OwnI w' w.heap.size 3 .i64 A2 c2 (endsL l) ∧ Below w.heap.size w w' := by
  have hm := h.len
  have hul := used_le hl2
  go_enter Try.func16, Try.ntmps16
  go_wp2_with fail
  go_loopg [5, 6, 7] (l.length + 1) (fun gk o q i w' => ∃ (k : Nat) (A1 : Option Addr) (c1 : Nat) (A2 : Option Addr) (c2 : Nat), i = .int .i64 (k : Int) ∧ o = .slice A1 (frs (l.take k)).length c1 ∧ q = .slice A2 (endsL (l.take k)).length c2 ∧ k ≤ l.length ∧ l.length < k + gk ∧
    OwnI w' w.heap.size 5 .u8 A1 c1 (frs (l.take k)) ∧ OwnI w' w.heap.size 3 .i64 A2 c2 (endsL (l.take k)) ∧ Below w.heap.size w w')
  case atStart => exact ⟨0, none, 0, none, 0, rfl, rfl, rfl, by omega, by omega, own_nil _ _ _ _, own_nil _ _ _ _, Below.refl _ _⟩
  case round =>
    obtain ⟨k, A1, c1, A2, c2, rfl, rfl, rfl, hk, hg, o1, o2, bw⟩ := hrel
    by_cases hlt : k < l.length
    · have j1 : (k : Int) < (l.length : Int) := by omega
      obtain ⟨ad, B, d, rfl, hc, hs⟩ := (h.below bw).get k hlt
      have hpl := hl2 k hlt
      have hp := hb (l.getD k []) (by rw [List.getD_eq_getElem?_getD, List.getElem?_eq_getElem hlt]; exact List.getElem_mem hlt)
      have htk : l.take (k + 1) = l.take k ++ [l.getD k []] := by rw [List.take_add_one, List.getElem?_eq_getElem hlt, List.getD_eq_getElem?_getD, List.getElem?_eq_getElem hlt]; rfl
      have hft : frs (l.take (k + 1)) = frs (l.take k) ++ frm (l.getD k []) := by rw [htk, frs_app, frs, frs, List.append_nil]
      have het := endsL_take hlt
      have hel : (endsL (l.take k)).length = k := by rw [endsL_len, List.length_take]; omega
      have hfl := frs_len (l.take (k + 1))
      have hmono : used (l.take (k + 1)) ≤ used (l.take l.length) := used_mono (by omega)
      rw [List.take_length] at hmono
      have hfl2 : (frs (l.take (k + 1))).length ≤ 100008 * 100000 := by
        rw [hfl]
        have : (8 + 100000) * l.length ≤ 100008 * 100000 := Nat.mul_le_mul_left _ hl
        omega
      rw [← hfl] at het
      have FL := frm_len (l.getD k [])
      have hsz : sizeR ((l.getD k []).length : Int) = 8 + ((l.getD k []).length : Int) := by unfold sizeR; rw [if_neg (by omega)]
      have SZ := fun w => hsz ▸ Size_calls ((l.getD k []).length : Int) w
      have BC := fun w hw => Bytes_calls B d (l.getD k []) w hw hp.1 hp.2
      obtain ⟨F, hF⟩ : ∃ F, frm (l.getD k []) = F := ⟨_, rfl⟩
      rw [hF] at BC FL hft
      have i3 : ((F.length : Int) != 8 + ((l.getD k []).length : Int)) = false := by rw [bne_eq_false_iff_eq]; omega
      have HFL := Lib.hid FL
      have HFT := Lib.hid hft.symm
      have HET := Lib.hid het.symm
      rw [hft, List.length_append] at hfl2
      have HEL := Lib.hid hel
      generalize l.getD k [] = p at *
      generalize frs (l.take k) = fr at *
      generalize endsL (l.take k) = en at *
      clear hsz hF htk hft het hel hfl hmono FL
      go_wp2_with fail
      refine (BC _ hs).mono ?_
      rintro e w1 ⟨A3, c3, rfl, o3, b3⟩
      have o1 := own_below o1 b3
      have o2 := own_below o2 b3
      have bw1 := below_trans bw b3
      have s3 := OwnI.sl o3
      have hc := cell_below b3 _ _ hc
      clear b3 o3 hs
      go_wp2_with fail
      refine (SZ _).mono ?_
      rintro e w' ⟨rfl, rfl⟩
      go_wp2_with (at_builtin; refine app_row_is w.heap.size rfl _ _ 22 5 .u8 1 rfl Try.underlying22 (by kernel_rfl) (by decide) _ _ fr F _ HFT A3 c3 rfl rfl o1 s3.rd bw1.size (by have := HFL.out; omega) ?_)
      intro B1 d1 w4 o4 hg4 _
      have o2' := o2.kept hg4 (own_apart o2 o1 (by decide))
      have bw4 := below_grown bw1 hg4 o1 (Nat.le_refl _)
      clear o1 o2 bw1 bw hg4 s3 BC
      go_wp2_with (at_builtin; refine app_one w.heap.size rfl _ _ 38 3 .i64 8 rfl Try.underlying38 (by kernel_rfl) (by decide) A2 c2 en ((frs (l.take (k + 1))).length : Int) rfl rfl o2' bw4.size (by have := HEL.out; omega) ?_)
      intro B2 d2 w5 o5 hg5 _
      have o4' := o4.kept hg5 (own_apart o4 o2' (by decide))
      have bw5 := below_grown bw4 hg5 o2' (Nat.le_refl _)
      rw [HET.out] at o5
      have HL2 := Lib.hid (show (endsL (l.take (k + 1))).length = en.length + 1 by rw [← HET.out]; simp)
      clear o4 o2' bw4 hg5
      go_wp2_with fail
      go_roundg (gk - 1)
      case measure => omega
      case rel => exact ⟨k + 1, B1, d1, B2, d2, by simp, rfl, by rw [HL2.out], by omega, by omega, o4', o5, bw5⟩
    · have j1 : ¬ (k : Int) < (l.length : Int) := by omega
      obtain rfl : k = l.length := by omega
      rw [List.take_length] at o1 o2 ⊢
      go_wp2_with fail
      go_ret3
      exact ⟨A1, c1, A2, c2, rfl, o1, o2, bw⟩
end Go.Proofs.Ytipjmglieedimaa
