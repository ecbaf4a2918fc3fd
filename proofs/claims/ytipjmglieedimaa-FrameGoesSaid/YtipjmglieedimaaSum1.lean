import Derived.Test.YtipjmglieedimaaSum0
import Derived.Laws.CopyOwn
namespace Go.Proofs.Ytipjmglieedimaa
set_option linter.unusedVariables false
set_option linter.unusedSimpArgs false
open Go.RowKit
def Bytes (xs : List Int) : Prop := ∀ x ∈ xs, 0 ≤ x ∧ x ≤ 255
theorem Bytes.getD {xs : List Int} (h : Bytes xs) {j : Nat} (hj : j < xs.length) : 0 ≤ xs.getD j 0 ∧ xs.getD j 0 ≤ 255 := by
  rw [List.getD_eq_getElem?_getD, List.getElem?_eq_getElem hj]; exact h _ (List.getElem_mem hj)
theorem Bytes.take {xs : List Int} (h : Bytes xs) (n : Nat) : Bytes (xs.take n) := fun x hx => h x (List.mem_of_mem_take hx)
theorem Bytes.drop {xs : List Int} (h : Bytes xs) (n : Nat) : Bytes (xs.drop n) := fun x hx => h x (List.mem_of_mem_drop hx)
theorem tab_len : tab.length = 256 := by simp [tab]
theorem tab_get {k : Nat} (h : k < 256) : tab.getD k 0 = uv (mvN 8 (BitVec.ofNat 32 k)) := by
  simp [tab, List.getD_eq_getElem?_getD, h]
theorem by32_toNat {c : Int} (h0 : 0 ≤ c) (h1 : c ≤ 255) : (by32 c).toNat = c.toNat := by
  unfold by32; rw [BitVec.toNat_ofNat, Nat.mod_eq_of_lt (by omega)]
/-- The place in the table. -/
theorem idx_is (s : BitVec 32) {c : Int} (h0 : 0 ≤ c) (h1 : c ≤ 255) : bits .xor .u8 (uv s % 256) c = ((((s ^^^ by32 c) &&& 255#32).toNat : Nat) : Int) := by
  have hc : (by32 c).toNat = c.toNat := by32_toNat h0 h1
  unfold uv
  rw [show ((s.toNat : Int) % 256) = ((s.toNat % 256 : Nat) : Int) by omega, show c = ((c.toNat : Nat) : Int) by omega, u8_xor_nat _ _ (by omega) (by omega)]
  congr 1
  rw [BitVec.toNat_and, BitVec.toNat_xor]
  have e : (255#32).toNat = 2 ^ 8 - 1 := by decide
  rw [e, Nat.and_two_pow_sub_one_eq_mod, Nat.xor_mod_two_pow]
  rw [show (by32 ((c.toNat : Nat) : Int)).toNat = c.toNat by rw [show ((c.toNat : Nat) : Int) = c by omega, hc]]
  rw [Nat.mod_eq_of_lt (a := c.toNat) (by omega)]
theorem idx_lt (s c : BitVec 32) : ((s ^^^ c) &&& 255#32).toNat < 256 := by
  rw [BitVec.toNat_and]
  exact Nat.lt_of_le_of_lt Nat.and_le_right (by decide)
/-- One byte by the table. -/
theorem tab_is (s : BitVec 32) {c : Int} (h0 : 0 ≤ c) (h1 : c ≤ 255) : bits .xor .u32 (tab.getD ((s ^^^ by32 c) &&& 255#32).toNat 0) (uv s / 256) = uv (mvN 8 (s ^^^ by32 c)) := by
  rw [tab_get (idx_lt _ _), show (uv s / 256 : Int) = uv (s >>> 8) from uv_shr s 8, uv_xor, tab_step s (by32 c) (by rw [by32_toNat h0 h1]; omega)]
  congr 2
  rw [BitVec.ofNat_toNat]; simp
theorem feed_take (r : BitVec 32) (b : List Int) (j : Nat) (h : j < b.length) : feed r (b.take (j + 1)) = mvN 8 (feed r (b.take j) ^^^ by32 (b.getD j 0)) := by
  rw [List.take_add_one, feed_append, List.getElem?_eq_getElem h, List.getD_eq_getElem?_getD, List.getElem?_eq_getElem h]; rfl
set_option maxHeartbeats 1000000 in
theorem More_calls (A : Option Addr) (c : Nat) (b : List Int) (s : BitVec 32) (w : World) (h : SlI w .u8 A c b) (hb : Bytes b) :
    Calls Try.prog 36 #[.int .u32 (uv s), .slice A b.length c] w fun e w' => e = .returned (.int .u32 (uv (more s b))) ∧ Below w.heap.size w w' := by
  have zv := (zero_of_info (P := Try.prog) (t := 61) (v := .agg (nums .u32 (List.replicate 256 0)).toArray) (n := 256) (by kernel_rfl)).1
  obtain ⟨zs, hz⟩ : ∃ zs : List Int, Hid (zs = List.replicate 256 0) := ⟨_, Lib.hid rfl⟩
  obtain ⟨T, hT⟩ : ∃ T : List Int, Hid (T = tab) := ⟨_, Lib.hid rfl⟩
  rw [← hz.out] at zv
  have hm := h.len
  have hnot := uv_notm s
  have hsg : IntKind.u32.signed = false := rfl
  go_enter Try.func36, Try.ntmps36
  go_wp2_with fail
  refine (table_calls _).mono ?_
  rintro e w1 ⟨rfl, b1⟩
  rw [← hT.out]
  have ha := Arr.alloc w1 61 zs
  have HS := Lib.hid (show (Try.prog.info? 61).map (·.size) = some 256 by kernel_rfl)
  have HN := Lib.hid (show zs.length = 256 by rw [hz.out]; exact List.length_replicate)
  have HM := Lib.hid (show T.length = 256 by rw [hT.out]; exact tab_len)
  have pw : w.heap.size ≤ w1.heap.size := b1.size
  go_wp2_with (first
    | (refine wp_store_arr rfl 61 _ _ rfl T ha HS.out HN.out HM.out rfl rfl rfl ?_))
  have ha2 := ha.row T
  have hb2 := below_setRow (below_alloc b1 (.cells (nums .u32 zs).toArray 61)) pw (nums .u32 T).toArray
  go_loopg [0, 7, 13] (b.length + 1) (fun gk s' u i w' => ∃ j : Nat, i = .int .i64 (j : Int) ∧ s' = .int .u32 (uv (feed (~~~ s) (b.take j))) ∧ j ≤ b.length ∧ b.length < j + gk ∧ Arr w' w1.heap.size 61 T ∧ Below w.heap.size w w')
  case atStart => exact ⟨0, rfl, rfl, by omega, by omega, ha2, hb2⟩
  case round =>
    clear ha2 hb2 ha
    obtain ⟨j, rfl, rfl, hj, hg, ha, hb2⟩ := hrel
    by_cases hlt : j < b.length
    · have hjl : (j : Int) < (b.length : Int) := by omega
      obtain ⟨ad, rfl, hcell⟩ := (h.below hb2).get j hlt
      have hcb := hb.getD hlt
      have ft := feed_take (~~~ s) b j hlt
      generalize b.getD j 0 = x at *
      generalize feed (~~~ s) (b.take j) = r at *
      have hidx := idx_is r hcb.1 hcb.2
      have hil := idx_lt r (by32 x)
      have htab := tab_is r hcb.1 hcb.2
      rw [← hT.out, ← ft] at htab
      have hc2 := ha.cell _ (by rw [HM.out]; exact hil)
      generalize ((r ^^^ by32 x) &&& 255#32).toNat = k at *
      generalize T.getD k 0 = y at *
      have hk0 : (k : Int) < 256 := by omega
      go_wp2_with fail
      go_roundg (gk - 1)
      case measure => omega
      case rel => exact ⟨j + 1, by simp, by rw [ft], by omega, by omega, ha, hb2⟩
    · have hjl : ¬ (j : Int) < (b.length : Int) := by omega
      obtain rfl : j = b.length := by omega
      have hnot2 := uv_notm (feed (~~~ s) b)
      rw [List.take_length] at *
      go_wp2_with fail
      go_ret
      exact ⟨rfl, hb2⟩
end Go.Proofs.Ytipjmglieedimaa
