import Derived.Test.YtipjmglieedimaaFrameScan2
import Derived.Test.YtipjmglieedimaaStrMem
namespace Go.Proofs.Ytipjmglieedimaa
set_option linter.unusedVariables false
set_option linter.unusedSimpArgs false
open Go.RowKit
theorem str_eq {xs ys : List Int} (hx : Bytes xs) (hy : Bytes ys) : ((strOfNums xs).toList == (strOfNums ys).toList) = decide (xs = ys) := by
  rw [ByteArray.toList_eq, ByteArray.toList_eq, strOfNums_data, strOfNums_data]
  by_cases h : xs = ys
  · subst h; simp
  · rw [decide_eq_false h, beq_eq_false_iff_ne]
    intro hh
    apply h
    have hl : xs.length = ys.length := by have := congrArg List.length hh; simpa using this
    refine List.ext_getElem hl fun i h1 h2 => ?_
    have h3 := congrArg (fun l : List UInt8 => l[i]?) hh
    simp [h1, h2] at h3
    have a := hx _ (List.getElem_mem h1)
    have b := hy _ (List.getElem_mem h2)
    have h4 := congrArg UInt8.toNat h3
    rw [UInt8.toNat_ofNat', UInt8.toNat_ofNat'] at h4
    omega
theorem octRPut_at (A : Option Addr) (c n : Nat) (b : List Int) (x m : Int) (w : World) (h : SlI w .u8 A c b) (hl : b.length ≤ 140737488355320) (hn : Hid (b.length = n)) (zs : List Int) (hz : Hid (b ++ Oct.lowB x (Oct.many8 m) = zs)) :
    Calls Try.prog 32 #[.slice A n c, .int .u64 x, .int .i64 m] w fun e w' => RetOwn 5 .u8 zs w e w' := hn.out ▸ Oct.RPut_is A c b x m w h hl zs hz
theorem ROf_at (A : Option Addr) (c n : Nat) (b : List Int) (w : World) (h : SlI w .u8 A c b) (hb : Bytes b) (hn : Hid (b.length = n)) (r : BitVec 32) (hr : Hid (more 0#32 b = r)) :
    Calls Try.prog 34 #[.slice A n c] w fun e w' => e = .returned (.int .u32 (uv r)) ∧ Below w.heap.size w w' := hn.out ▸ hr.out ▸ ROf_calls A c b w h hb
theorem octROf_at (A : Option Addr) (c n : Nat) (b : List Int) (w : World) (h : SlI w .u8 A c b) (hb : Bytes b) (hn : Hid (b.length = n)) (v : Int) (hv : Hid (Oct.ofB (b.take 8) = v)) :
    Calls Try.prog 35 #[.slice A n c] w fun e w' => e = .returned (.int .u64 v) ∧ w = w' := hn.out ▸ hv.out ▸ Oct.ROf_calls A c b w h hb
theorem RBytes_calls (A : Option Addr) (c : Nat) (p : List Int) (w : World) (h : SlI w .u8 A c p) (hb : Bytes p) (hl : p.length ≤ 33554432) :
    Calls Try.prog 22 #[.slice A p.length c] w fun e w' => RetOwnE 5 .u8 (frm p) 0 w e w' := by
  have i1 : ¬ (p.length : Int) > 33554432 := by omega
  have i2 : (0 : Int) ≤ (p.length : Int) := by omega
  obtain ⟨r, hr⟩ : ∃ r, Hid (more 0#32 (len4 p.length) = r) := ⟨_, Lib.hid rfl⟩
  obtain ⟨s, hs⟩ : ∃ s, Hid (uv (more 0#32 (len4 p.length ++ p)) = s) := ⟨_, Lib.hid rfl⟩
  have hs0 : 0 ≤ s ∧ s ≤ 4294967295 := by have := uv_range (more 0#32 (len4 p.length ++ p)); rw [hs.out] at this; omega
  have hrs : Hid (uv (more r p) = s) := by show _ = _; rw [← hr.out, more_append]; exact hs.out
  obtain ⟨L, hL⟩ : ∃ L, Hid (len4 p.length = L) := ⟨_, Lib.hid rfl⟩
  have LL : L.length = 4 := by rw [← hL.out]; exact len4_len _
  have LB : Bytes L := by rw [← hL.out]; exact lowB_bytes _ _
  have z1 : Hid ([] ++ Oct.lowB (p.length : Int) (Oct.many8 4) = L) := by show _ = _; rw [← hL.out]; rfl
  obtain ⟨M, hM⟩ : ∃ M, Hid (L ++ Oct.lowB s (Oct.many8 4) = M) := ⟨_, Lib.hid rfl⟩
  have ML : M.length = 8 := by rw [← hM.out]; simp [LL, Oct.lowB_length]; decide
  have hF : Hid (M ++ p = frm p) := by show _ = _; rw [← hM.out, ← hL.out, ← hs.out]; rfl
  rw [hL.out] at hr
  have HLL := Lib.hid LL
  have HML := Lib.hid ML
  have MR := fun w h => RMore_calls A c p r w h hb
  rw [hrs.out] at MR
  clear hL LL ML hs
  go_enter Try.func22, Try.ntmps22
  go_wp2_with fail
  refine (octRPut_at none 0 0 [] (p.length : Int) 4 _ (SlI.nil _ _) (by simp) (Lib.hid rfl) L z1).mono ?_
  rintro e w1 ⟨A1, c1, rfl, o1, b1⟩
  go_wp2_with fail
  refine (ROf_at A1 c1 _ L _ (OwnI.sl o1) LB (Lib.hid rfl) r hr).mono ?_
  rintro e w2 ⟨rfl, b2⟩
  have b02 := below_trans b1 b2
  have o2 := own_below o1 b2
  clear b2 o1
  go_wp2_with fail
  refine (MR _ (h.below b02)).mono ?_
  rintro e w3 ⟨rfl, b3⟩
  have b03 := below_trans b02 b3
  have o3 := own_below o2 b3
  clear b3 o2 b02
  go_wp2_with fail
  refine (octRPut_at A1 c1 _ L s 4 _ (OwnI.sl o3) (by have := HLL.out; omega) (Lib.hid rfl) M hM).mono ?_
  rintro e w4 ⟨A4, c4, rfl, o4, b4⟩
  have b04 := below_trans b03 b4
  have o4' := own_mono o4 b03.size
  clear b03 b4 o4 o3
  go_wp2_with (at_builtin; refine app_row_is w.heap.size rfl _ _ 22 5 .u8 1 rfl Try.underlying22 (by kernel_rfl) (by decide) _ _ M p (frm p) hF A c rfl rfl o4' (h.below b04).rd b04.size (by have := HML.out; omega) ?_)
  intro B1 d1 w5 o5 hg _
  go_wp2_with fail
  go_ret2
  exact ⟨_, _, rfl, o5, below_grown b04 hg o4' (Nat.le_refl _)⟩
theorem RBytes_long (A : Option Addr) (c : Nat) (p : List Int) (w : World) (h : SlI w .u8 A c p) (hl : ¬ p.length ≤ 33554432) :
    Calls Try.prog 22 #[.slice A p.length c] w fun e w' => RetOwnE 5 .u8 [] 3 w e w' := by
  have hm := h.len
  have i1 : (p.length : Int) > 33554432 := by omega
  go_enter Try.func22, Try.ntmps22
  go_wp2_with fail
  go_ret2
  exact ⟨_, _, rfl, own_nil _ _ _ _, Below.refl _ _⟩
theorem RSize_calls (n : Int) (w : World) : Calls Try.prog 26 #[.int .i64 n] w fun e w' => e = .returned (.int .i64 (sizeR n)) ∧ w = w' := by
  by_cases h1 : n < 0
  · have H := Lib.hid (show sizeR n = 0 by unfold sizeR; rw [if_pos (.inl h1)])
    go_enter Try.func26, Try.ntmps26
    go_wp2_with fail
    go_ret
    rw [H.out]; exact ⟨rfl, rfl⟩
  · by_cases h2 : n > 33554432
    · have H := Lib.hid (show sizeR n = 0 by unfold sizeR; rw [if_pos (.inr h2)])
      go_enter Try.func26, Try.ntmps26
      go_wp2_with fail
      go_ret
      rw [H.out]; exact ⟨rfl, rfl⟩
    · have H := Lib.hid (show sizeR n = n + 8 by unfold sizeR; rw [if_neg (by omega)]; omega)
      go_enter Try.func26, Try.ntmps26
      go_wp2_with fail
      go_ret
      rw [H.out]; exact ⟨rfl, rfl⟩
/-- The reference's test is the sum's. -/
theorem frm_same {b : List Int} (hb : Bytes b) (n : Nat) (hn : Oct.ofB (b.take 4) = n) (hl : n + 8 ≤ b.length) :
    frm ((b.drop 8).take n) = b.take (8 + n) ↔ uv (more 0#32 (b.take 4 ++ (b.drop 8).take n)) = Oct.ofB ((b.drop 4).take 4) := by
  have lp : ((b.drop 8).take n).length = n := by rw [List.length_take, List.length_drop]; omega
  have e4 : len4 ((b.drop 8).take n).length = b.take 4 := by
    rw [lp]; unfold len4; rw [← hn]
    exact lowB4_ofB (by rw [List.length_take]; omega) (hb.take 4)
  have es : b.take (8 + n) = b.take 4 ++ (b.drop 4).take 4 ++ (b.drop 8).take n := by
    have h1 := list_split8 (l := b.take (8 + n)) (by rw [List.length_take]; omega)
    rw [List.take_take, Nat.min_eq_left (by omega : 4 ≤ 8 + n)] at h1
    rw [h1]
    congr 1
    · congr 1
      rw [List.drop_take, List.take_take, Nat.min_eq_left (by omega)]
    · rw [List.drop_take]; congr 1; omega
  have hS : ((b.drop 4).take 4).length = 4 := by rw [List.length_take, List.length_drop]; omega
  have hr := uv_range (sealV ((b.drop 8).take n))
  rw [es]
  unfold frm
  have hseal : uv (sealV ((b.drop 8).take n)) = uv (more 0#32 (b.take 4 ++ (b.drop 8).take n)) := by unfold sealV; rw [e4]
  rw [e4, hseal]
  rw [hseal] at hr
  constructor
  · intro h
    have h1 := List.append_cancel_right h
    have h2 := List.append_cancel_left h1
    rw [← h2, ofB_lowB4 (by omega) (by omega)]
  · intro h
    rw [h, lowB4_ofB hS ((hb.drop 4).take 4)]
end Go.Proofs.Ytipjmglieedimaa
