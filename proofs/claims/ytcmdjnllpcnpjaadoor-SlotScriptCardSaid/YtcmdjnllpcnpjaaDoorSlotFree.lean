/- Slots in memory: Free. -/
import Derived.Test.YtcmdjnllpcnpjaaDoorSlotG
namespace Go.Proofs.YtcmdjnllpcnpjaaDoor
set_option linter.unusedVariables false
set_option linter.unusedSimpArgs false
open Go.RowKit
theorem shl_one (b : Nat) (hb : b < 64) : IntKind.u64.wrap (2 ^ b) = ((2 ^ b : Nat) : Int) := by
  have hp : 2 ^ b < 2 ^ 64 := Nat.pow_lt_pow_right (by decide) hb
  have e : (2 : Int) ^ b = ((2 ^ b : Nat) : Int) := by simp
  rw [IntKind.wrap_u64, e]
  generalize 2 ^ b = q at *
  omega
theorem bits_clear {x : Int} (h0 : 0 ≤ x) (h1 : x < 18446744073709551616) (b : Nat) (hb : b < 64) : bits BinOp.andNot IntKind.u64 x (IntKind.u64.wrap (2 ^ b)) = ((x.toNat &&& (18446744073709551615 - 2 ^ b) : Nat) : Int) := by
  obtain ⟨n, rfl⟩ := Int.eq_ofNat_of_zero_le h0
  have hp : 2 ^ b < 2 ^ 64 := Nat.pow_lt_pow_right (by decide) hb
  rw [shl_one b hb, Int.toNat_natCast]
  have h2 : (BitVec.ofInt 64 (n : Int)).toNat = n := by
    rw [BitVec.ofInt_natCast, BitVec.toNat_ofNat]; exact Nat.mod_eq_of_lt (by omega)
  have h3 : (BitVec.ofInt 64 ((2 ^ b : Nat) : Int)).toNat = 2 ^ b := by
    rw [BitVec.ofInt_natCast, BitVec.toNat_ofNat]; exact Nat.mod_eq_of_lt (by omega)
  have hle : n &&& (18446744073709551615 - 2 ^ b) ≤ n := Nat.and_le_left
  show IntKind.u64.wrap ((BitVec.ofInt 64 (n : Int) &&& ~~~ BitVec.ofInt 64 ((2 ^ b : Nat) : Int)).toNat : Int) = _
  rw [BitVec.toNat_and, BitVec.toNat_not, h2, h3, IntKind.wrap_u64]
  have e : 2 ^ 64 - 1 - 2 ^ b = 18446744073709551615 - 2 ^ b := by omega
  rw [e]
  omega
theorem bits_set {x : Int} (h0 : 0 ≤ x) (h1 : x < 18446744073709551616) (b : Nat) (hb : b < 64) : bits BinOp.or IntKind.u64 x (IntKind.u64.wrap (2 ^ b)) = ((x.toNat ||| 2 ^ b : Nat) : Int) := by
  obtain ⟨n, rfl⟩ := Int.eq_ofNat_of_zero_le h0
  have hp : 2 ^ b < 2 ^ 64 := Nat.pow_lt_pow_right (by decide) hb
  rw [shl_one b hb, Int.toNat_natCast, bits_or_u64_nat n _ (by omega) (by omega)]
theorem SFree_nil (n : Int) (w : World) : Calls Tryd.prog 12 #[.pointer none, .int .i64 n] w fun e w' => e = .returned (.int .i64 1) ∧ w = w' := by
  go_enter Tryd.func12, Tryd.ntmps12
  go_wp2_with fail
  go_ret
  exact ⟨rfl, rfl⟩
theorem SFree_no (S : Nat → Prop) (g dim room : Nat) (st : St) (tr : List Int) (n : Int) (w : World) (h : SLOTS w S g dim room st tr) (hn : n ≤ 9223372036854775807) (hl : st.length ≤ 1000) (hu : hasI st n = false) :
    Calls Tryd.prog 12 #[PtrS g, .int .i64 n] w fun e w' => e = .returned (.int .i64 6) ∧ w = w' := by
  have HS := SHas_calls S g dim room st tr n w h hn (by omega)
  rw [hu] at HS
  clear h hu
  unfold PtrS at HS ⊢
  go_enter Tryd.func12, Tryd.ntmps12
  go_wp2_with fail
  refine HS.mono ?_
  rintro e _ ⟨rfl, rfl⟩
  go_wp2_with fail
  go_ret
  exact ⟨rfl, rfl⟩
theorem SFree_yes (S : Nat → Prop) (g dim room : Nat) (st : St) (tr : List Int) (m : Nat) (w : World) (h : SLOTS w S g dim room st tr) (hl : st.length ≤ 1000) (hu : used st m = true) :
    Calls Tryd.prog 12 #[PtrS g, .int .i64 m] w fun e w' => e = .returned (.int .i64 0) ∧ SLOTS w' S g dim room (freeS st m) tr ∧ Keep S w w' := by
  have hm := used_lt hu
  have HS := SHas_calls S g dim room st tr m w h (by omega) (by omega)
  rw [show hasI st (m : Int) = true from by unfold hasI; simp [hu]] at HS
  obtain ⟨hd, tk, al, T, tc, A, ac, R, rc, h, hws, hns⟩ := h
  have hlen := hws.len
  have hlt : m / 64 < tk.length := by omega
  obtain ⟨gt, rfl, _⟩ := own_form h.ot (by omega)
  have hne := (h.st gt rfl).2
  obtain ⟨c0, c1, c2, c3, c4, c5⟩ := h.cells
  obtain ⟨x1, f1⟩ := OwnI.cell h.ot (m / 64) hlt
  have f2 := h.blk.frozen 2
  have i1 : (m : Int) / 64 < (tk.length : Int) := by omega
  have hcnt := cnt_free st m hu
  have hcl := cnt_le st
  have HB := Lib.hid (hws.at _ hlt)
  have HW := Lib.hid (hws.free m hu)
  clear hws hlen hu
  generalize hx : tk.getD (m / 64) 0 = x at *
  have c2' := fun v : Value => (World.cell?_setCell_other w ⟨gt, m / 64, none⟩ ⟨g, 2, none⟩ v (fun e => hne (by injection e))).trans c2
  unfold PtrS at HS ⊢
  go_enter Tryd.func12, Tryd.ntmps12
  go_wp2_with fail
  refine HS.mono ?_
  rintro e _ ⟨rfl, rfl⟩
  clear HS
  go_wp2_with fail
  go_region
  all_goals go_wp2_with fail
  go_ret
  have e1 := bits_clear HB.out.1 HB.out.2 (m % 64) (by omega)
  rw [e1, show ((cntS st : Int) - 1) = (cntS (freeS st m) : Int) by omega]
  refine ⟨rfl, ⟨hd, _, al, _, tc, A, ac, R, rc, ((h.setT (m / 64) _).setCnt _).below ((Below.refl _ _).drew), HW.out, hns.free m⟩, ?_⟩
  refine ((((Keep.cell w gt (m / 64) _).more (U := S) fun k hk => ?_).trans ((Keep.cell _ g 2 _).more (U := S) fun k hk => ?_) fun _ _ hk => hk)).trans (Keep.of_below S ((Below.refl _ _).drew)) fun _ _ hk => hk
  · subst hk; exact (h.st _ rfl).1
  · subst hk; exact h.sg
end Go.Proofs.YtcmdjnllpcnpjaaDoor
