/- Slots in memory: least. -/
import Derived.Test.YtcmdjnllpcnpjaaDoorSlotF
import Derived.Lib.Hide
namespace Go.Proofs.YtcmdjnllpcnpjaaDoor
set_option linter.unusedVariables false
set_option linter.unusedSimpArgs false
open Go.RowKit
theorem bits_not (n : Nat) (h : n < 18446744073709551616) : bits BinOp.xor IntKind.u64 IntKind.u64.max (n : Int) = ((18446744073709551615 - n : Nat) : Int) := by
  have h2 : BitVec.ofInt 64 (n : Int) = BitVec.ofNat 64 n := BitVec.ofInt_natCast ..
  have h1 : BitVec.ofInt 64 IntKind.u64.max = BitVec.allOnes 64 := by decide
  show IntKind.u64.wrap ((BitVec.ofInt 64 IntKind.u64.max ^^^ BitVec.ofInt 64 (n : Int)).toNat : Int) = _
  rw [h1, h2, BitVec.allOnes_xor, BitVec.toNat_not, BitVec.toNat_ofNat, IntKind.wrap_u64]
  omega
theorem least_calls (S : Nat → Prop) (g dim room : Nat) (st : St) (tr : List Int) (w : World) (h : SLOTS w S g dim room st tr) (hT : TabG w) (hl : st.length ≤ 1000000) :
    Calls Tryd.prog 32 #[PtrS g] w fun e w' => e = .returned (.int .i64 (leastS st : Nat)) ∧ w = w' := by
  obtain ⟨_, tk, al, T, tc, A, ac, R, rc, h, hws, _⟩ := h
  have c3 := h.blk.cell 3
  simp only [List.getElem?_cons_zero, List.getElem?_cons_succ] at c3
  have htl : tk.length ≤ 1000000 := by have := hws.len; omega
  have HW := Lib.hid hws
  have HO := OwnI.sl h.ot
  have hsg : IntKind.u64.signed = false := rfl
  clear h hws
  unfold PtrS
  go_enter Tryd.func32, Tryd.ntmps32
  go_wp2_with fail
  go_loopg [3, 4, 10] (tk.length + 1) (fun gk u3 u4 i w' => ∃ j : Nat, i = .int .i64 (j : Int) ∧ j ≤ tk.length ∧ tk.length < j + gk ∧ Hid (∀ n, n < j * 64 → used st n = true) ∧ w = w')
  case atStart => exact ⟨0, rfl, by omega, by omega, (fun n hn => absurd hn (by omega)), rfl⟩
  case round =>
    obtain ⟨j, rfl, hj, hg, HP, rfl⟩ := hrel
    by_cases hlt : j < tk.length
    · have i1 : (j : Int) < (tk.length : Int) := by omega
      obtain ⟨ad, rfl, hc⟩ := HO.get j hlt
      have hbd := HW.out.at j hlt
      by_cases hx : tk.getD j 0 = 18446744073709551615
      · have hp := Lib.hid (HW.out.full j hlt HP.out hx)
        rw [hx] at hc
        clear hx hbd
        go_wp2_with fail
        go_roundg (gk - 1)
        case measure => omega
        case rel => exact ⟨j + 1, by simp, by omega, by omega, hp, rfl⟩
      · have hf := Lib.hid (HW.out.found j hlt HP.out hx)
        generalize tk.getD j 0 = x at *
        obtain ⟨n, rfl⟩ := Int.eq_ofNat_of_zero_le hbd.1
        rw [Int.toNat_natCast] at hf
        have hb : ((n : Int) != 18446744073709551615) = true := by simp; exact hx
        have TZ := TZ_calls (18446744073709551615 - n) w hT (by omega) (by omega)
        have hk := (low_clear (x := n) (by omega)).1
        have hxor := bits_not n (by omega)
        rw [← hxor] at TZ
        generalize Lib.ctz 64 (18446744073709551615 - n) = k at *
        clear hx hxor
        go_wp2_with fail
        refine TZ.mono ?_
        rintro e _ ⟨rfl, rfl⟩
        go_wp2_with fail
        go_ret
        exact ⟨ret_int' (by have := hf.out; omega), rfl⟩
    · have i1 : ¬ (j : Int) < (tk.length : Int) := by omega
      have he : j = tk.length := by omega
      have hf := Lib.hid (HW.out.all (by rw [← he]; exact HP.out))
      clear he
      go_wp2_with fail
      go_ret
      exact ⟨ret_int' (by have := hf.out; omega), rfl⟩
end Go.Proofs.YtcmdjnllpcnpjaaDoor
