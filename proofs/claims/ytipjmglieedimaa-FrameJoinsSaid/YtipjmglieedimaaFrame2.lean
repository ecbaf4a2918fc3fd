import Derived.Test.YtipjmglieedimaaFrame1
namespace Go.Proofs.Ytipjmglieedimaa
set_option linter.unusedVariables false
set_option linter.unusedSimpArgs false
open Go.RowKit
theorem Bytes_at (A : Option Addr) (c n : Nat) (p : List Int) (w : World) (h : SlI w .u8 A c p) (hb : Bytes p) (hl : p.length ≤ 33554432) (hn : Hid (p.length = n)) (zs : List Int) (hz : Hid (frm p = zs)) :
    Calls Try.prog 10 #[.slice A n c] w fun e w' => RetOwnE 5 .u8 zs 0 w e w' := hn.out ▸ hz.out ▸ Bytes_calls A c p w h hb hl
def OneAt (zs : List Int) (n er : Int) (w : World) (e : Ending) (w' : World) : Prop := ∃ A' c', e = .returned (.tuple #[.slice A' zs.length c', .int .i64 n, .int .i64 er]) ∧ OwnI w' w.heap.size 5 .u8 A' c' zs ∧ Below w.heap.size w w'
theorem One_at (A : Option Addr) (c n : Nat) (b : List Int) (w : World) (h : SlI w .u8 A c b) (hb : Bytes b) (hl : b.length ≤ 140737488355328) (hn : Hid (b.length = n)) (zs : List Int) (m er : Int) (hz : Hid (oneR b = (zs, m, er))) :
    Calls Try.prog 12 #[.slice A n c] w fun e w' => OneAt zs m er w e w' := by
  have := One_calls A c b w h hb hl
  rw [hn.out] at this
  unfold OneOwn at this
  rw [hz.out] at this
  exact this
theorem Same_at (A B : Option Addr) (c d n m : Nat) (xs ys : List Int) (w : World) (h : SlI w .u8 A c xs) (k : SlI w .u8 B d ys) (hn : Hid (xs.length = n)) (hm : Hid (ys.length = m)) (q : Bool) (hq : Hid (decide (xs = ys) = q)) :
    Calls Try.prog 14 #[.slice A n c, .slice B m d] w fun e w' => e = .returned (.bool q) ∧ Below w.heap.size w w' := by
  have := Same_byte_b A B c d xs ys w h k
  rw [hn.out, hm.out, hq.out] at this; exact this
def F0 : List Int := [0, 0, 0, 0, 199, 75, 103, 72]
theorem lives_calls (w : World) : Calls Try.prog 9 #[] w fun e w' => e = .returned (.bool true) ∧ Below w.heap.size w w' := by
  have HF : Hid (frm [] = F0) := by show _ = _; decide +kernel
  have HO : Hid (oneR F0 = ([], 8, 0)) := by show _ = _; decide +kernel
  have BF : Bytes F0 := by unfold Bytes; decide
  have hq : Hid (decide (F0.take 4 = [0, 0, 0, 0]) = true) := by show _ = _; decide
  have HL : Hid (F0.length = 8) := by show _ = _; rfl
  have HT : Hid ((F0.take 4).length = 4) := by show _ = _; rfl
  have hmk : ∀ w : World, (Instr.makeSlice 22 (.int .i64 4) (.int .i64 4)).run Try.prog w = .ok (.slice (some ⟨w.heap.size, 0, none⟩) 4 4) (w.alloc (.cells (nums .u8 [0, 0, 0, 0]).toArray 5)) := fun _ => by kernel_rfl
  generalize F0 = F at *
  go_enter Try.func9, Try.ntmps9
  go_wp2_with fail
  refine (Bytes_at none 0 0 [] _ (SlI.nil _ _) (by simp [Bytes]) (by simp) (Lib.hid rfl) F HF).mono ?_
  rintro e w1 ⟨A1, c1, rfl, o1, b1⟩
  rw [HL.out]
  go_wp2_with fail
  refine (One_at A1 c1 8 F _ (OwnI.sl o1) BF (by have := HL.out; omega) HL [] 8 0 HO).mono ?_
  rintro e w2 ⟨A2, c2, rfl, o2, b2⟩
  have b02 := below_trans b1 b2
  have s1 := (OwnI.sl o1).below b2
  have hle : (8 : Int) ≤ (c1 : Int) := by have := s1.le; have := HL.out; omega
  have sT := s1.take 4 c1 (by omega) (Nat.le_refl _)
  have h4 : (4 : Int) ≤ (c1 : Int) := by omega
  clear b1 b2 o1 o2
  go_wp2_with fail
  go_region_held3 (fun _ => True) (trivial)
    (first
      | (go_at_call 14; refine (Same_at A1 (some ⟨w2.heap.size, 0, none⟩) c1 4 4 4 (F.take 4) [0, 0, 0, 0] _ (sT.below (below_alloc (below_drewN (Below.refl _ _) 1) _)) (lit_at [0, 0, 0, 0] rfl (by decide)) HT (Lib.hid rfl) true hq).mono ?_; rintro e w3 ⟨rfl, b3⟩))
  have b03 := below_trans b02 (below_trans (below_alloc (below_drewN (Below.refl _ _) 1) _) b3)
  go_wp2_with fail
  go_ret
  exact ⟨rfl, b03⟩
end Go.Proofs.Ytipjmglieedimaa
