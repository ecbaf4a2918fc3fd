import Derived.Test.YteajcneojclddaaSumLaws2
import Derived.Test.YteajcneojclddaaMake
import Derived.Deep.RegionHeld3
namespace Go.Proofs.Yteajcneojclddaa
set_option linter.unusedVariables false
set_option linter.unusedSimpArgs false
open Go.RowKit
theorem run_min4 (P : Program) (w : World) (ats : Array TypeId) (ty : TypeId) (k k2 k3 k4 : IntKind) (x y z u : Int) : (Builtin.min_ ats ty #[.int k x, .int k2 y, .int k3 z, .int k4 u]).run P w = .ok (.int k (min (min (min x y) z) u)) w := by
  have e : ∀ a b : Int, (if b < a then b else a) = min a b := fun a b => by split <;> omega
  simp only [Builtin.min_, List.foldlM_cons, List.foldlM_nil, Builtin.min2, bind_pure, pure_bind]
  show Result.ok (Value.int k _) w = _
  rw [e, e, e]
theorem Of_n (A : Option Addr) (c n : Nat) (b : List Int) (w : World) (h : SlI w .u8 A c b) (hb : Bytes b) (hn : Hid (b.length = n)) (v : Int) (hv : Hid (uv (more 0#32 b) = v)) :
    Calls Try.prog 12 #[.slice A n c] w fun e w' => e = .returned (.int .u32 v) ∧ Below w.heap.size w w' := hn.out ▸ Of_is A c b w h hb v hv
/-- The exclusive or of three. -/
theorem xor3 {a b c : List Int} (hab : a.length = b.length) (hbc : b.length = c.length) (ha : Bytes a) (hb : Bytes b) (hc : Bytes c) : more 0#32 a ^^^ more 0#32 b ^^^ more 0#32 c = more 0#32 (xorL (xorL a b) c) := by
  have l1 : (xorL a b).length = c.length := by simp [xorL, hab, hbc]
  have o : (~~~ 0#32 : BitVec 32) = (~~~ 0#32) ^^^ (~~~ 0#32) ^^^ (~~~ 0#32) := by decide
  unfold more
  rw [show feed (~~~ 0#32) (xorL (xorL a b) c) = feed ((~~~ 0#32) ^^^ (~~~ 0#32) ^^^ (~~~ 0#32)) (xorL (xorL a b) c) by rw [← o], feed_xorL _ _ _ _ l1 (xorL_bytes ha hb) hc, feed_xorL _ _ _ _ hab ha hb]
  generalize feed (~~~ 0#32) a = x
  generalize feed (~~~ 0#32) b = y
  generalize feed (~~~ 0#32) c = z
  apply BitVec.eq_of_getLsbD_eq
  intro i hi
  simp only [BitVec.getLsbD_xor, BitVec.getLsbD_not, hi, decide_true, Bool.true_and]
  cases x.getLsbD i <;> cases y.getLsbD i <;> cases z.getLsbD i <;> rfl
attribute [local go_sem] run_min4
set_option maxHeartbeats 2000000 in
theorem SumLinear_calls (A B C : Option Addr) (ca cb cc : Nat) (a b c : List Int) (w : World) (ha : SlI w .u8 A ca a) (hb : SlI w .u8 B cb b) (hc : SlI w .u8 C cc c) (ba : Bytes a) (bb : Bytes b) (bc : Bytes c) :
    Calls Try.prog 4 #[.slice A a.length ca, .slice B b.length cb, .slice C c.length cc] w fun e w' => e = .returned (.bool true) ∧ Below w.heap.size w w' := by
  have la := ha.len
  have lb := hb.len
  have lc := hc.len
  obtain ⟨N, hN⟩ : ∃ N : Nat, Hid (min (a.length : Int) (min (b.length : Int) (min (c.length : Int) 600)) = (N : Int)) := ⟨(min (a.length : Int) (min (b.length : Int) (min (c.length : Int) 600))).toNat, by show _ = _; omega⟩
  have Na : N ≤ a.length := by have := hN.out; omega
  have Nb : N ≤ b.length := by have := hN.out; omega
  have Nc : N ≤ c.length := by have := hN.out; omega
  have N6 : N ≤ 600 := by have := hN.out; omega
  have hN' := hN.out
  go_enter Try.func4, Try.ntmps4
  go_wp2_with fail
  refine (lives_calls _).mono ?_
  rintro e w1 ⟨rfl, b1⟩
  go_wp2_with (refine wp_make rfl _ _ 22 rfl 5 .u8 1 Try.underlying22 (by kernel_rfl) _ _ _ N rfl rfl rfl (by omega) (by unfold maxLen; omega) ?_)
  intro w2 h2 b2
  have b02 := below_trans b1 b2
  have h2' := own_mono h2 b1.size
  have hg0 : w.heap.size ≤ w1.heap.size := b1.size
  generalize w1.heap.size = g at *
  clear b1 b2 h2
  go_wp2_with fail
  go_loopg [9] (N + 1) (fun gk i w' => ∃ (j : Nat) (ys : List Int), i = .int .i64 (j : Int) ∧ j ≤ N ∧ N < j + gk ∧ ys.length = N ∧ Hid (∀ k, k < j → ys.getD k 0 = bits .xor .u8 (bits .xor .u8 (a.getD k 0) (b.getD k 0)) (c.getD k 0)) ∧ OwnI w' w.heap.size 5 .u8 (some ⟨g, 0, none⟩) N ys ∧ Below w.heap.size w w')
  case atStart => exact ⟨0, List.replicate N 0, rfl, by omega, by omega, List.length_replicate, fun k hk => by omega, h2', b02⟩
  case round =>
    clear h2' b02
    obtain ⟨j, ys, rfl, hj, hg, hyl, hys, h2, b2⟩ := hrel
    by_cases hlt : j < N
    · have hjl : (j : Int) < (N : Int) := by omega
      obtain ⟨aa, rfl, ca1⟩ := (ha.below b2).get j (by omega)
      obtain ⟨ab, rfl, cb1⟩ := (hb.below b2).get j (by omega)
      obtain ⟨ac, rfl, cc1⟩ := (hc.below b2).get j (by omega)
      obtain ⟨hc1, hc2⟩ := OwnI.cell h2 j (by omega)
      have ja : (j : Int) < (a.length : Int) := by omega
      have jb : (j : Int) < (b.length : Int) := by omega
      have jc : (j : Int) < (c.length : Int) := by omega
      have hnext := Lib.hid (fun k (hk : k < j + 1) => getD_set_lt hyl hlt (f := fun k => bits .xor .u8 (bits .xor .u8 (a.getD k 0) (b.getD k 0)) (c.getD k 0)) rfl hys.out hk)
      have hput := OwnI.put h2 j (bits .xor .u8 (bits .xor .u8 (a.getD j 0) (b.getD j 0)) (c.getD j 0))
      have bput := b2.setCell (p := ⟨g, j, none⟩) hg0 (.int .u8 (bits .xor .u8 (bits .xor .u8 (a.getD j 0) (b.getD j 0)) (c.getD j 0)))
      generalize hza : a.getD j 0 = za at *
      generalize hzb : b.getD j 0 = zb at *
      generalize hzc : c.getD j 0 = zc at *
      generalize hzy : ys.getD j 0 = zy at *
      go_wp2_with fail
      go_region
      go_wp2_with fail
      go_roundg (gk - 1)
      case measure => omega
      case rel => exact ⟨j + 1, ys.set j (bits .xor .u8 (bits .xor .u8 za zb) zc), by simp, by omega, by omega, by rw [List.length_set]; exact hyl, hnext, own_below hput (Below.refl _ _).drew, bput.drew⟩
    · have hjl : ¬ (j : Int) < (N : Int) := by omega
      have hxl : (a.take N).length = (b.take N).length := by rw [List.length_take, List.length_take]; omega
      have hxl2 : (b.take N).length = (c.take N).length := by rw [List.length_take, List.length_take]; omega
      have HA := Lib.hid (show (a.take N).length = N by rw [List.length_take]; omega)
      have HB := Lib.hid (show (b.take N).length = N by rw [List.length_take]; omega)
      have HC := Lib.hid (show (c.take N).length = N by rw [List.length_take]; omega)
      have hyx : ys = xorL (xorL (a.take N) (b.take N)) (c.take N) := by
        apply List.ext_getElem
        · simp [xorL, hyl]; omega
        · intro k h1 h2
          have := hys.out k (by omega)
          rw [List.getD_eq_getElem?_getD, List.getElem?_eq_getElem h1] at this
          simp only [Option.getD_some] at this
          rw [this]
          simp [xorL, List.getD_eq_getElem?_getD, show k < a.length by omega, show k < b.length by omega, show k < c.length by omega]
      have hX := xor3 hxl hxl2 (ba.take N) (bb.take N) (bc.take N)
      rw [← hyx] at hX
      have byB : Bytes ys := by rw [hyx]; exact xorL_bytes (xorL_bytes (ba.take N) (bb.take N)) (bc.take N)
      obtain ⟨x, hx⟩ : ∃ x, Hid (uv (more 0#32 (a.take N)) = uv x) := ⟨_, Lib.hid rfl⟩
      obtain ⟨y, hy⟩ : ∃ x, Hid (uv (more 0#32 (b.take N)) = uv x) := ⟨_, Lib.hid rfl⟩
      obtain ⟨z, hz⟩ : ∃ x, Hid (uv (more 0#32 (c.take N)) = uv x) := ⟨_, Lib.hid rfl⟩
      have hu : Hid (uv (more 0#32 ys) = uv (x ^^^ y ^^^ z)) := by
        show _ = _
        rw [← hX, uv_inj hx.out, uv_inj hy.out, uv_inj hz.out]
      have hx1 := uv_xor x y
      have hx2 := uv_xor (x ^^^ y) z
      have sa := fun w' (hb' : Below w.heap.size w w') => (ha.below hb').take N ca (by have := ha.le; omega) (Nat.le_refl _)
      have sb := fun w' (hb' : Below w.heap.size w w') => (hb.below hb').take N cb (by have := hb.le; omega) (Nat.le_refl _)
      have sc := fun w' (hb' : Below w.heap.size w w') => (hc.below hb').take N cc (by have := hc.le; omega) (Nat.le_refl _)
      have HY := Lib.hid hyl
      have lea : (N : Int) ≤ (ca : Int) := by have := ha.le; omega
      have leb : (N : Int) ≤ (cb : Int) := by have := hb.le; omega
      have lec : (N : Int) ≤ (cc : Int) := by have := hc.le; omega
      clear hX hyx hys hyl hxl hxl2
      go_wp2_with fail
      go_region_held3 (fun _ => True) (trivial)
        (first
          | (go_at_call 12; refine (Of_n A ca N _ _ (sa _ b2.drew) (ba.take N) HA _ hx).mono ?_; rintro e w3 ⟨rfl, b3⟩)
          | (go_at_call 12; refine (Of_n B cb N _ _ (sb _ (below_trans b2.drew b3)) (bb.take N) HB _ hy).mono ?_; rintro e w4 ⟨rfl, b4⟩)
          | (go_at_call 12; refine (Of_n C cc N _ _ (sc _ (below_trans (below_trans b2.drew b3) b4)) (bc.take N) HC _ hz).mono ?_; rintro e w5 ⟨rfl, b5⟩)
          | (go_at_call 12; refine (Of_n (some ⟨g, 0, none⟩) N N _ _ ((((OwnI.sl h2).below (Below.refl _ _).drew).below b3).below b4 |>.below b5) byB HY _ hu).mono ?_; rintro e w6 ⟨rfl, b6⟩))
      go_wp2_with fail
      go_ret
      exact ⟨rfl, below_trans (below_trans (below_trans (below_trans b2.drew b3) b4) b5) b6⟩
end Go.Proofs.Yteajcneojclddaa
