import Derived.Test.YtipjmglieedimaaFrame0
namespace Go.Proofs.Ytipjmglieedimaa
set_option linter.unusedVariables false
set_option linter.unusedSimpArgs false
open Go.RowKit
/-- What frame.one hands back: the payload in the memory of what came, at an address that hangs on what came alone. -/
def OneDet (b : List Int) (A' : Option Addr) (c' : Nat) (w : World) (e : Ending) (w' : World) : Prop := e = .returned (.tuple #[.slice A' (oneR b).1.length c', .int .i64 (oneR b).2.1, .int .i64 (oneR b).2.2]) ∧ Below w.heap.size w w'
theorem OneDet.fail {b : List Int} {w w' : World} {er : Int} (h : oneR b = ([], 0, er)) (hb : Below w.heap.size w w') : OneDet b none 0 w (.returned (.tuple #[.slice none 0 0, .int .i64 0, .int .i64 er])) w' := by
  refine ⟨by rw [h]; rfl, hb⟩
theorem ofB4 {b : List Int} (hb : Bytes b) : 0 ≤ Oct.ofB (b.take 4) ∧ Oct.ofB (b.take 4) ≤ 4294967295 := by
  have h1 := Oct.ofB_nonneg (b.take 4) (fun x hx => (hb.take 4 x hx).1)
  have h2 := Oct.ofB_lt (b.take 4) (hb.take 4)
  have h3 : (2 : Int) ^ (8 * (b.take 4).length) ≤ 2 ^ 32 := by
    have : (b.take 4).length ≤ 4 := by rw [List.length_take]; omega
    have h4 : (2 : Nat) ^ (8 * (b.take 4).length) ≤ 2 ^ 32 := Nat.pow_le_pow_right (by decide) (by omega)
    have h5 := Int.ofNat_le.mpr h4
    rwa [Int.natCast_pow, Int.natCast_pow] at h5
  exact ⟨h1, by omega⟩
theorem ofB_take8 (b : List Int) (k : Nat) (hk : k ≤ 8) : Oct.ofB ((b.take k).take 8) = Oct.ofB (b.take k) := by rw [List.take_take, Nat.min_eq_right hk]
set_option maxHeartbeats 1000000 in
theorem one_det (A : Option Addr) (c : Nat) (b : List Int) (hle : b.length ≤ c) (hmx : c ≤ maxLen) (hb : Bytes b) :
    ∃ A' c', (∀ w, SlI w .u8 A c b → SlI w .u8 A' c' (oneR b).1) ∧ ∀ w, SlI w .u8 A c b → Calls Try.prog 29 #[.slice A b.length c] w fun e w' => OneDet b A' c' w e w' := by
  have hm : b.length ≤ 9223372036854775807 := by unfold maxLen at hmx; omega
  by_cases h1 : b.length < 8
  · have H := Lib.hid (show oneR b = ([], 0, 5) by unfold oneR; rw [if_pos h1])
    have i1 : (b.length : Int) < 8 := by omega
    refine ⟨none, 0, fun w h => by rw [H.out]; exact SlI.nil _ _, fun w h => ?_⟩
    go_enter Try.func29, Try.ntmps29
    go_wp2_with fail
    go_ret3
    exact OneDet.fail H.out (Below.refl _ _)
  · obtain ⟨x0, x1⟩ := ofB4 hb
    have HT : Hid ((b.take 4).length = 4) := by show _ = _; rw [List.length_take]; omega
    have i1 : ¬ (b.length : Int) < 8 := by omega
    have i2 : (4 : Int) ≤ (c : Int) := by omega
    have i3 : (8 : Int) ≤ (c : Int) := by omega
    obtain ⟨x, hx⟩ : ∃ x, Hid (Oct.ofB ((b.take 4).take 8) = x) := ⟨_, Lib.hid rfl⟩
    have hx' := Lib.hid ((ofB_take8 b 4 (by decide)).symm.trans hx.out)
    have x0 : 0 ≤ x := by rw [← hx'.out]; exact x0
    have x1 : x ≤ 4294967295 := by rw [← hx'.out]; exact x1
    by_cases h2 : x > 33554432
    · have H := Lib.hid (show oneR b = ([], 0, 3) by unfold oneR; rw [if_neg h1, hx'.out, if_pos h2])
      refine ⟨none, 0, fun w h => by rw [H.out]; exact SlI.nil _ _, fun w h => ?_⟩
      have sT := fun w' (hb' : Below w.heap.size w w') => (h.below hb').take 4 c (by omega) (Nat.le_refl _)
      go_enter Try.func29, Try.ntmps29
      go_wp2_with fail
      refine (octOf_at A c 4 (b.take 4) _ (sT _ (Below.refl _ _)) (hb.take 4) HT x hx).mono ?_
      rintro e w' ⟨rfl, rfl⟩
      go_wp2_with fail
      go_ret3
      exact OneDet.fail H.out (Below.refl _ _)
    · by_cases h3 : x > (b.length : Int) - 8
      · have H := Lib.hid (show oneR b = ([], 0, 5) by unfold oneR; rw [if_neg h1, hx'.out, if_neg h2, if_pos h3])
        refine ⟨none, 0, fun w h => by rw [H.out]; exact SlI.nil _ _, fun w h => ?_⟩
        have sT := fun w' (hb' : Below w.heap.size w w') => (h.below hb').take 4 c (by omega) (Nat.le_refl _)
        go_enter Try.func29, Try.ntmps29
        go_wp2_with fail
        refine (octOf_at A c 4 (b.take 4) _ (sT _ (Below.refl _ _)) (hb.take 4) HT x hx).mono ?_
        rintro e w' ⟨rfl, rfl⟩
        go_wp2_with fail
        go_ret3
        exact OneDet.fail H.out (Below.refl _ _)
      · obtain ⟨n, rfl⟩ : ∃ n : Nat, x = (n : Int) := ⟨x.toNat, by omega⟩
        have hn : n + 8 ≤ b.length := by omega
        obtain ⟨i0, hi, _, hz1, _⟩ := info_parts (P := Try.prog) (e := 5) (z := .int .u8 0) (size := 1) (bytes := 1) (by kernel_rfl)
        obtain ⟨A5, hcut, hA1, hA2, _⟩ := cut_lhm_i (P := Try.prog) 22 5 .i64 .i64 .i64 Try.underlying22 hi hz1 A b.length c 8 (8 + n) (8 + n) 8 (8 + (n : Int)) (8 + (n : Int)) rfl (by push_cast; rfl) (by push_cast; rfl) (by omega) (by omega) (by omega) (by omega) hle n n (by omega) (by omega)
        obtain ⟨A6, hcut6, hB1, _⟩ := cut_lh_i (P := Try.prog) 22 5 .i64 .i64 Try.underlying22 hi hz1 A b.length c 4 8 4 8 rfl rfl (by omega) (by omega) hle 4 (c - 4) (by omega) rfl
        have LP : Hid (((b.drop 8).take n).length = n) := by show _ = _; rw [List.length_take, List.length_drop]; omega
        have LS : Hid (((b.drop 4).take 4).length = 4) := by show _ = _; rw [List.length_take, List.length_drop]; omega
        obtain ⟨s, hs⟩ : ∃ s, Hid (uv (more 0#32 (b.take 4 ++ (b.drop 8).take n)) = s) := ⟨_, Lib.hid rfl⟩
        obtain ⟨t, ht⟩ : ∃ t, Hid (Oct.ofB (((b.drop 4).take 4).take 8) = t) := ⟨_, Lib.hid rfl⟩
        have s0 : 0 ≤ s ∧ s ≤ 4294967295 := by have := uv_range (more 0#32 (b.take 4 ++ (b.drop 8).take n)); rw [hs.out] at this; omega
        have w64 : IntKind.u64.wrap s = s := by unfold IntKind.wrap; simp [IntKind.signed, IntKind.bits]; omega
        have BT := hb.take 4
        have BP := (hb.drop 8).take n
        have BS := (hb.drop 4).take 4
        have i4 : (8 : Int) + (n : Int) ≤ (c : Int) := by omega
        have i5 : (8 : Int) + (n : Int) ≤ (b.length : Int) := by omega
        have ht' := Lib.hid ((ofB_take8 (b.drop 4) 4 (by decide)).symm.trans ht.out)
        have HO : Hid (oneR b = if s = t then ((b.drop 8).take n, 8 + (n : Int), 0) else ([], 0, 4)) := by
          show _ = _
          unfold oneR
          rw [if_neg h1, hx'.out, if_neg h2, if_neg h3, Int.toNat_natCast, hs.out, ht'.out]
          by_cases hst : s = t
          · rw [if_neg (by simp [hst]), if_pos hst]
          · rw [if_pos hst, if_neg hst]
        by_cases hst : s = t
        · have HR := Lib.hid (HO.out.trans (if_pos hst))
          have q1 : (s != t) = false := by simp [hst]
          clear hst
          refine ⟨A5, n, fun w h => by rw [HR.out]; exact hA1 w .u8 b rfl h, fun w h => ?_⟩
          have sT := fun w' (hb' : Below w.heap.size w w') => (h.below hb').take 4 c (by omega) (Nat.le_refl _)
          have sP := fun w' (hb' : Below w.heap.size w w') => hA1 w' .u8 b rfl (h.below hb')
          have sS := fun w' (hb' : Below w.heap.size w w') => hB1 w' .u8 b rfl (h.below hb')
          clear hA1 hB1
          go_enter Try.func29, Try.ntmps29
          go_wp2_with fail
          refine (octOf_at A c 4 (b.take 4) _ (sT _ (Below.refl _ _)) (hb.take 4) HT (n : Int) hx).mono ?_
          rintro e w' ⟨rfl, rfl⟩
          go_wp2_with fail
          go_region_held3 (fun _ => True) (trivial)
            (first
              | (go_at_call 28; refine (seal_at A A5 c n 4 n _ _ _ (sT _ (below_drewN (Below.refl _ _) 1)) (sP _ (below_drewN (Below.refl _ _) 1)) BT BP HT LP s hs).mono ?_; rintro e w3 ⟨rfl, b3⟩)
              | (go_at_call 38; refine (octOf_at A6 (c - 4) 4 _ _ (sS _ (below_trans (below_drewN (Below.refl _ _) 1) b3)) BS LS t ht).mono ?_; rintro e w' ⟨rfl, rfl⟩))
          clear w64
          have b03 := below_trans (below_drewN (Below.refl w.heap.size w) 1) b3
          go_wp2_with fail
          go_ret3
          refine ⟨?_, b03⟩
          rw [HR.out, LP.out]; rfl
        · have HR := Lib.hid (HO.out.trans (if_neg hst))
          have q1 : (s != t) = true := by simp [hst]
          clear hst
          refine ⟨none, 0, fun w h => by rw [HR.out]; exact SlI.nil _ _, fun w h => ?_⟩
          have sT := fun w' (hb' : Below w.heap.size w w') => (h.below hb').take 4 c (by omega) (Nat.le_refl _)
          have sP := fun w' (hb' : Below w.heap.size w w') => hA1 w' .u8 b rfl (h.below hb')
          have sS := fun w' (hb' : Below w.heap.size w w') => hB1 w' .u8 b rfl (h.below hb')
          clear hA1 hB1
          go_enter Try.func29, Try.ntmps29
          go_wp2_with fail
          refine (octOf_at A c 4 (b.take 4) _ (sT _ (Below.refl _ _)) (hb.take 4) HT (n : Int) hx).mono ?_
          rintro e w' ⟨rfl, rfl⟩
          go_wp2_with fail
          go_region_held3 (fun _ => True) (trivial)
            (first
              | (go_at_call 28; refine (seal_at A A5 c n 4 n _ _ _ (sT _ (below_drewN (Below.refl _ _) 1)) (sP _ (below_drewN (Below.refl _ _) 1)) BT BP HT LP s hs).mono ?_; rintro e w3 ⟨rfl, b3⟩)
              | (go_at_call 38; refine (octOf_at A6 (c - 4) 4 _ _ (sS _ (below_trans (below_drewN (Below.refl _ _) 1) b3)) BS LS t ht).mono ?_; rintro e w' ⟨rfl, rfl⟩))
          clear w64
          have b03 := below_trans (below_drewN (Below.refl w.heap.size w) 1) b3
          go_wp2_with fail
          go_ret3
          exact OneDet.fail HR.out b03
/-- What frame.One hands back. -/
def OneOwn (b : List Int) (w : World) (e : Ending) (w' : World) : Prop := ∃ A' c', e = .returned (.tuple #[.slice A' (oneR b).1.length c', .int .i64 (oneR b).2.1, .int .i64 (oneR b).2.2]) ∧ OwnI w' w.heap.size 5 .u8 A' c' (oneR b).1 ∧ Below w.heap.size w w'
theorem One_calls (A : Option Addr) (c : Nat) (b : List Int) (w : World) (h : SlI w .u8 A c b) (hb : Bytes b) (hl : b.length ≤ 140737488355328) :
    Calls Try.prog 12 #[.slice A b.length c] w fun e w' => OneOwn b w e w' := by
  have hp : (oneR b).1.length ≤ b.length := by
    unfold oneR
    split
    · simp
    · split
      · simp
      · split
        · simp
        · split
          · simp
          · simp only [List.length_take, List.length_drop]; omega
  obtain ⟨A1, c1, OS, O⟩ := one_det A c b h.le h.cap hb
  unfold OneDet at O
  obtain ⟨pl, hpl⟩ : ∃ pl, Hid ((oneR b).1 = pl) := ⟨_, Lib.hid rfl⟩
  obtain ⟨n, hn⟩ : ∃ n, Hid ((oneR b).2.1 = n) := ⟨_, Lib.hid rfl⟩
  obtain ⟨er, her⟩ : ∃ er, Hid ((oneR b).2.2 = er) := ⟨_, Lib.hid rfl⟩
  have F : ∀ w e w', (∃ A' c', e = .returned (.tuple #[.slice A' pl.length c', .int .i64 n, .int .i64 er]) ∧ OwnI w' w.heap.size 5 .u8 A' c' pl ∧ Below w.heap.size w w') → OneOwn b w e w' := fun w e w' hh => by
    unfold OneOwn; rw [hpl.out, hn.out, her.out]; exact hh
  rw [hpl.out, hn.out, her.out] at O
  rw [hpl.out] at OS
  rw [hpl.out] at hp
  go_enter Try.func12, Try.ntmps12
  go_wp2_with fail
  refine (O _ h).mono ?_
  rintro e w1 ⟨rfl, b1⟩
  have s1 := (OS _ h).below b1
  go_wp2_with fail
  refine (Clone_byte_calls A1 c1 pl _ s1 (by omega)).mono ?_
  rintro e w2 ⟨A2, c2, rfl, o2, b2⟩
  go_wp2_with fail
  go_ret3
  exact F _ _ _ ⟨A2, c2, rfl, own_mono o2 b1.size, below_trans b1 b2⟩
end Go.Proofs.Ytipjmglieedimaa
