import Derived.Test.YtipjmglieedimaaFrameRef
namespace Go.Proofs.Ytipjmglieedimaa
set_option linter.unusedVariables false
set_option linter.unusedSimpArgs false
open Go.RowKit
theorem OneOwn.fail {b : List Int} {w w' : World} {er : Int} (h : oneR b = ([], 0, er)) (hb : Below w.heap.size w w') : OneOwn b w (.returned (.tuple #[.slice none 0 0, .int .i64 0, .int .i64 er])) w' := by
  refine ⟨none, 0, by rw [h]; rfl, ?_, hb⟩
  rw [h]; exact own_nil _ _ _ _
theorem RBytes_at (A : Option Addr) (c n : Nat) (p : List Int) (w : World) (h : SlI w .u8 A c p) (hb : Bytes p) (hl : p.length ≤ 33554432) (hn : Hid (p.length = n)) (zs : List Int) (hz : Hid (frm p = zs)) :
    Calls Try.prog 22 #[.slice A n c] w fun e w' => RetOwnE 5 .u8 zs 0 w e w' := hn.out ▸ hz.out ▸ RBytes_calls A c p w h hb hl
set_option maxHeartbeats 1000000 in
theorem ROne_calls (A : Option Addr) (c : Nat) (b : List Int) (w : World) (h : SlI w .u8 A c b) (hb : Bytes b) (hbl : b.length ≤ 140737488355328) :
    Calls Try.prog 23 #[.slice A b.length c] w fun e w' => OneOwn b w e w' := by
  have hm := h.len
  have hle := h.le
  by_cases h1 : b.length < 8
  · have H := Lib.hid (show oneR b = ([], 0, 5) by unfold oneR; rw [if_pos h1])
    have i1 : (b.length : Int) < 8 := by omega
    go_enter Try.func23, Try.ntmps23
    go_wp2_with fail
    go_ret3
    exact OneOwn.fail H.out (Below.refl _ _)
  · obtain ⟨x0, x1⟩ := ofB4 hb
    have HT : Hid ((b.take 4).length = 4) := by show _ = _; rw [List.length_take]; omega
    have i1 : ¬ (b.length : Int) < 8 := by omega
    have i2 : (4 : Int) ≤ (c : Int) := by omega
    obtain ⟨x, hx⟩ : ∃ x, Hid (Oct.ofB ((b.take 4).take 8) = x) := ⟨_, Lib.hid rfl⟩
    have hx' := Lib.hid ((ofB_take8 b 4 (by decide)).symm.trans hx.out)
    have x0 : 0 ≤ x := by rw [← hx'.out]; exact x0
    have x1 : x ≤ 4294967295 := by rw [← hx'.out]; exact x1
    have sT := fun w' (hb' : Below w.heap.size w w') => (h.below hb').take 4 c (by omega) (Nat.le_refl _)
    by_cases h2 : x > 33554432
    · have H := Lib.hid (show oneR b = ([], 0, 3) by unfold oneR; rw [if_neg h1, hx'.out, if_pos h2])
      go_enter Try.func23, Try.ntmps23
      go_wp2_with fail
      refine (octROf_at A c 4 (b.take 4) _ (sT _ (Below.refl _ _)) (hb.take 4) HT x hx).mono ?_
      rintro e w' ⟨rfl, rfl⟩
      go_wp2_with fail
      go_ret3
      exact OneOwn.fail H.out (Below.refl _ _)
    · by_cases h3 : x > (b.length : Int) - 8
      · have H := Lib.hid (show oneR b = ([], 0, 5) by unfold oneR; rw [if_neg h1, hx'.out, if_neg h2, if_pos h3])
        have i3 : (b.length : Int) - 8 < x := h3
        go_enter Try.func23, Try.ntmps23
        go_wp2_with fail
        refine (octROf_at A c 4 (b.take 4) _ (sT _ (Below.refl _ _)) (hb.take 4) HT x hx).mono ?_
        rintro e w' ⟨rfl, rfl⟩
        go_wp2_with fail
        go_ret3
        exact OneOwn.fail H.out (Below.refl _ _)
      · obtain ⟨n, rfl⟩ : ∃ n : Nat, x = (n : Int) := ⟨x.toNat, by omega⟩
        have hn : n + 8 ≤ b.length := by omega
        obtain ⟨i0, hi, _, hz1, _⟩ := info_parts (P := Try.prog) (e := 5) (z := .int .u8 0) (size := 1) (bytes := 1) (by kernel_rfl)
        obtain ⟨A5, hcut, hA1, _⟩ := cut_lh_i (P := Try.prog) 22 5 .i64 .u64 Try.underlying22 hi hz1 A b.length c 8 (8 + n) 8 (8 + (n : Int)) rfl (by push_cast; rfl) (by omega) (by omega) hle n (c - 8) (by omega) rfl
        have sP := fun w' (hb' : Below w.heap.size w w') => hA1 w' .u8 b rfl (h.below hb')
        have sA := fun w' (hb' : Below w.heap.size w w') => (h.below hb').take (8 + n) c (by omega) (Nat.le_refl _)
        have LP : Hid (((b.drop 8).take n).length = n) := by show _ = _; rw [List.length_take, List.length_drop]; omega
        have LA : Hid ((b.take (8 + n)).length = 8 + n) := by show _ = _; rw [List.length_take]; omega
        have BP := (hb.drop 8).take n
        have BA := hb.take (8 + n)
        have i4 : (8 : Int) + (n : Int) ≤ (c : Int) := by omega
        have i5 : (8 : Int) + (n : Int) ≤ (b.length : Int) := by omega
        have fs := frm_same hb n hx'.out hn
        have FB := frm_bytes BP
        have se := str_eq FB BA
        have HO : Hid (oneR b = if frm ((b.drop 8).take n) = b.take (8 + n) then ((b.drop 8).take n, 8 + (n : Int), 0) else ([], 0, 4)) := by
          show _ = _
          unfold oneR
          rw [if_neg h1, hx'.out, if_neg h2, if_neg h3, Int.toNat_natCast]
          by_cases hf : frm ((b.drop 8).take n) = b.take (8 + n)
          · rw [if_neg (by simp [fs.1 hf]), if_pos hf]
          · rw [if_pos (fun hh => hf (fs.2 hh)), if_neg hf]
        have hpl : ((b.drop 8).take n).length ≤ 33554432 := by have := LP.out; omega
        clear fs hA1
        obtain ⟨F, hF⟩ : ∃ F, Hid (frm ((b.drop 8).take n) = F) := ⟨_, Lib.hid rfl⟩
        rw [hF.out] at se HO FB
        generalize (b.drop 8).take n = p at *
        have RB := fun w A c h => RBytes_at A c p.length p w h BP hpl (Lib.hid rfl) F hF
        have H7 : Hid (∀ w A c, SlI w .u8 A c F → (convert 22 9 (.slice A F.length c)).run Try.prog w = .ok (.string (strOfNums F)) w) := fun w A c hh => run_conv_sl hh 22 5 9 Try.underlying22 Try.underlying5 Try.underlying9
        have H8 : Hid (∀ w A c, SlI w .u8 A c (b.take (8 + n)) → (convert 22 9 (.slice A (8 + n) c)).run Try.prog w = .ok (.string (strOfNums (b.take (8 + n)))) w) := fun w A c hh => by
          have := run_conv_sl hh 22 5 9 Try.underlying22 Try.underlying5 Try.underlying9
          rw [LA.out] at this; exact this
        generalize b.take (8 + n) = b8 at *
        generalize strOfNums F = sF at *
        generalize strOfNums b8 = s8 at *
        by_cases hst : F = b8
        · have HR := Lib.hid (HO.out.trans (if_pos hst))
          rw [decide_eq_true hst] at se
          clear hst HO
          go_enter Try.func23, Try.ntmps23
          go_wp2_with fail
          refine (octROf_at A c 4 (b.take 4) _ (sT _ (Below.refl _ _)) (hb.take 4) HT (n : Int) hx).mono ?_
          rintro e w' ⟨rfl, rfl⟩
          go_wp2_with (at_builtin; refine app_row w.heap.size rfl _ _ 22 5 .u8 1 rfl Try.underlying22 (by kernel_rfl) (by decide) _ _ [] p A5 (c - 8) rfl ?_ (own_empty _ _ _ (Nat.le_refl _)) (sP _ (below_alloc (Below.refl _ _) _)).rd (by simp) (by simp; omega) ?_)
          · show Value.slice A5 n (c - 8) = _
            rw [LP.out]
          intro B1 d1 w1 o1 hg _ _
          have b1 := below_grown (below_alloc (Below.refl w.heap.size w) _) hg (own_empty _ _ _ (Nat.le_refl _)) (Nat.le_refl _)
          go_wp2_with fail
          refine (RB _ B1 d1 (OwnI.sl o1)).mono ?_
          rintro e w2 ⟨B2, d2, rfl, o2, b2⟩
          have o1' := own_below o1 b2
          have b02 := below_trans b1 b2
          have c1 := H7.out _ B2 d2 (OwnI.sl (own_below o2 (Below.refl _ _).drew))
          have c2 := H8.out _ A c (sA _ b02.drew)
          clear o2 o1 b1 b2 hg
          go_wp2_with fail
          have z8 : (0 : Int) ≤ 8 + (n : Int) := by omega
          have t8 : (8 + (n : Int)).toNat = 8 + n := by omega
          have wu : IntKind.u64.wrap (8 + (n : Int)) = 8 + (n : Int) := IntWalk.u64_in _ (by omega)
          go_region_held3 (fun W => (convert 22 9 (.slice B2 F.length d2)).run Try.prog W = .ok (.string sF) W ∧ (convert 22 9 (.slice A (8 + n) c)).run Try.prog W = .ok (.string s8) W) (exact ⟨c1, c2⟩) (fail)
          clear c1 c2 t8 wu
          go_wp2_with fail
          go_ret3
          refine ⟨B1, d1, by rw [HR.out]; rfl, ?_, b02.drew⟩
          rw [HR.out]; exact own_below o1' (Below.refl _ _).drew
        · have HR := Lib.hid (HO.out.trans (if_neg hst))
          rw [decide_eq_false hst] at se
          clear hst HO
          go_enter Try.func23, Try.ntmps23
          go_wp2_with fail
          refine (octROf_at A c 4 (b.take 4) _ (sT _ (Below.refl _ _)) (hb.take 4) HT (n : Int) hx).mono ?_
          rintro e w' ⟨rfl, rfl⟩
          go_wp2_with (at_builtin; refine app_row w.heap.size rfl _ _ 22 5 .u8 1 rfl Try.underlying22 (by kernel_rfl) (by decide) _ _ [] p A5 (c - 8) rfl ?_ (own_empty _ _ _ (Nat.le_refl _)) (sP _ (below_alloc (Below.refl _ _) _)).rd (by simp) (by simp; omega) ?_)
          · show Value.slice A5 n (c - 8) = _
            rw [LP.out]
          intro B1 d1 w1 o1 hg _ _
          have b1 := below_grown (below_alloc (Below.refl w.heap.size w) _) hg (own_empty _ _ _ (Nat.le_refl _)) (Nat.le_refl _)
          go_wp2_with fail
          refine (RB _ B1 d1 (OwnI.sl o1)).mono ?_
          rintro e w2 ⟨B2, d2, rfl, o2, b2⟩
          have o1' := own_below o1 b2
          have b02 := below_trans b1 b2
          have c1 := H7.out _ B2 d2 (OwnI.sl (own_below o2 (Below.refl _ _).drew))
          have c2 := H8.out _ A c (sA _ b02.drew)
          clear o2 o1 b1 b2 hg
          go_wp2_with fail
          have z8 : (0 : Int) ≤ 8 + (n : Int) := by omega
          have t8 : (8 + (n : Int)).toNat = 8 + n := by omega
          have wu : IntKind.u64.wrap (8 + (n : Int)) = 8 + (n : Int) := IntWalk.u64_in _ (by omega)
          go_region_held3 (fun W => (convert 22 9 (.slice B2 F.length d2)).run Try.prog W = .ok (.string sF) W ∧ (convert 22 9 (.slice A (8 + n) c)).run Try.prog W = .ok (.string s8) W) (exact ⟨c1, c2⟩) (fail)
          clear c1 c2 t8 wu
          go_wp2_with fail
          go_ret3
          exact OneOwn.fail HR.out b02.drew
end Go.Proofs.Ytipjmglieedimaa
