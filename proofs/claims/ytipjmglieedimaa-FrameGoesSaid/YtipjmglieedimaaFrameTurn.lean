import Derived.Test.YtipjmglieedimaaFrame2
import Derived.Test.YtipjmglieedimaaFrameMath2
import Derived.Test.YtipjmglieedimaaSized
namespace Go.Proofs.Ytipjmglieedimaa
set_option linter.unusedVariables false
set_option linter.unusedSimpArgs false
open Go.RowKit
theorem Own_at (A : Option Addr) (c n : Nat) (xs : List Int) (w : World) (h : SlI w .u8 A c xs) (hl : xs.length * 1 ≤ 140737488355328) (hn : Hid (xs.length = n)) :
    Calls Try.prog 11 #[.slice A n c] w fun e w' => ∃ A' c', e = .returned (.slice A' n c') ∧ OwnI w' w.heap.size 5 .u8 A' c' xs ∧ Below w.heap.size w w' := hn.out ▸ Own_byte_calls A c xs w h hl
set_option maxHeartbeats 2000000 in
set_option maxRecDepth 100000 in
theorem turned_core (A : Option Addr) (c : Nat) (p : List Int) (n : Int) (W V : BitVec 32) (w : World) (h : SlI w .u8 A c p) (hb : Bytes p) (hl : p.length ≤ 400) (hl0 : 0 < p.length) (zs : List Int) (m er : Int) (hrd : Hid ((if V = 0#32 then (p, 8 + (p.length : Int), (0 : Int)) else ([], 0, 4)) = (zs, m, er)))
    (her : (er = 0 ∧ (uv V == 0) = true) ∨ (er = 4 ∧ (uv V == 0) = false)) :
    Calls Try.prog 3 #[.slice A p.length c, .int .i64 n, .int .u32 (uv W), .int .u32 (uv V)] w fun e w' => e = .returned (.bool true) ∧ Below w.heap.size w w' := by
  have i1 : ¬ (p.length : Int) > 400 := by omega
  have i2 : ((p.length : Int) == 0) = false := by rw [beq_eq_false_iff_ne]; omega
  obtain ⟨at_, hat⟩ : ∃ a : Nat, Hid (n % (8 * (p.length : Int)) = (a : Int)) := ⟨(n % (8 * (p.length : Int))).toNat, by show _ = _; rw [Int.toNat_of_nonneg (Int.emod_nonneg _ (by omega))]⟩
  have hat1 : at_ < 8 * p.length := by have := hat.out; have := Int.emod_lt_of_pos n (show 0 < 8 * (p.length : Int) by omega); omega
  have FB := frm_bytes hb
  have FL := Lib.hid (frm_len p)
  obtain ⟨F, hF⟩ : ∃ F, Hid (frm p = F) := ⟨_, Lib.hid rfl⟩
  have TS := Lib.hid (fun (ys : List Int) (h1 : Bytes ys) (h2 : ys.length = (frm p).length) (h3 : chg (frm p) ys (uv V) 4) => (turned_sum hb (by omega) h1 h2 h3).trans hrd.out)
  have TB := Lib.hid (fun (ys : List Int) (V : BitVec 32) (h1 : Bytes ys) (h2 : ys.length = (frm p).length) h3 h4 => turned_bits hb (by omega) h1 h2 at_ hat1 V h3 h4)
  rw [hF.out] at FB FL TS TB
  have hvr := uv_range V
  generalize hv : uv V = v at *
  have HV := Lib.hid hv
  clear hv
  have j1 : ((F.length : Int) != (p.length : Int) + 8) = false := by have := FL.out; simp; omega
  have j2 : p.length + 8 ≤ F.length := by have := FL.out; omega
  have j3 : F.length ≤ p.length + 8 := by have := FL.out; omega
  go_enter Try.func3, Try.ntmps3
  go_wp2_with fail
  refine (lives_calls _).mono ?_
  rintro e w1 ⟨rfl, b1⟩
  go_wp2_with fail
  refine (Bytes_at A c p.length p _ (h.below b1) hb (by omega) (Lib.hid rfl) F hF).mono ?_
  rintro e w2 ⟨A1, c1, rfl, o1, b2⟩
  have b02 := below_trans b1 b2
  have o1 := own_mono o1 b1.size
  clear b1 b2
  go_wp2_with fail
  refine (Own_at A1 c1 F.length F _ (OwnI.sl o1) (by omega) (Lib.hid rfl)).mono ?_
  rintro e w3 ⟨A2, c2, rfl, o2, b3⟩
  go_wp2_with fail
  refine (Own_at A1 c1 F.length F _ ((OwnI.sl o1).below b3) (by omega) (Lib.hid rfl)).mono ?_
  rintro e w4 ⟨A3, c3, rfl, o3, b4⟩
  obtain ⟨g2, rfl, hg20, hg21⟩ := own_form o2 (by omega)
  obtain ⟨g3, rfl, hg30, hg31⟩ := own_form o3 (by omega)
  go_wp2_with fail
  go_loopg [13] 5 (fun gk i w' => ∃ (k : Nat) (ys : List Int), i = .int .i64 (k : Int) ∧ k ≤ 4 ∧ 4 < k + gk ∧ ys.length = F.length ∧ Bytes ys ∧ Hid (chg F ys v k) ∧ OwnI w' w3.heap.size 5 .u8 (some ⟨g3, 0, none⟩) c3 ys ∧ Below w3.heap.size w3 w')
  case atStart => exact ⟨0, F, rfl, by omega, by omega, rfl, FB, (fun i => by rw [if_neg (by omega)]), o3, b4⟩
  case round =>
    clear o3 b4
    obtain ⟨k, ys, rfl, hk, hg, hyl, hyb, hch, o3, b4⟩ := hrel
    have HYL := Lib.hid hyl
    clear hyl
    by_cases hlt : k < 4
    · have k1 : (k : Int) < 4 := by omega
      have hidx : 4 + k < ys.length := by have := HYL.out; omega
      have k2 : (4 : Int) + (k : Int) < (F.length : Int) := by omega
      obtain ⟨hc1, hc2⟩ := OwnI.cell o3 (4 + k) hidx
      have N2 := Lib.hid (chg_step hch.out hidx _ rfl)
      have N3 : (ys.set (4 + k) (bits .xor .u8 (ys.getD (4 + k) 0) (v / 2 ^ (8 * k) % 256))).length = F.length := by rw [List.length_set]; exact HYL.out
      have N1 : Bytes (ys.set (4 + k) (bits .xor .u8 (ys.getD (4 + k) 0) (v / 2 ^ (8 * k) % 256))) := fun x hx => by
        rcases List.mem_or_eq_of_mem_set hx with h1 | h1
        · exact hyb x h1
        · rw [h1]; exact xor_byte (hyb.getD hidx) (by omega)
      have N4 := OwnI.put o3 (4 + k) (bits .xor .u8 (ys.getD (4 + k) 0) (v / 2 ^ (8 * k) % 256))
      have N5 := b4.setCell (p := ⟨g3, 4 + k, none⟩) hg30 (.int .u8 (bits .xor .u8 (ys.getD (4 + k) 0) (v / 2 ^ (8 * k) % 256)))
      have N3 := Lib.hid N3
      generalize ys.getD (4 + k) 0 = y at *
      generalize hz : bits .xor .u8 y (v / 2 ^ (8 * k) % 256) = z at *
      generalize ys.set (4 + k) z = zs' at *
      go_wp2
      go_roundg (gk - 1)
      case measure => omega
      case rel => exact ⟨k + 1, zs', by simp, by omega, by omega, N3.out, N1, N2, N4, N5⟩
    · have k1 : ¬ (k : Int) < 4 := by omega
      obtain rfl : k = 4 := by omega
      have HO := Lib.hid (TS.out ys hyb HYL.out hch.out)
      have o2' := own_below o2 b4
      have s1 := ((OwnI.sl o1).below b3).below b4
      have bW := below_then b3 b3.size b4
      have s3 := OwnI.sl o3
      have FB3 := Lib.hid (show ys.length ≤ 140737488355328 by have := HYL.out; omega)
      clear hch o3 o2 b3 b4 o1
      go_wp2_with fail
      refine (One_at (some ⟨g3, 0, none⟩) c3 F.length ys _ s3 hyb FB3.out HYL zs m er HO).mono ?_
      rintro e w5 ⟨A5, c5, rfl, _, b5⟩
      have o2 := own_below o2' b5
      have s1 := s1.below b5
      have bW := below_then bW bW.size b5
      clear b5 s3 o2'
      have HB := Lib.hid (show ∀ q, q < 8 * F.length → bt F q = (bt F q ^^ (decide (64 + at_ ≤ q) && (low 0 W).getLsbD (q - (64 + at_)))) from fun q hq => by rw [low_zero]; simp)
      rcases her with ⟨rfl, hv0⟩ | ⟨rfl, hv0⟩
      all_goals
        go_wp2_with fail
        refine (hat.out ▸ Pick_calls n (8 * (p.length : Int)) _ (by omega) (by omega) : Calls Try.prog 13 #[.int .i64 n, .int .i64 (8 * (p.length : Int))] _ fun e w' => e = .returned (.int .i64 (at_ : Int)) ∧ _ = w').mono ?_
        rintro e w' ⟨rfl, rfl⟩
        go_wp2_with fail
        go_loopg [17] 33 (fun gk i w' => ∃ (k : Nat) (ys : List Int), i = .int .i64 (k : Int) ∧ k ≤ 32 ∧ at_ + k ≤ 8 * p.length ∧ 32 < k + gk ∧ ys.length = F.length ∧ Bytes ys ∧ Hid (∀ q, q < 8 * F.length → bt ys q = (bt F q ^^ (decide (64 + at_ ≤ q) && (low k W).getLsbD (q - (64 + at_))))) ∧ OwnI w' w2.heap.size 5 .u8 (some ⟨g2, 0, none⟩) c2 ys ∧ Below w2.heap.size w2 w')
        case atStart => exact ⟨0, F, rfl, by omega, by omega, by omega, rfl, FB, HB, o2, bW⟩
        case round =>
          clear o2 bW s1
          obtain ⟨k, ys, rfl, hk, hak, hg, hyl, hyb, hbits, o2, bW⟩ := hrel
          have HYL := Lib.hid hyl
          clear hyl
          by_cases hlt : k < 32 ∧ at_ + k < 8 * p.length
          · have k1 : (k : Int) < 32 := by omega
            have k2 : (at_ : Int) + (k : Int) < 8 * (p.length : Int) := by omega
            have e1 : (64 + at_ + k) / 8 = 8 + (at_ + k) / 8 := by omega
            have e2 : (64 + at_ + k) % 8 = (at_ + k) % 8 := by omega
            have hidx : 8 + (at_ + k) / 8 < ys.length := by have := HYL.out; omega
            have k3 : (8 : Int) + ((at_ : Int) + (k : Int)) / 8 < (F.length : Int) := by omega
            obtain ⟨hc1, hc2⟩ := OwnI.cell o2 (8 + (at_ + k) / 8) hidx
            have hv := uv_rem W k
            cases hvk : W.getLsbD k with
            | true =>
              rw [hvk] at hv
              have N1 := flip_bytes hyb (q := 64 + at_ + k) (by have := HYL.out; omega)
              have N2 := flip_next (at_ := 64 + at_) hlt.1 hvk HYL.out hyb (by omega) hbits.out
              rw [e1, e2] at N1 N2
              have N2 := Lib.hid N2
              have N3 : (ys.set (8 + (at_ + k) / 8) (bits .xor .u8 (ys.getD (8 + (at_ + k) / 8) 0) (2 ^ ((at_ + k) % 8) % 256))).length = F.length := by rw [List.length_set]; exact HYL.out
              have N4 := OwnI.put o2 (8 + (at_ + k) / 8) (bits .xor .u8 (ys.getD (8 + (at_ + k) / 8) 0) (2 ^ ((at_ + k) % 8) % 256))
              have N5 := bW.setCell (p := ⟨g2, 8 + (at_ + k) / 8, none⟩) hg20 (.int .u8 (bits .xor .u8 (ys.getD (8 + (at_ + k) / 8) 0) (2 ^ ((at_ + k) % 8) % 256)))
              have N3 := Lib.hid N3
              clear e1 e2
              generalize ys.getD (8 + (at_ + k) / 8) 0 = y at *
              generalize hz : bits .xor .u8 y (2 ^ ((at_ + k) % 8) % 256) = z at *
              generalize ys.set (8 + (at_ + k) / 8) z = zs' at *
              go_wp2
              go_roundg (gk - 1)
              case measure => omega
              case rel => exact ⟨k + 1, zs', by simp, by omega, by omega, by omega, N3.out, N1, N2, N4, N5⟩
            | false =>
              rw [hvk] at hv
              have hl1 : low (k + 1) W = low k W := by rw [low_succ, hvk]; rfl
              have HL := Lib.hid hl1
              clear hl1 e1 e2
              go_wp2
              go_roundg (gk - 1)
              case measure => omega
              case rel => exact ⟨k + 1, ys, by simp, by omega, by omega, by omega, HYL.out, hyb, (by show _; rw [HL.out]; exact hbits.out), o2, bW⟩
          · have HO := Lib.hid (TB.out ys (low k W) hyb HYL.out hbits.out (fun i hi => by
              rw [low_bit (by omega)]
              simp [show ¬ i < k by have := FL.out; omega]))
            have s1 := (OwnI.sl o1).below bW
            have s2 := OwnI.sl o2
            have bT := below_then b02 b02.size bW
            have hends : ¬ (k : Int) < 32 ∨ ((k : Int) < 32 ∧ ¬ (at_ : Int) + (k : Int) < 8 * (p.length : Int)) := by omega
            have FB3 := Lib.hid (show ys.length ≤ 140737488355328 by have := HYL.out; omega)
            clear hbits o2 bW o1 b02
            by_cases hc : F = ys
            · have HO2 := Lib.hid (HO.out.trans (if_pos hc))
              have hq := Lib.hid (decide_eq_true hc)
              clear hc HO
              rcases hends with k1 | ⟨k1, k2⟩
              all_goals
                go_wp2_with fail
                refine (One_at (some ⟨g2, 0, none⟩) c2 F.length ys _ s2 hyb FB3.out HYL _ _ _ HO2).mono ?_
                rintro e w6 ⟨A6, c6, rfl, _, b6⟩
                go_wp2_with fail
                refine (Same_at A1 (some ⟨g2, 0, none⟩) c1 c2 F.length F.length F ys _ (s1.below b6) (s2.below b6) (Lib.hid rfl) HYL true hq).mono ?_
                rintro e w7 ⟨rfl, b7⟩
                go_wp2_with fail
                go_ret
                exact ⟨by first | rfl | simp, below_trans bT (below_trans b6 b7)⟩
            · have HO2 := Lib.hid (HO.out.trans (if_neg hc))
              have hq := Lib.hid (decide_eq_false hc)
              clear hc HO
              rcases hends with k1 | ⟨k1, k2⟩
              all_goals
                go_wp2_with fail
                refine (One_at (some ⟨g2, 0, none⟩) c2 F.length ys _ s2 hyb FB3.out HYL _ _ _ HO2).mono ?_
                rintro e w6 ⟨A6, c6, rfl, _, b6⟩
                go_wp2_with fail
                refine (Same_at A1 (some ⟨g2, 0, none⟩) c1 c2 F.length F.length F ys _ (s1.below b6) (s2.below b6) (Lib.hid rfl) HYL false hq).mono ?_
                rintro e w7 ⟨rfl, b7⟩
                go_wp2_with fail
                go_ret
                exact ⟨by first | rfl | simp, below_trans bT (below_trans b6 b7)⟩
set_option maxHeartbeats 2000000 in
set_option maxRecDepth 100000 in
theorem turned_zero (A : Option Addr) (c : Nat) (p : List Int) (n : Int) (W V : BitVec 32) (w : World) (h : SlI w .u8 A c p) (hb : Bytes p) (hl : p.length ≤ 400) (hl0 : p.length = 0) (zs : List Int) (m er : Int) (hrd : Hid ((if V = 0#32 then (p, 8 + (p.length : Int), (0 : Int)) else ([], 0, 4)) = (zs, m, er)))
    (her : (er = 0 ∧ (uv V == 0) = true) ∨ (er = 4 ∧ (uv V == 0) = false)) :
    Calls Try.prog 3 #[.slice A p.length c, .int .i64 n, .int .u32 (uv W), .int .u32 (uv V)] w fun e w' => e = .returned (.bool true) ∧ Below w.heap.size w w' := by
  have i1 : ¬ (p.length : Int) > 400 := by omega
  have i2 : ((p.length : Int) == 0) = true := by rw [beq_iff_eq]; omega
  have HL0 := Lib.hid hl0
  clear hl0
  have FB := frm_bytes hb
  have FL := Lib.hid (frm_len p)
  obtain ⟨F, hF⟩ : ∃ F, Hid (frm p = F) := ⟨_, Lib.hid rfl⟩
  have TS := Lib.hid (fun (ys : List Int) (h1 : Bytes ys) (h2 : ys.length = (frm p).length) (h3 : chg (frm p) ys (uv V) 4) => (turned_sum hb (by omega) h1 h2 h3).trans hrd.out)
  rw [hF.out] at FB FL TS
  have hvr := uv_range V
  generalize hv : uv V = v at *
  have HV := Lib.hid hv
  clear hv
  have j1 : ((F.length : Int) != (p.length : Int) + 8) = false := by have := FL.out; simp; omega
  have j2 : p.length + 8 ≤ F.length := by have := FL.out; omega
  have j3 : F.length ≤ p.length + 8 := by have := FL.out; omega
  go_enter Try.func3, Try.ntmps3
  go_wp2_with fail
  refine (lives_calls _).mono ?_
  rintro e w1 ⟨rfl, b1⟩
  go_wp2_with fail
  refine (Bytes_at A c p.length p _ (h.below b1) hb (by omega) (Lib.hid rfl) F hF).mono ?_
  rintro e w2 ⟨A1, c1, rfl, o1, b2⟩
  have b02 := below_trans b1 b2
  have o1 := own_mono o1 b1.size
  clear b1 b2
  go_wp2_with fail
  refine (Own_at A1 c1 F.length F _ (OwnI.sl o1) (by omega) (Lib.hid rfl)).mono ?_
  rintro e w3 ⟨A2, c2, rfl, o2, b3⟩
  go_wp2_with fail
  refine (Own_at A1 c1 F.length F _ ((OwnI.sl o1).below b3) (by omega) (Lib.hid rfl)).mono ?_
  rintro e w4 ⟨A3, c3, rfl, o3, b4⟩
  obtain ⟨g2, rfl, hg20, hg21⟩ := own_form o2 (by omega)
  obtain ⟨g3, rfl, hg30, hg31⟩ := own_form o3 (by omega)
  go_wp2_with fail
  go_loopg [13] 5 (fun gk i w' => ∃ (k : Nat) (ys : List Int), i = .int .i64 (k : Int) ∧ k ≤ 4 ∧ 4 < k + gk ∧ ys.length = F.length ∧ Bytes ys ∧ Hid (chg F ys v k) ∧ OwnI w' w3.heap.size 5 .u8 (some ⟨g3, 0, none⟩) c3 ys ∧ Below w3.heap.size w3 w')
  case atStart => exact ⟨0, F, rfl, by omega, by omega, rfl, FB, (fun i => by rw [if_neg (by omega)]), o3, b4⟩
  case round =>
    clear o3 b4
    obtain ⟨k, ys, rfl, hk, hg, hyl, hyb, hch, o3, b4⟩ := hrel
    have HYL := Lib.hid hyl
    clear hyl
    by_cases hlt : k < 4
    · have k1 : (k : Int) < 4 := by omega
      have hidx : 4 + k < ys.length := by have := HYL.out; omega
      have k2 : (4 : Int) + (k : Int) < (F.length : Int) := by omega
      obtain ⟨hc1, hc2⟩ := OwnI.cell o3 (4 + k) hidx
      have N2 := Lib.hid (chg_step hch.out hidx _ rfl)
      have N3 : (ys.set (4 + k) (bits .xor .u8 (ys.getD (4 + k) 0) (v / 2 ^ (8 * k) % 256))).length = F.length := by rw [List.length_set]; exact HYL.out
      have N1 : Bytes (ys.set (4 + k) (bits .xor .u8 (ys.getD (4 + k) 0) (v / 2 ^ (8 * k) % 256))) := fun x hx => by
        rcases List.mem_or_eq_of_mem_set hx with h1 | h1
        · exact hyb x h1
        · rw [h1]; exact xor_byte (hyb.getD hidx) (by omega)
      have N4 := OwnI.put o3 (4 + k) (bits .xor .u8 (ys.getD (4 + k) 0) (v / 2 ^ (8 * k) % 256))
      have N5 := b4.setCell (p := ⟨g3, 4 + k, none⟩) hg30 (.int .u8 (bits .xor .u8 (ys.getD (4 + k) 0) (v / 2 ^ (8 * k) % 256)))
      have N3 := Lib.hid N3
      generalize ys.getD (4 + k) 0 = y at *
      generalize hz : bits .xor .u8 y (v / 2 ^ (8 * k) % 256) = z at *
      generalize ys.set (4 + k) z = zs' at *
      go_wp2
      go_roundg (gk - 1)
      case measure => omega
      case rel => exact ⟨k + 1, zs', by simp, by omega, by omega, N3.out, N1, N2, N4, N5⟩
    · have k1 : ¬ (k : Int) < 4 := by omega
      obtain rfl : k = 4 := by omega
      have HO := Lib.hid (TS.out ys hyb HYL.out hch.out)
      have o2' := own_below o2 b4
      have s1 := ((OwnI.sl o1).below b3).below b4
      have bW := below_then b3 b3.size b4
      have s3 := OwnI.sl o3
      have FB3 := Lib.hid (show ys.length ≤ 140737488355328 by have := HYL.out; omega)
      clear hch o3 o2 b3 b4 o1
      go_wp2_with fail
      refine (One_at (some ⟨g3, 0, none⟩) c3 F.length ys _ s3 hyb FB3.out HYL zs m er HO).mono ?_
      rintro e w5 ⟨A5, c5, rfl, _, b5⟩
      have o2 := own_below o2' b5
      have s1 := s1.below b5
      have bW := below_then bW bW.size b5
      clear b5 s3 o2'
      have bT := below_then b02 b02.size bW
      rcases her with ⟨rfl, hv0⟩ | ⟨rfl, hv0⟩
      all_goals
        go_wp2_with fail
        go_ret
        exact ⟨rfl, bT⟩
set_option maxRecDepth 100000 in
theorem FrameTurned_row (A : Option Addr) (c : Nat) (p : List Int) (n : Int) (m v : Int) (w : World) (h : SlI w .u8 A c p) (hb : ∀ n ∈ p, (Lit.int .u8 n).wf = true) (_hs : p.length * 1 ≤ 140737488351232) (_hn : (Lit.int .i64 n).wf = true) (hm : (Lit.int .u32 m).wf = true) (hv : (Lit.int .u32 v).wf = true) :
    Calls Try.prog 3 #[.slice A p.length c, .int .i64 n, .int .u32 m, .int .u32 v] w fun e w' => e = .returned (.bool true) ∧ Below w.heap.size w w' := by
  have hB : Bytes p := fun x hx => bdU8 (hb x hx)
  have hlen := h.len
  by_cases hl : p.length > 400
  · have i1 : (p.length : Int) > 400 := by omega
    go_enter Try.func3, Try.ntmps3
    go_wp2_with fail
    refine (lives_calls _).mono ?_
    rintro e w1 ⟨rfl, b1⟩
    go_wp2_with fail
    go_ret
    exact ⟨rfl, b1⟩
  · obtain ⟨W, rfl⟩ := uv_of (bdU32 hm).1 (bdU32 hm).2
    obtain ⟨V, rfl⟩ := uv_of (bdU32 hv).1 (bdU32 hv).2
    by_cases hV : V = 0#32
    · have hr : Hid ((if V = 0#32 then (p, 8 + (p.length : Int), (0 : Int)) else ([], 0, 4)) = (p, 8 + (p.length : Int), (0 : Int))) := if_pos hV
      have he : ((0 : Int) = 0 ∧ (uv V == 0) = true) ∨ ((0 : Int) = 4 ∧ (uv V == 0) = false) := .inl ⟨rfl, by rw [hV]; rfl⟩
      by_cases hl0 : p.length = 0
      · exact turned_zero A c p n W V w h hB (by omega) hl0 _ _ _ hr he
      · exact turned_core A c p n W V w h hB (by omega) (by omega) _ _ _ hr he
    · have hr : Hid ((if V = 0#32 then (p, 8 + (p.length : Int), (0 : Int)) else ([], 0, 4)) = ([], 0, 4)) := if_neg hV
      have he : ((4 : Int) = 0 ∧ (uv V == 0) = true) ∨ ((4 : Int) = 4 ∧ (uv V == 0) = false) := .inr ⟨rfl, by rw [beq_eq_false_iff_ne]; exact fun hh => hV (uv_inj (hh.trans rfl))⟩
      by_cases hl0 : p.length = 0
      · exact turned_zero A c p n W V w h hB (by omega) hl0 _ _ _ hr he
      · exact turned_core A c p n W V w h hB (by omega) (by omega) _ _ _ hr he
end Go.Proofs.Ytipjmglieedimaa
