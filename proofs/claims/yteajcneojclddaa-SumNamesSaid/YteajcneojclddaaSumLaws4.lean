import Derived.Test.YteajcneojclddaaSumLaws3
import Derived.Test.YteajcneojclddaaZeros
namespace Go.Proofs.Yteajcneojclddaa
set_option linter.unusedVariables false
set_option linter.unusedSimpArgs false
open Go.RowKit
theorem Join_at (a b r : BitVec 32) (n : Int) (w : World) (hn64 : n ≤ 9223372036854775807) (hr : Hid ((if n < 1 then a else join a b n.toNat) = r)) :
    Calls Try.prog 14 #[.int .u32 (uv a), .int .u32 (uv b), .int .i64 n] w fun en w' => en = .returned (.int .u32 (uv r)) ∧ Below w.heap.size w w' := hr.out ▸ Join_calls a b n w hn64
theorem More_at (A : Option Addr) (c n : Nat) (b : List Int) (s r : BitVec 32) (w : World) (h : SlI w .u8 A c b) (hb : Bytes b) (hn : Hid (b.length = n)) (hr : Hid (more s b = r)) :
    Calls Try.prog 17 #[.int .u32 (uv s), .slice A n c] w fun e w' => e = .returned (.int .u32 (uv r)) ∧ Below w.heap.size w w' := hn.out ▸ hr.out ▸ More_calls A c b s w h hb
theorem Of_at (A : Option Addr) (c n : Nat) (b : List Int) (r : BitVec 32) (w : World) (h : SlI w .u8 A c b) (hb : Bytes b) (hn : Hid (b.length = n)) (hr : Hid (more 0#32 b = r)) :
    Calls Try.prog 12 #[.slice A n c] w fun e w' => e = .returned (.int .u32 (uv r)) ∧ Below w.heap.size w w' := hn.out ▸ hr.out ▸ Of_calls A c b w h hb
theorem Noughts_at (s r : BitVec 32) (n : Int) (w : World) (hn64 : n ≤ 9223372036854775807) (hr : Hid (noughts s n.toNat = r)) :
    Calls Try.prog 15 #[.int .u32 (uv s), .int .i64 n] w fun en w' => en = .returned (.int .u32 (uv r)) ∧ Below w.heap.size w w' := hr.out ▸ Noughts_calls s n w hn64
theorem Pick_at (n m r : Int) (w : World) (hm : 1 ≤ m) (hm' : m ≤ 9223372036854775807) (hr : Hid (n % m = r)) : Calls Try.prog 11 #[.int .i64 n, .int .i64 m] w fun e w' => e = .returned (.int .i64 r) ∧ w = w' := hr.out ▸ Pick_calls n m w hm hm'
set_option maxHeartbeats 2000000 in
theorem joins_core (A : Option Addr) (c : Nat) (b : List Int) (at0 n0 m0 : Int) (w : World) (h : SlI w .u8 A c b) (hb : Bytes b) (hl : b.length ≤ 600) :
    Calls Try.prog 8 #[.slice A b.length c, .int .i64 at0, .int .i64 n0, .int .i64 m0] w fun e w' => e = .returned (.bool true) ∧ Below w.heap.size w w' := by
  have i1 : ¬ (b.length : Int) > 600 := by omega
  have hle := h.le
  obtain ⟨at_, hat⟩ : ∃ a : Nat, Hid (at0 % ((b.length : Int) + 1) = (a : Int)) := ⟨(at0 % ((b.length : Int) + 1)).toNat, by show _ = _; rw [Int.toNat_of_nonneg (Int.emod_nonneg _ (by omega))]⟩
  have hat1 : at_ ≤ b.length := by have := hat.out; have := Int.emod_lt_of_pos at0 (show 0 < (b.length : Int) + 1 by omega); omega
  obtain ⟨N, hN⟩ : ∃ a : Nat, Hid (n0 % 1099511627776 = (a : Int)) := ⟨(n0 % 1099511627776).toNat, by show _ = _; omega⟩
  obtain ⟨M, hM⟩ : ∃ a : Nat, Hid (m0 % 1099511627776 = (a : Int)) := ⟨(m0 % 1099511627776).toNat, by show _ = _; omega⟩
  have n1 : N < 1099511627776 := by have := hN.out; omega
  have m1 : M < 1099511627776 := by have := hM.out; omega
  obtain ⟨k, hk⟩ : ∃ a : Nat, Hid ((N : Int) % 600 = (a : Int)) := ⟨N % 600, by show _ = _; omega⟩
  have k1 : k < 600 := by have := hk.out; omega
  obtain ⟨s, hs⟩ : ∃ s, Hid (more 0#32 b = s) := ⟨_, Lib.hid rfl⟩
  obtain ⟨x, hx⟩ : ∃ s, Hid (more 0#32 (b.take at_) = s) := ⟨_, Lib.hid rfl⟩
  obtain ⟨y, hy⟩ : ∃ s, Hid (more 0#32 (b.drop at_) = s) := ⟨_, Lib.hid rfl⟩
  have H1 : Hid (more x (b.drop at_) = s) := by show _ = _; rw [← hx.out, more_append, List.take_append_drop, hs.out]
  have H2 : Hid ((if (b.length : Int) - (at_ : Int) < 1 then x else join x y ((b.length : Int) - (at_ : Int)).toNat) = s) := by
    show _ = _
    split
    · have : b.take at_ = b := List.take_of_length_le (by omega)
      rw [← hx.out, this, hs.out]
    · have e : ((b.length : Int) - (at_ : Int)).toNat = (b.drop at_).length := by rw [List.length_drop]; omega
      rw [e, ← hx.out, ← hy.out, join_more, List.take_append_drop, hs.out]
  obtain ⟨u, hu⟩ : ∃ u, Hid (noughts s (N : Int).toNat = u) := ⟨_, Lib.hid rfl⟩
  obtain ⟨v, hv⟩ : ∃ v, Hid (noughts u (M : Int).toNat = v) := ⟨_, Lib.hid rfl⟩
  have H3 : Hid (noughts s ((N : Int) + (M : Int)).toNat = v) := by
    show _ = _
    rw [← hv.out, ← hu.out, noughts_add]; congr 1
  obtain ⟨q, hq⟩ : ∃ q, Hid (noughts s (k : Int).toNat = q) := ⟨_, Lib.hid rfl⟩
  have H4 : Hid (more 0#32 (b ++ List.replicate k 0) = q) := by
    show _ = _
    rw [← hq.out, ← hs.out, noughts_more]; congr 1
  have H5 : Bytes (b ++ List.replicate k 0) := fun z hz => by
    rcases List.mem_append.1 hz with h' | h'
    · exact hb z h'
    · rw [List.eq_of_mem_replicate h']; omega
  have H6 : Hid ((b ++ List.replicate k 0).length = b.length + k) := by show _ = _; simp
  have HT : Hid ((b.take at_).length = at_) := by show _ = _; rw [List.length_take]; omega
  have HD : Hid ((b.drop at_).length = b.length - at_) := by show _ = _; rw [List.length_drop]
  obtain ⟨i0, hi, _, hz1, _⟩ := info_parts (P := Try.prog) (e := 5) (z := .int .u8 0) (size := 1) (bytes := 1) (by kernel_rfl)
  obtain ⟨A5, hcut, hA1, _⟩ := cut_l (P := Try.prog) 22 5 .i64 Try.underlying22 hi hz1 A b.length c at_ hat1 hle
  have sT := fun w' (hb' : Below w.heap.size w w') => (h.below hb').take at_ c (by omega) (Nat.le_refl _)
  have sD := fun w' (hb' : Below w.heap.size w w') => hA1 w' .u8 b rfl (h.below hb')
  have lea : (at_ : Int) ≤ (c : Int) := by omega
  have leb : (at_ : Int) ≤ (b.length : Int) := by omega
  clear hA1
  go_enter Try.func8, Try.ntmps8
  go_wp2_with fail
  refine (lives_calls _).mono ?_
  rintro e w1 ⟨rfl, b1⟩
  go_wp2_with fail
  refine (Pick_at at0 _ _ _ (by omega) (by omega) hat).mono ?_
  rintro e w' ⟨rfl, rfl⟩
  go_wp2_with fail
  refine (Of_at A c b.length b s _ (h.below b1) hb rfl hs).mono ?_
  rintro e w2 ⟨rfl, b2⟩
  have b02 := below_trans b1 b2
  clear b1 b2
  go_wp2_with fail
  go_region_held3 (fun _ => True) (trivial)
    (first
      | (go_at_call 12; refine (Of_at A c at_ _ x _ (sT _ b02.drew) (hb.take at_) HT hx).mono ?_; rintro e w3 ⟨rfl, b3⟩)
      | (go_at_call 12; refine (Of_at A5 (c - at_) (b.length - at_) _ y _ (sD _ (below_trans b02.drew b3)) (hb.drop at_) HD hy).mono ?_; rintro e w4 ⟨rfl, b4⟩))
  have b04 := below_trans (below_trans b02.drew b3) b4
  clear b02 b3 b4
  go_wp2_with fail
  refine (More_at A5 (c - at_) (b.length - at_) _ x s _ (sD _ b04) (hb.drop at_) HD H1).mono ?_
  rintro e w5 ⟨rfl, b5⟩
  have b05 := below_trans b04 b5
  clear b04 b5
  go_wp2_with fail
  refine (Join_at x y s _ _ (by omega) H2).mono ?_
  rintro e w6 ⟨rfl, b6⟩
  have b06 := below_trans b05 b6
  clear b05 b6
  go_wp2_with fail
  refine (Pick_at n0 _ _ _ (by omega) (by omega) hN).mono ?_
  rintro e w' ⟨rfl, rfl⟩
  go_wp2_with fail
  refine (Pick_at m0 _ _ _ (by omega) (by omega) hM).mono ?_
  rintro e w' ⟨rfl, rfl⟩
  go_wp2_with fail
  refine (Pick_at (N : Int) _ _ _ (by omega) (by omega) hk).mono ?_
  rintro e w' ⟨rfl, rfl⟩
  go_wp2_with fail
  refine (Noughts_at s u _ _ (by omega) hu).mono ?_
  rintro e w7 ⟨rfl, b7⟩
  have b07 := below_trans b06 b7
  clear b06 b7
  go_wp2_with fail
  refine (Noughts_at u v _ _ (by omega) hv).mono ?_
  rintro e w8 ⟨rfl, b8⟩
  have b08 := below_trans b07 b8
  clear b07 b8
  go_wp2_with fail
  refine (Noughts_at s v _ _ (by omega) H3).mono ?_
  rintro e w9 ⟨rfl, b9⟩
  have b09 := below_trans b08 b9
  clear b08 b9
  go_wp2_with fail
  refine (Noughts_at s q _ _ (by omega) hq).mono ?_
  rintro e w10 ⟨rfl, b10⟩
  have b010 := below_trans b09 b10
  clear b09 b10
  go_wp2_with fail
  refine (Own_byte_calls A c b _ (h.below b010) (by omega)).mono ?_
  rintro e w11 ⟨A2, c2, rfl, h2, b11⟩
  have b011 := below_trans b010 b11
  have h2' := own_mono h2 b010.size
  clear b010 b11 h2
  have hws := b011.size
  go_wp2_with (at_builtin; refine app_zeros_on w.heap.size (by rfl) _ _ 22 3 5 .u8 1 rfl Try.underlying22 Try.underlying3 (by kernel_rfl) (by decide) A2 c2 b .i64 k rfl rfl h2' hws (by omega) ?_)
  intro B1 c1 w12 h12 g12
  have b012 := below_grown b011 g12 h2' (Nat.le_refl _)
  clear b011 g12 h2'
  go_wp2_with fail
  refine (Of_at B1 c1 (b.length + k) _ q _ (OwnI.sl h12) H5 H6 H4).mono ?_
  rintro e w13 ⟨rfl, b13⟩
  go_wp2_with fail
  go_ret
  exact ⟨rfl, below_trans b012 b13⟩
theorem SumJoins_row (A : Option Addr) (c : Nat) (b : List Int) (at0 n m : Int) (w : World) (h : SlI w .u8 A c b) (hb : ∀ n ∈ b, (Lit.int .u8 n).wf = true) (_hl : b.length * 1 ≤ 140737488351232) (_ha : (Lit.int .i64 at0).wf = true) (_hn : (Lit.int .i64 n).wf = true) (_hm : (Lit.int .i64 m).wf = true) :
    Calls Try.prog 8 #[.slice A b.length c, .int .i64 at0, .int .i64 n, .int .i64 m] w fun e w' => e = .returned (.bool true) ∧ Below w.heap.size w w' := by
  have hlen := h.len
  by_cases hl : b.length > 600
  · have i1 : (b.length : Int) > 600 := by omega
    go_enter Try.func8, Try.ntmps8
    go_wp2_with fail
    refine (lives_calls _).mono ?_
    rintro e w1 ⟨rfl, b1⟩
    go_wp2_with fail
    go_ret
    exact ⟨rfl, b1⟩
  · exact joins_core A c b at0 n m w h (fun x hx => bdU8 (hb x hx)) (by omega)
end Go.Proofs.Yteajcneojclddaa
