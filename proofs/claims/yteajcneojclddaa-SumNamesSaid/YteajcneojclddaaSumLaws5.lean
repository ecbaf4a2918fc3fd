import Derived.Test.YteajcneojclddaaSumLaws4
import Derived.Test.YteajcneojclddaaSum6
namespace Go.Proofs.Yteajcneojclddaa
set_option linter.unusedVariables false
set_option linter.unusedSimpArgs false
open Go.RowKit
theorem RJoin_calls (a b : BitVec 32) (n : Int) (w : World) (hn64 : n ≤ 9223372036854775807) :
    Calls Try.prog 19 #[.int .u32 (uv a), .int .u32 (uv b), .int .i64 n] w fun en w' => en = .returned (.int .u32 (uv (if n < 1 then a else join a b n.toNat))) ∧ Below w.heap.size w w' := by
  by_cases h : n ≤ 0
  · rw [if_pos (by omega)]
    go_enter Try.func19, Try.ntmps19
    go_wp2_with fail
    go_ret
    exact ⟨rfl, Below.refl _ _⟩
  · rw [if_neg (by omega)]
    have hx := uv_xor (TN n.toNat a) b
    go_enter Try.func19, Try.ntmps19
    go_wp2_with fail
    refine (RMoved_calls a n w hn64).mono ?_
    rintro en w1 ⟨rfl, b1⟩
    go_wp2_with fail
    go_ret
    exact ⟨rfl, b1⟩
theorem RNoughts_calls (s : BitVec 32) (n : Int) (w : World) (hn64 : n ≤ 9223372036854775807) :
    Calls Try.prog 20 #[.int .u32 (uv s), .int .i64 n] w fun en w' => en = .returned (.int .u32 (uv (noughts s n.toNat))) ∧ Below w.heap.size w w' := by
  have h1 := uv_notm s
  have h2 := uv_notm (TN n.toNat (~~~ s))
  have hsg : IntKind.u32.signed = false := rfl
  go_enter Try.func20, Try.ntmps20
  go_wp2_with fail
  refine (RMoved_calls _ n w hn64).mono ?_
  rintro en w1 ⟨rfl, b1⟩
  go_wp2_with fail
  go_ret
  exact ⟨rfl, b1⟩
set_option maxHeartbeats 1000000 in
theorem calls_core (A : Option Addr) (c : Nat) (b : List Int) (s t : BitVec 32) (n : Int) (w : World) (h : SlI w .u8 A c b) (hb : Bytes b) (hl : b.length ≤ 600) (hn : n ≤ 9223372036854775807) :
    Calls Try.prog 7 #[.slice A b.length c, .int .u32 (uv s), .int .u32 (uv t), .int .i64 n] w fun e w' => e = .returned (.bool true) ∧ Below w.heap.size w w' := by
  have i1 : ¬ (b.length : Int) > 600 := by omega
  obtain ⟨x, hx⟩ : ∃ x, Hid (x = uv (more 0#32 b)) := ⟨_, Lib.hid rfl⟩
  obtain ⟨y, hy⟩ : ∃ x, Hid (x = uv (more s b)) := ⟨_, Lib.hid rfl⟩
  obtain ⟨z, hz⟩ : ∃ x, Hid (x = uv (if n < 1 then s else join s t n.toNat)) := ⟨_, Lib.hid rfl⟩
  obtain ⟨u, hu⟩ : ∃ x, Hid (x = uv (noughts s n.toNat)) := ⟨_, Lib.hid rfl⟩
  have C1 := fun w h => hx.out ▸ Of_calls A c b w h hb
  have C2 := fun w h => hx.out ▸ ROf_calls A c b w h hb
  have C3 := fun w h => hy.out ▸ More_calls A c b s w h hb
  have C4 := fun w h => hy.out ▸ RMore_calls A c b s w h hb
  have C5 := fun w => hz.out ▸ Join_calls s t n w hn
  have C6 := fun w => hz.out ▸ RJoin_calls s t n w hn
  have C7 := fun w => hu.out ▸ Noughts_calls s n w hn
  have C8 := fun w => hu.out ▸ RNoughts_calls s n w hn
  generalize uv s = S at *
  generalize uv t = T at *
  go_enter Try.func7, Try.ntmps7
  go_wp2_with fail
  refine (lives_calls _).mono ?_
  rintro e w1 ⟨rfl, b1⟩
  go_wp2_with fail
  refine (C1 _ (h.below b1)).mono ?_
  rintro e w2 ⟨rfl, b2⟩
  have b02 := below_trans b1 b2
  clear b1 b2
  go_wp2_with fail
  refine (C2 _ (h.below b02)).mono ?_
  rintro e w3 ⟨rfl, b3⟩
  have b03 := below_trans b02 b3
  clear b02 b3
  go_wp2_with fail
  refine (C3 _ (h.below b03)).mono ?_
  rintro e w4 ⟨rfl, b4⟩
  have b04 := below_trans b03 b4
  clear b03 b4
  go_wp2_with fail
  refine (C4 _ (h.below b04)).mono ?_
  rintro e w5 ⟨rfl, b5⟩
  have b05 := below_trans b04 b5
  clear b04 b5
  go_wp2_with fail
  refine (C5 _).mono ?_
  rintro e w6 ⟨rfl, b6⟩
  have b06 := below_trans b05 b6
  clear b05 b6
  go_wp2_with fail
  refine (C6 _).mono ?_
  rintro e w7 ⟨rfl, b7⟩
  have b07 := below_trans b06 b7
  clear b06 b7
  go_wp2_with fail
  refine (C7 _).mono ?_
  rintro e w8 ⟨rfl, b8⟩
  have b08 := below_trans b07 b8
  clear b07 b8
  go_wp2_with fail
  refine (C8 _).mono ?_
  rintro e w9 ⟨rfl, b9⟩
  go_wp2_with fail
  go_ret
  exact ⟨rfl, below_trans b08 b9⟩
theorem SumCalls_row (A : Option Addr) (c : Nat) (b : List Int) (s t n : Int) (w : World) (h : SlI w .u8 A c b) (hb : ∀ n ∈ b, (Lit.int .u8 n).wf = true) (_hl : b.length * 1 ≤ 140737488351232) (hs : (Lit.int .u32 s).wf = true) (ht : (Lit.int .u32 t).wf = true) (hn : (Lit.int .i64 n).wf = true) :
    Calls Try.prog 7 #[.slice A b.length c, .int .u32 s, .int .u32 t, .int .i64 n] w fun e w' => e = .returned (.bool true) ∧ Below w.heap.size w w' := by
  have hlen := h.len
  by_cases hl : b.length > 600
  · have i1 : (b.length : Int) > 600 := by omega
    go_enter Try.func7, Try.ntmps7
    go_wp2_with fail
    refine (lives_calls _).mono ?_
    rintro e w1 ⟨rfl, b1⟩
    go_wp2_with fail
    go_ret
    exact ⟨rfl, b1⟩
  · obtain ⟨s, rfl⟩ := uv_of (bdU32 hs).1 (bdU32 hs).2
    obtain ⟨t, rfl⟩ := uv_of (bdU32 ht).1 (bdU32 ht).2
    exact calls_core A c b s t n w h (fun x hx => bdU8 (hb x hx)) (by omega) (bdI64 hn).2
end Go.Proofs.Yteajcneojclddaa
