/- CmdBk: the law's back. -/
import Derived.Test.YtjdablkdndmcgaaCmdZ
import Derived.Test.YtjdablkdndmcgaaCmdK
namespace Go.Proofs.Ytjdablkdndmcgaa
set_option linter.unusedVariables false
set_option linter.unusedSimpArgs false
open Go.RowKit
attribute [local go_sem] run_max run_min
theorem putB_bytes (x : Cm) (how : Nat) (hok : cmOk x) (hh : how ≤ 16) : Bytes (putB x how) := by
  have h1 : 1 ≤ x.op ∧ x.op ≤ 12 := by unfold cmOk at hok; exact hok.1
  intro y hy
  unfold putB idB vecB kB dB at hy
  simp only [List.mem_append, List.mem_cons, List.not_mem_nil, or_false] at hy
  rcases hy with (((rfl | hy) | hy) | hy) | hy
  · omega
  · split at hy
    · exact lowB_bytes _ _ y hy
    · cases hy
  · split at hy
    · simp only [List.mem_append, List.mem_cons, List.not_mem_nil, or_false, List.mem_flatMap] at hy
      rcases hy with (rfl | hy) | ⟨n, _, hy⟩
      · omega
      · exact lowB_bytes _ _ y hy
      · unfold numB at hy
        split at hy <;> exact lowB_bytes _ _ y hy
    · cases hy
  · split at hy
    · rcases List.mem_append.1 hy with hy | hy <;> exact lowB_bytes _ _ y hy
    · cases hy
  · split at hy
    · simp only [List.mem_append, List.mem_flatMap] at hy
      rcases hy with hy | ⟨n, _, hy⟩ <;> exact lowB_bytes _ _ y hy
    · cases hy
theorem putB_small (x : Cm) (how : Nat) (hok : cmOk x) : 1 ≤ (putB x how).length ∧ (putB x how).length ≤ 100000 := by
  unfold cmOk at hok
  obtain ⟨_, _, ov, _, od⟩ := hok
  have hl1 : x.v.length ≤ 1024 := by split at ov <;> simp_all
  have hl2 : x.d.length ≤ 4096 := by split at od <;> simp_all
  rw [putB_len]
  split <;> split <;> split <;> split <;> (try split) <;> omega
theorem status_put (x : Cm) (how : Nat) (hok : cmOk x) (hx : CmB x) (hh : how ≤ 16) : statusR (putB x how) (max 1 (x.v.length : Int)) = (x, 0) := by
  unfold statusR
  rw [parse_put x how hok hx hh]
  unfold stOf
  dsimp only
  rw [if_neg]
  rintro ⟨h1, h2⟩
  unfold cmOk at hok
  obtain ⟨_, _, ov, _, _⟩ := hok
  rw [has_vec] at h1; simp at h1
  rw [if_pos (by omega)] at ov
  omega
set_option maxHeartbeats 2000000 in
set_option maxRecDepth 20000 in
theorem back_calls (V : Option Addr) (cv : Nat) (r : List Int) (x : Cm) (A : Option Addr) (a : Nat) (B : Option Addr) (b : Nat) (at' m : Int) (how : Nat) (w : World) (hV : SlI w .u8 V cv r) (hk : CmK w x A a B b) (hok : cmOk x) (hx : CmB x) (hh : how ≤ 16) (hr : Hid (r = putB x how)) (m0 : 0 ≤ m) (m1 : m ≤ 255) :
    Calls Try.prog 19 #[.slice V r.length cv, .agg (cmC x A a B b).toArray, .int .i64 at', .int .u8 m] w fun e w' => e = .returned (.bool true) ∧ Below w.heap.size w w' := by
  have hp1 := Lib.hid (show parseR r = some x by rw [hr.out]; exact parse_put x how hok hx hh)
  have hp2 := Lib.hid (show parseR (r ++ [m]) = none by rw [hr.out]; exact parse_more x how m hok hx hh)
  have hp3 := Lib.hid (fun (k : Nat) (hk : k < r.length) => (show parseR (r.take k) = none by rw [hr.out] at hk ⊢; exact parse_less x how k hok hx hh hk))
  have hp4 := Lib.hid (show statusR r (max 1 (x.v.length : Int)) = (x, 0) by rw [hr.out]; exact status_put x how hok hx hh)
  have hrb : Bytes r := hr.out ▸ putB_bytes x how hok hh
  have hrl : 1 ≤ r.length ∧ r.length ≤ 100000 := hr.out ▸ putB_small x how hok
  obtain ⟨r0, r1⟩ := hrl
  have hvl : x.v.length ≤ 1024 := by
    unfold cmOk at hok
    obtain ⟨_, _, ov, _, _⟩ := hok
    split at ov <;> simp_all
  replace hrb := Lib.hid hrb
  clear hr hok hx
  have h0 : Blk (w.alloc (.cells (cmC x A a B b).toArray 34)) w.heap.size 34 (cmC x A a B b) := Blk.new w _ _
  have B0 := below_box0 w (.cells (cmC x A a B b).toArray 34)
  have HX : BX w (w.alloc (.cells (cmC x A a B b).toArray 34)) x A a B b := ⟨h0, hk.below B0, B0⟩
  have HH := Lib.hid (And.intro (hV.below B0) HX)
  clear h0 B0 hk HX hV
  simp only [cmC]
  go_enter Try.func19, Try.ntmps19
  go_wp2_with fail
  refine (Parse_calls V cv r _ HH.out.1 hrb.out (by omega) _ hp1).mono ?_
  rintro en W1 ⟨⟨A1, a1, B1, c1, rfl, k1, _⟩, bb⟩
  obtain ⟨hV, HX⟩ := HH.out
  clear HH
  simp only [Option.getD_some] at k1
  have bc := below_box0 W1 (.cells (cmC x A1 a1 B1 c1).toArray 34)
  have q1 : Blk (W1.alloc (.cells (cmC x A1 a1 B1 c1).toArray 34)) W1.heap.size 34 (cmC x A1 a1 B1 c1) := Blk.new W1 _ _
  have HH := Lib.hid (And.intro ((hV.below bb).below bc) <| And.intro ((HX.below bb).below bc) <| And.intro q1 (k1.below bc))
  clear hV HX q1 k1 bb bc
  simp only [cmC, Option.getD_some, Option.isSome_some, if_pos]
  go_wp2_with fail
  refine (Own_byte_calls V cv r _ HH.out.1 (by omega)).mono ?_
  rintro en W2 ⟨D2, d2, rfl, o2, bb⟩
  obtain ⟨WN, hWN⟩ : ∃ W, W = W1.alloc (.cells (cmC x A1 a1 B1 c1).toArray 34) := ⟨_, rfl⟩
  have HH2 : Hid (SlI WN .u8 V cv r ∧ BX w WN x A a B b ∧ Blk WN W1.heap.size 34 (cmC x A1 a1 B1 c1) ∧ CmK WN x A1 a1 B1 c1) := hWN ▸ HH
  have bb2 : Below WN.heap.size WN W2 := hWN ▸ bb
  have o2' : OwnI W2 WN.heap.size 5 .u8 D2 d2 r := hWN ▸ o2
  clear HH bb o2 hWN
  have hz2 := bb2.size
  go_wp2_with (at_builtin; refine app_one WN.heap.size rfl _ _ 25 5 .u8 1 rfl Try.underlying25 (by kernel_rfl) (by decide) D2 d2 r m rfl rfl o2' hz2 (by omega) ?_)
  intro D3 d3 W3 o3 hg3 _
  have bb := below_row bb2 hz2 hg3 (fun k hk => (o2'.lt k hk).1)
  obtain ⟨hV, HX, q1, k1⟩ := HH2.out
  have HH := Lib.hid (And.intro (hV.below bb) <| And.intro (HX.below bb) <| And.intro (q1.below bb) <| And.intro (k1.below bb) (OwnI.sl o3))
  clear hV HX q1 k1 bb HH2 bb2 o2' o3 hg3 hz2
  obtain ⟨z, hz⟩ : ∃ z, z = r ++ [m] := ⟨_, rfl⟩
  rw [← hz] at HH hp2
  have hzb : Bytes z := fun y hy => by
    rw [hz] at hy
    rcases List.mem_append.1 hy with hy | hy
    · exact hrb.out y hy
    · have : y = m := by simpa using hy
      omega
  have hzl : r.length + 1 = z.length := by rw [hz]; simp
  replace hz := Lib.hid hz
  replace hzb := Lib.hid hzb
  replace hzl := Lib.hid hzl
  go_wp2_with fail
  rw [hzl.out]
  refine (Parse_calls D3 d3 z _ HH.out.2.2.2.2 hzb.out (by have := hzl.out; omega) _ hp2).mono ?_
  rintro en W4 ⟨⟨A2, a2, B2, c2, rfl, _, _⟩, bb⟩
  obtain ⟨hV, HX, q1, k1, _⟩ := HH.out
  clear HH
  have bc := below_box0 W4 (.cells (cmC cm0 A2 a2 B2 c2).toArray 34)
  have HH := Lib.hid (And.intro ((hV.below bb).below bc) <| And.intro ((HX.below bb).below bc) <| And.intro ((q1.below bb).below bc) ((k1.below bb).below bc))
  clear hV HX q1 k1 bb bc
  simp only [cmC, cm0, Option.getD_none, Option.isSome_none, List.length_nil]
  go_wp2_with fail
  refine (Pick_calls at' r.length _ (by omega) (by omega)).mono ?_
  rintro en W5 ⟨rfl, rfl⟩
  obtain ⟨k, hk⟩ := Int.eq_ofNat_of_zero_le (show 0 ≤ at' % (r.length : Int) from Int.emod_nonneg _ (by omega))
  have hkl : k < r.length := by have := Int.emod_lt_of_pos at' (show (0 : Int) < r.length by omega); omega
  rw [hk]
  clear hk
  have hle : r.length ≤ cv := HH.out.1.le
  have hkc : k ≤ cv := by omega
  have hp5 := Lib.hid (hp3.out k hkl)
  have hs5 := Lib.hid (HH.out.1.take k cv hkc (Nat.le_refl _))
  have ht5 := Lib.hid (show (r.take k).length = k by rw [List.length_take]; omega)
  go_wp2_with fail
  have hcall := Parse_calls V cv (r.take k) _ hs5.out (hrb.out.take k) (by rw [ht5.out]; omega) _ hp5
  rw [ht5.out] at hcall
  refine hcall.mono ?_
  clear hcall
  rintro en W6 ⟨⟨A3, a3, B3, c3, rfl, _, _⟩, bb⟩
  obtain ⟨hV, HX, q1, k1⟩ := HH.out
  clear HH hs5 hp5 hkc hle
  have bc := below_box0 W6 (.cells (cmC cm0 A3 a3 B3 c3).toArray 34)
  have HH := Lib.hid (And.intro ((hV.below bb).below bc) <| And.intro ((HX.below bb).below bc) <| And.intro ((q1.below bb).below bc) ((k1.below bb).below bc))
  have hx2 := HH.out.2.1.c.cell 2
  simp only [cmC, cm0, List.length_nil, List.getElem?_cons_zero, List.getElem?_cons_succ] at hx2
  clear hV HX q1 k1 bb bc
  simp only [cmC, cm0, Option.getD_none, Option.isSome_none, List.length_nil]
  go_wp2_with fail
  refine (Status_calls V cv r (max 1 (x.v.length : Int)) _ HH.out.1 hrb.out (by omega) _ _ hp4).mono ?_
  rintro en W7 ⟨⟨A4, a4, B4, c4, rfl, k4, _⟩, bb⟩
  obtain ⟨hV, HX, q1, k1⟩ := HH.out
  clear HH hx2
  have bc := below_box0 W7 (.cells (cmC x A4 a4 B4 c4).toArray 34)
  have q4 : Blk (W7.alloc (.cells (cmC x A4 a4 B4 c4).toArray 34)) W7.heap.size 34 (cmC x A4 a4 B4 c4) := Blk.new W7 _ _
  have HH := Lib.hid (And.intro ((HX.below bb).below bc) <| And.intro ((q1.below bb).below bc) <| And.intro ((k1.below bb).below bc) <| And.intro q4 (k4.below bc))
  obtain ⟨m0', m1', m2', m3', m4', m5'⟩ := load_cm HH.out.1.c
  obtain ⟨n0', n1', n2', n3', n4', n5'⟩ := load_cm HH.out.2.1
  simp only [cmC] at m0' m1' m2' m3' m4' m5' n0' n1' n2' n3' n4' n5' ⊢
  clear hV HX q1 k1 q4 k4 bb bc
  go_wp2_with fail
  refine (CSame_calls x x A1 a1 B1 c1 A a B b _ HH.out.2.2.1 HH.out.1.k.1).mono ?_
  rintro en W8 ⟨rfl, bb⟩
  rw [decide_eq_true (rfl : x = x)]
  obtain ⟨HX, q1, k1, q4, k4⟩ := HH.out
  clear HH m0' m1' m2' m3' m4' m5' n0' n1' n2' n3' n4' n5'
  have HH := Lib.hid (And.intro (HX.below bb) <| And.intro (q4.below bb) (k4.below bb))
  clear HX q1 k1 q4 k4 bb
  obtain ⟨m0', m1', m2', m3', m4', m5'⟩ := load_cm HH.out.1.c
  obtain ⟨n0', n1', n2', n3', n4', n5'⟩ := load_cm HH.out.2.1
  go_wp2_with fail
  refine (CSame_calls x x A4 a4 B4 c4 A a B b _ HH.out.2.2 HH.out.1.k.1).mono ?_
  rintro en W9 ⟨rfl, bb⟩
  rw [decide_eq_true (rfl : x = x)]
  have HF := Lib.hid (HH.out.1.below bb).k.2
  clear HH m0' m1' m2' m3' m4' m5' n0' n1' n2' n3' n4' n5' bb
  go_wp2_with fail
  go_ret
  exact ⟨rfl, HF.out⟩
end Go.Proofs.Ytjdablkdndmcgaa
