/- TableCalls. -/
import Derived.Test.YthpgaggceefamaaTabLives
import Derived.Test.YthpgaggceefamaaRefT2
import Derived.Test.YthpgaggceefamaaRefMake
import Derived.Test.YthpgaggceefamaaOwnBook
import Derived.Test.YthpgaggceefamaaSized
import Derived.Test.YthpgaggceefamaaSizedT
import Derived.Deep.RegionHeld3
namespace Go.Proofs.Ythpgaggceefamaa
set_option linter.unusedVariables false
set_option linter.unusedSimpArgs false
open Go.RowKit
theorem light_short' {b : List (List (List Int))} {p q r : Int} (h : lightBB b p q r = true) (hr : r ≤ 1000) : shortB b := fun j hj i hi => by
  have := (lightB_true ((lightBB_true h).2 j hj)).2 i hi
  omega
theorem rowT_len {t : List (List Int)} {p : Int} {a c : Int} (h : lightB t a c = true) (hc : 0 ≤ c) (hc2 : c ≤ 1000) : (rowT t p).length ≤ 1000 := by
  unfold rowT
  split
  · simp
  · rename_i h1
    have := (lightB_true h).2 p.toNat (by omega)
    omega
set_option maxHeartbeats 8000000 in
set_option maxRecDepth 100000 in
theorem TableCalls_row (A0 : Option Addr) (c0 : Nat) (b : List (List (List Int))) (A1 : Option Addr) (c1 : Nat) (r : List Int) (A2 : Option Addr) (c2 : Nat) (t : List (List Int)) (A3 : Option Addr) (c3 : Nat) (o : List (List Int)) (A4 : Option Addr) (c4 : Nat) (code : List Int) (part : Int) (w : World)
    (h0 : SlB w .i32 A0 c0 b ∧ ∀ l ∈ b, ∀ xs ∈ l, ∀ n ∈ xs, (Lit.int .i32 n).wf = true) (h1 : SlI w .i32 A1 c1 r) (f1 : ∀ n ∈ r, (Lit.int .i32 n).wf = true) (y1 : r.length * 4 ≤ 140737488351232) (h2 : SlS w .i64 A2 c2 t ∧ ∀ xs ∈ t, ∀ n ∈ xs, (Lit.int .i64 n).wf = true) (h3 : SlS w .i64 A3 c3 o ∧ ∀ xs ∈ o, ∀ n ∈ xs, (Lit.int .i64 n).wf = true)
    (h4 : SlI w .u8 A4 c4 code) (f4 : ∀ n ∈ code, (Lit.int .u8 n).wf = true) (y4 : code.length * 1 ≤ 140737488351232) (w5 : (Lit.int .i64 part).wf = true) :
    Calls Try.prog 7 #[.agg #[.slice A0 b.length c0], .slice A1 r.length c1, .agg #[.slice A2 t.length c2], .agg #[.slice A3 o.length c3], .slice A4 code.length c4, .int .i64 part] w fun e w' => e = .returned (.bool true) ∧ Below w.heap.size w w' := by
  have hmix : Try.prog.follows .mixedOrders = true := by kernel_rfl
  replace h0 := h0.1
  replace h2 := h2.1
  replace h3 := h3.1
  have hcode : ∀ x ∈ code, 0 ≤ x ∧ x ≤ 255 := fun x hx => bdU8 (f4 x hx)
  clear f1 f4 w5
  have b0 := below_alloc (below_alloc (below_alloc (Below.refl w.heap.size w) (.cells #[.slice A0 b.length c0] 24)) (.cells #[.slice A2 t.length c2] 35)) (.cells #[.slice A3 o.length c3] 35)
  have x0 := cell_below (below_box (w := (w.alloc (.cells #[.slice A0 b.length c0] 24)).alloc (.cells #[.slice A2 t.length c2] 35)) (.cells #[.slice A3 o.length c3] 35)) _ _ (cell_below (below_box (w := w.alloc (.cells #[.slice A0 b.length c0] 24)) (.cells #[.slice A2 t.length c2] 35)) _ _ (box_cell (w := w) 24 (.slice A0 b.length c0)))
  have x2 := cell_below (below_box (w := (w.alloc (.cells #[.slice A0 b.length c0] 24)).alloc (.cells #[.slice A2 t.length c2] 35)) (.cells #[.slice A3 o.length c3] 35)) _ _ (box_cell (w := w.alloc (.cells #[.slice A0 b.length c0] 24)) 35 (.slice A2 t.length c2))
  have x3 := box_cell (w := (w.alloc (.cells #[.slice A0 b.length c0] 24)).alloc (.cells #[.slice A2 t.length c2] 35)) 35 (.slice A3 o.length c3)
  rw [World.size_alloc] at x2
  rw [World.size_alloc, World.size_alloc] at x3
  have LB := fun W (hW : Below w.heap.size w W) => LightBook_calls A0 c0 b 40 40 40 W (h0.below hW)
  have LT := fun W (hW : Below w.heap.size w W) => light_calls A2 c2 t W (h2.below hW)
  have LO := fun W (hW : Below w.heap.size w W) => light_calls A3 c3 o W (h3.below hW)
  cases hb : lightBB b 40 40 40 with
  | false =>
    rw [hb] at LB
    go_enter Try.func7, Try.ntmps7
    go_wp2_with fail
    refine (lives_calls _).mono ?_
    rintro e w1 ⟨rfl, b1⟩
    have bt1 := below_trans b0 b1
    replace x0 := cell_below b1 _ _ x0
    replace x2 := cell_below b1 _ _ x2
    replace x3 := cell_below b1 _ _ x3
    clear b0 b1
    go_wp2_with fail
    refine (LB _ bt1).mono ?_
    rintro e w2 ⟨rfl, b2⟩
    have bt2 := below_trans bt1 b2
    replace x0 := cell_below b2 _ _ x0
    replace x2 := cell_below b2 _ _ x2
    replace x3 := cell_below b2 _ _ x3
    clear bt1 b2 LB
    go_wp2_with fail
    go_ret
    exact ⟨rfl, bt2⟩
  | true =>
  rw [hb] at LB
  by_cases hr : (r.length : Int) > 2000
  · go_enter Try.func7, Try.ntmps7
    go_wp2_with fail
    refine (lives_calls _).mono ?_
    rintro e w1 ⟨rfl, b1⟩
    have bt1 := below_trans b0 b1
    replace x0 := cell_below b1 _ _ x0
    replace x2 := cell_below b1 _ _ x2
    replace x3 := cell_below b1 _ _ x3
    clear b0 b1
    go_wp2_with fail
    refine (LB _ bt1).mono ?_
    rintro e w2 ⟨rfl, b2⟩
    have bt2 := below_trans bt1 b2
    replace x0 := cell_below b2 _ _ x0
    replace x2 := cell_below b2 _ _ x2
    replace x3 := cell_below b2 _ _ x3
    clear bt1 b2 LB
    go_wp2_with fail
    go_ret
    exact ⟨rfl, bt2⟩
  cases ht : lightB t 80 300 with
  | false =>
    rw [ht] at LT
    go_enter Try.func7, Try.ntmps7
    go_wp2_with fail
    refine (lives_calls _).mono ?_
    rintro e w1 ⟨rfl, b1⟩
    have bt1 := below_trans b0 b1
    replace x0 := cell_below b1 _ _ x0
    replace x2 := cell_below b1 _ _ x2
    replace x3 := cell_below b1 _ _ x3
    clear b0 b1
    go_wp2_with fail
    refine (LB _ bt1).mono ?_
    rintro e w2 ⟨rfl, b2⟩
    have bt2 := below_trans bt1 b2
    replace x0 := cell_below b2 _ _ x0
    replace x2 := cell_below b2 _ _ x2
    replace x3 := cell_below b2 _ _ x3
    clear bt1 b2 LB
    go_wp2_with fail
    refine (LT _ bt2).mono ?_
    rintro e w3 ⟨rfl, b3⟩
    have bt3 := below_trans bt2 b3
    replace x0 := cell_below b3 _ _ x0
    replace x2 := cell_below b3 _ _ x2
    replace x3 := cell_below b3 _ _ x3
    clear bt2 b3 LT
    go_wp2_with fail
    go_ret
    exact ⟨rfl, bt3⟩
  | true =>
  rw [ht] at LT
  cases ho : lightB o 80 300 with
  | false =>
    rw [ho] at LO
    go_enter Try.func7, Try.ntmps7
    go_wp2_with fail
    refine (lives_calls _).mono ?_
    rintro e w1 ⟨rfl, b1⟩
    have bt1 := below_trans b0 b1
    replace x0 := cell_below b1 _ _ x0
    replace x2 := cell_below b1 _ _ x2
    replace x3 := cell_below b1 _ _ x3
    clear b0 b1
    go_wp2_with fail
    refine (LB _ bt1).mono ?_
    rintro e w2 ⟨rfl, b2⟩
    have bt2 := below_trans bt1 b2
    replace x0 := cell_below b2 _ _ x0
    replace x2 := cell_below b2 _ _ x2
    replace x3 := cell_below b2 _ _ x3
    clear bt1 b2 LB
    go_wp2_with fail
    refine (LT _ bt2).mono ?_
    rintro e w3 ⟨rfl, b3⟩
    have bt3 := below_trans bt2 b3
    replace x0 := cell_below b3 _ _ x0
    replace x2 := cell_below b3 _ _ x2
    replace x3 := cell_below b3 _ _ x3
    clear bt2 b3 LT
    go_wp2_with fail
    refine (LO _ bt3).mono ?_
    rintro e w4 ⟨rfl, b4⟩
    have bt4 := below_trans bt3 b4
    replace x0 := cell_below b4 _ _ x0
    replace x2 := cell_below b4 _ _ x2
    replace x3 := cell_below b4 _ _ x3
    clear bt3 b4 LO
    go_wp2_with fail
    go_ret
    exact ⟨rfl, bt4⟩
  | true =>
  rw [ho] at LO
  by_cases hc : (code.length : Int) > 2000
  · go_enter Try.func7, Try.ntmps7
    go_wp2_with fail
    refine (lives_calls _).mono ?_
    rintro e w1 ⟨rfl, b1⟩
    have bt1 := below_trans b0 b1
    replace x0 := cell_below b1 _ _ x0
    replace x2 := cell_below b1 _ _ x2
    replace x3 := cell_below b1 _ _ x3
    clear b0 b1
    go_wp2_with fail
    refine (LB _ bt1).mono ?_
    rintro e w2 ⟨rfl, b2⟩
    have bt2 := below_trans bt1 b2
    replace x0 := cell_below b2 _ _ x0
    replace x2 := cell_below b2 _ _ x2
    replace x3 := cell_below b2 _ _ x3
    clear bt1 b2 LB
    go_wp2_with fail
    refine (LT _ bt2).mono ?_
    rintro e w3 ⟨rfl, b3⟩
    have bt3 := below_trans bt2 b3
    replace x0 := cell_below b3 _ _ x0
    replace x2 := cell_below b3 _ _ x2
    replace x3 := cell_below b3 _ _ x3
    clear bt2 b3 LT
    go_wp2_with fail
    refine (LO _ bt3).mono ?_
    rintro e w4 ⟨rfl, b4⟩
    have bt4 := below_trans bt3 b4
    replace x0 := cell_below b4 _ _ x0
    replace x2 := cell_below b4 _ _ x2
    replace x3 := cell_below b4 _ _ x3
    clear bt3 b4 LO
    go_wp2_with fail
    go_ret
    exact ⟨rfl, bt4⟩
  have hSB := light_short' hb (by decide)
  have hb1 := (lightBB_true hb).1
  have OB := fun W (hW : Below w.heap.size w W) => OwnBook_calls A0 c0 b W (h0.below hW) (by omega) (fun j hj => by have := (lightB_true ((lightBB_true hb).2 j hj)).1; omega) hSB
  have OR := fun W (hW : Below w.heap.size w W) => Own_int32_calls A1 c1 r W (h1.below hW) (by omega)
  have OC := fun W (hW : Below w.heap.size w W) => Own_byte_calls A4 c4 code W (h4.below hW) (by omega)
  have RM := fun W (hW : Below w.heap.size w W) => RMake_calls A0 A1 c0 c1 b r W (h0.below hW) (h1.below hW) hSB
  have SM := fun A c W (hW : Below w.heap.size w W) h => TSum_calls A2 A c2 c t code W (h2.below hW) h hcode
  have RS := fun W (hW : Below w.heap.size w W) => RTSum_calls A2 A4 c2 c4 t code W (h2.below hW) (h4.below hW) hcode
  have LE := fun W (hW : Below w.heap.size w W) => TLeast_calls A2 c2 t W (h2.below hW)
  have RLE := fun W (hW : Below w.heap.size w W) => RTLeast_calls A2 c2 t W (h2.below hW)
  have TC := fun W (hW : Below w.heap.size w W) => TCheck_calls A2 c2 t W (h2.below hW)
  have RTC := fun W (hW : Below w.heap.size w W) => RTCheck_calls A2 c2 t W (h2.below hW)
  have rl := rowT_len (p := part) ht (by decide) (by decide)
  have TR := fun W (hW : Below w.heap.size w W) => TRow_calls A2 c2 t part W (h2.below hW) (by omega)
  have RTR := fun W (hW : Below w.heap.size w W) => RTRow_calls A2 c2 t part W (h2.below hW) (by omega)
  have TS := fun W (hW : Below w.heap.size w W) => TSame_calls A2 A3 c2 c3 t o W (h2.below hW) (h3.below hW)
  have LS := fun W (hW : Below w.heap.size w W) => Lists_int64_calls A2 A3 c2 c3 t o W (h2.below hW) (h3.below hW)
  have TM := fun A B c d W h k => TMake_calls A B c d b r W h k
  clear hb ht ho hb1 hSB y1 y4
  generalize makeT b r = mk at *
  generalize sumT t code = sm at *
  generalize leastT t = lt at *
  generalize ckT t = ck at *
  generalize rowT t part = rw_ at *
  generalize hto : decide (t = o) = dto at *
  obtain ⟨mk1, mk2⟩ := mk
  obtain ⟨sm1, sm2⟩ := sm
  obtain ⟨lt1, lt2⟩ := lt
  dsimp only at RM SM RS LE RLE TM
  go_enter Try.func7, Try.ntmps7
  go_wp2_with fail
  refine (lives_calls _).mono ?_
  rintro e w1 ⟨rfl, b1⟩
  have bt1 := below_trans b0 b1
  replace x0 := cell_below b1 _ _ x0
  replace x2 := cell_below b1 _ _ x2
  replace x3 := cell_below b1 _ _ x3
  clear b0 b1
  go_wp2_with fail
  refine (LB _ bt1).mono ?_
  rintro e w2 ⟨rfl, b2⟩
  have bt2 := below_trans bt1 b2
  replace x0 := cell_below b2 _ _ x0
  replace x2 := cell_below b2 _ _ x2
  replace x3 := cell_below b2 _ _ x3
  clear bt1 b2 LB
  go_wp2_with fail
  refine (LT _ bt2).mono ?_
  rintro e w3 ⟨rfl, b3⟩
  have bt3 := below_trans bt2 b3
  replace x0 := cell_below b3 _ _ x0
  replace x2 := cell_below b3 _ _ x2
  replace x3 := cell_below b3 _ _ x3
  clear bt2 b3 LT
  go_wp2_with fail
  refine (LO _ bt3).mono ?_
  rintro e w4 ⟨rfl, b4⟩
  have bt4 := below_trans bt3 b4
  replace x0 := cell_below b4 _ _ x0
  replace x2 := cell_below b4 _ _ x2
  replace x3 := cell_below b4 _ _ x3
  clear bt3 b4 LO
  go_wp2_with fail
  refine (OB _ bt4).mono ?_
  rintro e v1 ⟨Ab, cb, rfl, hsb, b5⟩
  have bt5 := below_trans bt4 b5
  replace x0 := cell_below b5 _ _ x0
  replace x2 := cell_below b5 _ _ x2
  replace x3 := cell_below b5 _ _ x3
  clear bt4 b5 OB
  go_wp2_with fail
  refine (OR _ bt5).mono ?_
  rintro e v2 ⟨Ar, cr, rfl, hor, b6⟩
  have bt6 := below_trans bt5 b6
  replace x0 := cell_below b6 _ _ x0
  replace x2 := cell_below b6 _ _ x2
  replace x3 := cell_below b6 _ _ x3
  replace hsb := hsb.below b6
  clear bt5 b6 OR
  go_wp2_with fail
  refine (TM Ab Ar cb cr _ hsb (OwnI.sl hor)).mono ?_
  rintro e v3 ⟨Ax, cx, rfl, hsx, b7⟩
  have b7' := below_trans b7 (below_box (.cells #[.slice Ax mk1.length cx] 35))
  have bt7 := below_trans bt6 b7'
  replace x0 := cell_below b7' _ _ x0
  replace x2 := cell_below b7' _ _ x2
  replace x3 := cell_below b7' _ _ x3
  have xx := box_cell (w := v3) 35 (.slice Ax mk1.length cx)
  replace hsx := hsx.below (below_box (.cells #[.slice Ax mk1.length cx] 35))
  clear bt6 b7 b7' TM hsb hor
  go_wp2_with fail
  refine (RM _ bt7).mono ?_
  rintro e v4 ⟨Ay, cy, rfl, hsy, b8⟩
  have b8' := below_trans b8 (below_box (.cells #[.slice Ay mk1.length cy] 35))
  have bt8 := below_trans bt7 b8'
  replace x0 := cell_below b8' _ _ x0
  replace x2 := cell_below b8' _ _ x2
  replace x3 := cell_below b8' _ _ x3
  replace xx := cell_below b8' _ _ xx
  have xy := box_cell (w := v4) 35 (.slice Ay mk1.length cy)
  replace hsx := hsx.below b8'
  replace hsy := hsy.below (below_box (.cells #[.slice Ay mk1.length cy] 35))
  clear bt7 b8 b8' RM
  go_wp2_with fail
  generalize v4.alloc (.cells #[.slice Ay mk1.length cy] 35) = v5 at *
  have bd5 := below_drewN bt8 1
  go_region_held3 (fun W => W.cell? ⟨w.heap.size + 1, 0, none⟩ = some (.slice A2 t.length c2)) (first | go_keep | exact cell_below b9 _ _ (by assumption) | exact cell_below b10 _ _ (by assumption) | exact cell_below b9 _ _ (by first | assumption | exact x2))
    (first
      | (go_at_call 28; refine (OC _ bd5).mono ?_; rintro e v6 ⟨Aw, cw, rfl, how, b9⟩; have bt9 := below_trans bd5 b9)
      | (go_at_call 17; refine (SM _ _ _ bt9 (OwnI.sl how)).mono ?_; rintro e v7 ⟨rfl, b10⟩; have bt10 := below_trans bt9 b10))
  have l7 := below_trans (below_trans (below_drewN (Below.refl v5.heap.size v5) 1) b9) b10
  replace x2 := cell_below l7 _ _ x2
  replace x3 := cell_below l7 _ _ x3
  replace xx := cell_below l7 _ _ xx
  replace xy := cell_below l7 _ _ xy
  replace hsx := hsx.below l7
  replace hsy := hsy.below l7
  clear bt8 bd5 bt9 b9 b10 l7 how OC SM x0
  go_wp2_with fail
  refine (RS _ bt10).mono ?_
  rintro e v8 ⟨rfl, b11⟩
  have bt11 := below_trans bt10 b11
  replace x2 := cell_below b11 _ _ x2
  replace x3 := cell_below b11 _ _ x3
  replace xx := cell_below b11 _ _ xx
  replace xy := cell_below b11 _ _ xy
  replace hsx := hsx.below b11
  replace hsy := hsy.below b11
  clear bt10 b11 RS
  go_wp2_with fail
  refine (LE _ bt11).mono ?_
  rintro e v9 ⟨Al, cl, rfl, hol', b12⟩
  have hol := OwnI.sl hol'
  have bt12 := below_trans bt11 b12
  replace x2 := cell_below b12 _ _ x2
  replace x3 := cell_below b12 _ _ x3
  replace xx := cell_below b12 _ _ xx
  replace xy := cell_below b12 _ _ xy
  replace hsx := hsx.below b12
  replace hsy := hsy.below b12
  clear bt11 b12 LE hol'
  go_wp2_with fail
  refine (RLE _ bt12).mono ?_
  rintro e v10 ⟨Am, cm, rfl, hom', b13⟩
  have hom := OwnI.sl hom'
  have bt13 := below_trans bt12 b13
  replace x2 := cell_below b13 _ _ x2
  replace x3 := cell_below b13 _ _ x3
  replace xx := cell_below b13 _ _ xx
  replace xy := cell_below b13 _ _ xy
  replace hsx := hsx.below b13
  replace hsy := hsy.below b13
  replace hol := hol.below b13
  clear bt12 b13 RLE hom'
  have CXY := fun W (hW : Below v10.heap.size v10 W) => Lists_int64_calls Ax Ay cx cy mk1 mk1 W (hsx.below hW) (hsy.below hW)
  have CSB := fun W (hW : Below v10.heap.size v10 W) => Same_byte_b Al Am cl cm lt2 lt2 W (hol.below hW) (hom.below hW)
  rw [decide_eq_true (rfl : mk1 = mk1)] at CXY
  rw [decide_eq_true (rfl : lt2 = lt2)] at CSB
  have CTC := fun W (hW : Below v10.heap.size v10 W) => TC W (below_trans bt13 hW)
  have CRTC := fun W (hW : Below v10.heap.size v10 W) => RTC W (below_trans bt13 hW)
  have CTR := fun W (hW : Below v10.heap.size v10 W) => TR W (below_trans bt13 hW)
  have CRTR := fun W (hW : Below v10.heap.size v10 W) => RTR W (below_trans bt13 hW)
  have CTS := fun W (hW : Below v10.heap.size v10 W) => TS W (below_trans bt13 hW)
  have CLS := fun W (hW : Below v10.heap.size v10 W) => LS W (below_trans bt13 hW)
  have S64 := fun A9 A10 c9 c10 W h k => Same_int64_b A9 A10 c9 c10 rw_ rw_ W h k
  rw [decide_eq_true (rfl : rw_ = rw_)] at S64
  have z0 := below_drewN (Below.refl v10.heap.size v10) 1
  have ddo : (dto == dto) = true := by simp
  clear TC RTC TR RTR TS LS hsx hsy hol hom hto hr hc
  go_wp2_with fail
  refine region_L (oneQ 99 (fun _ => True) (fun X => X.cell? ⟨v3.heap.size, 0, none⟩ = some (.slice Ax mk1.length cx) ∧ X.cell? ⟨v4.heap.size, 0, none⟩ = some (.slice Ay mk1.length cy) ∧ X.cell? ⟨w.heap.size + 1, 0, none⟩ = some (.slice A2 t.length c2) ∧ X.cell? ⟨w.heap.size + 1 + 1, 0, none⟩ = some (.slice A3 o.length c3))) hmix ?_
  have hS : oneQ 99 (fun _ => True) (fun X => X.cell? ⟨v3.heap.size, 0, none⟩ = some (.slice Ax mk1.length cx) ∧ X.cell? ⟨v4.heap.size, 0, none⟩ = some (.slice Ay mk1.length cy) ∧ X.cell? ⟨w.heap.size + 1, 0, none⟩ = some (.slice A2 t.length c2) ∧ X.cell? ⟨w.heap.size + 1 + 1, 0, none⟩ = some (.slice A3 o.length c3)) (Array.replicate 58 false) v10.drew := ⟨fun _ => trivial, cell_below z0 _ _ xx, cell_below z0 _ _ xy, cell_below z0 _ _ x2, cell_below z0 _ _ x3⟩
  refine anyL_take (fun _ => True) [] (i := 0) (v := ?_) rfl (by kernel_rfl) (by kernel_rfl) (by kernel_rfl) (fun _ _ _ h => h) (by kernel_rfl) (one_ind (i := 0) (by decide)) (fun _ _ _ _ => trivial) (Or.inl ⟨by rfl, ?_⟩) hS ?_
  rotate_left
  · intro X hX
    clear hX
    go_simp
    try with_reducible rfl
  try simp only [List.getElem_toArray, List.getElem_cons_zero, List.getElem_cons_succ]
  simp only [Act.put, List.setIfInBounds_toArray, List.set_cons_zero, List.set_cons_succ]
  replace hS := (one_ind (i := 0) (by decide) _ _).2 hS
  refine anyL_take (fun X => X.cell? ⟨v3.heap.size, 0, none⟩ = some (.slice Ax mk1.length cx) ∧ X.cell? ⟨v4.heap.size, 0, none⟩ = some (.slice Ay mk1.length cy) ∧ X.cell? ⟨w.heap.size + 1, 0, none⟩ = some (.slice A2 t.length c2) ∧ X.cell? ⟨w.heap.size + 1 + 1, 0, none⟩ = some (.slice A3 o.length c3)) [] (i := 1) (v := ?_) rfl (by kernel_rfl) (by kernel_rfl) (by kernel_rfl) (fun _ _ _ h => h) (by kernel_rfl) (one_ind (i := 1) (by decide)) (fun L X h1 h2 => h2.2) (Or.inl ⟨by rfl, ?_⟩) hS ?_
  rotate_left
  · intro X hX
    obtain ⟨g0, g1, g2, g3⟩ := hX
    go_simp
    try with_reducible rfl
  try simp only [List.getElem_toArray, List.getElem_cons_zero, List.getElem_cons_succ]
  simp only [Act.put, List.setIfInBounds_toArray, List.set_cons_zero, List.set_cons_succ]
  replace hS := (one_ind (i := 1) (by decide) _ _).2 hS
  refine anyL_take (fun _ => True) [] (i := 2) (v := ?_) rfl (by kernel_rfl) (by kernel_rfl) (by kernel_rfl) (fun _ _ _ h => h) (by kernel_rfl) (one_ind (i := 2) (by decide)) (fun _ _ _ _ => trivial) (Or.inl ⟨by rfl, ?_⟩) hS ?_
  rotate_left
  · intro X hX
    clear hX
    go_simp
    try with_reducible rfl
  try simp only [List.getElem_toArray, List.getElem_cons_zero, List.getElem_cons_succ]
  simp only [Act.put, List.setIfInBounds_toArray, List.set_cons_zero, List.set_cons_succ]
  replace hS := (one_ind (i := 2) (by decide) _ _).2 hS
  refine anyL_take (fun X => X.cell? ⟨v3.heap.size, 0, none⟩ = some (.slice Ax mk1.length cx) ∧ X.cell? ⟨v4.heap.size, 0, none⟩ = some (.slice Ay mk1.length cy) ∧ X.cell? ⟨w.heap.size + 1, 0, none⟩ = some (.slice A2 t.length c2) ∧ X.cell? ⟨w.heap.size + 1 + 1, 0, none⟩ = some (.slice A3 o.length c3)) [] (i := 3) (v := ?_) rfl (by kernel_rfl) (by kernel_rfl) (by kernel_rfl) (fun _ _ _ h => h) (by kernel_rfl) (one_ind (i := 3) (by decide)) (fun L X h1 h2 => h2.2) (Or.inl ⟨by rfl, ?_⟩) hS ?_
  rotate_left
  · intro X hX
    obtain ⟨g0, g1, g2, g3⟩ := hX
    go_simp
    try with_reducible rfl
  try simp only [List.getElem_toArray, List.getElem_cons_zero, List.getElem_cons_succ]
  simp only [Act.put, List.setIfInBounds_toArray, List.set_cons_zero, List.set_cons_succ]
  replace hS := (one_ind (i := 3) (by decide) _ _).2 hS
  clear hS
  refine anyL_step (i := 4) (by kernel_rfl) rfl (by rfl) (fun K hK => ?_)
  go_simp
  refine (CXY _ z0).mono ?_
  rintro e u1 ⟨rfl, d1⟩
  have z1 := below_trans z0 d1
  dsimp only
  refine hK.out _ _ ⟨fun _ => trivial, cell_below z1 _ _ xx, cell_below z1 _ _ xy, cell_below z1 _ _ x2, cell_below z1 _ _ x3⟩ ?_
  clear hK K
  try simp only [Act.put, List.setIfInBounds_toArray, List.set_cons_zero, List.set_cons_succ]
  have hS : oneQ 99 (fun _ => True) (fun X => X.cell? ⟨v3.heap.size, 0, none⟩ = some (.slice Ax mk1.length cx) ∧ X.cell? ⟨v4.heap.size, 0, none⟩ = some (.slice Ay mk1.length cy) ∧ X.cell? ⟨w.heap.size + 1, 0, none⟩ = some (.slice A2 t.length c2) ∧ X.cell? ⟨w.heap.size + 1 + 1, 0, none⟩ = some (.slice A3 o.length c3)) ((((((Array.replicate 58 false).setIfInBounds 0 true).setIfInBounds 1 true).setIfInBounds 2 true).setIfInBounds 3 true).setIfInBounds 4 true) u1 := ⟨fun _ => trivial, cell_below z1 _ _ xx, cell_below z1 _ _ xy, cell_below z1 _ _ x2, cell_below z1 _ _ x3⟩
  refine anyL_take (fun _ => True) [] (i := 5) (v := ?_) rfl (by kernel_rfl) (by kernel_rfl) (by kernel_rfl) (fun _ _ _ h => h) (by kernel_rfl) (one_ind (i := 5) (by decide)) (fun _ _ _ _ => trivial) (Or.inl ⟨by rfl, ?_⟩) hS ?_
  rotate_left
  · intro X hX
    clear hX
    go_simp
    try with_reducible rfl
  try simp only [List.getElem_toArray, List.getElem_cons_zero, List.getElem_cons_succ]
  simp only [Act.put, List.setIfInBounds_toArray, List.set_cons_zero, List.set_cons_succ]
  replace hS := (one_ind (i := 5) (by decide) _ _).2 hS
  refine anyL_take (fun _ => True) [] (i := 6) (v := ?_) rfl (by kernel_rfl) (by kernel_rfl) (by kernel_rfl) (fun _ _ _ h => h) (by kernel_rfl) (one_ind (i := 6) (by decide)) (fun _ _ _ _ => trivial) (Or.inl ⟨by rfl, ?_⟩) hS ?_
  rotate_left
  · intro X hX
    clear hX
    go_simp
    try with_reducible rfl
  try simp only [List.getElem_toArray, List.getElem_cons_zero, List.getElem_cons_succ]
  simp only [Act.put, List.setIfInBounds_toArray, List.set_cons_zero, List.set_cons_succ]
  replace hS := (one_ind (i := 6) (by decide) _ _).2 hS
  refine anyL_take (fun _ => True) [] (i := 7) (v := ?_) rfl (by kernel_rfl) (by kernel_rfl) (by kernel_rfl) (fun _ _ _ h => h) (by kernel_rfl) (one_ind (i := 7) (by decide)) (fun _ _ _ _ => trivial) (Or.inl ⟨by rfl, ?_⟩) hS ?_
  rotate_left
  · intro X hX
    clear hX
    go_simp
    try with_reducible rfl
  try simp only [List.getElem_toArray, List.getElem_cons_zero, List.getElem_cons_succ]
  simp only [Act.put, List.setIfInBounds_toArray, List.set_cons_zero, List.set_cons_succ]
  replace hS := (one_ind (i := 7) (by decide) _ _).2 hS
  refine anyL_take (fun _ => True) [] (i := 8) (v := ?_) rfl (by kernel_rfl) (by kernel_rfl) (by kernel_rfl) (fun _ _ _ h => h) (by kernel_rfl) (one_ind (i := 8) (by decide)) (fun _ _ _ _ => trivial) (Or.inl ⟨by rfl, ?_⟩) hS ?_
  rotate_left
  · intro X hX
    clear hX
    go_simp
    try with_reducible rfl
  try simp only [List.getElem_toArray, List.getElem_cons_zero, List.getElem_cons_succ]
  simp only [Act.put, List.setIfInBounds_toArray, List.set_cons_zero, List.set_cons_succ]
  replace hS := (one_ind (i := 8) (by decide) _ _).2 hS
  refine anyL_take (fun _ => True) [] (i := 9) (v := ?_) rfl (by kernel_rfl) (by kernel_rfl) (by kernel_rfl) (fun _ _ _ h => h) (by kernel_rfl) (one_ind (i := 9) (by decide)) (fun _ _ _ _ => trivial) (Or.inl ⟨by rfl, ?_⟩) hS ?_
  rotate_left
  · intro X hX
    clear hX
    go_simp
    try with_reducible rfl
  try simp only [List.getElem_toArray, List.getElem_cons_zero, List.getElem_cons_succ]
  simp only [Act.put, List.setIfInBounds_toArray, List.set_cons_zero, List.set_cons_succ]
  replace hS := (one_ind (i := 9) (by decide) _ _).2 hS
  refine anyL_take (fun _ => True) [] (i := 10) (v := ?_) rfl (by kernel_rfl) (by kernel_rfl) (by kernel_rfl) (fun _ _ _ h => h) (by kernel_rfl) (one_ind (i := 10) (by decide)) (fun _ _ _ _ => trivial) (Or.inl ⟨by rfl, ?_⟩) hS ?_
  rotate_left
  · intro X hX
    clear hX
    go_simp
    try with_reducible rfl
  try simp only [List.getElem_toArray, List.getElem_cons_zero, List.getElem_cons_succ]
  simp only [Act.put, List.setIfInBounds_toArray, List.set_cons_zero, List.set_cons_succ]
  replace hS := (one_ind (i := 10) (by decide) _ _).2 hS
  refine anyL_take (fun _ => True) [] (i := 11) (v := ?_) rfl (by kernel_rfl) (by kernel_rfl) (by kernel_rfl) (fun _ _ _ h => h) (by kernel_rfl) (one_ind (i := 11) (by decide)) (fun _ _ _ _ => trivial) (Or.inl ⟨by rfl, ?_⟩) hS ?_
  rotate_left
  · intro X hX
    clear hX
    go_simp
    try with_reducible rfl
  try simp only [List.getElem_toArray, List.getElem_cons_zero, List.getElem_cons_succ]
  simp only [Act.put, List.setIfInBounds_toArray, List.set_cons_zero, List.set_cons_succ]
  replace hS := (one_ind (i := 11) (by decide) _ _).2 hS
  refine anyL_take (fun _ => True) [] (i := 12) (v := ?_) rfl (by kernel_rfl) (by kernel_rfl) (by kernel_rfl) (fun _ _ _ h => h) (by kernel_rfl) (one_ind (i := 12) (by decide)) (fun _ _ _ _ => trivial) (Or.inl ⟨by rfl, ?_⟩) hS ?_
  rotate_left
  · intro X hX
    clear hX
    go_simp
    try with_reducible rfl
  try simp only [List.getElem_toArray, List.getElem_cons_zero, List.getElem_cons_succ]
  simp only [Act.put, List.setIfInBounds_toArray, List.set_cons_zero, List.set_cons_succ]
  replace hS := (one_ind (i := 12) (by decide) _ _).2 hS
  refine anyL_take (fun _ => True) [] (i := 13) (v := ?_) rfl (by kernel_rfl) (by kernel_rfl) (by kernel_rfl) (fun _ _ _ h => h) (by kernel_rfl) (one_ind (i := 13) (by decide)) (fun _ _ _ _ => trivial) (Or.inl ⟨by rfl, ?_⟩) hS ?_
  rotate_left
  · intro X hX
    clear hX
    go_simp
    try with_reducible rfl
  try simp only [List.getElem_toArray, List.getElem_cons_zero, List.getElem_cons_succ]
  simp only [Act.put, List.setIfInBounds_toArray, List.set_cons_zero, List.set_cons_succ]
  replace hS := (one_ind (i := 13) (by decide) _ _).2 hS
  refine anyL_take (fun _ => True) [] (i := 14) (v := ?_) rfl (by kernel_rfl) (by kernel_rfl) (by kernel_rfl) (fun _ _ _ h => h) (by kernel_rfl) (one_ind (i := 14) (by decide)) (fun _ _ _ _ => trivial) (Or.inl ⟨by rfl, ?_⟩) hS ?_
  rotate_left
  · intro X hX
    clear hX
    go_simp
    try with_reducible rfl
  try simp only [List.getElem_toArray, List.getElem_cons_zero, List.getElem_cons_succ]
  simp only [Act.put, List.setIfInBounds_toArray, List.set_cons_zero, List.set_cons_succ]
  replace hS := (one_ind (i := 14) (by decide) _ _).2 hS
  refine anyL_take (fun _ => True) [] (i := 15) (v := ?_) rfl (by kernel_rfl) (by kernel_rfl) (by kernel_rfl) (fun _ _ _ h => h) (by kernel_rfl) (one_ind (i := 15) (by decide)) (fun _ _ _ _ => trivial) (Or.inl ⟨by rfl, ?_⟩) hS ?_
  rotate_left
  · intro X hX
    clear hX
    go_simp
    try with_reducible rfl
  try simp only [List.getElem_toArray, List.getElem_cons_zero, List.getElem_cons_succ]
  simp only [Act.put, List.setIfInBounds_toArray, List.set_cons_zero, List.set_cons_succ]
  replace hS := (one_ind (i := 15) (by decide) _ _).2 hS
  refine anyL_take (fun _ => True) [] (i := 16) (v := ?_) rfl (by kernel_rfl) (by kernel_rfl) (by kernel_rfl) (fun _ _ _ h => h) (by kernel_rfl) (one_ind (i := 16) (by decide)) (fun _ _ _ _ => trivial) (Or.inl ⟨by rfl, ?_⟩) hS ?_
  rotate_left
  · intro X hX
    clear hX
    go_simp
    try with_reducible rfl
  try simp only [List.getElem_toArray, List.getElem_cons_zero, List.getElem_cons_succ]
  simp only [Act.put, List.setIfInBounds_toArray, List.set_cons_zero, List.set_cons_succ]
  replace hS := (one_ind (i := 16) (by decide) _ _).2 hS
  refine anyL_take (fun _ => True) [] (i := 17) (v := ?_) rfl (by kernel_rfl) (by kernel_rfl) (by kernel_rfl) (fun _ _ _ h => h) (by kernel_rfl) (one_ind (i := 17) (by decide)) (fun _ _ _ _ => trivial) (Or.inl ⟨by rfl, ?_⟩) hS ?_
  rotate_left
  · intro X hX
    clear hX
    go_simp
    try with_reducible rfl
  try simp only [List.getElem_toArray, List.getElem_cons_zero, List.getElem_cons_succ]
  simp only [Act.put, List.setIfInBounds_toArray, List.set_cons_zero, List.set_cons_succ]
  replace hS := (one_ind (i := 17) (by decide) _ _).2 hS
  refine anyL_take (fun _ => True) [] (i := 18) (v := ?_) rfl (by kernel_rfl) (by kernel_rfl) (by kernel_rfl) (fun _ _ _ h => h) (by kernel_rfl) (one_ind (i := 18) (by decide)) (fun _ _ _ _ => trivial) (Or.inl ⟨by rfl, ?_⟩) hS ?_
  rotate_left
  · intro X hX
    clear hX
    go_simp
    try with_reducible rfl
  try simp only [List.getElem_toArray, List.getElem_cons_zero, List.getElem_cons_succ]
  simp only [Act.put, List.setIfInBounds_toArray, List.set_cons_zero, List.set_cons_succ]
  replace hS := (one_ind (i := 18) (by decide) _ _).2 hS
  refine anyL_take (fun _ => True) [] (i := 19) (v := ?_) rfl (by kernel_rfl) (by kernel_rfl) (by kernel_rfl) (fun _ _ _ h => h) (by kernel_rfl) (one_ind (i := 19) (by decide)) (fun _ _ _ _ => trivial) (Or.inl ⟨by rfl, ?_⟩) hS ?_
  rotate_left
  · intro X hX
    clear hX
    go_simp
    try with_reducible rfl
  try simp only [List.getElem_toArray, List.getElem_cons_zero, List.getElem_cons_succ]
  simp only [Act.put, List.setIfInBounds_toArray, List.set_cons_zero, List.set_cons_succ]
  replace hS := (one_ind (i := 19) (by decide) _ _).2 hS
  refine anyL_take (fun _ => True) [] (i := 20) (v := ?_) rfl (by kernel_rfl) (by kernel_rfl) (by kernel_rfl) (fun _ _ _ h => h) (by kernel_rfl) (one_ind (i := 20) (by decide)) (fun _ _ _ _ => trivial) (Or.inl ⟨by rfl, ?_⟩) hS ?_
  rotate_left
  · intro X hX
    clear hX
    go_simp
    try with_reducible rfl
  try simp only [List.getElem_toArray, List.getElem_cons_zero, List.getElem_cons_succ]
  simp only [Act.put, List.setIfInBounds_toArray, List.set_cons_zero, List.set_cons_succ]
  replace hS := (one_ind (i := 20) (by decide) _ _).2 hS
  refine anyL_take (fun _ => True) [] (i := 21) (v := ?_) rfl (by kernel_rfl) (by kernel_rfl) (by kernel_rfl) (fun _ _ _ h => h) (by kernel_rfl) (one_ind (i := 21) (by decide)) (fun _ _ _ _ => trivial) (Or.inl ⟨by rfl, ?_⟩) hS ?_
  rotate_left
  · intro X hX
    clear hX
    go_simp
    try with_reducible rfl
  try simp only [List.getElem_toArray, List.getElem_cons_zero, List.getElem_cons_succ]
  simp only [Act.put, List.setIfInBounds_toArray, List.set_cons_zero, List.set_cons_succ]
  replace hS := (one_ind (i := 21) (by decide) _ _).2 hS
  refine anyL_take (fun _ => True) [] (i := 22) (v := ?_) rfl (by kernel_rfl) (by kernel_rfl) (by kernel_rfl) (fun _ _ _ h => h) (by kernel_rfl) (one_ind (i := 22) (by decide)) (fun _ _ _ _ => trivial) (Or.inl ⟨by rfl, ?_⟩) hS ?_
  rotate_left
  · intro X hX
    clear hX
    go_simp
    try with_reducible rfl
  try simp only [List.getElem_toArray, List.getElem_cons_zero, List.getElem_cons_succ]
  simp only [Act.put, List.setIfInBounds_toArray, List.set_cons_zero, List.set_cons_succ]
  replace hS := (one_ind (i := 22) (by decide) _ _).2 hS
  refine anyL_take (fun _ => True) [] (i := 23) (v := ?_) rfl (by kernel_rfl) (by kernel_rfl) (by kernel_rfl) (fun _ _ _ h => h) (by kernel_rfl) (one_ind (i := 23) (by decide)) (fun _ _ _ _ => trivial) (Or.inl ⟨by rfl, ?_⟩) hS ?_
  rotate_left
  · intro X hX
    clear hX
    go_simp
    try with_reducible rfl
  try simp only [List.getElem_toArray, List.getElem_cons_zero, List.getElem_cons_succ]
  simp only [Act.put, List.setIfInBounds_toArray, List.set_cons_zero, List.set_cons_succ]
  replace hS := (one_ind (i := 23) (by decide) _ _).2 hS
  refine anyL_take (fun _ => True) [] (i := 24) (v := ?_) rfl (by kernel_rfl) (by kernel_rfl) (by kernel_rfl) (fun _ _ _ h => h) (by kernel_rfl) (one_ind (i := 24) (by decide)) (fun _ _ _ _ => trivial) (Or.inl ⟨by rfl, ?_⟩) hS ?_
  rotate_left
  · intro X hX
    clear hX
    go_simp
    try with_reducible rfl
  try simp only [List.getElem_toArray, List.getElem_cons_zero, List.getElem_cons_succ]
  simp only [Act.put, List.setIfInBounds_toArray, List.set_cons_zero, List.set_cons_succ]
  replace hS := (one_ind (i := 24) (by decide) _ _).2 hS
  refine anyL_take (fun _ => True) [] (i := 25) (v := ?_) rfl (by kernel_rfl) (by kernel_rfl) (by kernel_rfl) (fun _ _ _ h => h) (by kernel_rfl) (one_ind (i := 25) (by decide)) (fun _ _ _ _ => trivial) (Or.inl ⟨by rfl, ?_⟩) hS ?_
  rotate_left
  · intro X hX
    clear hX
    go_simp
    try with_reducible rfl
  try simp only [List.getElem_toArray, List.getElem_cons_zero, List.getElem_cons_succ]
  simp only [Act.put, List.setIfInBounds_toArray, List.set_cons_zero, List.set_cons_succ]
  replace hS := (one_ind (i := 25) (by decide) _ _).2 hS
  refine anyL_take (fun _ => True) [] (i := 26) (v := ?_) rfl (by kernel_rfl) (by kernel_rfl) (by kernel_rfl) (fun _ _ _ h => h) (by kernel_rfl) (one_ind (i := 26) (by decide)) (fun _ _ _ _ => trivial) (Or.inl ⟨by rfl, ?_⟩) hS ?_
  rotate_left
  · intro X hX
    clear hX
    go_simp
    try with_reducible rfl
  try simp only [List.getElem_toArray, List.getElem_cons_zero, List.getElem_cons_succ]
  simp only [Act.put, List.setIfInBounds_toArray, List.set_cons_zero, List.set_cons_succ]
  replace hS := (one_ind (i := 26) (by decide) _ _).2 hS
  refine anyL_take (fun _ => True) [] (i := 27) (v := ?_) rfl (by kernel_rfl) (by kernel_rfl) (by kernel_rfl) (fun _ _ _ h => h) (by kernel_rfl) (one_ind (i := 27) (by decide)) (fun _ _ _ _ => trivial) (Or.inl ⟨by rfl, ?_⟩) hS ?_
  rotate_left
  · intro X hX
    clear hX
    go_simp
    try with_reducible rfl
  try simp only [List.getElem_toArray, List.getElem_cons_zero, List.getElem_cons_succ]
  simp only [Act.put, List.setIfInBounds_toArray, List.set_cons_zero, List.set_cons_succ]
  replace hS := (one_ind (i := 27) (by decide) _ _).2 hS
  clear hS
  refine anyL_step (i := 28) (by kernel_rfl) rfl (by rfl) (fun K hK => ?_)
  go_simp
  refine (CSB _ z1).mono ?_
  rintro e u2 ⟨rfl, d2⟩
  have z2 := below_trans z1 d2
  dsimp only
  refine hK.out _ _ ⟨fun _ => trivial, cell_below z2 _ _ xx, cell_below z2 _ _ xy, cell_below z2 _ _ x2, cell_below z2 _ _ x3⟩ ?_
  clear hK K
  try simp only [Act.put, List.setIfInBounds_toArray, List.set_cons_zero, List.set_cons_succ]
  have hS : oneQ 99 (fun _ => True) (fun X => X.cell? ⟨v3.heap.size, 0, none⟩ = some (.slice Ax mk1.length cx) ∧ X.cell? ⟨v4.heap.size, 0, none⟩ = some (.slice Ay mk1.length cy) ∧ X.cell? ⟨w.heap.size + 1, 0, none⟩ = some (.slice A2 t.length c2) ∧ X.cell? ⟨w.heap.size + 1 + 1, 0, none⟩ = some (.slice A3 o.length c3)) ((((((((((((((((((((((((((((((Array.replicate 58 false).setIfInBounds 0 true).setIfInBounds 1 true).setIfInBounds 2 true).setIfInBounds 3 true).setIfInBounds 4 true).setIfInBounds 5 true).setIfInBounds 6 true).setIfInBounds 7 true).setIfInBounds 8 true).setIfInBounds 9 true).setIfInBounds 10 true).setIfInBounds 11 true).setIfInBounds 12 true).setIfInBounds 13 true).setIfInBounds 14 true).setIfInBounds 15 true).setIfInBounds 16 true).setIfInBounds 17 true).setIfInBounds 18 true).setIfInBounds 19 true).setIfInBounds 20 true).setIfInBounds 21 true).setIfInBounds 22 true).setIfInBounds 23 true).setIfInBounds 24 true).setIfInBounds 25 true).setIfInBounds 26 true).setIfInBounds 27 true).setIfInBounds 28 true) u2 := ⟨fun _ => trivial, cell_below z2 _ _ xx, cell_below z2 _ _ xy, cell_below z2 _ _ x2, cell_below z2 _ _ x3⟩
  refine anyL_take (fun _ => True) [] (i := 29) (v := ?_) rfl (by kernel_rfl) (by kernel_rfl) (by kernel_rfl) (fun _ _ _ h => h) (by kernel_rfl) (one_ind (i := 29) (by decide)) (fun _ _ _ _ => trivial) (Or.inl ⟨by rfl, ?_⟩) hS ?_
  rotate_left
  · intro X hX
    clear hX
    go_simp
    try with_reducible rfl
  try simp only [List.getElem_toArray, List.getElem_cons_zero, List.getElem_cons_succ]
  simp only [Act.put, List.setIfInBounds_toArray, List.set_cons_zero, List.set_cons_succ]
  replace hS := (one_ind (i := 29) (by decide) _ _).2 hS
  refine anyL_take (fun _ => True) [] (i := 30) (v := ?_) rfl (by kernel_rfl) (by kernel_rfl) (by kernel_rfl) (fun _ _ _ h => h) (by kernel_rfl) (one_ind (i := 30) (by decide)) (fun _ _ _ _ => trivial) (Or.inl ⟨by rfl, ?_⟩) hS ?_
  rotate_left
  · intro X hX
    clear hX
    go_simp
    try with_reducible rfl
  try simp only [List.getElem_toArray, List.getElem_cons_zero, List.getElem_cons_succ]
  simp only [Act.put, List.setIfInBounds_toArray, List.set_cons_zero, List.set_cons_succ]
  replace hS := (one_ind (i := 30) (by decide) _ _).2 hS
  refine anyL_take (fun X => X.cell? ⟨v3.heap.size, 0, none⟩ = some (.slice Ax mk1.length cx) ∧ X.cell? ⟨v4.heap.size, 0, none⟩ = some (.slice Ay mk1.length cy) ∧ X.cell? ⟨w.heap.size + 1, 0, none⟩ = some (.slice A2 t.length c2) ∧ X.cell? ⟨w.heap.size + 1 + 1, 0, none⟩ = some (.slice A3 o.length c3)) [] (i := 31) (v := ?_) rfl (by kernel_rfl) (by kernel_rfl) (by kernel_rfl) (fun _ _ _ h => h) (by kernel_rfl) (one_ind (i := 31) (by decide)) (fun L X h1 h2 => h2.2) (Or.inl ⟨by rfl, ?_⟩) hS ?_
  rotate_left
  · intro X hX
    obtain ⟨g0, g1, g2, g3⟩ := hX
    go_simp
    try with_reducible rfl
  try simp only [List.getElem_toArray, List.getElem_cons_zero, List.getElem_cons_succ]
  simp only [Act.put, List.setIfInBounds_toArray, List.set_cons_zero, List.set_cons_succ]
  replace hS := (one_ind (i := 31) (by decide) _ _).2 hS
  refine anyL_take (fun X => X.cell? ⟨v3.heap.size, 0, none⟩ = some (.slice Ax mk1.length cx) ∧ X.cell? ⟨v4.heap.size, 0, none⟩ = some (.slice Ay mk1.length cy) ∧ X.cell? ⟨w.heap.size + 1, 0, none⟩ = some (.slice A2 t.length c2) ∧ X.cell? ⟨w.heap.size + 1 + 1, 0, none⟩ = some (.slice A3 o.length c3)) [] (i := 33) (v := ?_) rfl (by kernel_rfl) (by kernel_rfl) (by kernel_rfl) (fun _ _ _ h => h) (by kernel_rfl) (one_ind (i := 33) (by decide)) (fun L X h1 h2 => h2.2) (Or.inl ⟨by rfl, ?_⟩) hS ?_
  rotate_left
  · intro X hX
    obtain ⟨g0, g1, g2, g3⟩ := hX
    go_simp
    try with_reducible rfl
  try simp only [List.getElem_toArray, List.getElem_cons_zero, List.getElem_cons_succ]
  simp only [Act.put, List.setIfInBounds_toArray, List.set_cons_zero, List.set_cons_succ]
  replace hS := (one_ind (i := 33) (by decide) _ _).2 hS
  clear hS
  refine anyL_step (i := 32) (by kernel_rfl) rfl (by rfl) (fun K hK => ?_)
  go_simp
  refine (CTC _ z2).mono ?_
  rintro e u3 ⟨rfl, d3⟩
  have z3 := below_trans z2 d3
  dsimp only
  refine hK.out _ _ ⟨fun _ => trivial, cell_below z3 _ _ xx, cell_below z3 _ _ xy, cell_below z3 _ _ x2, cell_below z3 _ _ x3⟩ ?_
  clear hK K
  try simp only [Act.put, List.setIfInBounds_toArray, List.set_cons_zero, List.set_cons_succ]
  have hS : oneQ 99 (fun _ => True) (fun X => X.cell? ⟨v3.heap.size, 0, none⟩ = some (.slice Ax mk1.length cx) ∧ X.cell? ⟨v4.heap.size, 0, none⟩ = some (.slice Ay mk1.length cy) ∧ X.cell? ⟨w.heap.size + 1, 0, none⟩ = some (.slice A2 t.length c2) ∧ X.cell? ⟨w.heap.size + 1 + 1, 0, none⟩ = some (.slice A3 o.length c3)) (((((((((((((((((((((((((((((((((((Array.replicate 58 false).setIfInBounds 0 true).setIfInBounds 1 true).setIfInBounds 2 true).setIfInBounds 3 true).setIfInBounds 4 true).setIfInBounds 5 true).setIfInBounds 6 true).setIfInBounds 7 true).setIfInBounds 8 true).setIfInBounds 9 true).setIfInBounds 10 true).setIfInBounds 11 true).setIfInBounds 12 true).setIfInBounds 13 true).setIfInBounds 14 true).setIfInBounds 15 true).setIfInBounds 16 true).setIfInBounds 17 true).setIfInBounds 18 true).setIfInBounds 19 true).setIfInBounds 20 true).setIfInBounds 21 true).setIfInBounds 22 true).setIfInBounds 23 true).setIfInBounds 24 true).setIfInBounds 25 true).setIfInBounds 26 true).setIfInBounds 27 true).setIfInBounds 28 true).setIfInBounds 29 true).setIfInBounds 30 true).setIfInBounds 31 true).setIfInBounds 33 true).setIfInBounds 32 true) u3 := ⟨fun _ => trivial, cell_below z3 _ _ xx, cell_below z3 _ _ xy, cell_below z3 _ _ x2, cell_below z3 _ _ x3⟩
  clear hS
  refine anyL_step (i := 34) (by kernel_rfl) rfl (by rfl) (fun K hK => ?_)
  go_simp
  refine (CRTC _ z3).mono ?_
  rintro e u4 ⟨rfl, d4⟩
  have z4 := below_trans z3 d4
  dsimp only
  refine hK.out _ _ ⟨fun _ => trivial, cell_below z4 _ _ xx, cell_below z4 _ _ xy, cell_below z4 _ _ x2, cell_below z4 _ _ x3⟩ ?_
  clear hK K
  try simp only [Act.put, List.setIfInBounds_toArray, List.set_cons_zero, List.set_cons_succ]
  have hS : oneQ 99 (fun _ => True) (fun X => X.cell? ⟨v3.heap.size, 0, none⟩ = some (.slice Ax mk1.length cx) ∧ X.cell? ⟨v4.heap.size, 0, none⟩ = some (.slice Ay mk1.length cy) ∧ X.cell? ⟨w.heap.size + 1, 0, none⟩ = some (.slice A2 t.length c2) ∧ X.cell? ⟨w.heap.size + 1 + 1, 0, none⟩ = some (.slice A3 o.length c3)) ((((((((((((((((((((((((((((((((((((Array.replicate 58 false).setIfInBounds 0 true).setIfInBounds 1 true).setIfInBounds 2 true).setIfInBounds 3 true).setIfInBounds 4 true).setIfInBounds 5 true).setIfInBounds 6 true).setIfInBounds 7 true).setIfInBounds 8 true).setIfInBounds 9 true).setIfInBounds 10 true).setIfInBounds 11 true).setIfInBounds 12 true).setIfInBounds 13 true).setIfInBounds 14 true).setIfInBounds 15 true).setIfInBounds 16 true).setIfInBounds 17 true).setIfInBounds 18 true).setIfInBounds 19 true).setIfInBounds 20 true).setIfInBounds 21 true).setIfInBounds 22 true).setIfInBounds 23 true).setIfInBounds 24 true).setIfInBounds 25 true).setIfInBounds 26 true).setIfInBounds 27 true).setIfInBounds 28 true).setIfInBounds 29 true).setIfInBounds 30 true).setIfInBounds 31 true).setIfInBounds 33 true).setIfInBounds 32 true).setIfInBounds 34 true) u4 := ⟨fun _ => trivial, cell_below z4 _ _ xx, cell_below z4 _ _ xy, cell_below z4 _ _ x2, cell_below z4 _ _ x3⟩
  refine anyL_take (fun _ => True) [] (i := 35) (v := ?_) rfl (by kernel_rfl) (by kernel_rfl) (by kernel_rfl) (fun _ _ _ h => h) (by kernel_rfl) (one_ind (i := 35) (by decide)) (fun _ _ _ _ => trivial) (Or.inl ⟨by rfl, ?_⟩) hS ?_
  rotate_left
  · intro X hX
    clear hX
    go_simp
    try with_reducible rfl
  try simp only [List.getElem_toArray, List.getElem_cons_zero, List.getElem_cons_succ]
  simp only [Act.put, List.setIfInBounds_toArray, List.set_cons_zero, List.set_cons_succ]
  replace hS := (one_ind (i := 35) (by decide) _ _).2 hS
  refine anyL_take (fun _ => True) [] (i := 36) (v := ?_) rfl (by kernel_rfl) (by kernel_rfl) (by kernel_rfl) (fun _ _ _ h => h) (by kernel_rfl) (one_ind (i := 36) (by decide)) (fun _ _ _ _ => trivial) (Or.inl ⟨by rfl, ?_⟩) hS ?_
  rotate_left
  · intro X hX
    clear hX
    go_simp
    try with_reducible rfl
  try simp only [List.getElem_toArray, List.getElem_cons_zero, List.getElem_cons_succ]
  simp only [Act.put, List.setIfInBounds_toArray, List.set_cons_zero, List.set_cons_succ]
  replace hS := (one_ind (i := 36) (by decide) _ _).2 hS
  refine anyL_take (fun _ => True) [] (i := 37) (v := ?_) rfl (by kernel_rfl) (by kernel_rfl) (by kernel_rfl) (fun _ _ _ h => h) (by kernel_rfl) (one_ind (i := 37) (by decide)) (fun _ _ _ _ => trivial) (Or.inl ⟨by rfl, ?_⟩) hS ?_
  rotate_left
  · intro X hX
    clear hX
    go_simp
    try with_reducible rfl
  try simp only [List.getElem_toArray, List.getElem_cons_zero, List.getElem_cons_succ]
  simp only [Act.put, List.setIfInBounds_toArray, List.set_cons_zero, List.set_cons_succ]
  replace hS := (one_ind (i := 37) (by decide) _ _).2 hS
  refine anyL_take (fun X => X.cell? ⟨v3.heap.size, 0, none⟩ = some (.slice Ax mk1.length cx) ∧ X.cell? ⟨v4.heap.size, 0, none⟩ = some (.slice Ay mk1.length cy) ∧ X.cell? ⟨w.heap.size + 1, 0, none⟩ = some (.slice A2 t.length c2) ∧ X.cell? ⟨w.heap.size + 1 + 1, 0, none⟩ = some (.slice A3 o.length c3)) [] (i := 38) (v := ?_) rfl (by kernel_rfl) (by kernel_rfl) (by kernel_rfl) (fun _ _ _ h => h) (by kernel_rfl) (one_ind (i := 38) (by decide)) (fun L X h1 h2 => h2.2) (Or.inl ⟨by rfl, ?_⟩) hS ?_
  rotate_left
  · intro X hX
    obtain ⟨g0, g1, g2, g3⟩ := hX
    go_simp
    try with_reducible rfl
  try simp only [List.getElem_toArray, List.getElem_cons_zero, List.getElem_cons_succ]
  simp only [Act.put, List.setIfInBounds_toArray, List.set_cons_zero, List.set_cons_succ]
  replace hS := (one_ind (i := 38) (by decide) _ _).2 hS
  refine anyL_take (fun _ => True) [] (i := 39) (v := ?_) rfl (by kernel_rfl) (by kernel_rfl) (by kernel_rfl) (fun _ _ _ h => h) (by kernel_rfl) (one_ind (i := 39) (by decide)) (fun _ _ _ _ => trivial) (Or.inl ⟨by rfl, ?_⟩) hS ?_
  rotate_left
  · intro X hX
    clear hX
    go_simp
    try with_reducible rfl
  try simp only [List.getElem_toArray, List.getElem_cons_zero, List.getElem_cons_succ]
  simp only [Act.put, List.setIfInBounds_toArray, List.set_cons_zero, List.set_cons_succ]
  replace hS := (one_ind (i := 39) (by decide) _ _).2 hS
  refine anyL_take (fun X => X.cell? ⟨v3.heap.size, 0, none⟩ = some (.slice Ax mk1.length cx) ∧ X.cell? ⟨v4.heap.size, 0, none⟩ = some (.slice Ay mk1.length cy) ∧ X.cell? ⟨w.heap.size + 1, 0, none⟩ = some (.slice A2 t.length c2) ∧ X.cell? ⟨w.heap.size + 1 + 1, 0, none⟩ = some (.slice A3 o.length c3)) [] (i := 41) (v := ?_) rfl (by kernel_rfl) (by kernel_rfl) (by kernel_rfl) (fun _ _ _ h => h) (by kernel_rfl) (one_ind (i := 41) (by decide)) (fun L X h1 h2 => h2.2) (Or.inl ⟨by rfl, ?_⟩) hS ?_
  rotate_left
  · intro X hX
    obtain ⟨g0, g1, g2, g3⟩ := hX
    go_simp
    try with_reducible rfl
  try simp only [List.getElem_toArray, List.getElem_cons_zero, List.getElem_cons_succ]
  simp only [Act.put, List.setIfInBounds_toArray, List.set_cons_zero, List.set_cons_succ]
  replace hS := (one_ind (i := 41) (by decide) _ _).2 hS
  refine anyL_take (fun _ => True) [] (i := 42) (v := ?_) rfl (by kernel_rfl) (by kernel_rfl) (by kernel_rfl) (fun _ _ _ h => h) (by kernel_rfl) (one_ind (i := 42) (by decide)) (fun _ _ _ _ => trivial) (Or.inl ⟨by rfl, ?_⟩) hS ?_
  rotate_left
  · intro X hX
    clear hX
    go_simp
    try with_reducible rfl
  try simp only [List.getElem_toArray, List.getElem_cons_zero, List.getElem_cons_succ]
  simp only [Act.put, List.setIfInBounds_toArray, List.set_cons_zero, List.set_cons_succ]
  replace hS := (one_ind (i := 42) (by decide) _ _).2 hS
  clear hS
  refine anyL_step (i := 40) (by kernel_rfl) rfl (by rfl) (fun K hK => ?_)
  go_simp
  refine (CTR _ z4).mono ?_
  rintro e u5 ⟨A9, c9, rfl, o9, d5⟩
  have z5 := below_trans z4 d5
  have s9 := OwnI.sl o9
  dsimp only
  refine hK.out _ _ ⟨fun _ => trivial, cell_below z5 _ _ xx, cell_below z5 _ _ xy, cell_below z5 _ _ x2, cell_below z5 _ _ x3⟩ ?_
  clear hK K
  try simp only [Act.put, List.setIfInBounds_toArray, List.set_cons_zero, List.set_cons_succ]
  have hS : oneQ 99 (fun _ => True) (fun X => X.cell? ⟨v3.heap.size, 0, none⟩ = some (.slice Ax mk1.length cx) ∧ X.cell? ⟨v4.heap.size, 0, none⟩ = some (.slice Ay mk1.length cy) ∧ X.cell? ⟨w.heap.size + 1, 0, none⟩ = some (.slice A2 t.length c2) ∧ X.cell? ⟨w.heap.size + 1 + 1, 0, none⟩ = some (.slice A3 o.length c3)) ((((((((((((((((((((((((((((((((((((((((((((Array.replicate 58 false).setIfInBounds 0 true).setIfInBounds 1 true).setIfInBounds 2 true).setIfInBounds 3 true).setIfInBounds 4 true).setIfInBounds 5 true).setIfInBounds 6 true).setIfInBounds 7 true).setIfInBounds 8 true).setIfInBounds 9 true).setIfInBounds 10 true).setIfInBounds 11 true).setIfInBounds 12 true).setIfInBounds 13 true).setIfInBounds 14 true).setIfInBounds 15 true).setIfInBounds 16 true).setIfInBounds 17 true).setIfInBounds 18 true).setIfInBounds 19 true).setIfInBounds 20 true).setIfInBounds 21 true).setIfInBounds 22 true).setIfInBounds 23 true).setIfInBounds 24 true).setIfInBounds 25 true).setIfInBounds 26 true).setIfInBounds 27 true).setIfInBounds 28 true).setIfInBounds 29 true).setIfInBounds 30 true).setIfInBounds 31 true).setIfInBounds 33 true).setIfInBounds 32 true).setIfInBounds 34 true).setIfInBounds 35 true).setIfInBounds 36 true).setIfInBounds 37 true).setIfInBounds 38 true).setIfInBounds 39 true).setIfInBounds 41 true).setIfInBounds 42 true).setIfInBounds 40 true) u5 := ⟨fun _ => trivial, cell_below z5 _ _ xx, cell_below z5 _ _ xy, cell_below z5 _ _ x2, cell_below z5 _ _ x3⟩
  clear hS
  refine anyL_step (i := 43) (by kernel_rfl) rfl (by rfl) (fun K hK => ?_)
  go_simp
  refine (CRTR _ z5).mono ?_
  rintro e u6 ⟨A10, c10, rfl, o10, d6⟩
  have z6 := below_trans z5 d6
  have s10 := OwnI.sl o10; replace s9 := s9.below d6
  dsimp only
  refine hK.out _ _ ⟨fun _ => trivial, cell_below z6 _ _ xx, cell_below z6 _ _ xy, cell_below z6 _ _ x2, cell_below z6 _ _ x3⟩ ?_
  clear hK K
  try simp only [Act.put, List.setIfInBounds_toArray, List.set_cons_zero, List.set_cons_succ]
  have hS : oneQ 99 (fun _ => True) (fun X => X.cell? ⟨v3.heap.size, 0, none⟩ = some (.slice Ax mk1.length cx) ∧ X.cell? ⟨v4.heap.size, 0, none⟩ = some (.slice Ay mk1.length cy) ∧ X.cell? ⟨w.heap.size + 1, 0, none⟩ = some (.slice A2 t.length c2) ∧ X.cell? ⟨w.heap.size + 1 + 1, 0, none⟩ = some (.slice A3 o.length c3)) (((((((((((((((((((((((((((((((((((((((((((((Array.replicate 58 false).setIfInBounds 0 true).setIfInBounds 1 true).setIfInBounds 2 true).setIfInBounds 3 true).setIfInBounds 4 true).setIfInBounds 5 true).setIfInBounds 6 true).setIfInBounds 7 true).setIfInBounds 8 true).setIfInBounds 9 true).setIfInBounds 10 true).setIfInBounds 11 true).setIfInBounds 12 true).setIfInBounds 13 true).setIfInBounds 14 true).setIfInBounds 15 true).setIfInBounds 16 true).setIfInBounds 17 true).setIfInBounds 18 true).setIfInBounds 19 true).setIfInBounds 20 true).setIfInBounds 21 true).setIfInBounds 22 true).setIfInBounds 23 true).setIfInBounds 24 true).setIfInBounds 25 true).setIfInBounds 26 true).setIfInBounds 27 true).setIfInBounds 28 true).setIfInBounds 29 true).setIfInBounds 30 true).setIfInBounds 31 true).setIfInBounds 33 true).setIfInBounds 32 true).setIfInBounds 34 true).setIfInBounds 35 true).setIfInBounds 36 true).setIfInBounds 37 true).setIfInBounds 38 true).setIfInBounds 39 true).setIfInBounds 41 true).setIfInBounds 42 true).setIfInBounds 40 true).setIfInBounds 43 true) u6 := ⟨fun _ => trivial, cell_below z6 _ _ xx, cell_below z6 _ _ xy, cell_below z6 _ _ x2, cell_below z6 _ _ x3⟩
  clear hS
  refine anyL_step (i := 44) (by kernel_rfl) rfl (by rfl) (fun K hK => ?_)
  go_simp
  refine (S64 _ _ _ _ _ s9 s10).mono ?_
  rintro e u7 ⟨rfl, d7⟩
  have z7 := below_trans z6 d7
  dsimp only
  refine hK.out _ _ ⟨fun _ => trivial, cell_below z7 _ _ xx, cell_below z7 _ _ xy, cell_below z7 _ _ x2, cell_below z7 _ _ x3⟩ ?_
  clear hK K
  try simp only [Act.put, List.setIfInBounds_toArray, List.set_cons_zero, List.set_cons_succ]
  have hS : oneQ 99 (fun _ => True) (fun X => X.cell? ⟨v3.heap.size, 0, none⟩ = some (.slice Ax mk1.length cx) ∧ X.cell? ⟨v4.heap.size, 0, none⟩ = some (.slice Ay mk1.length cy) ∧ X.cell? ⟨w.heap.size + 1, 0, none⟩ = some (.slice A2 t.length c2) ∧ X.cell? ⟨w.heap.size + 1 + 1, 0, none⟩ = some (.slice A3 o.length c3)) ((((((((((((((((((((((((((((((((((((((((((((((Array.replicate 58 false).setIfInBounds 0 true).setIfInBounds 1 true).setIfInBounds 2 true).setIfInBounds 3 true).setIfInBounds 4 true).setIfInBounds 5 true).setIfInBounds 6 true).setIfInBounds 7 true).setIfInBounds 8 true).setIfInBounds 9 true).setIfInBounds 10 true).setIfInBounds 11 true).setIfInBounds 12 true).setIfInBounds 13 true).setIfInBounds 14 true).setIfInBounds 15 true).setIfInBounds 16 true).setIfInBounds 17 true).setIfInBounds 18 true).setIfInBounds 19 true).setIfInBounds 20 true).setIfInBounds 21 true).setIfInBounds 22 true).setIfInBounds 23 true).setIfInBounds 24 true).setIfInBounds 25 true).setIfInBounds 26 true).setIfInBounds 27 true).setIfInBounds 28 true).setIfInBounds 29 true).setIfInBounds 30 true).setIfInBounds 31 true).setIfInBounds 33 true).setIfInBounds 32 true).setIfInBounds 34 true).setIfInBounds 35 true).setIfInBounds 36 true).setIfInBounds 37 true).setIfInBounds 38 true).setIfInBounds 39 true).setIfInBounds 41 true).setIfInBounds 42 true).setIfInBounds 40 true).setIfInBounds 43 true).setIfInBounds 44 true) u7 := ⟨fun _ => trivial, cell_below z7 _ _ xx, cell_below z7 _ _ xy, cell_below z7 _ _ x2, cell_below z7 _ _ x3⟩
  refine anyL_take (fun _ => True) [] (i := 45) (v := ?_) rfl (by kernel_rfl) (by kernel_rfl) (by kernel_rfl) (fun _ _ _ h => h) (by kernel_rfl) (one_ind (i := 45) (by decide)) (fun _ _ _ _ => trivial) (Or.inl ⟨by rfl, ?_⟩) hS ?_
  rotate_left
  · intro X hX
    clear hX
    go_simp
    try with_reducible rfl
  try simp only [List.getElem_toArray, List.getElem_cons_zero, List.getElem_cons_succ]
  simp only [Act.put, List.setIfInBounds_toArray, List.set_cons_zero, List.set_cons_succ]
  replace hS := (one_ind (i := 45) (by decide) _ _).2 hS
  refine anyL_take (fun _ => True) [] (i := 46) (v := ?_) rfl (by kernel_rfl) (by kernel_rfl) (by kernel_rfl) (fun _ _ _ h => h) (by kernel_rfl) (one_ind (i := 46) (by decide)) (fun _ _ _ _ => trivial) (Or.inl ⟨by rfl, ?_⟩) hS ?_
  rotate_left
  · intro X hX
    clear hX
    go_simp
    try with_reducible rfl
  try simp only [List.getElem_toArray, List.getElem_cons_zero, List.getElem_cons_succ]
  simp only [Act.put, List.setIfInBounds_toArray, List.set_cons_zero, List.set_cons_succ]
  replace hS := (one_ind (i := 46) (by decide) _ _).2 hS
  refine anyL_take (fun X => X.cell? ⟨v3.heap.size, 0, none⟩ = some (.slice Ax mk1.length cx) ∧ X.cell? ⟨v4.heap.size, 0, none⟩ = some (.slice Ay mk1.length cy) ∧ X.cell? ⟨w.heap.size + 1, 0, none⟩ = some (.slice A2 t.length c2) ∧ X.cell? ⟨w.heap.size + 1 + 1, 0, none⟩ = some (.slice A3 o.length c3)) [] (i := 47) (v := ?_) rfl (by kernel_rfl) (by kernel_rfl) (by kernel_rfl) (fun _ _ _ h => h) (by kernel_rfl) (one_ind (i := 47) (by decide)) (fun L X h1 h2 => h2.2) (Or.inl ⟨by rfl, ?_⟩) hS ?_
  rotate_left
  · intro X hX
    obtain ⟨g0, g1, g2, g3⟩ := hX
    go_simp
    try with_reducible rfl
  try simp only [List.getElem_toArray, List.getElem_cons_zero, List.getElem_cons_succ]
  simp only [Act.put, List.setIfInBounds_toArray, List.set_cons_zero, List.set_cons_succ]
  replace hS := (one_ind (i := 47) (by decide) _ _).2 hS
  refine anyL_take (fun X => X.cell? ⟨v3.heap.size, 0, none⟩ = some (.slice Ax mk1.length cx) ∧ X.cell? ⟨v4.heap.size, 0, none⟩ = some (.slice Ay mk1.length cy) ∧ X.cell? ⟨w.heap.size + 1, 0, none⟩ = some (.slice A2 t.length c2) ∧ X.cell? ⟨w.heap.size + 1 + 1, 0, none⟩ = some (.slice A3 o.length c3)) [] (i := 48) (v := ?_) rfl (by kernel_rfl) (by kernel_rfl) (by kernel_rfl) (fun _ _ _ h => h) (by kernel_rfl) (one_ind (i := 48) (by decide)) (fun L X h1 h2 => h2.2) (Or.inl ⟨by rfl, ?_⟩) hS ?_
  rotate_left
  · intro X hX
    obtain ⟨g0, g1, g2, g3⟩ := hX
    go_simp
    try with_reducible rfl
  try simp only [List.getElem_toArray, List.getElem_cons_zero, List.getElem_cons_succ]
  simp only [Act.put, List.setIfInBounds_toArray, List.set_cons_zero, List.set_cons_succ]
  replace hS := (one_ind (i := 48) (by decide) _ _).2 hS
  refine anyL_take (fun _ => True) [] (i := 50) (v := ?_) rfl (by kernel_rfl) (by kernel_rfl) (by kernel_rfl) (fun _ _ _ h => h) (by kernel_rfl) (one_ind (i := 50) (by decide)) (fun _ _ _ _ => trivial) (Or.inl ⟨by rfl, ?_⟩) hS ?_
  rotate_left
  · intro X hX
    clear hX
    go_simp
    try with_reducible rfl
  try simp only [List.getElem_toArray, List.getElem_cons_zero, List.getElem_cons_succ]
  simp only [Act.put, List.setIfInBounds_toArray, List.set_cons_zero, List.set_cons_succ]
  replace hS := (one_ind (i := 50) (by decide) _ _).2 hS
  refine anyL_take (fun X => X.cell? ⟨v3.heap.size, 0, none⟩ = some (.slice Ax mk1.length cx) ∧ X.cell? ⟨v4.heap.size, 0, none⟩ = some (.slice Ay mk1.length cy) ∧ X.cell? ⟨w.heap.size + 1, 0, none⟩ = some (.slice A2 t.length c2) ∧ X.cell? ⟨w.heap.size + 1 + 1, 0, none⟩ = some (.slice A3 o.length c3)) [] (i := 51) (v := ?_) rfl (by kernel_rfl) (by kernel_rfl) (by kernel_rfl) (fun _ _ _ h => h) (by kernel_rfl) (one_ind (i := 51) (by decide)) (fun L X h1 h2 => h2.2) (Or.inl ⟨by rfl, ?_⟩) hS ?_
  rotate_left
  · intro X hX
    obtain ⟨g0, g1, g2, g3⟩ := hX
    go_simp
    try with_reducible rfl
  try simp only [List.getElem_toArray, List.getElem_cons_zero, List.getElem_cons_succ]
  simp only [Act.put, List.setIfInBounds_toArray, List.set_cons_zero, List.set_cons_succ]
  replace hS := (one_ind (i := 51) (by decide) _ _).2 hS
  refine anyL_take (fun _ => True) [] (i := 52) (v := ?_) rfl (by kernel_rfl) (by kernel_rfl) (by kernel_rfl) (fun _ _ _ h => h) (by kernel_rfl) (one_ind (i := 52) (by decide)) (fun _ _ _ _ => trivial) (Or.inl ⟨by rfl, ?_⟩) hS ?_
  rotate_left
  · intro X hX
    clear hX
    go_simp
    try with_reducible rfl
  try simp only [List.getElem_toArray, List.getElem_cons_zero, List.getElem_cons_succ]
  simp only [Act.put, List.setIfInBounds_toArray, List.set_cons_zero, List.set_cons_succ]
  replace hS := (one_ind (i := 52) (by decide) _ _).2 hS
  refine anyL_take (fun X => X.cell? ⟨v3.heap.size, 0, none⟩ = some (.slice Ax mk1.length cx) ∧ X.cell? ⟨v4.heap.size, 0, none⟩ = some (.slice Ay mk1.length cy) ∧ X.cell? ⟨w.heap.size + 1, 0, none⟩ = some (.slice A2 t.length c2) ∧ X.cell? ⟨w.heap.size + 1 + 1, 0, none⟩ = some (.slice A3 o.length c3)) [] (i := 53) (v := ?_) rfl (by kernel_rfl) (by kernel_rfl) (by kernel_rfl) (fun _ _ _ h => h) (by kernel_rfl) (one_ind (i := 53) (by decide)) (fun L X h1 h2 => h2.2) (Or.inl ⟨by rfl, ?_⟩) hS ?_
  rotate_left
  · intro X hX
    obtain ⟨g0, g1, g2, g3⟩ := hX
    go_simp
    try with_reducible rfl
  try simp only [List.getElem_toArray, List.getElem_cons_zero, List.getElem_cons_succ]
  simp only [Act.put, List.setIfInBounds_toArray, List.set_cons_zero, List.set_cons_succ]
  replace hS := (one_ind (i := 53) (by decide) _ _).2 hS
  clear hS
  refine anyL_step (i := 49) (by kernel_rfl) rfl (by rfl) (fun K hK => ?_)
  go_simp
  refine (CTS _ z7).mono ?_
  rintro e u8 ⟨rfl, d8⟩
  have z8 := below_trans z7 d8
  dsimp only
  refine hK.out _ _ ⟨fun _ => trivial, cell_below z8 _ _ xx, cell_below z8 _ _ xy, cell_below z8 _ _ x2, cell_below z8 _ _ x3⟩ ?_
  clear hK K
  try simp only [Act.put, List.setIfInBounds_toArray, List.set_cons_zero, List.set_cons_succ]
  have hS : oneQ 99 (fun _ => True) (fun X => X.cell? ⟨v3.heap.size, 0, none⟩ = some (.slice Ax mk1.length cx) ∧ X.cell? ⟨v4.heap.size, 0, none⟩ = some (.slice Ay mk1.length cy) ∧ X.cell? ⟨w.heap.size + 1, 0, none⟩ = some (.slice A2 t.length c2) ∧ X.cell? ⟨w.heap.size + 1 + 1, 0, none⟩ = some (.slice A3 o.length c3)) (((((((((((((((((((((((((((((((((((((((((((((((((((((((Array.replicate 58 false).setIfInBounds 0 true).setIfInBounds 1 true).setIfInBounds 2 true).setIfInBounds 3 true).setIfInBounds 4 true).setIfInBounds 5 true).setIfInBounds 6 true).setIfInBounds 7 true).setIfInBounds 8 true).setIfInBounds 9 true).setIfInBounds 10 true).setIfInBounds 11 true).setIfInBounds 12 true).setIfInBounds 13 true).setIfInBounds 14 true).setIfInBounds 15 true).setIfInBounds 16 true).setIfInBounds 17 true).setIfInBounds 18 true).setIfInBounds 19 true).setIfInBounds 20 true).setIfInBounds 21 true).setIfInBounds 22 true).setIfInBounds 23 true).setIfInBounds 24 true).setIfInBounds 25 true).setIfInBounds 26 true).setIfInBounds 27 true).setIfInBounds 28 true).setIfInBounds 29 true).setIfInBounds 30 true).setIfInBounds 31 true).setIfInBounds 33 true).setIfInBounds 32 true).setIfInBounds 34 true).setIfInBounds 35 true).setIfInBounds 36 true).setIfInBounds 37 true).setIfInBounds 38 true).setIfInBounds 39 true).setIfInBounds 41 true).setIfInBounds 42 true).setIfInBounds 40 true).setIfInBounds 43 true).setIfInBounds 44 true).setIfInBounds 45 true).setIfInBounds 46 true).setIfInBounds 47 true).setIfInBounds 48 true).setIfInBounds 50 true).setIfInBounds 51 true).setIfInBounds 52 true).setIfInBounds 53 true).setIfInBounds 49 true) u8 := ⟨fun _ => trivial, cell_below z8 _ _ xx, cell_below z8 _ _ xy, cell_below z8 _ _ x2, cell_below z8 _ _ x3⟩
  clear hS
  refine anyL_step (i := 54) (by kernel_rfl) rfl (by rfl) (fun K hK => ?_)
  go_simp
  refine (CLS _ z8).mono ?_
  rintro e u9 ⟨rfl, d9⟩
  have z9 := below_trans z8 d9
  dsimp only
  refine hK.out _ _ ⟨fun _ => trivial, cell_below z9 _ _ xx, cell_below z9 _ _ xy, cell_below z9 _ _ x2, cell_below z9 _ _ x3⟩ ?_
  clear hK K
  try simp only [Act.put, List.setIfInBounds_toArray, List.set_cons_zero, List.set_cons_succ]
  have hS : oneQ 99 (fun _ => True) (fun X => X.cell? ⟨v3.heap.size, 0, none⟩ = some (.slice Ax mk1.length cx) ∧ X.cell? ⟨v4.heap.size, 0, none⟩ = some (.slice Ay mk1.length cy) ∧ X.cell? ⟨w.heap.size + 1, 0, none⟩ = some (.slice A2 t.length c2) ∧ X.cell? ⟨w.heap.size + 1 + 1, 0, none⟩ = some (.slice A3 o.length c3)) ((((((((((((((((((((((((((((((((((((((((((((((((((((((((Array.replicate 58 false).setIfInBounds 0 true).setIfInBounds 1 true).setIfInBounds 2 true).setIfInBounds 3 true).setIfInBounds 4 true).setIfInBounds 5 true).setIfInBounds 6 true).setIfInBounds 7 true).setIfInBounds 8 true).setIfInBounds 9 true).setIfInBounds 10 true).setIfInBounds 11 true).setIfInBounds 12 true).setIfInBounds 13 true).setIfInBounds 14 true).setIfInBounds 15 true).setIfInBounds 16 true).setIfInBounds 17 true).setIfInBounds 18 true).setIfInBounds 19 true).setIfInBounds 20 true).setIfInBounds 21 true).setIfInBounds 22 true).setIfInBounds 23 true).setIfInBounds 24 true).setIfInBounds 25 true).setIfInBounds 26 true).setIfInBounds 27 true).setIfInBounds 28 true).setIfInBounds 29 true).setIfInBounds 30 true).setIfInBounds 31 true).setIfInBounds 33 true).setIfInBounds 32 true).setIfInBounds 34 true).setIfInBounds 35 true).setIfInBounds 36 true).setIfInBounds 37 true).setIfInBounds 38 true).setIfInBounds 39 true).setIfInBounds 41 true).setIfInBounds 42 true).setIfInBounds 40 true).setIfInBounds 43 true).setIfInBounds 44 true).setIfInBounds 45 true).setIfInBounds 46 true).setIfInBounds 47 true).setIfInBounds 48 true).setIfInBounds 50 true).setIfInBounds 51 true).setIfInBounds 52 true).setIfInBounds 53 true).setIfInBounds 49 true).setIfInBounds 54 true) u9 := ⟨fun _ => trivial, cell_below z9 _ _ xx, cell_below z9 _ _ xy, cell_below z9 _ _ x2, cell_below z9 _ _ x3⟩
  refine anyL_take (fun _ => True) [] (i := 55) (v := ?_) rfl (by kernel_rfl) (by kernel_rfl) (by kernel_rfl) (fun _ _ _ h => h) (by kernel_rfl) (one_ind (i := 55) (by decide)) (fun _ _ _ _ => trivial) (Or.inl ⟨by rfl, ?_⟩) hS ?_
  rotate_left
  · intro X hX
    clear hX
    go_simp
    try with_reducible rfl
  try simp only [List.getElem_toArray, List.getElem_cons_zero, List.getElem_cons_succ]
  simp only [Act.put, List.setIfInBounds_toArray, List.set_cons_zero, List.set_cons_succ]
  replace hS := (one_ind (i := 55) (by decide) _ _).2 hS
  refine anyL_take (fun _ => True) [] (i := 56) (v := ?_) rfl (by kernel_rfl) (by kernel_rfl) (by kernel_rfl) (fun _ _ _ h => h) (by kernel_rfl) (one_ind (i := 56) (by decide)) (fun _ _ _ _ => trivial) (Or.inl ⟨by rfl, ?_⟩) hS ?_
  rotate_left
  · intro X hX
    clear hX
    go_simp
    try with_reducible rfl
  try simp only [List.getElem_toArray, List.getElem_cons_zero, List.getElem_cons_succ]
  simp only [Act.put, List.setIfInBounds_toArray, List.set_cons_zero, List.set_cons_succ]
  replace hS := (one_ind (i := 56) (by decide) _ _).2 hS
  refine anyL_step (i := 57) (by kernel_rfl) rfl (by rfl) (fun K hK => ?_)
  go_simp
  refine hK.out _ _ ⟨fun _ => trivial, cell_below z9 _ _ xx, cell_below z9 _ _ xy, cell_below z9 _ _ x2, cell_below z9 _ _ x3⟩ ?_
  clear hK K
  refine anyL_done (by kernel_rfl) ?_ _
  have bend := below_trans bt13 z9
  go_wp2_with fail
  go_ret
  exact ⟨rfl, bend⟩
end Go.Proofs.Ythpgaggceefamaa
