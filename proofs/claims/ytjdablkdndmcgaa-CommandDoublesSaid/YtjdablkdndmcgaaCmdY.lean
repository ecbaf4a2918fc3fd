/- CmdY: CommandDoubles. -/
import Derived.Test.YtjdablkdndmcgaaCmdW
import Derived.Test.YtjdablkdndmcgaaCmdX
import Derived.Test.YtjdablkdndmcgaaFloR
import Derived.Test.YtjdablkdndmcgaaSized
namespace Go.Proofs.Ytjdablkdndmcgaa
set_option linter.unusedVariables false
set_option linter.unusedSimpArgs false
open Go.RowKit
attribute [local go_sem] run_max run_min
/-- Two slices do not share a block. -/
def Apt (v u : Value) : Prop := ∀ k, v.ownBlock = some k → u.ownBlock ≠ some k
theorem Apt.symm {v u : Value} (h : Apt v u) : Apt u v := fun k hk hh => h k hh hk
theorem kept_apt {W w1 : World} {base E : Nat} {k : IntKind} {V : Option Addr} {cv : Nat} {ys : List Int} {u : Value} (hO : OwnI W base E k V cv ys) (hg : W.grownBy w1 u.ownBlock) (ha : Apt (.slice V ys.length cv) u) : OwnI w1 base E k V cv ys := by
  refine hO.kept hg ?_
  cases hv : (Value.slice V ys.length cv).ownBlock with
  | none => exact .inl rfl
  | some k => exact .inr fun e => ha k hv e.symm
/-- After an append. -/
theorem apt_new {W : World} {base E : Nat} {k : IntKind} {V : Option Addr} {cv : Nat} {ys : List Int} {u u' : Value} (hO : OwnI W base E k V cv ys) (ha : Apt (.slice V ys.length cv) u) (hn : u'.ownBlock = u.ownBlock ∨ u'.ownBlock = some (W.heap.size + 1)) : Apt (.slice V ys.length cv) u' := fun j hj hh => by
  rcases hn with e | e
  · exact ha j hj (e ▸ hh)
  · rw [hh] at e
    injection e with e
    have := (hO.lt j hj).2
    omega
theorem byte_of (x : Int) (j : Nat) : IntKind.u8.wrap (x / 2 ^ (8 * j)) = x / 2 ^ (8 * j) % 256 := by
  simp [IntKind.wrap, IntKind.signed, IntKind.bits]
theorem flatU_take (l : List Int) (i : Nat) (hi : i < l.length) : flatU (l.take (i + 1)) = flatU (l.take i) ++ lowB (l.getD i 0) 8 := by
  unfold flatU
  rw [List.take_add_one, List.flatMap_append, List.getElem?_eq_getElem hi]
  simp [List.getD_eq_getElem?_getD, List.getElem?_eq_getElem hi]
theorem wantU_take (f : Int) (l : List Int) (i : Nat) (hi : i < l.length) : wantU f (l.take (i + 1)) = wantU f (l.take i) ++ [(fix (l.getD i 0) f).1] := by
  unfold wantU
  rw [List.take_add_one, List.map_append, List.getElem?_eq_getElem hi]
  simp [List.getD_eq_getElem?_getD, List.getElem?_eq_getElem hi]
theorem goodU_take (f : Int) (l : List Int) (i : Nat) (hi : i < l.length) : goodU f (l.take (i + 1)) = (goodU f (l.take i) && ((fix (l.getD i 0) f).2 == 0)) := by
  unfold goodU
  rw [List.take_add_one, List.all_append, List.getElem?_eq_getElem hi]
  simp [List.getD_eq_getElem?_getD, List.getElem?_eq_getElem hi]
set_option maxHeartbeats 4000000 in
set_option maxRecDepth 20000 in
theorem CommandDoubles_row (L : Option Addr) (cl : Nat) (l : List Int) (fr id : Int) (w : World) (h : SlI w .u64 L cl l) (fl : ∀ n ∈ l, (Lit.int .u64 n).wf = true) (_yl : l.length * 8 ≤ 140737488351232) (hf : (Lit.int .i64 fr).wf = true) (hi : (Lit.int .i64 id).wf = true) :
    Calls Try.prog 3 #[.slice L l.length cl, .int .i64 fr, .int .i64 id] w fun e w' => e = .returned (.bool true) ∧ Below w.heap.size w w' := by
  have hu : U64 l := fun x hx => bdU64 (fl x hx)
  obtain ⟨hf1, hf2⟩ := bdI64 hf
  obtain ⟨hi1, hi2⟩ := bdI64 hi
  clear fl hf hi _yl
  by_cases hl1 : l.length < 1
  · have i1 : (l.length : Int) < 1 := by omega
    go_enter Try.func3, Try.ntmps3
    go_wp2_with fail
    refine (lives_calls _).mono ?_
    rintro e w1 ⟨rfl, b1⟩
    go_wp2_with fail
    go_ret
    exact ⟨rfl, b1⟩
  by_cases hl2 : 200 < l.length
  · have i1 : ¬ (l.length : Int) < 1 := by omega
    have i2 : (200 : Int) < (l.length : Int) := by omega
    go_enter Try.func3, Try.ntmps3
    go_wp2_with fail
    refine (lives_calls _).mono ?_
    rintro e w1 ⟨rfl, b1⟩
    go_wp2_with fail
    go_ret
    exact ⟨rfl, b1⟩
  have i1 : ¬ (l.length : Int) < 1 := by omega
  have i2 : ¬ (200 : Int) < (l.length : Int) := by omega
  go_enter Try.func3, Try.ntmps3
  go_wp2_with fail
  refine (lives_calls _).mono ?_
  rintro e w1 ⟨rfl, b1⟩
  go_wp2_with fail
  refine (Pick_calls fr 16 _ (by decide) (by decide)).mono ?_
  rintro e w1 ⟨rfl, rfl⟩
  obtain ⟨f, hf⟩ : ∃ f, f = fr % 16 := ⟨_, rfl⟩
  have f0 : 0 ≤ f := by omega
  have f1 : f ≤ 15 := by omega
  rw [← hf]
  clear hf
  obtain ⟨d, hd⟩ : ∃ d, d = max 1 id := ⟨_, rfl⟩
  have d0 : 1 ≤ d := by omega
  have d1 : d < 9223372036854775808 := by omega
  replace hd := Lib.hid hd
  go_wp2_with fail
  rw [← hd.out]
  have B0 := below_box0 w1 (.cells (nums .u8 [1]).toArray 5)
  have HB := below_row b1 b1.size (grown_of_below B0 none) (fun k hk => by cases hk)
  have O0 : OwnI (w1.alloc (.cells (nums .u8 [1]).toArray 5)) w.heap.size 5 .u8 (some ⟨w1.heap.size, 0, none⟩) 1 [1] :=
    own_mono (World.ownsRow_lit (base := w1.heap.size) (e := 5) (size := 1) w1 (nums .u8 [1]).toArray 1 (Nat.le_refl _) (by decide) (by rfl)) b1.size
  have HX := Lib.hid (And.intro HB O0)
  clear B0 HB O0 hd
  go_loopg [7, 8] 9 (fun gk r k w' => ∃ (j : Nat) (zs : List Int) (B : Option Addr) (cb : Nat), r = .slice B zs.length cb ∧ k = .int .i64 (j : Int) ∧ j ≤ 8 ∧ 8 < j + gk ∧ zs = [1] ++ lowB d j ∧ OwnI w' w.heap.size 5 .u8 B cb zs ∧ Below w.heap.size w w')
  case atStart => exact ⟨0, [1], some ⟨w1.heap.size, 0, none⟩, 1, rfl, rfl, by decide, by decide, by simp [lowB], HX.out.2, HX.out.1⟩
  case round =>
    clear HX b1
    obtain ⟨j, zs, B, cb, rfl, rfl, hj, hg, hz, HO, HB⟩ := hrel
    by_cases hj8 : j < 8
    · have hzl := Lib.hid (show zs.length = j + 1 by rw [hz]; simp [lowB_length])
      have hz2 := Lib.hid (show [1] ++ lowB d (j + 1) = zs ++ [d / 2 ^ (8 * j) % 256] by rw [lowB_succ, hz, List.append_assoc])
      replace hz := Lib.hid hz
      have hj8' : (j : Int) < 8 := by omega
      go_wp2_with (at_builtin; refine app_one w.heap.size rfl _ _ 25 5 .u8 1 rfl Try.underlying25 (by kernel_rfl) (by decide) B cb zs (d / 2 ^ (8 * j) % 256) rfl rfl HO HB.size (by have := hzl.out; omega) ?_)
      intro D1 c1 w3 o3 hg3 _
      go_wp2_with fail
      go_roundg (gk - 1)
      case measure => omega
      case rel => exact ⟨j + 1, zs ++ [d / 2 ^ (8 * j) % 256], D1, c1, by simp, by simp, by omega, by omega, hz2.out.symm, o3, below_row HB HB.size hg3 (fun k hk => (HO.lt k hk).1)⟩
    obtain rfl : j = 8 := by omega
    clear hj8 hj hg
    have hzl := Lib.hid (show zs.length = 9 by rw [hz]; simp [lowB_length])
    obtain ⟨hd, hhd⟩ : ∃ hd : List Int, hd = [1] ++ lowB d 8 ++ [f + 1, (l.length : Int), 0] := ⟨_, rfl⟩
    have hz2 := Lib.hid (show zs ++ [f + 1, (l.length : Int), 0] = hd by rw [hhd, hz])
    have hhl := Lib.hid (show hd.length = 12 by rw [hhd]; simp [lowB_length])
    have hraw := Lib.hid (show rawD d f l = hd ++ flatU l by rw [hhd]; rfl)
    clear hz hhd
    have b2 := below_box0 wr (.cells (nums .u8 [f + 1, (l.length : Int), 0]).toArray 5)
    have o2 : SlI (wr.alloc (.cells (nums .u8 [f + 1, (l.length : Int), 0]).toArray 5)) .u8 (some ⟨wr.heap.size, 0, none⟩) 3 [f + 1, (l.length : Int), 0] := lit_sl [f + 1, (l.length : Int), 0] (show 3 ≤ maxLen by decide)
    have HO2 := HO.alloc (.cells (nums .u8 [f + 1, (l.length : Int), 0]).toArray 5)
    have HB2 := below_row HB HB.size (grown_of_below b2 none) (fun k hk => by cases hk)
    have HX := Lib.hid (And.intro o2 (And.intro HO2 HB2))
    clear b2 o2 HO2 HB2
    go_wp2_with (at_builtin; refine app_row_is w.heap.size rfl _ _ 25 5 .u8 1 rfl Try.underlying25 (by kernel_rfl) (by decide) B cb zs [f + 1, (l.length : Int), 0] hd hz2 (some ⟨wr.heap.size, 0, none⟩) 3 rfl rfl HX.out.2.1 HX.out.1.rd HX.out.2.2.size (by have := hzl.out; simp; omega) ?_)
    intro D1 c1 w3 o3 hg3 _
    have HB3 := below_row HX.out.2.2 HX.out.2.2.size hg3 (fun k hk => (HX.out.2.1.lt k hk).1)
    clear HX HO HB hg3 hz2
    go_wp2_with fail
    go_loopg [7, 9, 10, 11, 12, 13, 14] (l.length + 1) (fun gk r v g i _ _ _ w' => ∃ (j : Nat) (zs : List Int) (B : Option Addr) (cb : Nat) (ys : List Int) (V : Option Addr) (cv : Nat), r = .slice B zs.length cb ∧ v = .slice V ys.length cv ∧ g = .bool (goodU f (l.take j)) ∧ i = .int .i64 (j : Int) ∧ j ≤ l.length ∧ l.length < j + gk ∧
      zs = hd ++ flatU (l.take j) ∧ ys = wantU f (l.take j) ∧ OwnI w' w.heap.size 5 .u8 B cb zs ∧ OwnI w' w.heap.size 29 .i16 V cv ys ∧ Apt (.slice V ys.length cv) (.slice B zs.length cb) ∧ Below w.heap.size w w')
    case atStart => exact ⟨0, hd, D1, c1, [], none, 0, rfl, rfl, rfl, rfl, by omega, by omega, by simp [flatU], by simp [wantU], o3, own_nil _ _ _ _, (fun k hk => by cases hk), HB3⟩
    case round =>
      clear o3 HB3
      obtain ⟨i, zs, B, cb, ys, V, cv, rfl, rfl, rfl, rfl, hi, hg, hz, hy, HO, HV, HA, HB⟩ := hrel
      by_cases hil : i < l.length
      · have hil' : (i : Int) < (l.length : Int) := by omega
        obtain ⟨ad, hLa, _⟩ := (h.below HB).get i hil
        subst hLa
        obtain ⟨go, hgo⟩ : ∃ go, go = gk := ⟨_, rfl⟩
        subst hgo
        obtain ⟨gd, hgd⟩ : ∃ gd, gd = goodU f (l.take i) := ⟨_, rfl⟩
        rw [← hgd]
        replace hgd := Lib.hid hgd
        obtain ⟨x, hx⟩ : ∃ x, x = l.getD i 0 := ⟨_, rfl⟩
        have hx01 : 0 ≤ x ∧ x ≤ 18446744073709551615 := by
          rw [hx, List.getD_eq_getElem?_getD, List.getElem?_eq_getElem hil]; exact hu _ (List.getElem_mem hil)
        obtain ⟨x0, x1⟩ := hx01
        replace hx := Lib.hid hx
        replace hy := Lib.hid hy
        have hzl : zs.length = 12 + 8 * i := by
          rw [hz, List.length_append, hhl.out, flatU_length, List.length_take]; omega
        replace hzl := Lib.hid hzl
        replace hz := Lib.hid hz
        have hHB := Lib.hid (And.intro HO (And.intro HV (And.intro HA HB)))
        clear HO HV HA HB
        go_wp2_with fail
        go_loopg [7, 12] 9 (fun gk2 r k w' => ∃ (j : Nat) (qs : List Int) (B : Option Addr) (cb : Nat), r = .slice B qs.length cb ∧ k = .int .i64 (j : Int) ∧ j ≤ 8 ∧ 8 < j + gk2 ∧ qs = zs ++ lowB x j ∧ OwnI w' w.heap.size 5 .u8 B cb qs ∧ OwnI w' w.heap.size 29 .i16 V cv ys ∧ Apt (.slice V ys.length cv) (.slice B qs.length cb) ∧ Below w.heap.size w w')
        case atStart => exact ⟨0, zs, B, cb, rfl, rfl, by decide, by decide, by simp [lowB], hHB.out.1, hHB.out.2.1, hHB.out.2.2.1, hHB.out.2.2.2⟩
        case round =>
          clear hHB
          obtain ⟨j, qs, B, cb, rfl, rfl, hj, hg2, hq, HO, HV, HA, HB⟩ := hrel
          obtain ⟨ad', hLa, hc⟩ := (h.below HB).get i hil
          injection hLa with hLa
          subst hLa
          rw [← hx.out] at hc
          by_cases hj8 : j < 8
          · have hql := Lib.hid (show qs.length = 12 + 8 * i + j by rw [hq, List.length_append, hzl.out, lowB_length])
            have hq2 := Lib.hid (show zs ++ lowB x (j + 1) = qs ++ [x / 2 ^ (8 * j) % 256] by rw [lowB_succ, hq, List.append_assoc])
            replace hq := Lib.hid hq
            have hj8' : (j : Int) < 8 := by omega
            go_wp2_with (at_builtin; refine app_one w.heap.size rfl _ _ 25 5 .u8 1 rfl Try.underlying25 (by kernel_rfl) (by decide) B cb qs (x / 2 ^ (8 * j) % 256) rfl rfl HO HB.size (by have := hql.out; omega) ?_)
            intro D1 c1 w3 o3 hg3 hn3
            go_wp2_with fail
            go_roundg (gk - 1)
            case measure => omega
            case rel => exact ⟨j + 1, qs ++ [x / 2 ^ (8 * j) % 256], D1, c1, by simp, by simp, by omega, by omega, hq2.out.symm, o3, kept_apt HV hg3 HA, (by rw [List.length_append]; exact apt_new HV HA hn3), below_row HB HB.size hg3 (fun k hk => (HO.lt k hk).1)⟩
          obtain rfl : j = 8 := by omega
          clear hj8 hg2 hj
          have hq2 := Lib.hid (show qs = hd ++ flatU (l.take (i + 1)) by rw [hq, hz.out, flatU_take l i hil, ← hx.out, List.append_assoc])
          have hql := Lib.hid (show qs.length = 12 + 8 * i + 8 by rw [hq, List.length_append, hzl.out, lowB_length])
          clear hq
          go_wp2_with fail
          refine (RFixed_calls x f _ x0 x1).mono ?_
          rintro e wr ⟨rfl, rfl⟩
          have hy2 := Lib.hid (show wantU f (l.take (i + 1)) = ys ++ [(fix x f).1] by rw [wantU_take f l i hil, ← hx.out, hy.out])
          have hyl := Lib.hid (show ys.length = i by rw [hy.out]; simp [wantU]; omega)
          have hgd2 := Lib.hid (show goodU f (l.take (i + 1)) = (gd && ((fix x f).2 == 0)) by rw [goodU_take f l i hil, ← hx.out, hgd.out])
          clear hgd hy
          obtain ⟨⟨y, er⟩, hyer⟩ : ∃ t, t = fix x f := ⟨_, rfl⟩
          rw [← hyer] at hy2 hgd2 ⊢
          dsimp only at hy2 hgd2 ⊢
          clear hyer
          have hHB := Lib.hid (And.intro HO (And.intro HV (And.intro HA HB)))
          clear HO HV HA HB hc
          cases gd with
          | true =>
            go_wp2_with (at_builtin; refine app_one w.heap.size rfl _ _ 28 29 .i16 2 rfl Try.underlying28 (by kernel_rfl) (by decide) V cv ys y rfl rfl hHB.out.2.1 hHB.out.2.2.2.size (by have := hyl.out; omega) ?_)
            intro D1 c1 w3 o3 hg3 hn3
            have HN : Hid (OwnI w3 w.heap.size 5 .u8 B cb qs ∧ Apt (.slice D1 (ys ++ [y]).length c1) (.slice B qs.length cb) ∧ Below w.heap.size w w3) := Lib.hid ⟨kept_apt hHB.out.1 hg3 hHB.out.2.2.1.symm, (apt_new hHB.out.1 hHB.out.2.2.1.symm (by rw [List.length_append]; exact hn3)).symm, below_row hHB.out.2.2.2 hHB.out.2.2.2.size hg3 (fun k hk => (hHB.out.2.1.lt k hk).1)⟩
            clear hHB hg3 hn3
            go_wp2_with fail
            go_roundg (go - 1)
            case measure => omega
            case rel => exact ⟨i + 1, qs, B, cb, ys ++ [y], D1, c1, rfl, by simp, by rw [hgd2.out]; rfl, by simp, by omega, by omega, hq2.out, hy2.out.symm, HN.out.1, o3, HN.out.2.1, HN.out.2.2⟩
          | false =>
            go_wp2_with (at_builtin; refine app_one w.heap.size rfl _ _ 28 29 .i16 2 rfl Try.underlying28 (by kernel_rfl) (by decide) V cv ys y rfl rfl hHB.out.2.1 hHB.out.2.2.2.size (by have := hyl.out; omega) ?_)
            intro D1 c1 w3 o3 hg3 hn3
            have HN : Hid (OwnI w3 w.heap.size 5 .u8 B cb qs ∧ Apt (.slice D1 (ys ++ [y]).length c1) (.slice B qs.length cb) ∧ Below w.heap.size w w3) := Lib.hid ⟨kept_apt hHB.out.1 hg3 hHB.out.2.2.1.symm, (apt_new hHB.out.1 hHB.out.2.2.1.symm (by rw [List.length_append]; exact hn3)).symm, below_row hHB.out.2.2.2 hHB.out.2.2.2.size hg3 (fun k hk => (hHB.out.2.1.lt k hk).1)⟩
            clear hHB hg3 hn3
            go_wp2_with fail
            go_roundg (go - 1)
            case measure => omega
            case rel => exact ⟨i + 1, qs, B, cb, ys ++ [y], D1, c1, rfl, by simp, by rw [hgd2.out]; rfl, by simp, by omega, by omega, hq2.out, hy2.out.symm, HN.out.1, o3, HN.out.2.1, HN.out.2.2⟩
      obtain rfl : i = l.length := by omega
      clear hil hi hg
      rw [List.take_of_length_le (Nat.le_refl _)] at hz hy ⊢
      have hzr : zs = rawD d f l := by rw [hraw.out]; exact hz
      clear hz
      obtain ⟨gd, hgd⟩ : ∃ gd, gd = goodU f l := ⟨_, rfl⟩
      rw [← hgd]
      have hst := Lib.hid (status_raw d f l d0 d1 f0 f1 (by omega) (by omega) hu)
      rw [← hgd, ← hzr, ← hy] at hst
      have hbz : Bytes zs := hzr ▸ rawD_bytes d f l f0 f1 (by omega)
      have hzl := Lib.hid (show zs.length = 12 + 8 * l.length by rw [hzr, rawD_length])
      clear hzr hgd hy
      have hX := Lib.hid (And.intro (OwnI.sl HO) (And.intro (OwnI.sl HV) HB))
      clear HO HV HA HB
      cases gd with
      | true =>
        rw [if_pos rfl] at hst
        go_wp2_with fail
        refine (Status_calls B cb zs l.length _ hX.out.1 hbz (by have := hzl.out; omega) _ _ hst).mono ?_
        rintro e w9 ⟨⟨A9, a9, B9, b9, rfl, k9, _⟩, bl9⟩
        have HB9 := below_row hX.out.2.2 hX.out.2.2.size (grown_of_below bl9 none) (fun k hk => by cases hk)
        have sV := hX.out.2.1.below bl9
        have bb := below_box0 w9 (.cells (cmC ⟨1, d, ys, 0, 0, []⟩ A9 a9 B9 b9).toArray 34)
        have q9 : Blk (w9.alloc (.cells (cmC ⟨1, d, ys, 0, 0, []⟩ A9 a9 B9 b9).toArray 34)) w9.heap.size 34 (cmC ⟨1, d, ys, 0, 0, []⟩ A9 a9 B9 b9) := Blk.new w9 _ _
        obtain ⟨l0, l1, l2, l3, l4, l5⟩ := load_cm q9
        have HY := Lib.hid (And.intro (k9.v.below bb) (And.intro (sV.below bb) (And.intro q9 (below_row HB9 HB9.size (grown_of_below bb none) (fun k hk => by cases hk)))))
        simp only [cmC, List.length_nil] at l0 l1 l2 l3 l4 l5 ⊢
        clear hX k9 bl9 HB9 sV bb q9 hst l3 l4 l5
        go_wp2_with fail
        refine (Same_int16_b A9 V a9 cv ys ys _ HY.out.1 HY.out.2.1).mono ?_
        rintro e w10 ⟨rfl, b10⟩
        rw [decide_eq_true (rfl : ys = ys)]
        have q10 := HY.out.2.2.1.below b10
        have HB10 := Lib.hid (below_row HY.out.2.2.2 HY.out.2.2.2.size (grown_of_below b10 none) (fun k hk => by cases hk))
        have e0 := q10.cell 0
        simp only [cmC, List.getElem?_cons_zero] at e0
        clear l0 l1 l2 HY b10 q10
        go_wp2_with fail
        go_ret
        exact ⟨rfl, HB10.out⟩
      | false =>
        rw [if_neg (by simp)] at hst
        go_wp2_with fail
        refine (Status_calls B cb zs l.length _ hX.out.1 hbz (by have := hzl.out; omega) _ _ hst).mono ?_
        rintro e w9 ⟨⟨A9, a9, B9, b9, rfl, k9, _⟩, bl9⟩
        have HB9 := below_row hX.out.2.2 hX.out.2.2.size (grown_of_below bl9 none) (fun k hk => by cases hk)
        have bb := below_box0 w9 (.cells (cmC cm0 A9 a9 B9 b9).toArray 34)
        have q9 : Blk (w9.alloc (.cells (cmC cm0 A9 a9 B9 b9).toArray 34)) w9.heap.size 34 (cmC cm0 A9 a9 B9 b9) := Blk.new w9 _ _
        obtain ⟨l0, l1, l2, l3, l4, l5⟩ := load_cm q9
        have HY := Lib.hid (And.intro (k9.below bb) (below_row HB9 HB9.size (grown_of_below bb none) (fun k hk => by cases hk)))
        simp only [cmC, cm0, List.length_nil] at l0 l1 l2 l3 l4 l5 ⊢
        clear hX k9 bl9 HB9 bb q9 hst
        go_wp2_with fail
        refine (CSame_calls cm0 cm0 A9 a9 B9 b9 none 0 none 0 _ HY.out.1 ⟨SlI.nil _ _, SlI.nil _ _⟩).mono ?_
        rintro e w10 ⟨rfl, b10⟩
        rw [decide_eq_true (rfl : cm0 = cm0)]
        have HB10 := Lib.hid (below_row HY.out.2 HY.out.2.size (grown_of_below b10 none) (fun k hk => by cases hk))
        clear l0 l1 l2 l3 l4 l5 HY b10
        go_wp2_with fail
        go_ret
        exact ⟨rfl, HB10.out⟩
end Go.Proofs.Ytjdablkdndmcgaa
