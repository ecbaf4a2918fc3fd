/- CmdP3: a command's reader: draws. -/
import Derived.Test.YtjdablkdndmcgaaCmdP2
namespace Go.Proofs.Ytjdablkdndmcgaa
set_option linter.unusedVariables false
set_option linter.unusedSimpArgs false
open Go.RowKit
theorem below_box0 (w : World) (o : Obj) : Below w.heap.size w (w.alloc o) := below_alloc (Below.refl _ _) _
/-- The draws read: until the bytes have ended. -/
def drawL : Nat → List Int → Int → List Int → List Int × Int × List Int
  | 0, b, e, d => (b, e, d)
  | k + 1, b, e, d => if e ≠ 0 then (b, e, d) else drawL k (numP 8 b e).2.1 (numP 8 b e).2.2 (d ++ [(numP 8 b e).1])
/-- draws: what is left, the error, bad?, the draws. -/
def drawsP (b : List Int) (e : Int) (bad : Bool) (d : List Int) : List Int × Int × Bool × List Int :=
  if bad || decide (4096 < (numP 2 b e).1) then ((numP 2 b e).2.1, (numP 2 b e).2.2, true, d)
  else ((drawL (numP 2 b e).1.toNat (numP 2 b e).2.1 (numP 2 b e).2.2 d).1, (drawL (numP 2 b e).1.toNat (numP 2 b e).2.1 (numP 2 b e).2.2 d).2.1, false, (drawL (numP 2 b e).1.toNat (numP 2 b e).2.1 (numP 2 b e).2.2 d).2.2)
theorem PS.ptr {w w1 : World} {lo p q s : Nat} {b : List Int} {e : Int} {bad : Bool} {x : Cm} {A : Option Addr} {a : Nat} {B : Option Addr} {c : Nat} (h : PS w lo p q s b e bad x A a B c) {row : Option Nat} (hg : w.grownBy w1 row) (hr : ∀ k, row = some k → s + 1 ≤ k) :
    w1.cell? ⟨q, 0, none⟩ = some (.pointer (some ⟨p, 0, none⟩)) ∧ (∀ i, w1.frozen? ⟨s, i, none⟩ = false) ∧ w1.cell? ⟨s, 5, none⟩ = some (.slice B x.d.length c) := by
  have := h.qs
  have hq := h.qb.kept hg (fun e => by have := hr q e.symm; omega)
  have hs := h.sb.kept hg (fun e => by have := hr s e.symm; omega)
  exact ⟨hq.cell 0, fun i => hs.frozen i, hs.cell 5⟩
theorem Rdr.row {w w' : World} {lo p : Nat} {b : List Int} {e : Int} (h : Rdr w lo p b e) {row : Option Nat} (hg : w.grownBy w' row) (hr : ∀ k, row = some k → p < k) (hlo : lo ≤ p) : Rdr w' lo p b e := by
  cases row with
  | none => exact h.grown (grown_any hg (p + 1)) (.inr (by omega)) hlo
  | some k => exact h.grown hg (.inr (hr k rfl)) hlo
/-- A draw is put behind. -/
theorem PS.appD {w w1 : World} {lo p q s : Nat} {b : List Int} {e : Int} {bad : Bool} {x : Cm} {a : Nat} {B : Option Addr} {c : Nat} (h : PS w lo p q s b e bad x none a B c) {B1 : Option Addr} {c1 : Nat} {z : List Int} (ho : OwnI w1 (s + 1) 26 .u64 B1 c1 z) (hg : w.grownBy w1 (Value.slice B x.d.length c).ownBlock) :
    PS (w1.setCell ⟨s, 5, none⟩ (.slice B1 z.length c1)) lo p q s b e bad { x with d := z } none a B1 c1 := by
  have hr : ∀ k, (Value.slice B x.d.length c).ownBlock = some k → s + 1 ≤ k := fun k hk => (h.od.lt k hk).1
  have := h.pq
  have := h.qs
  have hg2 := grownBy_cell w1 s 5 (.slice B1 z.length c1)
  refine ⟨(h.r.row hg (fun k hk => by have := hr k hk; omega) h.lp).grown hg2 (.inr (by omega)) h.lp, h.hb, (h.qb.kept hg (fun e => by have := hr q e.symm; omega)).kept hg2 (by simp; omega), ?_, (h.ov.kept hg (.inl rfl)).kept hg2 (.inl rfl), ho.kept hg2 (.inr fun he => by have := (ho.lt s he).1; omega), h.lp, h.pq, h.qs⟩
  exact (h.sb.kept hg (fun e => by have := hr s e.symm; omega)).set 5 _
set_option maxHeartbeats 1000000 in
theorem Cdraws_calls {w : World} {lo p q s : Nat} {b : List Int} {e : Int} {bad : Bool} {x : Cm} {a : Nat} {B : Option Addr} {c : Nat} (h : PS w lo p q s b e bad x none a B c) (hd : x.d = []) (F : List Int × Int × Bool × List Int) (hF : Hid (drawsP b e bad [] = F)) :
    Calls Try.prog 64 #[.pointer (some ⟨q, 0, none⟩), .pointer (some ⟨s, 0, none⟩)] w fun en w' => en = .returned (.tuple #[]) ∧ (∃ B' c', PS w' lo p q s F.1 F.2.1 F.2.2.1 { x with d := F.2.2.2 } none a B' c') ∧ Below lo w w' := by
  have hmix : Try.prog.follows .mixedOrders = true := by kernel_rfl
  obtain ⟨⟨n, b0, e0⟩, hq0⟩ : ∃ t, t = numP 2 b e := ⟨_, rfl⟩
  have hF' := hF.out
  unfold drawsP at hF'
  rw [← hq0] at hF'
  replace hq0 := Lib.hid hq0.symm
  obtain ⟨hb0, n0, _, n1⟩ := numP_bytes hq0.out h.hb
  have n2 : n < 65536 := by simpa using n1
  clear n1 hF
  dsimp only at hF'
  obtain ⟨g1, g2, _⟩ := h.cells
  have HH := Lib.hid h
  clear h
  have key : ∀ (bd : Bool) (w1 : World), PS w1 lo p q s b0 e0 bad x none a B c → Below lo w w1 → Hid (PS (w1.setCell ⟨q, 1, none⟩ (.bool bd)) lo p q s b0 e0 bd x none a B c ∧ Below lo w (w1.setCell ⟨q, 1, none⟩ (.bool bd))) := fun bd w1 h1 h2 =>
    Lib.hid ⟨h1.setBad bd, below_row h2 h1.le (grownBy_cell _ _ _ _) (fun k hk => by injection hk with hk; have := h1.lp; have := h1.pq; omega)⟩
  replace key := Lib.hid key
  cases bad with
  | true =>
    rw [if_pos (by simp)] at hF'
    go_enter Try.func64, Try.ntmps64
    go_wp2_with fail
    refine (Number_p lo p b e 2 _ HH.out.r HH.out.hb n b0 e0 hq0).mono ?_
    rintro en w1 ⟨rfl, r1, k1⟩
    have H1 := Lib.hid (HH.out.read r1 hb0 k1)
    have B1 := Lib.hid (below_row (Below.refl lo w) HH.out.le k1 (fun k hk => by injection hk with hk; have := HH.out.lp; omega))
    clear r1 k1 g1 g2
    obtain ⟨g1, g2, _⟩ := H1.out.cells
    have gf := H1.out.qb.frozen 1
    go_wp2_with fail
    have HK := key.out true w1 H1.out B1.out
    replace hF' := Lib.hid hF'
    generalize hw2 : w1.setCell ⟨q, 1, none⟩ (.bool true) = w2 at *
    go_loopg [5] 1 (fun gk i w' => i = .int .i64 0 ∧ w' = w2)
    case atStart => exact ⟨rfl, rfl⟩
    case round =>
      obtain ⟨rfl, rfl⟩ := hrel
      obtain ⟨W2, rfl⟩ : ∃ W, W = wr := ⟨_, rfl⟩
      obtain ⟨d1, d2, _⟩ := HK.out.1.cells
      have HR : (∃ B' c', PS W2 lo p q s F.1 F.2.1 F.2.2.1 { x with d := F.2.2.2 } none a B' c') ∧ Below lo w W2 := by
        rw [← hF'.out]
        refine ⟨⟨B, c, ?_⟩, HK.out.2⟩
        have := HK.out.1
        dsimp only
        rw [show ({ x with d := [] } : Cm) = x by rw [← hd]]
        exact this
      replace HR := Lib.hid HR
      clear hw2
      by_cases hn0 : 0 < n
      · go_wp2_with fail
        go_end0
        exact ⟨rfl, HR.out⟩
      · go_wp2_with fail
        go_end0
        exact ⟨rfl, HR.out⟩
  | false =>
    go_enter Try.func64, Try.ntmps64
    go_wp2_with fail
    refine (Number_p lo p b e 2 _ HH.out.r HH.out.hb n b0 e0 hq0).mono ?_
    rintro en w1 ⟨rfl, r1, k1⟩
    have H1 := Lib.hid (HH.out.read r1 hb0 k1)
    have B1 := Lib.hid (below_row (Below.refl lo w) HH.out.le k1 (fun k hk => by injection hk with hk; have := HH.out.lp; omega))
    clear r1 k1 g1 g2
    obtain ⟨g1, g2, _⟩ := H1.out.cells
    have gf := H1.out.qb.frozen 1
    by_cases hn : 4096 < n
    · rw [if_pos (by simp [hn])] at hF'
      go_wp2_with fail
      have HK := key.out true w1 H1.out B1.out
      replace hF' := Lib.hid hF'
      generalize hw2 : w1.setCell ⟨q, 1, none⟩ (.bool true) = w2 at *
      go_loopg [5] 1 (fun gk i w' => i = .int .i64 0 ∧ w' = w2)
      case atStart => exact ⟨rfl, rfl⟩
      case round =>
        obtain ⟨rfl, rfl⟩ := hrel
        obtain ⟨W2, rfl⟩ : ∃ W, W = wr := ⟨_, rfl⟩
        obtain ⟨d1, d2, _⟩ := HK.out.1.cells
        have HR : (∃ B' c', PS W2 lo p q s F.1 F.2.1 F.2.2.1 { x with d := F.2.2.2 } none a B' c') ∧ Below lo w W2 := by
          rw [← hF'.out]
          refine ⟨⟨B, c, ?_⟩, HK.out.2⟩
          have := HK.out.1
          dsimp only
          rw [show ({ x with d := [] } : Cm) = x by rw [← hd]]
          exact this
        replace HR := Lib.hid HR
        clear hw2
        by_cases hn0 : 0 < n
        · go_wp2_with fail
          go_end0
          exact ⟨rfl, HR.out⟩
        · go_wp2_with fail
          go_end0
          exact ⟨rfl, HR.out⟩
    · rw [if_neg (by simp [hn])] at hF'
      have hn' : n ≤ 4096 := by omega
      go_wp2_with fail
      have HK := key.out (decide (4096 < n)) w1 H1.out B1.out
      generalize hw2 : w1.setCell ⟨q, 1, none⟩ (.bool (decide (4096 < n))) = w2 at *
      rw [decide_eq_false (show ¬ 4096 < n by omega)] at HK
      obtain ⟨m, rfl⟩ := Int.eq_ofNat_of_zero_le n0
      rw [show ((m : Int)).toNat = m from rfl] at hF'
      replace hF' := Lib.hid hF'
      obtain ⟨T, hT⟩ : ∃ T, T = drawL m b0 e0 [] := ⟨_, rfl⟩
      rw [← hT] at hF'
      replace hT := Lib.hid hT
      go_loopg [5] (m + 1) (fun gk i w' => ∃ (k : Nat) (b' : List Int) (e' : Int) (d' : List Int) (B' : Option Addr) (c' : Nat), i = .int .i64 (k : Int) ∧ k ≤ m ∧ m < k + gk ∧ PS w' lo p q s b' e' false { x with d := d' } none a B' c' ∧ drawL (m - k) b' e' d' = T ∧ d'.length ≤ k ∧ Below lo w w')
      case atStart => exact ⟨0, b0, e0, [], B, c, rfl, by omega, by omega, by have := HK.out.1; rw [show ({ x with d := [] } : Cm) = x by rw [← hd]]; exact this, by rw [hT.out]; rfl, by simp, HK.out.2⟩
      case round =>
        obtain ⟨k, b', e', d', B', c', rfl, hk, hg, h, hL, hdl, hB⟩ := hrel
        have fin : ∀ W', (drawL (m - k) b' e' d' = (b', e', d')) → PS W' lo p q s b' e' false { x with d := d' } none a B' c' → Below lo w W' → (∃ B' c', PS W' lo p q s F.1 F.2.1 F.2.2.1 { x with d := F.2.2.2 } none a B' c') ∧ Below lo w W' := fun W' h1 h2 h3 => by
          rw [← hF'.out, ← hL, h1]; exact ⟨⟨B', c', h2⟩, h3⟩
        replace fin := Lib.hid fin
        obtain ⟨g1, g2, _⟩ := h.cells
        by_cases hkm : k < m
        case neg =>
          obtain rfl : k = m := by omega
          have HX := Lib.hid (And.intro h hB)
          clear h hB
          go_wp2_with fail
          go_end0
          exact ⟨rfl, fin.out _ (by rw [Nat.sub_self]; rfl) HX.out.1 HX.out.2⟩
        have hkm' : (k : Int) < (m : Int) := by omega
        obtain ⟨j, hj⟩ : ∃ j, m - k = j + 1 := ⟨m - k - 1, by omega⟩
        rw [hj] at hL fin
        have HX := Lib.hid (And.intro h hB)
        clear h hB
        by_cases he : e' = 0
        case neg =>
          have he' : (e' == 0) = false := by simpa using he
          go_wp2_with fail
          refine (Err_calls lo p b' e' _ HX.out.1.r).mono ?_
          rintro en _ ⟨rfl, rfl⟩
          go_wp2_with fail
          go_end0
          exact ⟨rfl, fin.out _ (by show (if e' ≠ 0 then _ else _) = _; rw [if_pos he]) HX.out.1 HX.out.2⟩
        subst he
        clear fin
        go_wp2_with fail
        refine (Err_calls lo p b' 0 _ HX.out.1.r).mono ?_
        rintro en _ ⟨rfl, rfl⟩
        go_wp2_with fail
        obtain ⟨⟨v1, b1, e1⟩, hq1⟩ : ∃ t, t = numP 8 b' 0 := ⟨_, rfl⟩
        have hL2 : drawL j b1 e1 (d' ++ [v1]) = T := by
          rw [← hL]
          show _ = (if (0 : Int) ≠ 0 then _ else _)
          rw [if_neg (by decide), ← hq1]
        replace hq1 := Lib.hid hq1.symm
        replace hL := Lib.hid hL2
        clear hL2
        obtain ⟨h, hB⟩ := HX.out
        clear HX g1 g2
        refine region_L (oneQ 14 (fun X => X.cell? ⟨s, 5, none⟩ = some (.slice B' d'.length c')) (fun X => X.cell? ⟨q, 0, none⟩ = some (.pointer (some ⟨p, 0, none⟩)))) hmix ?_
        replace hB := below_row hB h.le (grown_of_below ((Below.refl wr.heap.size wr).drew) none) (fun k hk => by cases hk)
        replace h := h.below ((Below.refl _ _).drew)
        generalize wr.drew = V at *
        have hS : oneQ 14 (fun X => X.cell? ⟨s, 5, none⟩ = some (.slice B' d'.length c')) (fun X => X.cell? ⟨q, 0, none⟩ = some (.pointer (some ⟨p, 0, none⟩))) (Array.replicate 15 false) V := ⟨fun _ => h.sb.cell 5, h.qb.cell 0⟩
        refine anyL_take (fun _ => True) [] (i := 0) (v := ?_) rfl (by kernel_rfl) (by kernel_rfl) (by kernel_rfl) (fun _ _ _ h => h) (by kernel_rfl) (one_ind (i := 0) (by decide)) (fun _ _ _ _ => trivial) (Or.inl ⟨by rfl, ?_⟩) hS ?_
        rotate_left
        · intro X hX
          clear hX
          go_simp
          try with_reducible rfl
        try simp only [List.getElem_toArray, List.getElem_cons_zero, List.getElem_cons_succ]
        simp only [Act.put, List.setIfInBounds_toArray, List.set_cons_zero, List.set_cons_succ]
        replace hS := (one_ind (i := 0) (by decide) _ _).2 hS
        refine anyL_take (fun _ => True) [] (i := 1) (v := ?_) rfl (by kernel_rfl) (by kernel_rfl) (by kernel_rfl) (fun _ _ _ h => h) (by kernel_rfl) (one_ind (i := 1) (by decide)) (fun _ _ _ _ => trivial) (Or.inl ⟨by rfl, ?_⟩) hS ?_
        rotate_left
        · intro X hX
          clear hX
          go_simp
          try with_reducible rfl
        try simp only [List.getElem_toArray, List.getElem_cons_zero, List.getElem_cons_succ]
        simp only [Act.put, List.setIfInBounds_toArray, List.set_cons_zero, List.set_cons_succ]
        replace hS := (one_ind (i := 1) (by decide) _ _).2 hS
        refine anyL_take (fun _ => True) [] (i := 2) (v := ?_) rfl (by kernel_rfl) (by kernel_rfl) (by kernel_rfl) (fun _ _ _ h => h) (by kernel_rfl) (one_ind (i := 2) (by decide)) (fun _ _ _ _ => trivial) (Or.inl ⟨by rfl, ?_⟩) hS ?_
        rotate_left
        · intro X hX
          clear hX
          go_simp
          try with_reducible rfl
        try simp only [List.getElem_toArray, List.getElem_cons_zero, List.getElem_cons_succ]
        simp only [Act.put, List.setIfInBounds_toArray, List.set_cons_zero, List.set_cons_succ]
        replace hS := (one_ind (i := 2) (by decide) _ _).2 hS
        refine anyL_take (fun _ => True) [] (i := 3) (v := ?_) rfl (by kernel_rfl) (by kernel_rfl) (by kernel_rfl) (fun _ _ _ h => h) (by kernel_rfl) (one_ind (i := 3) (by decide)) (fun _ _ _ _ => trivial) (Or.inl ⟨by rfl, ?_⟩) hS ?_
        rotate_left
        · intro X hX
          clear hX
          go_simp
          try with_reducible rfl
        try simp only [List.getElem_toArray, List.getElem_cons_zero, List.getElem_cons_succ]
        simp only [Act.put, List.setIfInBounds_toArray, List.set_cons_zero, List.set_cons_succ]
        replace hS := (one_ind (i := 3) (by decide) _ _).2 hS
        refine anyL_take (fun X => X.cell? ⟨s, 5, none⟩ = some (.slice B' d'.length c')) [14] (i := 4) (v := ?_) rfl (by kernel_rfl) (by kernel_rfl) (by kernel_rfl) (fun _ _ _ h => h) (by kernel_rfl) (one_ind (i := 4) (by decide)) (fun L X h1 h2 => h2.1 (h1 14 (by simp))) (Or.inl ⟨by rfl, ?_⟩) hS ?_
        rotate_left
        · intro X hX
          have g2 := hX; clear hX
          go_simp
          try with_reducible rfl
        try simp only [List.getElem_toArray, List.getElem_cons_zero, List.getElem_cons_succ]
        simp only [Act.put, List.setIfInBounds_toArray, List.set_cons_zero, List.set_cons_succ]
        replace hS := (one_ind (i := 4) (by decide) _ _).2 hS
        refine anyL_take (fun _ => True) [] (i := 5) (v := ?_) rfl (by kernel_rfl) (by kernel_rfl) (by kernel_rfl) (fun _ _ _ h => h) (by kernel_rfl) (one_ind (i := 5) (by decide)) (fun _ _ _ _ => trivial) (Or.inl ⟨by rfl, ?_⟩) hS ?_
        rotate_left
        · intro X hX
          clear hX
          go_simp
          try with_reducible rfl
        try simp only [List.getElem_toArray, List.getElem_cons_zero, List.getElem_cons_succ]
        simp only [Act.put, List.setIfInBounds_toArray, List.set_cons_zero, List.set_cons_succ]
        replace hS := (one_ind (i := 5) (by decide) _ _).2 hS
        refine anyL_take (fun _ => True) [] (i := 6) (v := ?_) rfl (by kernel_rfl) (by kernel_rfl) (by kernel_rfl) (fun _ _ _ h => h) (by kernel_rfl) (one_ind (i := 6) (by decide)) (fun _ _ _ _ => trivial) (Or.inl ⟨by rfl, ?_⟩) hS ?_
        rotate_left
        · intro X hX
          clear hX
          go_simp
          try with_reducible rfl
        try simp only [List.getElem_toArray, List.getElem_cons_zero, List.getElem_cons_succ]
        simp only [Act.put, List.setIfInBounds_toArray, List.set_cons_zero, List.set_cons_succ]
        replace hS := (one_ind (i := 6) (by decide) _ _).2 hS
        refine anyL_take (fun _ => True) [] (i := 7) (v := ?_) rfl (by kernel_rfl) (by kernel_rfl) (by kernel_rfl) (fun _ _ _ h => h) (by kernel_rfl) (one_ind (i := 7) (by decide)) (fun _ _ _ _ => trivial) (Or.inl ⟨by rfl, ?_⟩) hS ?_
        rotate_left
        · intro X hX
          clear hX
          go_simp
          try with_reducible rfl
        try simp only [List.getElem_toArray, List.getElem_cons_zero, List.getElem_cons_succ]
        simp only [Act.put, List.setIfInBounds_toArray, List.set_cons_zero, List.set_cons_succ]
        replace hS := (one_ind (i := 7) (by decide) _ _).2 hS
        refine anyL_take (fun X => X.cell? ⟨q, 0, none⟩ = some (.pointer (some ⟨p, 0, none⟩))) [] (i := 8) (v := ?_) rfl (by kernel_rfl) (by kernel_rfl) (by kernel_rfl) (fun _ _ _ h => h) (by kernel_rfl) (one_ind (i := 8) (by decide)) (fun L X h1 h2 => h2.2) (Or.inl ⟨by rfl, ?_⟩) hS ?_
        rotate_left
        · intro X hX
          have g1 := hX; clear hX
          go_simp
          try with_reducible rfl
        try simp only [List.getElem_toArray, List.getElem_cons_zero, List.getElem_cons_succ]
        simp only [Act.put, List.setIfInBounds_toArray, List.set_cons_zero, List.set_cons_succ]
        replace hS := (one_ind (i := 8) (by decide) _ _).2 hS
        clear hS
        refine anyL_step (i := 9) (by kernel_rfl) rfl (by rfl) (fun K hK => ?_)
        go_simp
        refine (Number_p lo p _ _ 8 _ h.r h.hb v1 b1 e1 hq1).mono ?_
        rintro en w1 ⟨rfl, r1, k1⟩
        replace hB := below_row hB h.le k1 (fun k hk => by injection hk with hk; have := h.lp; omega)
        replace h := h.read r1 (numP_bytes hq1.out h.hb).1 k1
        clear r1 k1
        dsimp only
        refine hK.out _ _ ⟨fun _ => h.sb.cell 5, h.qb.cell 0⟩ ?_
        clear hK K
        try simp only [Act.put, List.setIfInBounds_toArray, List.set_cons_zero, List.set_cons_succ]
        have bb := below_box0 w1 (.cells #[.int .u64 v1] 26)
        have hb2 := h.below bb
        have B2 := below_row hB h.le (grown_of_below bb none) (fun k hk => by cases hk)
        have hel : Rd (w1.alloc (.cells #[.int .u64 v1] 26)) (some ⟨w1.heap.size, 0, none⟩) (nums .u64 [v1]) := .inr ⟨_, rfl, World.news_of_block (cs := #[.int .u64 v1]) (t := 26) (fr := (0, 0)) (heap_alloc_new w1 _)⟩
        refine anyL_step (i := 10) (by kernel_rfl) rfl (by rfl) (fun K hK => ?_)
        go_simp
        refine hK.out _ _ ⟨fun _ => hb2.sb.cell 5, hb2.qb.cell 0⟩ ?_
        clear hK K
        try simp only [Act.put, List.setIfInBounds_toArray, List.set_cons_zero, List.set_cons_succ]
        generalize w1.alloc (.cells #[.int .u64 v1] 26) = w2 at *
        obtain ⟨z, hz⟩ : ∃ z, z = d' ++ [v1] := ⟨_, rfl⟩
        refine anyL_step (i := 11) (by kernel_rfl) rfl (by rfl) (fun K hK => ?_)
        refine wp_app_row (s + 1) _ _ 22 26 .u64 8 rfl Try.underlying22 (by kernel_rfl) (by decide) B' c' d' [v1] (some ⟨w1.heap.size, 0, none⟩) 1 rfl rfl hb2.od hel (by have := hb2.sb.lt; omega) (by simp; omega) ?_
        intro D1 c1 w3 o3 hg3 _ _
        rw [← hz] at o3 ⊢
        replace hz := Lib.hid hz
        have h3 := hb2.appD o3 hg3
        have B3 := below_row B2 hb2.le hg3 (fun k hk => by have := hb2.od.lt k hk; have := hb2.lp; have := hb2.pq; have := hb2.qs; omega)
        have q3 := hb2.ptr hg3 (fun k hk => (hb2.od.lt k hk).1)
        have z3 := hg3.size
        refine hK.out _ _ ⟨fun _ => q3.2.2, q3.1⟩ ?_
        clear hK K
        try simp only [Act.put, List.setIfInBounds_toArray, List.set_cons_zero, List.set_cons_succ]
        have hS : oneQ 14 (fun X => X.cell? ⟨s, 5, none⟩ = some (.slice B' d'.length c')) (fun X => X.cell? ⟨q, 0, none⟩ = some (.pointer (some ⟨p, 0, none⟩))) (((((((((((((Array.replicate 15 false).setIfInBounds 0 true).setIfInBounds 1 true).setIfInBounds 2 true).setIfInBounds 3 true).setIfInBounds 4 true).setIfInBounds 5 true).setIfInBounds 6 true).setIfInBounds 7 true).setIfInBounds 8 true).setIfInBounds 9 true).setIfInBounds 10 true).setIfInBounds 11 true) w3 := ⟨fun _ => q3.2.2, q3.1⟩
        refine anyL_take (fun _ => True) [] (i := 12) (v := ?_) rfl (by kernel_rfl) (by kernel_rfl) (by kernel_rfl) (fun _ _ _ h => h) (by kernel_rfl) (one_ind (i := 12) (by decide)) (fun _ _ _ _ => trivial) (Or.inl ⟨by rfl, ?_⟩) hS ?_
        rotate_left
        · intro X hX
          clear hX
          go_simp
          try with_reducible rfl
        try simp only [List.getElem_toArray, List.getElem_cons_zero, List.getElem_cons_succ]
        simp only [Act.put, List.setIfInBounds_toArray, List.set_cons_zero, List.set_cons_succ]
        replace hS := (one_ind (i := 12) (by decide) _ _).2 hS
        refine anyL_take (fun _ => True) [] (i := 13) (v := ?_) rfl (by kernel_rfl) (by kernel_rfl) (by kernel_rfl) (fun _ _ _ h => h) (by kernel_rfl) (one_ind (i := 13) (by decide)) (fun _ _ _ _ => trivial) (Or.inl ⟨by rfl, ?_⟩) hS ?_
        rotate_left
        · intro X hX
          clear hX
          go_simp
          try with_reducible rfl
        try simp only [List.getElem_toArray, List.getElem_cons_zero, List.getElem_cons_succ]
        simp only [Act.put, List.setIfInBounds_toArray, List.set_cons_zero, List.set_cons_succ]
        replace hS := (one_ind (i := 13) (by decide) _ _).2 hS
        clear hS
        have d5 := q3.2.2
        have f5 := q3.2.1 5
        have B4 := below_row B3 (Nat.le_trans hb2.le hg3.size) (grownBy_cell w3 s 5 (.slice D1 z.length c1)) (fun k hk => by injection hk with hk; have := hb2.lp; have := hb2.pq; have := hb2.qs; omega)
        refine anyL_step (i := 14) (by kernel_rfl) rfl (by rfl) (fun K hK => ?_)
        go_simp
        refine hK.out _ _ ⟨fun hh => absurd hh (by decide), h3.qb.cell 0⟩ ?_
        clear hK K
        try simp only [Act.put, List.setIfInBounds_toArray, List.set_cons_zero, List.set_cons_succ]
        refine anyL_done (by kernel_rfl) ?_ _
        go_wp2_with fail
        go_roundg (gk - 1)
        case measure => omega
        case rel => exact ⟨k + 1, b1, e1, z, D1, c1, by simp, by omega, by omega, h3, by rw [show m - (k + 1) = j by omega, hz.out]; exact hL.out, by rw [hz.out]; simp; omega, B4⟩
end Go.Proofs.Ytjdablkdndmcgaa
