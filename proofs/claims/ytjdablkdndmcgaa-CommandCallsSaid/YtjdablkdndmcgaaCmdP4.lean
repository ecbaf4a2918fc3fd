/- CmdP4: a command's reader: vector. -/
import Derived.Test.YtjdablkdndmcgaaCmdP3
namespace Go.Proofs.Ytjdablkdndmcgaa
set_option linter.unusedVariables false
set_option linter.unusedSimpArgs false
open Go.RowKit
/-- One number of a vector is read: what is left, the error, bad?, the numbers. -/
def vecS (how : Int) (b : List Int) (e : Int) (v : List Int) : List Int × Int × Bool × List Int :=
  if how = 0 then ((sgnP 2 b e).2.1, (sgnP 2 b e).2.2, false, v ++ [(sgnP 2 b e).1])
  else ((numP 8 b e).2.1, (numP 8 b e).2.2, (fix (numP 8 b e).1 (how - 1)).2 != 0, v ++ [(fix (numP 8 b e).1 (how - 1)).1])
def vecL (how : Int) : Nat → List Int → Int → Bool → List Int → List Int × Int × Bool × List Int
  | 0, b, e, bad, v => (b, e, bad, v)
  | k + 1, b, e, bad, v => if bad = true ∨ e ≠ 0 then (b, e, bad, v) else vecL how k (vecS how b e v).1 (vecS how b e v).2.1 (vecS how b e v).2.2.1 (vecS how b e v).2.2.2
/-- vector. -/
def vecP (b : List Int) (e : Int) (bad : Bool) : List Int × Int × Bool × List Int :=
  vecL (numP 1 b e).1 (numP 2 (numP 1 b e).2.1 (numP 1 b e).2.2).1.toNat (numP 2 (numP 1 b e).2.1 (numP 1 b e).2.2).2.1 (numP 2 (numP 1 b e).2.1 (numP 1 b e).2.2).2.2
    (bad || decide (16 < (numP 1 b e).1) || decide ((numP 2 (numP 1 b e).2.1 (numP 1 b e).2.2).1 < 1) || decide (1024 < (numP 2 (numP 1 b e).2.1 (numP 1 b e).2.2).1)) []
theorem wrap_i16 (v : Int) (h0 : -32768 ≤ v) (h1 : v ≤ 32767) : IntKind.i16.wrap v = v := by
  simp [IntKind.wrap, IntKind.signed, IntKind.bits]
  split <;> omega
theorem PS.ptr2 {w w1 : World} {lo p q s : Nat} {b : List Int} {e : Int} {bad : Bool} {x : Cm} {A : Option Addr} {a : Nat} {B : Option Addr} {c : Nat} (h : PS w lo p q s b e bad x A a B c) {row : Option Nat} (hg : w.grownBy w1 row) (hr : ∀ k, row = some k → s + 1 ≤ k) :
    w1.cell? ⟨q, 0, none⟩ = some (.pointer (some ⟨p, 0, none⟩)) ∧ (∀ i, w1.frozen? ⟨s, i, none⟩ = false) ∧ w1.cell? ⟨s, 2, none⟩ = some (.slice A x.v.length a) := by
  have := h.qs
  have hq := h.qb.kept hg (fun e => by have := hr q e.symm; omega)
  have hs := h.sb.kept hg (fun e => by have := hr s e.symm; omega)
  exact ⟨hq.cell 0, fun i => hs.frozen i, hs.cell 2⟩
/-- A number is put behind. -/
theorem PS.appV {w w1 : World} {lo p q s : Nat} {b : List Int} {e : Int} {bad : Bool} {x : Cm} {A : Option Addr} {a : Nat} {c : Nat} (h : PS w lo p q s b e bad x A a none c) {A1 : Option Addr} {a1 : Nat} {z : List Int} (ho : OwnI w1 (s + 1) 29 .i16 A1 a1 z) (hg : w.grownBy w1 (Value.slice A x.v.length a).ownBlock) :
    PS (w1.setCell ⟨s, 2, none⟩ (.slice A1 z.length a1)) lo p q s b e bad { x with v := z } A1 a1 none c := by
  have hr : ∀ k, (Value.slice A x.v.length a).ownBlock = some k → s + 1 ≤ k := fun k hk => (h.ov.lt k hk).1
  have := h.pq
  have := h.qs
  have hg2 := grownBy_cell w1 s 2 (.slice A1 z.length a1)
  refine ⟨(h.r.row hg (fun k hk => by have := hr k hk; omega) h.lp).grown hg2 (.inr (by omega)) h.lp, h.hb, (h.qb.kept hg (fun e => by have := hr q e.symm; omega)).kept hg2 (by simp; omega), ?_, ho.kept hg2 (.inr fun he => by have := (ho.lt s he).1; omega), (h.od.kept hg (.inl rfl)).kept hg2 (.inl rfl), h.lp, h.pq, h.qs⟩
  exact (h.sb.kept hg (fun e => by have := hr s e.symm; omega)).set 2 _
set_option maxHeartbeats 1000000 in
set_option maxRecDepth 20000 in
theorem Cvector_calls {w : World} {lo p q s : Nat} {b : List Int} {e : Int} {bad : Bool} {x : Cm} {A : Option Addr} {a : Nat} {c : Nat} (h : PS w lo p q s b e bad x A a none c) (hd : x.v = []) (F : List Int × Int × Bool × List Int) (hF : Hid (vecP b e bad = F)) :
    Calls Try.prog 62 #[.pointer (some ⟨q, 0, none⟩), .pointer (some ⟨s, 0, none⟩)] w fun en w' => en = .returned (.tuple #[]) ∧ (∃ A' a', PS w' lo p q s F.1 F.2.1 F.2.2.1 { x with v := F.2.2.2 } A' a' none c) ∧ Below lo w w' := by
  have hmix : Try.prog.follows .mixedOrders = true := by kernel_rfl
  obtain ⟨⟨how, b1, e1⟩, hq1⟩ : ∃ t, t = numP 1 b e := ⟨_, rfl⟩
  have hF' := hF.out
  unfold vecP at hF'
  rw [← hq1] at hF'
  dsimp only at hF'
  obtain ⟨⟨n, b2, e2⟩, hq2⟩ : ∃ t, t = numP 2 b1 e1 := ⟨_, rfl⟩
  rw [← hq2] at hF'
  dsimp only at hF'
  replace hq1 := Lib.hid hq1.symm
  replace hq2 := Lib.hid hq2.symm
  obtain ⟨hb1, h0, _, h1⟩ := numP_bytes hq1.out h.hb
  obtain ⟨hb2, n0, _, n1⟩ := numP_bytes hq2.out hb1
  have h2 : how < 256 := by simpa using h1
  have n2 : n < 65536 := by simpa using n1
  clear n1 h1 hF
  obtain ⟨bd, hbd⟩ : ∃ bd, bd = (bad || decide (16 < how) || decide (n < 1) || decide (1024 < n)) := ⟨_, rfl⟩
  rw [← hbd] at hF'
  replace hbd := Lib.hid hbd
  replace hF' := Lib.hid hF'
  go_enter Try.func62, Try.ntmps62
  go_wp2_with fail
  refine region_L (oneQ 99 (fun _ => True) (fun X => X.cell? ⟨q, 0, none⟩ = some (.pointer (some ⟨p, 0, none⟩)))) hmix ?_
  have hB := below_row (Below.refl lo w) h.le (grown_of_below ((Below.refl w.heap.size w).drew) none) (fun k hk => by cases hk)
  replace h := h.below ((Below.refl _ _).drew)
  generalize w.drew = V at *
  have hS : oneQ 99 (fun _ => True) (fun X => X.cell? ⟨q, 0, none⟩ = some (.pointer (some ⟨p, 0, none⟩))) (Array.replicate 13 false) V := ⟨fun _ => trivial, h.qb.cell 0⟩
  refine anyL_take (fun _ => True) [] (i := 0) (v := ?_) rfl (by kernel_rfl) (by kernel_rfl) (by kernel_rfl) (fun _ _ _ h => h) (by kernel_rfl) (one_ind (i := 0) (by decide)) (fun _ _ _ _ => trivial) (Or.inl ⟨by rfl, ?_⟩) hS ?_
  rotate_left
  · intro X hX
    clear hX
    go_simp
    try with_reducible rfl
  try simp only [List.getElem_toArray, List.getElem_cons_zero, List.getElem_cons_succ]
  simp only [Act.put, List.setIfInBounds_toArray, List.set_cons_zero, List.set_cons_succ]
  replace hS := (one_ind (i := 0) (by decide) _ _).2 hS
  refine anyL_take (fun _ => True) [] (i := 1) (v := ?_) rfl (by kernel_rfl) (by kernel_rfl) (by kernel_rfl) (fun _ _ _ h => h) (by kernel_rfl) (one_ind (i := 1) (by decide)) (fun _ _ _ _ => trivial) (Or.inl ⟨by rfl, ?_⟩) hS ?_
  rotate_left
  · intro X hX
    clear hX
    go_simp
    try with_reducible rfl
  try simp only [List.getElem_toArray, List.getElem_cons_zero, List.getElem_cons_succ]
  simp only [Act.put, List.setIfInBounds_toArray, List.set_cons_zero, List.set_cons_succ]
  replace hS := (one_ind (i := 1) (by decide) _ _).2 hS
  refine anyL_take (fun _ => True) [] (i := 2) (v := ?_) rfl (by kernel_rfl) (by kernel_rfl) (by kernel_rfl) (fun _ _ _ h => h) (by kernel_rfl) (one_ind (i := 2) (by decide)) (fun _ _ _ _ => trivial) (Or.inl ⟨by rfl, ?_⟩) hS ?_
  rotate_left
  · intro X hX
    clear hX
    go_simp
    try with_reducible rfl
  try simp only [List.getElem_toArray, List.getElem_cons_zero, List.getElem_cons_succ]
  simp only [Act.put, List.setIfInBounds_toArray, List.set_cons_zero, List.set_cons_succ]
  replace hS := (one_ind (i := 2) (by decide) _ _).2 hS
  refine anyL_take (fun X => X.cell? ⟨q, 0, none⟩ = some (.pointer (some ⟨p, 0, none⟩))) [] (i := 3) (v := ?_) rfl (by kernel_rfl) (by kernel_rfl) (by kernel_rfl) (fun _ _ _ h => h) (by kernel_rfl) (one_ind (i := 3) (by decide)) (fun L X h1 h2 => h2.2) (Or.inl ⟨by rfl, ?_⟩) hS ?_
  rotate_left
  · intro X hX
    have g1 := hX; clear hX
    go_simp
    try with_reducible rfl
  try simp only [List.getElem_toArray, List.getElem_cons_zero, List.getElem_cons_succ]
  simp only [Act.put, List.setIfInBounds_toArray, List.set_cons_zero, List.set_cons_succ]
  replace hS := (one_ind (i := 3) (by decide) _ _).2 hS
  refine anyL_take (fun _ => True) [] (i := 5) (v := ?_) rfl (by kernel_rfl) (by kernel_rfl) (by kernel_rfl) (fun _ _ _ h => h) (by kernel_rfl) (one_ind (i := 5) (by decide)) (fun _ _ _ _ => trivial) (Or.inl ⟨by rfl, ?_⟩) hS ?_
  rotate_left
  · intro X hX
    clear hX
    go_simp
    try with_reducible rfl
  try simp only [List.getElem_toArray, List.getElem_cons_zero, List.getElem_cons_succ]
  simp only [Act.put, List.setIfInBounds_toArray, List.set_cons_zero, List.set_cons_succ]
  replace hS := (one_ind (i := 5) (by decide) _ _).2 hS
  refine anyL_take (fun _ => True) [] (i := 6) (v := ?_) rfl (by kernel_rfl) (by kernel_rfl) (by kernel_rfl) (fun _ _ _ h => h) (by kernel_rfl) (one_ind (i := 6) (by decide)) (fun _ _ _ _ => trivial) (Or.inl ⟨by rfl, ?_⟩) hS ?_
  rotate_left
  · intro X hX
    clear hX
    go_simp
    try with_reducible rfl
  try simp only [List.getElem_toArray, List.getElem_cons_zero, List.getElem_cons_succ]
  simp only [Act.put, List.setIfInBounds_toArray, List.set_cons_zero, List.set_cons_succ]
  replace hS := (one_ind (i := 6) (by decide) _ _).2 hS
  refine anyL_take (fun _ => True) [] (i := 7) (v := ?_) rfl (by kernel_rfl) (by kernel_rfl) (by kernel_rfl) (fun _ _ _ h => h) (by kernel_rfl) (one_ind (i := 7) (by decide)) (fun _ _ _ _ => trivial) (Or.inl ⟨by rfl, ?_⟩) hS ?_
  rotate_left
  · intro X hX
    clear hX
    go_simp
    try with_reducible rfl
  try simp only [List.getElem_toArray, List.getElem_cons_zero, List.getElem_cons_succ]
  simp only [Act.put, List.setIfInBounds_toArray, List.set_cons_zero, List.set_cons_succ]
  replace hS := (one_ind (i := 7) (by decide) _ _).2 hS
  refine anyL_take (fun X => X.cell? ⟨q, 0, none⟩ = some (.pointer (some ⟨p, 0, none⟩))) [] (i := 8) (v := ?_) rfl (by kernel_rfl) (by kernel_rfl) (by kernel_rfl) (fun _ _ _ h => h) (by kernel_rfl) (one_ind (i := 8) (by decide)) (fun L X h1 h2 => h2.2) (Or.inl ⟨by rfl, ?_⟩) hS ?_
  rotate_left
  · intro X hX
    have g1 := hX; clear hX
    go_simp
    try with_reducible rfl
  try simp only [List.getElem_toArray, List.getElem_cons_zero, List.getElem_cons_succ]
  simp only [Act.put, List.setIfInBounds_toArray, List.set_cons_zero, List.set_cons_succ]
  replace hS := (one_ind (i := 8) (by decide) _ _).2 hS
  clear hS
  refine anyL_step (i := 4) (by kernel_rfl) rfl (by rfl) (fun K hK => ?_)
  go_simp
  refine (Number_p lo p _ _ 1 _ h.r h.hb how b1 e1 hq1).mono ?_
  rintro en w1 ⟨rfl, r1, k1⟩
  replace hB := below_row hB h.le k1 (fun k hk => by injection hk with hk; have := h.lp; omega)
  replace h := h.read r1 (numP_bytes hq1.out h.hb).1 k1
  clear r1 k1
  dsimp only
  refine hK.out _ _ ⟨fun _ => trivial, h.qb.cell 0⟩ ?_
  clear hK K
  try simp only [Act.put, List.setIfInBounds_toArray, List.set_cons_zero, List.set_cons_succ]
  refine anyL_step (i := 9) (by kernel_rfl) rfl (by rfl) (fun K hK => ?_)
  go_simp
  refine (Number_p lo p _ _ 2 _ h.r h.hb n b2 e2 hq2).mono ?_
  rintro en w2 ⟨rfl, r1, k1⟩
  replace hB := below_row hB h.le k1 (fun k hk => by injection hk with hk; have := h.lp; omega)
  replace h := h.read r1 (numP_bytes hq2.out h.hb).1 k1
  clear r1 k1
  dsimp only
  refine hK.out _ _ ⟨fun _ => trivial, h.qb.cell 0⟩ ?_
  clear hK K
  try simp only [Act.put, List.setIfInBounds_toArray, List.set_cons_zero, List.set_cons_succ]
  have hS : oneQ 99 (fun _ => True) (fun X => X.cell? ⟨q, 0, none⟩ = some (.pointer (some ⟨p, 0, none⟩))) (((((((((((Array.replicate 13 false).setIfInBounds 0 true).setIfInBounds 1 true).setIfInBounds 2 true).setIfInBounds 3 true).setIfInBounds 5 true).setIfInBounds 6 true).setIfInBounds 7 true).setIfInBounds 8 true).setIfInBounds 4 true).setIfInBounds 9 true) w2 := ⟨fun _ => trivial, h.qb.cell 0⟩
  refine anyL_take (fun _ => True) [] (i := 10) (v := ?_) rfl (by kernel_rfl) (by kernel_rfl) (by kernel_rfl) (fun _ _ _ h => h) (by kernel_rfl) (one_ind (i := 10) (by decide)) (fun _ _ _ _ => trivial) (Or.inl ⟨by rfl, ?_⟩) hS ?_
  rotate_left
  · intro X hX
    clear hX
    go_simp
    try with_reducible rfl
  try simp only [List.getElem_toArray, List.getElem_cons_zero, List.getElem_cons_succ]
  simp only [Act.put, List.setIfInBounds_toArray, List.set_cons_zero, List.set_cons_succ]
  replace hS := (one_ind (i := 10) (by decide) _ _).2 hS
  rw [wrap_i n n0 (by omega)]
  refine anyL_take (fun _ => True) [] (i := 11) (v := ?_) rfl (by kernel_rfl) (by kernel_rfl) (by kernel_rfl) (fun _ _ _ h => h) (by kernel_rfl) (one_ind (i := 11) (by decide)) (fun _ _ _ _ => trivial) (Or.inl ⟨by rfl, ?_⟩) hS ?_
  rotate_left
  · intro X hX
    clear hX
    go_simp
    try with_reducible rfl
  try simp only [List.getElem_toArray, List.getElem_cons_zero, List.getElem_cons_succ]
  simp only [Act.put, List.setIfInBounds_toArray, List.set_cons_zero, List.set_cons_succ]
  replace hS := (one_ind (i := 11) (by decide) _ _).2 hS
  refine anyL_take (fun _ => True) [] (i := 12) (v := ?_) rfl (by kernel_rfl) (by kernel_rfl) (by kernel_rfl) (fun _ _ _ h => h) (by kernel_rfl) (one_ind (i := 12) (by decide)) (fun _ _ _ _ => trivial) (Or.inl ⟨by rfl, ?_⟩) hS ?_
  rotate_left
  · intro X hX
    clear hX
    go_simp
    try with_reducible rfl
  try simp only [List.getElem_toArray, List.getElem_cons_zero, List.getElem_cons_succ]
  simp only [Act.put, List.setIfInBounds_toArray, List.set_cons_zero, List.set_cons_succ]
  replace hS := (one_ind (i := 12) (by decide) _ _).2 hS
  clear hS
  refine anyL_done (by kernel_rfl) ?_ _
  obtain ⟨g1, g2, _⟩ := h.cells
  have gf := h.qb.frozen 1
  go_upto_region 1 with fail
  go_cut [] (fun w' => w' = w2.setCell ⟨q, 1, none⟩ (.bool bd))
  case first =>
    cases bad with
    | true =>
      go_wp2_with fail
      go_meet
      rw [hbd.out]; rfl
    | false =>
      by_cases c1 : 16 < how
      · go_wp2_with fail
        go_meet
        rw [hbd.out]; simp [c1]
      · by_cases c2 : n < 1
        · go_wp2_with fail
          go_meet
          rw [hbd.out]; simp [c2]
        · go_wp2_with fail
          go_meet
          rw [hbd.out, decide_eq_false (show ¬ 16 < how by omega), decide_eq_false (show ¬ n < 1 by omega)]; rfl
  case rest =>
    obtain rfl := hcut
    have HK : PS (w2.setCell ⟨q, 1, none⟩ (.bool bd)) lo p q s b2 e2 bd x A a none c ∧ Below lo w (w2.setCell ⟨q, 1, none⟩ (.bool bd)) := ⟨h.setBad bd, below_row hB h.le (grownBy_cell _ _ _ _) (fun k hk => by injection hk with hk; have := h.lp; have := h.pq; omega)⟩
    replace HK := Lib.hid HK
    clear h hB g1 g2 gf
    generalize hw2 : w2.setCell ⟨q, 1, none⟩ (.bool bd) = w3 at *
    clear hw2
    obtain ⟨m, rfl⟩ := Int.eq_ofNat_of_zero_le n0
    have hF2 := hF'.out
    rw [show ((m : Int)).toNat = m from rfl] at hF2
    replace hF2 := Lib.hid hF2
    clear hF'
    go_wp2_with fail
    go_loopg [39, 6, 7] (m + 1) (fun gk i _ _ w' => ∃ (k : Nat) (b' : List Int) (e' : Int) (bd' : Bool) (v' : List Int) (A' : Option Addr) (a' : Nat), i = .int .i64 (k : Int) ∧ k ≤ m ∧ m < k + gk ∧ PS w' lo p q s b' e' bd' { x with v := v' } A' a' none c ∧ vecL how (m - k) b' e' bd' v' = F ∧ v'.length ≤ k ∧ Below lo w w')
    case atStart => exact ⟨0, b2, e2, bd, [], A, a, rfl, by omega, by omega, by have := HK.out.1; rw [show ({ x with v := [] } : Cm) = x by rw [← hd]]; exact this, by rw [← hF2.out]; rfl, by simp, HK.out.2⟩
    case round =>
      obtain ⟨k, b', e', bd', v', A', a', rfl, hk, hg, h, hL, hdl, hB⟩ := hrel
      have fin : ∀ W', (vecL how (m - k) b' e' bd' v' = (b', e', bd', v')) → PS W' lo p q s b' e' bd' { x with v := v' } A' a' none c → Below lo w W' → (∃ A' a', PS W' lo p q s F.1 F.2.1 F.2.2.1 { x with v := F.2.2.2 } A' a' none c) ∧ Below lo w W' := fun W' h1 h2 h3 => by
        rw [← hL, h1]; exact ⟨⟨A', a', h2⟩, h3⟩
      replace fin := Lib.hid fin
      obtain ⟨g1, g2, _⟩ := h.cells
      by_cases hkm : k < m
      case neg =>
        obtain rfl : k = m := by omega
        have HX := Lib.hid (And.intro h hB)
        clear h hB
        go_wp2_with fail
        go_end0
        exact ⟨rfl, fin.out _ (by rw [Nat.sub_self]; rfl) HX.out.1 HX.out.2⟩
      have hkm' : (k : Int) < (m : Int) := by omega
      obtain ⟨j, hj⟩ : ∃ j, m - k = j + 1 := ⟨m - k - 1, by omega⟩
      rw [hj] at hL fin
      have HX := Lib.hid (And.intro h hB)
      clear h hB
      cases bd' with
      | true =>
        go_wp2_with fail
        (try simp only [Exit.inBlock, Exit.then])
        refine bodyPost_ret (results_none rfl _ _ _) rfl ?_
        exact ⟨rfl, fin.out _ (by show (if true = true ∨ e' ≠ 0 then _ else _) = _; rw [if_pos (.inl rfl)]) HX.out.1 HX.out.2⟩
      | false =>
        by_cases he : e' = 0
        case neg =>
          have he' : (e' != 0) = true := by simpa using he
          go_wp2_with fail
          refine (Err_calls lo p b' e' _ HX.out.1.r).mono ?_
          rintro en _ ⟨rfl, rfl⟩
          go_wp2_with fail
          (try simp only [Exit.inBlock, Exit.then])
          refine bodyPost_ret (results_none rfl _ _ _) rfl ?_
          exact ⟨rfl, fin.out _ (by show (if false = true ∨ e' ≠ 0 then _ else _) = _; rw [if_pos (.inr he)]) HX.out.1 HX.out.2⟩
        subst he
        clear fin
        have hL2 : vecL how j (vecS how b' 0 v').1 (vecS how b' 0 v').2.1 (vecS how b' 0 v').2.2.1 (vecS how b' 0 v').2.2.2 = F := by
          rw [← hL]
          show _ = (if false = true ∨ (0 : Int) ≠ 0 then _ else _)
          rw [if_neg (by simp)]
        clear hL
        go_wp2_with fail
        refine (Err_calls lo p b' 0 _ HX.out.1.r).mono ?_
        rintro en _ ⟨rfl, rfl⟩
        by_cases hh : how = 0
        · subst hh
          obtain ⟨⟨y, b1, e1⟩, hq1⟩ : ∃ t, t = sgnP 2 b' 0 := ⟨_, rfl⟩
          rw [show vecS 0 b' 0 v' = (b1, e1, false, v' ++ [y]) by unfold vecS; rw [if_pos rfl, ← hq1]] at hL2
          dsimp only at hL2
          replace hL := Lib.hid hL2
          clear hL2
          obtain ⟨y0, y1⟩ := sgnP_two hq1.symm
          replace hq1 := Lib.hid hq1.symm
          obtain ⟨h, hB⟩ := HX.out
          clear HX g1 g2
          go_wp2_with fail
          refine region_L (oneQ 15 (fun X => X.cell? ⟨s, 2, none⟩ = some (.slice A' v'.length a')) (fun X => X.cell? ⟨q, 0, none⟩ = some (.pointer (some ⟨p, 0, none⟩)))) hmix ?_
          replace hB := below_row hB h.le (grown_of_below ((Below.refl wr.heap.size wr).drew) none) (fun k hk => by cases hk)
          replace h := h.below ((Below.refl _ _).drew)
          generalize wr.drew = V at *
          have hS : oneQ 15 (fun X => X.cell? ⟨s, 2, none⟩ = some (.slice A' v'.length a')) (fun X => X.cell? ⟨q, 0, none⟩ = some (.pointer (some ⟨p, 0, none⟩))) (Array.replicate 16 false) V := ⟨fun _ => h.sb.cell 2, h.qb.cell 0⟩
          refine anyL_take (fun _ => True) [] (i := 0) (v := ?_) rfl (by kernel_rfl) (by kernel_rfl) (by kernel_rfl) (fun _ _ _ h => h) (by kernel_rfl) (one_ind (i := 0) (by decide)) (fun _ _ _ _ => trivial) (Or.inl ⟨by rfl, ?_⟩) hS ?_
          rotate_left
          · intro X hX
            clear hX
            go_simp
            try with_reducible rfl
          try simp only [List.getElem_toArray, List.getElem_cons_zero, List.getElem_cons_succ]
          simp only [Act.put, List.setIfInBounds_toArray, List.set_cons_zero, List.set_cons_succ]
          replace hS := (one_ind (i := 0) (by decide) _ _).2 hS
          refine anyL_take (fun _ => True) [] (i := 1) (v := ?_) rfl (by kernel_rfl) (by kernel_rfl) (by kernel_rfl) (fun _ _ _ h => h) (by kernel_rfl) (one_ind (i := 1) (by decide)) (fun _ _ _ _ => trivial) (Or.inl ⟨by rfl, ?_⟩) hS ?_
          rotate_left
          · intro X hX
            clear hX
            go_simp
            try with_reducible rfl
          try simp only [List.getElem_toArray, List.getElem_cons_zero, List.getElem_cons_succ]
          simp only [Act.put, List.setIfInBounds_toArray, List.set_cons_zero, List.set_cons_succ]
          replace hS := (one_ind (i := 1) (by decide) _ _).2 hS
          refine anyL_take (fun _ => True) [] (i := 2) (v := ?_) rfl (by kernel_rfl) (by kernel_rfl) (by kernel_rfl) (fun _ _ _ h => h) (by kernel_rfl) (one_ind (i := 2) (by decide)) (fun _ _ _ _ => trivial) (Or.inl ⟨by rfl, ?_⟩) hS ?_
          rotate_left
          · intro X hX
            clear hX
            go_simp
            try with_reducible rfl
          try simp only [List.getElem_toArray, List.getElem_cons_zero, List.getElem_cons_succ]
          simp only [Act.put, List.setIfInBounds_toArray, List.set_cons_zero, List.set_cons_succ]
          replace hS := (one_ind (i := 2) (by decide) _ _).2 hS
          refine anyL_take (fun _ => True) [] (i := 3) (v := ?_) rfl (by kernel_rfl) (by kernel_rfl) (by kernel_rfl) (fun _ _ _ h => h) (by kernel_rfl) (one_ind (i := 3) (by decide)) (fun _ _ _ _ => trivial) (Or.inl ⟨by rfl, ?_⟩) hS ?_
          rotate_left
          · intro X hX
            clear hX
            go_simp
            try with_reducible rfl
          try simp only [List.getElem_toArray, List.getElem_cons_zero, List.getElem_cons_succ]
          simp only [Act.put, List.setIfInBounds_toArray, List.set_cons_zero, List.set_cons_succ]
          replace hS := (one_ind (i := 3) (by decide) _ _).2 hS
          refine anyL_take (fun X => X.cell? ⟨s, 2, none⟩ = some (.slice A' v'.length a')) [15] (i := 4) (v := ?_) rfl (by kernel_rfl) (by kernel_rfl) (by kernel_rfl) (fun _ _ _ h => h) (by kernel_rfl) (one_ind (i := 4) (by decide)) (fun L X h1 h2 => h2.1 (h1 15 (by simp))) (Or.inl ⟨by rfl, ?_⟩) hS ?_
          rotate_left
          · intro X hX
            have g2 := hX; clear hX
            go_simp
            try with_reducible rfl
          try simp only [List.getElem_toArray, List.getElem_cons_zero, List.getElem_cons_succ]
          simp only [Act.put, List.setIfInBounds_toArray, List.set_cons_zero, List.set_cons_succ]
          replace hS := (one_ind (i := 4) (by decide) _ _).2 hS
          refine anyL_take (fun _ => True) [] (i := 5) (v := ?_) rfl (by kernel_rfl) (by kernel_rfl) (by kernel_rfl) (fun _ _ _ h => h) (by kernel_rfl) (one_ind (i := 5) (by decide)) (fun _ _ _ _ => trivial) (Or.inl ⟨by rfl, ?_⟩) hS ?_
          rotate_left
          · intro X hX
            clear hX
            go_simp
            try with_reducible rfl
          try simp only [List.getElem_toArray, List.getElem_cons_zero, List.getElem_cons_succ]
          simp only [Act.put, List.setIfInBounds_toArray, List.set_cons_zero, List.set_cons_succ]
          replace hS := (one_ind (i := 5) (by decide) _ _).2 hS
          refine anyL_take (fun _ => True) [] (i := 6) (v := ?_) rfl (by kernel_rfl) (by kernel_rfl) (by kernel_rfl) (fun _ _ _ h => h) (by kernel_rfl) (one_ind (i := 6) (by decide)) (fun _ _ _ _ => trivial) (Or.inl ⟨by rfl, ?_⟩) hS ?_
          rotate_left
          · intro X hX
            clear hX
            go_simp
            try with_reducible rfl
          try simp only [List.getElem_toArray, List.getElem_cons_zero, List.getElem_cons_succ]
          simp only [Act.put, List.setIfInBounds_toArray, List.set_cons_zero, List.set_cons_succ]
          replace hS := (one_ind (i := 6) (by decide) _ _).2 hS
          refine anyL_take (fun _ => True) [] (i := 7) (v := ?_) rfl (by kernel_rfl) (by kernel_rfl) (by kernel_rfl) (fun _ _ _ h => h) (by kernel_rfl) (one_ind (i := 7) (by decide)) (fun _ _ _ _ => trivial) (Or.inl ⟨by rfl, ?_⟩) hS ?_
          rotate_left
          · intro X hX
            clear hX
            go_simp
            try with_reducible rfl
          try simp only [List.getElem_toArray, List.getElem_cons_zero, List.getElem_cons_succ]
          simp only [Act.put, List.setIfInBounds_toArray, List.set_cons_zero, List.set_cons_succ]
          replace hS := (one_ind (i := 7) (by decide) _ _).2 hS
          refine anyL_take (fun X => X.cell? ⟨q, 0, none⟩ = some (.pointer (some ⟨p, 0, none⟩))) [] (i := 8) (v := ?_) rfl (by kernel_rfl) (by kernel_rfl) (by kernel_rfl) (fun _ _ _ h => h) (by kernel_rfl) (one_ind (i := 8) (by decide)) (fun L X h1 h2 => h2.2) (Or.inl ⟨by rfl, ?_⟩) hS ?_
          rotate_left
          · intro X hX
            have g1 := hX; clear hX
            go_simp
            try with_reducible rfl
          try simp only [List.getElem_toArray, List.getElem_cons_zero, List.getElem_cons_succ]
          simp only [Act.put, List.setIfInBounds_toArray, List.set_cons_zero, List.set_cons_succ]
          replace hS := (one_ind (i := 8) (by decide) _ _).2 hS
          clear hS
          refine anyL_step (i := 9) (by kernel_rfl) rfl (by rfl) (fun K hK => ?_)
          go_simp
          refine (Signed_p lo p _ _ 2 _ h.r h.hb y b1 e1 hq1).mono ?_
          rintro en w1 ⟨rfl, r1, k1⟩
          replace hB := below_row hB h.le k1 (fun k hk => by injection hk with hk; have := h.lp; omega)
          replace h := h.read r1 (sgnP_bytes hq1.out h.hb) k1
          clear r1 k1
          dsimp only
          refine hK.out _ _ ⟨fun _ => h.sb.cell 2, h.qb.cell 0⟩ ?_
          clear hK K
          try simp only [Act.put, List.setIfInBounds_toArray, List.set_cons_zero, List.set_cons_succ]
          have hS : oneQ 15 (fun X => X.cell? ⟨s, 2, none⟩ = some (.slice A' v'.length a')) (fun X => X.cell? ⟨q, 0, none⟩ = some (.pointer (some ⟨p, 0, none⟩))) (((((((((((Array.replicate 16 false).setIfInBounds 0 true).setIfInBounds 1 true).setIfInBounds 2 true).setIfInBounds 3 true).setIfInBounds 4 true).setIfInBounds 5 true).setIfInBounds 6 true).setIfInBounds 7 true).setIfInBounds 8 true).setIfInBounds 9 true) w1 := ⟨fun _ => h.sb.cell 2, h.qb.cell 0⟩
          refine anyL_take (fun _ => True) [] (i := 10) (v := ?_) rfl (by kernel_rfl) (by kernel_rfl) (by kernel_rfl) (fun _ _ _ h => h) (by kernel_rfl) (one_ind (i := 10) (by decide)) (fun _ _ _ _ => trivial) (Or.inl ⟨by rfl, ?_⟩) hS ?_
          rotate_left
          · intro X hX
            clear hX
            go_simp
            try with_reducible rfl
          try simp only [List.getElem_toArray, List.getElem_cons_zero, List.getElem_cons_succ]
          simp only [Act.put, List.setIfInBounds_toArray, List.set_cons_zero, List.set_cons_succ]
          replace hS := (one_ind (i := 10) (by decide) _ _).2 hS
          rw [wrap_i16 y y0 y1]
          have bb := below_box0 w1 (.cells #[.int .i16 y] 29)
          have hb2 := h.below bb
          have B2 := below_row hB h.le (grown_of_below bb none) (fun k hk => by cases hk)
          have hel : Rd (w1.alloc (.cells #[.int .i16 y] 29)) (some ⟨w1.heap.size, 0, none⟩) (nums .i16 [y]) := .inr ⟨_, rfl, World.news_of_block (cs := #[.int .i16 y]) (t := 29) (fr := (0, 0)) (heap_alloc_new w1 _)⟩
          clear hS
          refine anyL_step (i := 11) (by kernel_rfl) rfl (by rfl) (fun K hK => ?_)
          go_simp
          refine hK.out _ _ ⟨fun _ => hb2.sb.cell 2, hb2.qb.cell 0⟩ ?_
          clear hK K
          try simp only [Act.put, List.setIfInBounds_toArray, List.set_cons_zero, List.set_cons_succ]
          generalize w1.alloc (.cells #[.int .i16 y] 29) = w2 at *
          obtain ⟨z, hz⟩ : ∃ z, z = v' ++ [y] := ⟨_, rfl⟩
          refine anyL_step (i := 12) (by kernel_rfl) rfl (by rfl) (fun K hK => ?_)
          refine wp_app_row (s + 1) _ _ 28 29 .i16 2 rfl Try.underlying28 (by kernel_rfl) (by decide) A' a' v' [y] (some ⟨w1.heap.size, 0, none⟩) 1 rfl rfl hb2.ov hel (by have := hb2.sb.lt; omega) (by simp; omega) ?_
          intro D1 a1 w3 o3 hg3 _ _
          rw [← hz] at o3 ⊢
          replace hz := Lib.hid hz
          have h3 := hb2.appV o3 hg3
          have B3 := below_row B2 hb2.le hg3 (fun k hk => by have := hb2.ov.lt k hk; have := hb2.lp; have := hb2.pq; have := hb2.qs; omega)
          have q3 := hb2.ptr2 hg3 (fun k hk => (hb2.ov.lt k hk).1)
          have z3 := hg3.size
          refine hK.out _ _ ⟨fun _ => q3.2.2, q3.1⟩ ?_
          clear hK K
          try simp only [Act.put, List.setIfInBounds_toArray, List.set_cons_zero, List.set_cons_succ]
          have hS : oneQ 15 (fun X => X.cell? ⟨s, 2, none⟩ = some (.slice A' v'.length a')) (fun X => X.cell? ⟨q, 0, none⟩ = some (.pointer (some ⟨p, 0, none⟩))) ((((((((((((((Array.replicate 16 false).setIfInBounds 0 true).setIfInBounds 1 true).setIfInBounds 2 true).setIfInBounds 3 true).setIfInBounds 4 true).setIfInBounds 5 true).setIfInBounds 6 true).setIfInBounds 7 true).setIfInBounds 8 true).setIfInBounds 9 true).setIfInBounds 10 true).setIfInBounds 11 true).setIfInBounds 12 true) w3 := ⟨fun _ => q3.2.2, q3.1⟩
          refine anyL_take (fun _ => True) [] (i := 13) (v := ?_) rfl (by kernel_rfl) (by kernel_rfl) (by kernel_rfl) (fun _ _ _ h => h) (by kernel_rfl) (one_ind (i := 13) (by decide)) (fun _ _ _ _ => trivial) (Or.inl ⟨by rfl, ?_⟩) hS ?_
          rotate_left
          · intro X hX
            clear hX
            go_simp
            try with_reducible rfl
          try simp only [List.getElem_toArray, List.getElem_cons_zero, List.getElem_cons_succ]
          simp only [Act.put, List.setIfInBounds_toArray, List.set_cons_zero, List.set_cons_succ]
          replace hS := (one_ind (i := 13) (by decide) _ _).2 hS
          refine anyL_take (fun _ => True) [] (i := 14) (v := ?_) rfl (by kernel_rfl) (by kernel_rfl) (by kernel_rfl) (fun _ _ _ h => h) (by kernel_rfl) (one_ind (i := 14) (by decide)) (fun _ _ _ _ => trivial) (Or.inl ⟨by rfl, ?_⟩) hS ?_
          rotate_left
          · intro X hX
            clear hX
            go_simp
            try with_reducible rfl
          try simp only [List.getElem_toArray, List.getElem_cons_zero, List.getElem_cons_succ]
          simp only [Act.put, List.setIfInBounds_toArray, List.set_cons_zero, List.set_cons_succ]
          replace hS := (one_ind (i := 14) (by decide) _ _).2 hS
          clear hS
          have d5 := q3.2.2
          have f5 := q3.2.1 2
          have B4 := below_row B3 (Nat.le_trans hb2.le hg3.size) (grownBy_cell w3 s 2 (.slice D1 z.length a1)) (fun k hk => by injection hk with hk; have := hb2.lp; have := hb2.pq; have := hb2.qs; omega)
          refine anyL_step (i := 15) (by kernel_rfl) rfl (by rfl) (fun K hK => ?_)
          go_simp
          refine hK.out _ _ ⟨fun hh => absurd hh (by decide), h3.qb.cell 0⟩ ?_
          clear hK K
          try simp only [Act.put, List.setIfInBounds_toArray, List.set_cons_zero, List.set_cons_succ]
          refine anyL_done (by kernel_rfl) ?_ _
          go_wp2_with fail
          go_roundg (gk - 1)
          case measure => omega
          case rel => exact ⟨k + 1, b1, e1, false, z, D1, a1, by simp, by omega, by omega, h3, by rw [show m - (k + 1) = j by omega, hz.out]; exact hL.out, by rw [hz.out]; simp; omega, B4⟩
        · have hh' : (how == 0) = false := by simpa using hh
          obtain ⟨⟨u, b1, e1⟩, hq1⟩ : ∃ t, t = numP 8 b' 0 := ⟨_, rfl⟩
          obtain ⟨⟨y, er⟩, hfx⟩ : ∃ t, t = fix u (how - 1) := ⟨_, rfl⟩
          rw [show vecS how b' 0 v' = (b1, e1, er != 0, v' ++ [y]) by unfold vecS; rw [if_neg hh, ← hq1]; dsimp only; rw [← hfx]] at hL2
          dsimp only at hL2
          replace hL := Lib.hid hL2
          clear hL2
          replace hq1 := Lib.hid hq1.symm
          replace hfx := Lib.hid hfx
          obtain ⟨_, u0, _, _⟩ := numP_bytes hq1.out HX.out.1.hb
          go_wp2_with fail
          refine (Number_p lo p _ _ 8 _ HX.out.1.r HX.out.1.hb u b1 e1 hq1).mono ?_
          rintro en w1 ⟨rfl, r1, k1⟩
          have H1 : PS w1 lo p q s b1 e1 false { x with v := v' } A' a' none c ∧ Below lo w w1 := ⟨HX.out.1.read r1 (numP_bytes hq1.out HX.out.1.hb).1 k1, below_row HX.out.2 HX.out.1.le k1 (fun k hk => by injection hk with hk; have := HX.out.1.lp; omega)⟩
          replace H1 := Lib.hid H1
          clear r1 k1 HX g1 g2
          obtain ⟨g1, g2, _⟩ := H1.out.1.cells
          have gf := H1.out.1.qb.frozen 1
          go_wp2_with fail
          refine (Fixed_calls u (how - 1) _ u0).mono ?_
          rintro en w1 ⟨rfl, rfl⟩
          rw [← hfx.out]
          dsimp only
          go_upto_region 9 with fail
          have h : PS (w1.setCell ⟨q, 1, none⟩ (.bool (er != 0))) lo p q s b1 e1 (er != 0) { x with v := v' } A' a' none c := H1.out.1.setBad (er != 0)
          have hB := below_row H1.out.2 H1.out.1.le (grownBy_cell w1 q 1 (.bool (er != 0))) (fun k hk => by injection hk with hk; have := H1.out.1.lp; have := H1.out.1.pq; omega)
          clear g1 g2 gf H1
          generalize w1.setCell ⟨q, 1, none⟩ (.bool (er != 0)) = w2 at *
          obtain ⟨z, hz⟩ : ∃ z, z = v' ++ [y] := ⟨_, rfl⟩
          replace hz := Lib.hid hz
          have g3 := h.sb.cell 2
          have HX := Lib.hid (And.intro h hB)
          simp only [cmC, List.getElem?_cons_zero, List.getElem?_cons_succ] at g3
          clear h hB
          go_wp2_with (at_builtin; refine app_one (s + 1) rfl _ _ 28 29 .i16 2 rfl Try.underlying28 (by kernel_rfl) (by decide) A' a' v' y rfl rfl HX.out.1.ov (by have := HX.out.1.sb.lt; omega) (by omega) ?_)
          intro D1 a1 w3 o3 hg3 _
          rw [← hz.out] at o3
          have hzl : z.length = v'.length + 1 := by rw [hz.out]; simp
          have HY : PS (w3.setCell ⟨s, 2, none⟩ (.slice D1 z.length a1)) lo p q s b1 e1 (er != 0) { x with v := z } D1 a1 none c ∧ Below lo w (w3.setCell ⟨s, 2, none⟩ (.slice D1 z.length a1)) :=
            ⟨HX.out.1.appV o3 hg3, below_row (below_row HX.out.2 HX.out.1.le hg3 (fun k hk => by have := HX.out.1.ov.lt k hk; have := HX.out.1.lp; have := HX.out.1.pq; have := HX.out.1.qs; omega)) (Nat.le_trans HX.out.1.le hg3.size) (grownBy_cell w3 s 2 (.slice D1 z.length a1)) (fun k hk => by injection hk with hk; have := HX.out.1.lp; have := HX.out.1.pq; have := HX.out.1.qs; omega)⟩
          rw [hzl] at HY
          clear hzl
          replace HY := Lib.hid HY
          have q3 := HX.out.1.ptr2 hg3 (fun k hk => (HX.out.1.ov.lt k hk).1)
          have d5 := q3.2.2
          have f5 := q3.2.1 2
          clear q3 o3 hg3 g3
          go_wp2_with fail
          go_roundg (gk - 1)
          case measure => omega
          case rel => exact ⟨k + 1, b1, e1, er != 0, z, D1, a1, by simp, by omega, by omega, HY.out.1, by rw [show m - (k + 1) = j by omega, hz.out]; exact hL.out, by rw [hz.out]; simp; omega, HY.out.2⟩
end Go.Proofs.Ytjdablkdndmcgaa
