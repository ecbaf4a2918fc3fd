/- CmdZ: CommandSizes. -/
import Derived.Test.YtjdablkdndmcgaaCmdN
import Derived.Test.YtjdablkdndmcgaaCmdO
import Derived.Test.YtjdablkdndmcgaaCmdW
import Derived.Test.YtjdablkdndmcgaaCmdL
namespace Go.Proofs.Ytjdablkdndmcgaa
set_option linter.unusedVariables false
set_option linter.unusedSimpArgs false
open Go.RowKit
theorem flat_len (how : Nat) (v : List Int) : (v.flatMap (numB how)).length = (if how = 0 then 2 else 8) * v.length := by
  induction v with
  | nil => simp
  | cons y v ih =>
    simp only [List.flatMap_cons, List.length_append, List.length_cons, ih]
    have : (numB how y).length = if how = 0 then 2 else 8 := by unfold numB; split <;> simp [lowB_length]
    rw [this]
    split <;> omega
theorem flat8_len (v : List Int) : (v.flatMap (fun y => lowB y 8)).length = 8 * v.length := by
  induction v with
  | nil => simp
  | cons y v ih => simp only [List.flatMap_cons, List.length_append, List.length_cons, lowB_length, ih]; omega
/-- As many bytes as the fields take. -/
theorem putB_len (x : Cm) (how : Nat) : (putB x how).length = 1 + (if hasN x.op 1 = true then 8 else 0) + (if hasN x.op 8 = true then 2 + 8 * x.d.length else 0) + (if hasN x.op 4 = true then 8 else 0) + (if hasN x.op 2 = true then 3 + (if how = 0 then 2 else 8) * x.v.length else 0) := by
  unfold putB idB vecB kB dB
  simp only [List.length_append, List.length_cons, List.length_nil]
  have e1 : (if hasN x.op 1 = true then lowB x.id 8 else []).length = if hasN x.op 1 = true then 8 else 0 := by split <;> simp [lowB_length]
  have e2 : (if hasN x.op 2 = true then [(how : Int)] ++ lowB x.v.length 2 ++ x.v.flatMap (numB how) else []).length = if hasN x.op 2 = true then 3 + (if how = 0 then 2 else 8) * x.v.length else 0 := by
    split
    · simp only [List.length_append, List.length_cons, List.length_nil, lowB_length, flat_len]
    · rfl
  have e3 : (if hasN x.op 4 = true then lowB x.k 4 ++ lowB x.p 4 else []).length = if hasN x.op 4 = true then 8 else 0 := by split <;> simp [lowB_length]
  have e4 : (if hasN x.op 8 = true then lowB x.d.length 2 ++ x.d.flatMap (fun y => lowB y 8) else []).length = if hasN x.op 8 = true then 2 + 8 * x.d.length else 0 := by
    split
    · simp only [List.length_append, lowB_length, flat8_len]
    · rfl
  rw [e1, e2, e3, e4]
  omega
theorem addr_zero (ad : Addr) : ad.add 0 = ad := if_pos rfl
theorem wrap_op (x : Int) (h0 : 1 ≤ x) (h1 : x ≤ 12) : IntKind.u8.wrap x = x := by
  simp [IntKind.wrap, IntKind.signed, IntKind.bits]
  omega
/-- The command in its box, its slices, and what was ahead. -/
structure BX (w w1 : World) (x : Cm) (A : Option Addr) (a : Nat) (B : Option Addr) (b : Nat) : Prop where
  c : Blk w1 w.heap.size 34 (cmC x A a B b)
  k : CmK w1 x A a B b ∧ Below w.heap.size w w1
theorem BX.below {w w1 w2 : World} {x : Cm} {A : Option Addr} {a : Nat} {B : Option Addr} {b : Nat} (h : BX w w1 x A a B b) (hb : Below w1.heap.size w1 w2) : BX w w2 x A a B b :=
  ⟨h.c.below hb, h.k.1.below hb, below_row h.k.2 h.k.2.size (grown_of_below hb none) (fun k hk => by cases hk)⟩
set_option maxHeartbeats 2000000 in
set_option maxRecDepth 20000 in
theorem CommandSizes_row (q : Option Addr × Option Addr) (cc : Nat × Nat) (x : Cm) (fr : Int) (w : World) (hw : CmW w q.1 q.2 cc.1 cc.2 x) (hfw : (Lit.int .i64 fr).wf = true) :
    Calls Try.prog 4 #[.agg (cmC x q.1 cc.1 q.2 cc.2).toArray, .int .i64 fr] w fun e w' => e = .returned (.bool true) ∧ Below w.heap.size w w' := by
  have hmix : Try.prog.follows .mixedOrders = true := by kernel_rfl
  obtain ⟨A, B⟩ := q
  obtain ⟨a, b⟩ := cc
  dsimp only at *
  obtain ⟨hk, hx, _⟩ := hw
  obtain ⟨hf1, hf2⟩ := bdI64 hfw
  obtain ⟨f, hf3⟩ : ∃ f, fr % 16 = f := ⟨_, rfl⟩
  have f0 : 0 ≤ f := by omega
  have f1 : f ≤ 15 := by omega
  clear hfw
  have h0 : Blk (w.alloc (.cells (cmC x A a B b).toArray 34)) w.heap.size 34 (cmC x A a B b) := Blk.new w _ _
  have B0 := below_box0 w (.cells (cmC x A a B b).toArray 34)
  have HX : BX w (w.alloc (.cells (cmC x A a B b).toArray 34)) x A a B b := ⟨h0, hk.below B0, B0⟩
  replace HX := Lib.hid HX
  clear h0 B0 hk
  simp only [cmC]
  go_enter Try.func4, Try.ntmps4
  go_wp2_with fail
  refine (lives_calls _).mono ?_
  rintro e w1 ⟨rfl, b1⟩
  have HW := Lib.hid (HX.out.below b1)
  clear b1 HX
  obtain ⟨l0, l1', l2', l3', l4, l5⟩ := load_cm HW.out.c
  go_wp2_with fail
  refine (clight_calls x A a B b _).mono ?_
  rintro e w2 ⟨rfl, b2⟩
  replace HW := Lib.hid (HW.out.below b2)
  clear b2 l0 l1' l2' l3' l4 l5
  obtain ⟨l0, l1', l2', l3', l4, l5⟩ := load_cm HW.out.c
  by_cases hlt : x.v.length ≤ 10000 ∧ x.d.length ≤ 10000
  case neg =>
    rw [decide_eq_false hlt]
    clear hlt
    go_wp2_with fail
    go_ret
    exact ⟨rfl, HW.out.k.2⟩
  rw [decide_eq_true hlt]
  clear hlt
  go_wp2_with fail
  refine (CCheck_calls x A a B b _ HW.out.k.1).mono ?_
  rintro e w3 ⟨rfl, b3⟩
  replace HW := Lib.hid (HW.out.below b3)
  clear b3 l0 l1' l2' l3' l4 l5
  obtain ⟨l0, l1', l2', l3', l4, l5⟩ := load_cm HW.out.c
  by_cases hok : cmOk x
  case neg =>
    rw [if_neg hok]
    go_wp2_with fail
    go_ret
    exact ⟨rfl, HW.out.k.2⟩
  rw [if_pos hok]
  have hok' := hok
  unfold cmOk at hok'
  obtain ⟨⟨o1, o2⟩, oid, ov, _, od⟩ := hok'
  have hl1 : x.v.length ≤ 1024 := by split at ov <;> simp_all
  have hl2 : x.d.length ≤ 4096 := by split at od <;> simp_all
  obtain ⟨n1, hn1⟩ : ∃ n : Nat, n = 1 + (if hasN x.op 1 = true then 8 else 0) := ⟨_, rfl⟩
  obtain ⟨n2, hn2⟩ : ∃ n : Nat, n = n1 + (if hasN x.op 8 = true then 2 + 8 * x.d.length else 0) := ⟨_, rfl⟩
  obtain ⟨n3, hn3⟩ : ∃ n : Nat, n = n2 + (if hasN x.op 4 = true then 8 else 0) := ⟨_, rfl⟩
  obtain ⟨rb, hrb⟩ : ∃ r, r = putB x 0 := ⟨_, rfl⟩
  obtain ⟨rl, hrl⟩ : ∃ r, r = putB x (f.toNat + 1) := ⟨_, rfl⟩
  have hlb : rb.length = n3 + (if hasN x.op 2 = true then 3 + 2 * x.v.length else 0) := by rw [hrb, putB_len, hn3, hn2, hn1]; rfl
  have hll : rl.length = n3 + (if hasN x.op 2 = true then 3 + 8 * x.v.length else 0) := by rw [hrl, putB_len, hn3, hn2, hn1, show (if f.toNat + 1 = 0 then 2 else 8 : Nat) = 8 from if_neg (by omega)]
  have hn3b : n3 ≤ 40000 := by rw [hn3, hn2, hn1]; split <;> split <;> split <;> omega
  have hn2b : n2 ≤ 39000 := by rw [hn2, hn1]; split <;> split <;> omega
  have hn1b : n1 ≤ 9 := by rw [hn1]; split <;> omega
  replace hn1 := Lib.hid hn1
  replace hn2 := Lib.hid hn2
  replace hn3 := Lib.hid hn3
  replace hlb := Lib.hid hlb
  replace hll := Lib.hid hll
  replace oid := Lib.hid oid
  replace ov := Lib.hid ov
  replace od := Lib.hid od
  go_upto_if 23 with fail
  go_cut [5] (fun s5 w' => s5 = .int .i64 (n1 : Int) ∧ w' = w3)
  case first =>
    cases h1 : hasN x.op 1 with
    | true =>
      have hp : 0 < x.id := by
        have := oid.out
        rw [has_id] at h1; simp at h1
        rw [if_pos (by omega)] at this
        omega
      go_wp2_with fail
      go_meet
      rw [hn1.out, h1]
      exact ⟨rfl, rfl⟩
    | false =>
      have hp : ¬ 0 < x.id := by
        have := oid.out
        rw [has_id] at h1; simp at h1
        rw [if_neg (by omega)] at this
        omega
      go_wp2_with fail
      go_meet
      rw [hn1.out, h1]
      exact ⟨rfl, rfl⟩
  case rest =>
    obtain ⟨rfl, rfl⟩ := hcut
    obtain ⟨wr, rfl⟩ : ∃ W, W = wc := ⟨_, rfl⟩
    go_upto_if 28 with fail
    go_cut [5] (fun s5 w' => s5 = .int .i64 (n2 : Int) ∧ w' = wr)
    case first =>
      cases h8 : hasN x.op 8 with
      | true =>
        have e8 := Lib.hid (show (x.op == 8) = true by rw [has_draws] at h8; simpa using h8)
        rw [e8.out]
        go_wp2_with fail
        go_meet
        rw [hn2.out, h8]
        refine ⟨?_, rfl⟩
        congr 1
        rw [if_pos rfl]; push_cast; omega
      | false =>
        have e8 := Lib.hid (show (x.op == 8) = false by rw [has_draws] at h8; simpa using h8)
        rw [e8.out]
        go_wp2_with fail
        go_meet
        rw [hn2.out, h8]
        exact ⟨rfl, rfl⟩
    case rest =>
      obtain ⟨rfl, rfl⟩ := hcut
      obtain ⟨wr, rfl⟩ : ∃ W, W = wc := ⟨_, rfl⟩
      go_upto_region 10 with fail
      obtain ⟨o, ho⟩ : ∃ o, x.op = o := ⟨_, rfl⟩
      have hk4 := Lib.hid (has_k x.op)
      rw [ho] at l0 o1 o2 ⊢
      replace ho := Lib.hid ho
      go_cut [43] (fun s43 w' => s43 = .bool (hasN x.op 4) ∧ w' = wr)
      case first =>
        by_cases e6 : o = 6
        · subst e6
          go_wp2_with fail
          go_meet
          rw [hk4.out, ho.out]
          exact ⟨rfl, rfl⟩
        · by_cases e7 : o = 7
          · subst e7
            go_wp2_with fail
            go_meet
            rw [hk4.out, ho.out]
            exact ⟨rfl, rfl⟩
          · go_wp2_with fail
            go_meet
            rw [hk4.out, ho.out, decide_eq_false (by omega)]
            exact ⟨by simp [e6, e7], rfl⟩
      case rest =>
        have ho' := ho.out
        subst ho'
        clear ho
        obtain ⟨rfl, rfl⟩ := hcut
        obtain ⟨wr, rfl⟩ : ∃ W, W = wc := ⟨_, rfl⟩
        go_upto_if 43 with fail
        go_cut [5] (fun s5 w' => s5 = .int .i64 (n3 : Int) ∧ w' = wr)
        case first =>
          cases h4 : hasN x.op 4 with
          | true =>
            go_wp2_with fail
            go_meet
            rw [hn3.out, h4]
            exact ⟨rfl, rfl⟩
          | false =>
            go_wp2_with fail
            go_meet
            rw [hn3.out, h4]
            exact ⟨rfl, rfl⟩
        case rest =>
          obtain ⟨rfl, rfl⟩ := hcut
          obtain ⟨wr, rfl⟩ : ∃ W, W = wc := ⟨_, rfl⟩
          go_upto_if 50 with fail
          go_cut [5, 6] (fun s5 s6 w' => s5 = .int .i64 (rb.length : Int) ∧ s6 = .int .i64 (rl.length : Int) ∧ w' = wr)
          case first =>
            cases h2 : hasN x.op 2 with
            | true =>
              have hp : 0 < x.v.length := by
                have := ov.out
                rw [has_vec] at h2; simp at h2
                rw [if_pos (by omega)] at this
                omega
              go_wp2_with fail
              go_meet
              rw [hlb.out, hll.out, h2]
              refine ⟨?_, ?_, rfl⟩
              · congr 1
                rw [if_pos rfl]; push_cast; omega
              · congr 1
                rw [if_pos rfl]; push_cast; omega
            | false =>
              have hp : ¬ 0 < x.v.length := by
                have := ov.out
                rw [has_vec] at h2; simp at h2
                rw [if_neg (by omega)] at this
                rw [this]; simp
              go_wp2_with fail
              go_meet
              rw [hlb.out, hll.out, h2]
              exact ⟨rfl, rfl, rfl⟩
          case rest =>
            obtain ⟨rfl, rfl, rfl⟩ := hcut
            obtain ⟨wr, rfl⟩ : ∃ W, W = wc := ⟨_, rfl⟩
            clear hn1 hn2 hn3 oid hn1b hn2b hn3b
            have hrb2 := Lib.hid (show bytesR x = rb by unfold bytesR; rw [if_pos hok, hrb])
            have heb := Lib.hid (show (if cmOk x then (0 : Int) else 2) = 0 from if_pos hok)
            have hrb0 : rb = x.op :: rb.tail := by rw [hrb]; rfl
            replace hrb := Lib.hid hrb
            replace hrl := Lib.hid hrl
            replace hrb0 := Lib.hid hrb0
            go_wp2_with fail
            refine (Bytes_calls x A a B b _ HW.out.k.1 hx rb hrb2 0 heb).mono ?_
            rintro e w4 ⟨V, cv, rfl, sb, bb⟩
            replace HW := Lib.hid (HW.out.below bb)
            clear bb l0 l1' l2' l3' l4 l5
            obtain ⟨l0, l1', l2', l3', l4, l5⟩ := load_cm HW.out.c
            obtain ⟨rd, hrd⟩ : ∃ r, doublesR x f = r := ⟨_, rfl⟩
            obtain ⟨ed, hed⟩ : ∃ r : Int, (if doublesOk x f then (0 : Int) else 2) = r := ⟨_, rfl⟩
            replace hrd := Lib.hid hrd
            replace hed := Lib.hid hed
            replace hf3 := Lib.hid hf3
            go_wp2_with fail
            refine region_L (oneQ 99 (fun _ => True) (fun X => X.cell? ⟨w.heap.size, 0, none⟩ = some (.int .i64 x.op) ∧ X.cell? ⟨w.heap.size, 1, none⟩ = some (.int .i64 x.id) ∧ X.cell? ⟨w.heap.size, 2, none⟩ = some (.slice A x.v.length a) ∧ X.cell? ⟨w.heap.size, 3, none⟩ = some (.int .i64 x.k) ∧ X.cell? ⟨w.heap.size, 4, none⟩ = some (.int .i64 x.p) ∧ X.cell? ⟨w.heap.size, 5, none⟩ = some (.slice B x.d.length b))) hmix ?_
            have H := HW.out.below ((Below.refl w4.heap.size w4).drew)
            replace sb := sb.below ((Below.refl w4.heap.size w4).drew)
            clear l0 l1' l2' l3' l4 l5 HW
            generalize w4.drew = V0 at *
            have hS : oneQ 99 (fun _ => True) (fun X => X.cell? ⟨w.heap.size, 0, none⟩ = some (.int .i64 x.op) ∧ X.cell? ⟨w.heap.size, 1, none⟩ = some (.int .i64 x.id) ∧ X.cell? ⟨w.heap.size, 2, none⟩ = some (.slice A x.v.length a) ∧ X.cell? ⟨w.heap.size, 3, none⟩ = some (.int .i64 x.k) ∧ X.cell? ⟨w.heap.size, 4, none⟩ = some (.int .i64 x.p) ∧ X.cell? ⟨w.heap.size, 5, none⟩ = some (.slice B x.d.length b)) (Array.replicate 9 false) V0 := ⟨fun _ => trivial, load_cm H.c⟩
            refine anyL_take (fun X => X.cell? ⟨w.heap.size, 0, none⟩ = some (.int .i64 x.op) ∧ X.cell? ⟨w.heap.size, 1, none⟩ = some (.int .i64 x.id) ∧ X.cell? ⟨w.heap.size, 2, none⟩ = some (.slice A x.v.length a) ∧ X.cell? ⟨w.heap.size, 3, none⟩ = some (.int .i64 x.k) ∧ X.cell? ⟨w.heap.size, 4, none⟩ = some (.int .i64 x.p) ∧ X.cell? ⟨w.heap.size, 5, none⟩ = some (.slice B x.d.length b)) [] (i := 0) (v := ?_) rfl (by kernel_rfl) (by kernel_rfl) (by kernel_rfl) (fun _ _ _ h => h) (by kernel_rfl) (one_ind (i := 0) (by decide)) (fun L X h1 h2 => h2.2) (Or.inl ⟨by rfl, ?_⟩) hS ?_
            rotate_left
            · intro X hX
              obtain ⟨g0, g1, g2, g3, g4, g5⟩ := hX
              go_simp
              try with_reducible rfl
            try simp only [List.getElem_toArray, List.getElem_cons_zero, List.getElem_cons_succ]
            simp only [Act.put, List.setIfInBounds_toArray, List.set_cons_zero, List.set_cons_succ]
            replace hS := (one_ind (i := 0) (by decide) _ _).2 hS
            refine anyL_take (fun _ => True) [] (i := 1) (v := ?_) rfl (by kernel_rfl) (by kernel_rfl) (by kernel_rfl) (fun _ _ _ h => h) (by kernel_rfl) (one_ind (i := 1) (by decide)) (fun _ _ _ _ => trivial) (Or.inl ⟨by rfl, ?_⟩) hS ?_
            rotate_left
            · intro X hX
              clear hX
              go_simp
              try with_reducible rfl
            try simp only [List.getElem_toArray, List.getElem_cons_zero, List.getElem_cons_succ]
            simp only [Act.put, List.setIfInBounds_toArray, List.set_cons_zero, List.set_cons_succ]
            replace hS := (one_ind (i := 1) (by decide) _ _).2 hS
            clear hS
            refine anyL_step (i := 2) (by kernel_rfl) rfl (by rfl) (fun K hK => ?_)
            go_simp
            refine (Pick_calls fr 16 _ (by decide) (by decide)).mono ?_
            rintro e V0 ⟨rfl, rfl⟩
            rw [hf3.out]
            dsimp only
            refine hK.out _ _ ⟨fun _ => trivial, load_cm H.c⟩ ?_
            clear hK K
            try simp only [Act.put, List.setIfInBounds_toArray, List.set_cons_zero, List.set_cons_succ]
            refine anyL_step (i := 3) (by kernel_rfl) rfl (by rfl) (fun K hK => ?_)
            go_simp
            refine (Doubles_calls x A a B b f _ H.k.1 hx rd hrd ed hed).mono ?_
            rintro e w6 ⟨D, dd, rfl, sd, bd⟩
            replace H := H.below bd
            replace sb := sb.below bd
            clear bd
            dsimp only
            refine hK.out _ _ ⟨fun _ => trivial, load_cm H.c⟩ ?_
            clear hK K
            try simp only [Act.put, List.setIfInBounds_toArray, List.set_cons_zero, List.set_cons_succ]
            have hS : oneQ 99 (fun _ => True) (fun X => X.cell? ⟨w.heap.size, 0, none⟩ = some (.int .i64 x.op) ∧ X.cell? ⟨w.heap.size, 1, none⟩ = some (.int .i64 x.id) ∧ X.cell? ⟨w.heap.size, 2, none⟩ = some (.slice A x.v.length a) ∧ X.cell? ⟨w.heap.size, 3, none⟩ = some (.int .i64 x.k) ∧ X.cell? ⟨w.heap.size, 4, none⟩ = some (.int .i64 x.p) ∧ X.cell? ⟨w.heap.size, 5, none⟩ = some (.slice B x.d.length b)) (((((Array.replicate 9 false).setIfInBounds 0 true).setIfInBounds 1 true).setIfInBounds 2 true).setIfInBounds 3 true) w6 := ⟨fun _ => trivial, load_cm H.c⟩
            refine anyL_take (fun _ => True) [] (i := 4) (v := ?_) rfl (by kernel_rfl) (by kernel_rfl) (by kernel_rfl) (fun _ _ _ h => h) (by kernel_rfl) (one_ind (i := 4) (by decide)) (fun _ _ _ _ => trivial) (Or.inl ⟨by rfl, ?_⟩) hS ?_
            rotate_left
            · intro X hX
              clear hX
              go_simp
              try with_reducible rfl
            try simp only [List.getElem_toArray, List.getElem_cons_zero, List.getElem_cons_succ]
            simp only [Act.put, List.setIfInBounds_toArray, List.set_cons_zero, List.set_cons_succ]
            replace hS := (one_ind (i := 4) (by decide) _ _).2 hS
            refine anyL_take (fun _ => True) [] (i := 5) (v := ?_) rfl (by kernel_rfl) (by kernel_rfl) (by kernel_rfl) (fun _ _ _ h => h) (by kernel_rfl) (one_ind (i := 5) (by decide)) (fun _ _ _ _ => trivial) (Or.inl ⟨by rfl, ?_⟩) hS ?_
            rotate_left
            · intro X hX
              clear hX
              go_simp
              try with_reducible rfl
            try simp only [List.getElem_toArray, List.getElem_cons_zero, List.getElem_cons_succ]
            simp only [Act.put, List.setIfInBounds_toArray, List.set_cons_zero, List.set_cons_succ]
            replace hS := (one_ind (i := 5) (by decide) _ _).2 hS
            refine anyL_take (fun _ => True) [] (i := 6) (v := ?_) rfl (by kernel_rfl) (by kernel_rfl) (by kernel_rfl) (fun _ _ _ h => h) (by kernel_rfl) (one_ind (i := 6) (by decide)) (fun _ _ _ _ => trivial) (Or.inl ⟨by rfl, ?_⟩) hS ?_
            rotate_left
            · intro X hX
              clear hX
              go_simp
              try with_reducible rfl
            try simp only [List.getElem_toArray, List.getElem_cons_zero, List.getElem_cons_succ]
            simp only [Act.put, List.setIfInBounds_toArray, List.set_cons_zero, List.set_cons_succ]
            replace hS := (one_ind (i := 6) (by decide) _ _).2 hS
            refine anyL_take (fun _ => True) [] (i := 7) (v := ?_) rfl (by kernel_rfl) (by kernel_rfl) (by kernel_rfl) (fun _ _ _ h => h) (by kernel_rfl) (one_ind (i := 7) (by decide)) (fun _ _ _ _ => trivial) (Or.inl ⟨by rfl, ?_⟩) hS ?_
            rotate_left
            · intro X hX
              clear hX
              go_simp
              try with_reducible rfl
            try simp only [List.getElem_toArray, List.getElem_cons_zero, List.getElem_cons_succ]
            simp only [Act.put, List.setIfInBounds_toArray, List.set_cons_zero, List.set_cons_succ]
            replace hS := (one_ind (i := 7) (by decide) _ _).2 hS
            refine anyL_take (fun _ => True) [] (i := 8) (v := ?_) rfl (by kernel_rfl) (by kernel_rfl) (by kernel_rfl) (fun _ _ _ h => h) (by kernel_rfl) (one_ind (i := 8) (by decide)) (fun _ _ _ _ => trivial) (Or.inl ⟨by rfl, ?_⟩) hS ?_
            rotate_left
            · intro X hX
              clear hX
              go_simp
              try with_reducible rfl
            try simp only [List.getElem_toArray, List.getElem_cons_zero, List.getElem_cons_succ]
            simp only [Act.put, List.setIfInBounds_toArray, List.set_cons_zero, List.set_cons_succ]
            replace hS := (one_ind (i := 8) (by decide) _ _).2 hS
            clear hS
            refine anyL_done (by kernel_rfl) ?_ _
            have hvb : ∃ ad, V = some ad ∧ w6.cell? ad = some (.int .u8 x.op) := by
              have h1 := hrb0.out
              have h2 : 0 < rb.length := by rw [h1]; simp
              obtain ⟨ad, hA, hc⟩ := sb.get 0 h2
              refine ⟨ad, hA, ?_⟩
              rw [addr_zero] at hc
              rw [hc]
              congr 2
              rw [h1]; rfl
            obtain ⟨ad, rfl, hv0⟩ := hvb
            have hpos : 0 < rb.length := by rw [hrb0.out]; simp
            have hov : IntKind.u8.wrap x.op = x.op := wrap_op x.op o1 o2
            go_wp2_with fail
            refine region_L (oneQ 99 (fun _ => True) (fun X => X.cell? ad = some (.int .u8 x.op) ∧ X.cell? ⟨w.heap.size, 0, none⟩ = some (.int .i64 x.op))) hmix ?_
            replace H := H.below ((Below.refl w6.heap.size w6).drew)
            replace hv0 := cell_below ((Below.refl w6.heap.size w6).drew) _ _ hv0
            generalize w6.drew = V1 at *
            have hS : oneQ 99 (fun _ => True) (fun X => X.cell? ad = some (.int .u8 x.op) ∧ X.cell? ⟨w.heap.size, 0, none⟩ = some (.int .i64 x.op)) (Array.replicate 23 false) V1 := ⟨fun _ => trivial, ⟨hv0, H.c.cell 0⟩⟩
            refine anyL_take (fun _ => True) [] (i := 0) (v := ?_) rfl (by kernel_rfl) (by kernel_rfl) (by kernel_rfl) (fun _ _ _ h => h) (by kernel_rfl) (one_ind (i := 0) (by decide)) (fun _ _ _ _ => trivial) (Or.inl ⟨by rfl, ?_⟩) hS ?_
            rotate_left
            · intro X hX
              clear hX
              go_simp
              try with_reducible rfl
            try simp only [List.getElem_toArray, List.getElem_cons_zero, List.getElem_cons_succ]
            simp only [Act.put, List.setIfInBounds_toArray, List.set_cons_zero, List.set_cons_succ]
            replace hS := (one_ind (i := 0) (by decide) _ _).2 hS
            refine anyL_take (fun _ => True) [] (i := 1) (v := ?_) rfl (by kernel_rfl) (by kernel_rfl) (by kernel_rfl) (fun _ _ _ h => h) (by kernel_rfl) (one_ind (i := 1) (by decide)) (fun _ _ _ _ => trivial) (Or.inl ⟨by rfl, ?_⟩) hS ?_
            rotate_left
            · intro X hX
              clear hX
              go_simp
              try with_reducible rfl
            try simp only [List.getElem_toArray, List.getElem_cons_zero, List.getElem_cons_succ]
            simp only [Act.put, List.setIfInBounds_toArray, List.set_cons_zero, List.set_cons_succ]
            replace hS := (one_ind (i := 1) (by decide) _ _).2 hS
            refine anyL_take (fun _ => True) [] (i := 2) (v := ?_) rfl (by kernel_rfl) (by kernel_rfl) (by kernel_rfl) (fun _ _ _ h => h) (by kernel_rfl) (one_ind (i := 2) (by decide)) (fun _ _ _ _ => trivial) (Or.inl ⟨by rfl, ?_⟩) hS ?_
            rotate_left
            · intro X hX
              clear hX
              go_simp
              try with_reducible rfl
            try simp only [List.getElem_toArray, List.getElem_cons_zero, List.getElem_cons_succ]
            simp only [Act.put, List.setIfInBounds_toArray, List.set_cons_zero, List.set_cons_succ]
            replace hS := (one_ind (i := 2) (by decide) _ _).2 hS
            refine anyL_take (fun _ => True) [] (i := 3) (v := ?_) rfl (by kernel_rfl) (by kernel_rfl) (by kernel_rfl) (fun _ _ _ h => h) (by kernel_rfl) (one_ind (i := 3) (by decide)) (fun _ _ _ _ => trivial) (Or.inl ⟨by rfl, ?_⟩) hS ?_
            rotate_left
            · intro X hX
              clear hX
              go_simp
              try with_reducible rfl
            try simp only [List.getElem_toArray, List.getElem_cons_zero, List.getElem_cons_succ]
            simp only [Act.put, List.setIfInBounds_toArray, List.set_cons_zero, List.set_cons_succ]
            replace hS := (one_ind (i := 3) (by decide) _ _).2 hS
            refine anyL_take (fun _ => True) [] (i := 4) (v := ?_) rfl (by kernel_rfl) (by kernel_rfl) (by kernel_rfl) (fun _ _ _ h => h) (by kernel_rfl) (one_ind (i := 4) (by decide)) (fun _ _ _ _ => trivial) (Or.inl ⟨by rfl, ?_⟩) hS ?_
            rotate_left
            · intro X hX
              clear hX
              go_simp
              try with_reducible rfl
            try simp only [List.getElem_toArray, List.getElem_cons_zero, List.getElem_cons_succ]
            simp only [Act.put, List.setIfInBounds_toArray, List.set_cons_zero, List.set_cons_succ]
            replace hS := (one_ind (i := 4) (by decide) _ _).2 hS
            refine anyL_take (fun _ => True) [] (i := 5) (v := ?_) rfl (by kernel_rfl) (by kernel_rfl) (by kernel_rfl) (fun _ _ _ h => h) (by kernel_rfl) (one_ind (i := 5) (by decide)) (fun _ _ _ _ => trivial) (Or.inl ⟨by rfl, ?_⟩) hS ?_
            rotate_left
            · intro X hX
              clear hX
              go_simp
              try with_reducible rfl
            try simp only [List.getElem_toArray, List.getElem_cons_zero, List.getElem_cons_succ]
            simp only [Act.put, List.setIfInBounds_toArray, List.set_cons_zero, List.set_cons_succ]
            replace hS := (one_ind (i := 5) (by decide) _ _).2 hS
            refine anyL_take (fun _ => True) [] (i := 6) (v := ?_) rfl (by kernel_rfl) (by kernel_rfl) (by kernel_rfl) (fun _ _ _ h => h) (by kernel_rfl) (one_ind (i := 6) (by decide)) (fun _ _ _ _ => trivial) (Or.inl ⟨by rfl, ?_⟩) hS ?_
            rotate_left
            · intro X hX
              clear hX
              go_simp
              try with_reducible rfl
            try simp only [List.getElem_toArray, List.getElem_cons_zero, List.getElem_cons_succ]
            simp only [Act.put, List.setIfInBounds_toArray, List.set_cons_zero, List.set_cons_succ]
            replace hS := (one_ind (i := 6) (by decide) _ _).2 hS
            refine anyL_take (fun _ => True) [] (i := 7) (v := ?_) rfl (by kernel_rfl) (by kernel_rfl) (by kernel_rfl) (fun _ _ _ h => h) (by kernel_rfl) (one_ind (i := 7) (by decide)) (fun _ _ _ _ => trivial) (Or.inl ⟨by rfl, ?_⟩) hS ?_
            rotate_left
            · intro X hX
              clear hX
              go_simp
              try with_reducible rfl
            try simp only [List.getElem_toArray, List.getElem_cons_zero, List.getElem_cons_succ]
            simp only [Act.put, List.setIfInBounds_toArray, List.set_cons_zero, List.set_cons_succ]
            replace hS := (one_ind (i := 7) (by decide) _ _).2 hS
            refine anyL_take (fun _ => True) [] (i := 8) (v := ?_) rfl (by kernel_rfl) (by kernel_rfl) (by kernel_rfl) (fun _ _ _ h => h) (by kernel_rfl) (one_ind (i := 8) (by decide)) (fun _ _ _ _ => trivial) (Or.inl ⟨by rfl, ?_⟩) hS ?_
            rotate_left
            · intro X hX
              clear hX
              go_simp
              try with_reducible rfl
            try simp only [List.getElem_toArray, List.getElem_cons_zero, List.getElem_cons_succ]
            simp only [Act.put, List.setIfInBounds_toArray, List.set_cons_zero, List.set_cons_succ]
            replace hS := (one_ind (i := 8) (by decide) _ _).2 hS
            refine anyL_take (fun _ => True) [] (i := 9) (v := ?_) rfl (by kernel_rfl) (by kernel_rfl) (by kernel_rfl) (fun _ _ _ h => h) (by kernel_rfl) (one_ind (i := 9) (by decide)) (fun _ _ _ _ => trivial) (Or.inl ⟨by rfl, ?_⟩) hS ?_
            rotate_left
            · intro X hX
              clear hX
              go_simp
              try with_reducible rfl
            try simp only [List.getElem_toArray, List.getElem_cons_zero, List.getElem_cons_succ]
            simp only [Act.put, List.setIfInBounds_toArray, List.set_cons_zero, List.set_cons_succ]
            replace hS := (one_ind (i := 9) (by decide) _ _).2 hS
            refine anyL_take (fun _ => True) [] (i := 10) (v := ?_) rfl (by kernel_rfl) (by kernel_rfl) (by kernel_rfl) (fun _ _ _ h => h) (by kernel_rfl) (one_ind (i := 10) (by decide)) (fun _ _ _ _ => trivial) (Or.inl ⟨by rfl, ?_⟩) hS ?_
            rotate_left
            · intro X hX
              clear hX
              go_simp
              try with_reducible rfl
            try simp only [List.getElem_toArray, List.getElem_cons_zero, List.getElem_cons_succ]
            simp only [Act.put, List.setIfInBounds_toArray, List.set_cons_zero, List.set_cons_succ]
            replace hS := (one_ind (i := 10) (by decide) _ _).2 hS
            refine anyL_take (fun X => X.cell? ad = some (.int .u8 x.op) ∧ X.cell? ⟨w.heap.size, 0, none⟩ = some (.int .i64 x.op)) [] (i := 11) (v := ?_) rfl (by kernel_rfl) (by kernel_rfl) (by kernel_rfl) (fun _ _ _ h => h) (by kernel_rfl) (one_ind (i := 11) (by decide)) (fun L X h1 h2 => h2.2) (Or.inl ⟨by rfl, ?_⟩) hS ?_
            rotate_left
            · intro X hX
              obtain ⟨g1, g2⟩ := hX
              go_simp
              try with_reducible rfl
            try simp only [List.getElem_toArray, List.getElem_cons_zero, List.getElem_cons_succ]
            simp only [Act.put, List.setIfInBounds_toArray, List.set_cons_zero, List.set_cons_succ]
            replace hS := (one_ind (i := 11) (by decide) _ _).2 hS
            refine anyL_take (fun _ => True) [] (i := 12) (v := ?_) rfl (by kernel_rfl) (by kernel_rfl) (by kernel_rfl) (fun _ _ _ h => h) (by kernel_rfl) (one_ind (i := 12) (by decide)) (fun _ _ _ _ => trivial) (Or.inl ⟨by rfl, ?_⟩) hS ?_
            rotate_left
            · intro X hX
              clear hX
              go_simp
              try with_reducible rfl
            try simp only [List.getElem_toArray, List.getElem_cons_zero, List.getElem_cons_succ]
            simp only [Act.put, List.setIfInBounds_toArray, List.set_cons_zero, List.set_cons_succ]
            replace hS := (one_ind (i := 12) (by decide) _ _).2 hS
            refine anyL_take (fun X => X.cell? ad = some (.int .u8 x.op) ∧ X.cell? ⟨w.heap.size, 0, none⟩ = some (.int .i64 x.op)) [] (i := 13) (v := ?_) rfl (by kernel_rfl) (by kernel_rfl) (by kernel_rfl) (fun _ _ _ h => h) (by kernel_rfl) (one_ind (i := 13) (by decide)) (fun L X h1 h2 => h2.2) (Or.inl ⟨by rfl, ?_⟩) hS ?_
            rotate_left
            · intro X hX
              obtain ⟨g1, g2⟩ := hX
              go_simp
              try with_reducible rfl
            try simp only [List.getElem_toArray, List.getElem_cons_zero, List.getElem_cons_succ]
            simp only [Act.put, List.setIfInBounds_toArray, List.set_cons_zero, List.set_cons_succ]
            replace hS := (one_ind (i := 13) (by decide) _ _).2 hS
            refine anyL_take (fun _ => True) [] (i := 14) (v := ?_) rfl (by kernel_rfl) (by kernel_rfl) (by kernel_rfl) (fun _ _ _ h => h) (by kernel_rfl) (one_ind (i := 14) (by decide)) (fun _ _ _ _ => trivial) (Or.inl ⟨by rfl, ?_⟩) hS ?_
            rotate_left
            · intro X hX
              clear hX
              go_simp
              try with_reducible rfl
            try simp only [List.getElem_toArray, List.getElem_cons_zero, List.getElem_cons_succ]
            simp only [Act.put, List.setIfInBounds_toArray, List.set_cons_zero, List.set_cons_succ]
            replace hS := (one_ind (i := 14) (by decide) _ _).2 hS
            try rw [hov]
            refine anyL_take (fun _ => True) [] (i := 15) (v := ?_) rfl (by kernel_rfl) (by kernel_rfl) (by kernel_rfl) (fun _ _ _ h => h) (by kernel_rfl) (one_ind (i := 15) (by decide)) (fun _ _ _ _ => trivial) (Or.inl ⟨by rfl, ?_⟩) hS ?_
            rotate_left
            · intro X hX
              clear hX
              go_simp
              try with_reducible rfl
            try simp only [List.getElem_toArray, List.getElem_cons_zero, List.getElem_cons_succ]
            simp only [Act.put, List.setIfInBounds_toArray, List.set_cons_zero, List.set_cons_succ]
            replace hS := (one_ind (i := 15) (by decide) _ _).2 hS
            refine anyL_take (fun _ => True) [] (i := 16) (v := ?_) rfl (by kernel_rfl) (by kernel_rfl) (by kernel_rfl) (fun _ _ _ h => h) (by kernel_rfl) (one_ind (i := 16) (by decide)) (fun _ _ _ _ => trivial) (Or.inl ⟨by rfl, ?_⟩) hS ?_
            rotate_left
            · intro X hX
              clear hX
              go_simp
              try with_reducible rfl
            try simp only [List.getElem_toArray, List.getElem_cons_zero, List.getElem_cons_succ]
            simp only [Act.put, List.setIfInBounds_toArray, List.set_cons_zero, List.set_cons_succ]
            replace hS := (one_ind (i := 16) (by decide) _ _).2 hS
            refine anyL_take (fun _ => True) [] (i := 17) (v := ?_) rfl (by kernel_rfl) (by kernel_rfl) (by kernel_rfl) (fun _ _ _ h => h) (by kernel_rfl) (one_ind (i := 17) (by decide)) (fun _ _ _ _ => trivial) (Or.inl ⟨by rfl, ?_⟩) hS ?_
            rotate_left
            · intro X hX
              clear hX
              go_simp
              try with_reducible rfl
            try simp only [List.getElem_toArray, List.getElem_cons_zero, List.getElem_cons_succ]
            simp only [Act.put, List.setIfInBounds_toArray, List.set_cons_zero, List.set_cons_succ]
            replace hS := (one_ind (i := 17) (by decide) _ _).2 hS
            refine anyL_take (fun _ => True) [] (i := 18) (v := ?_) rfl (by kernel_rfl) (by kernel_rfl) (by kernel_rfl) (fun _ _ _ h => h) (by kernel_rfl) (one_ind (i := 18) (by decide)) (fun _ _ _ _ => trivial) (Or.inl ⟨by rfl, ?_⟩) hS ?_
            rotate_left
            · intro X hX
              clear hX
              go_simp
              try with_reducible rfl
            try simp only [List.getElem_toArray, List.getElem_cons_zero, List.getElem_cons_succ]
            simp only [Act.put, List.setIfInBounds_toArray, List.set_cons_zero, List.set_cons_succ]
            replace hS := (one_ind (i := 18) (by decide) _ _).2 hS
            refine anyL_take (fun X => X.cell? ad = some (.int .u8 x.op) ∧ X.cell? ⟨w.heap.size, 0, none⟩ = some (.int .i64 x.op)) [] (i := 19) (v := ?_) rfl (by kernel_rfl) (by kernel_rfl) (by kernel_rfl) (fun _ _ _ h => h) (by kernel_rfl) (one_ind (i := 19) (by decide)) (fun L X h1 h2 => h2.2) (Or.inl ⟨by rfl, ?_⟩) hS ?_
            rotate_left
            · intro X hX
              obtain ⟨g1, g2⟩ := hX
              go_simp
              try with_reducible rfl
            try simp only [List.getElem_toArray, List.getElem_cons_zero, List.getElem_cons_succ]
            simp only [Act.put, List.setIfInBounds_toArray, List.set_cons_zero, List.set_cons_succ]
            replace hS := (one_ind (i := 19) (by decide) _ _).2 hS
            clear hS
            refine anyL_step (i := 20) (by kernel_rfl) rfl (by rfl) (fun K hK => ?_)
            go_simp
            refine (Name_calls x.op _).mono ?_
            rintro e w7 ⟨rfl, b7⟩
            replace H := H.below b7
            replace hv0 := cell_below b7 _ _ hv0
            clear b7
            dsimp only
            refine hK.out _ _ ⟨fun _ => trivial, ⟨hv0, H.c.cell 0⟩⟩ ?_
            clear hK K
            try simp only [Act.put, List.setIfInBounds_toArray, List.set_cons_zero, List.set_cons_succ]
            have hS : oneQ 99 (fun _ => True) (fun X => X.cell? ad = some (.int .u8 x.op) ∧ X.cell? ⟨w.heap.size, 0, none⟩ = some (.int .i64 x.op)) ((((((((((((((((((((((Array.replicate 23 false).setIfInBounds 0 true).setIfInBounds 1 true).setIfInBounds 2 true).setIfInBounds 3 true).setIfInBounds 4 true).setIfInBounds 5 true).setIfInBounds 6 true).setIfInBounds 7 true).setIfInBounds 8 true).setIfInBounds 9 true).setIfInBounds 10 true).setIfInBounds 11 true).setIfInBounds 12 true).setIfInBounds 13 true).setIfInBounds 14 true).setIfInBounds 15 true).setIfInBounds 16 true).setIfInBounds 17 true).setIfInBounds 18 true).setIfInBounds 19 true).setIfInBounds 20 true) w7 := ⟨fun _ => trivial, ⟨hv0, H.c.cell 0⟩⟩
            refine anyL_take (fun _ => True) [] (i := 21) (v := ?_) rfl (by kernel_rfl) (by kernel_rfl) (by kernel_rfl) (fun _ _ _ h => h) (by kernel_rfl) (one_ind (i := 21) (by decide)) (fun _ _ _ _ => trivial) (Or.inl ⟨by rfl, ?_⟩) hS ?_
            rotate_left
            · intro X hX
              clear hX
              go_simp
              try with_reducible rfl
            try simp only [List.getElem_toArray, List.getElem_cons_zero, List.getElem_cons_succ]
            simp only [Act.put, List.setIfInBounds_toArray, List.set_cons_zero, List.set_cons_succ]
            replace hS := (one_ind (i := 21) (by decide) _ _).2 hS
            refine anyL_take (fun _ => True) [] (i := 22) (v := ?_) rfl (by kernel_rfl) (by kernel_rfl) (by kernel_rfl) (fun _ _ _ h => h) (by kernel_rfl) (one_ind (i := 22) (by decide)) (fun _ _ _ _ => trivial) (Or.inl ⟨by rfl, ?_⟩) hS ?_
            rotate_left
            · intro X hX
              clear hX
              go_simp
              try with_reducible rfl
            try simp only [List.getElem_toArray, List.getElem_cons_zero, List.getElem_cons_succ]
            simp only [Act.put, List.setIfInBounds_toArray, List.set_cons_zero, List.set_cons_succ]
            replace hS := (one_ind (i := 22) (by decide) _ _).2 hS
            clear hS
            refine anyL_done (by kernel_rfl) ?_ _
            obtain ⟨m0, m1, m2, m3, m4, m5⟩ := load_cm H.c
            have hnm : (wordS x.op nameL).toList.isEmpty = false := name_empty x.op o1 o2
            have HF := Lib.hid H.k.2
            clear H hv0 sb
            go_upto_if 99 with fail
            rw [hnm]
            clear hnm
            have hend : hasN x.op 2 = true → 0 < x.v.length ∧ ed = 0 ∧ rd = rl := fun h2 => by
              have hd : doublesOk x f := ⟨hok, ⟨f0, f1⟩, h2⟩
              refine ⟨?_, ?_, ?_⟩
              · have := ov.out
                rw [has_vec] at h2; simp at h2
                rw [if_pos (by omega)] at this
                omega
              · rw [← hed.out, if_pos hd]
              · rw [← hrd.out, hrl.out]; unfold doublesR; rw [if_pos hd]
            have hend2 : hasN x.op 2 = false → x.v.length = 0 ∧ ed = 2 := fun h2 => by
              refine ⟨?_, ?_⟩
              · have := ov.out
                rw [has_vec] at h2; simp at h2
                rw [if_neg (by omega)] at this
                rw [this]; rfl
              · rw [← hed.out, if_neg (fun h => by have := h.2.2; rw [h2] at this; cases this)]
            cases h2 : hasN x.op 2 with
            | true =>
              obtain ⟨hp, he1, he2⟩ := hend h2
              have hp1 : ((x.v.length : Int) == 0) = false := by rw [beq_eq_false_iff_ne]; omega
              clear hend hend2 hed hrd
              subst he1
              subst he2
              go_wp2_with fail
              go_ret
              exact ⟨rfl, HF.out⟩
            | false =>
              obtain ⟨hp, he1⟩ := hend2 h2
              clear hend hend2 hed hrd
              subst he1
              have hp1 : ((x.v.length : Int) == 0) = true := by rw [hp]; rfl
              go_wp2_with fail
              go_ret
              exact ⟨rfl, HF.out⟩
end Go.Proofs.Ytjdablkdndmcgaa
