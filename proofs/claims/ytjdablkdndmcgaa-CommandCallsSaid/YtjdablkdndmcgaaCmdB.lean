/- CmdB: command.put: a command's bytes. -/
import Derived.Test.YtjdablkdndmcgaaFloL
import Derived.Test.YtjdablkdndmcgaaCmdQ
import Derived.Test.YtjdablkdndmcgaaLit
import Derived.Test.YtjdablkdndmcgaaOneQ
import Derived.Deep.DeepCutAuto
import Derived.Deep.CutBlock
namespace Go.Proofs.Ytjdablkdndmcgaa
set_option linter.unusedVariables false
set_option linter.unusedSimpArgs false
open Go.RowKit
def idB (x : Cm) : List Int := if hasN x.op 1 = true then lowB x.id 8 else []
def numB (how : Nat) (n : Int) : List Int := if how = 0 then lowB (IntKind.u64.wrap n) 2 else lowB (ldx n (how - 1) : Int) 8
def vecB (x : Cm) (how : Nat) : List Int := if hasN x.op 2 = true then [(how : Int)] ++ lowB x.v.length 2 ++ x.v.flatMap (numB how) else []
def kB (x : Cm) : List Int := if hasN x.op 4 = true then lowB x.k 4 ++ lowB x.p 4 else []
def dB (x : Cm) : List Int := if hasN x.op 8 = true then lowB x.d.length 2 ++ x.d.flatMap (fun y => lowB y 8) else []
def putB (x : Cm) (how : Nat) : List Int := [x.op] ++ idB x ++ vecB x how ++ kB x ++ dB x
/-- The numbers lie within their kinds. -/
structure CmB (x : Cm) : Prop where
  id : x.id ≤ 9223372036854775807
  v : ∀ n ∈ x.v, -32768 ≤ n ∧ n ≤ 32767
  d : ∀ n ∈ x.d, 0 ≤ n ∧ n ≤ 18446744073709551615
theorem Ldexp_n (n : Int) (k : Nat) (w : World) (h0 : -32768 ≤ n) (h1 : n ≤ 32767) (hk : k ≤ 15) :
    Calls Try.prog 58 #[.float .f64 (floatOfInt .f64 n), .int .i64 (-(k : Int))] w fun e w' => e = .returned (.float .f64 (ldx n k)) ∧ w' = w := by
  by_cases hn : n = 0
  · subst hn
    exact Ldexp_zero _ w
  · obtain ⟨n1, p0, p1, _⟩ := near_nrm n h0 h1 hn
    have := Ldexp_calls _ k w n1 hk p0 p1
    unfold ldx
    rw [if_neg hn]
    exact this
/-- Where put stands: the bytes so far, and the command in its box. -/
structure PB (w0 w1 : World) (x : Cm) (A : Option Addr) (a : Nat) (B : Option Addr) (b : Nat) (zs : List Int) (V : Option Addr) (cv : Nat) : Prop where
  o : OwnI w1 (w0.heap.size + 1) 5 .u8 V cv zs
  c : Blk w1 w0.heap.size 34 (cmC x A a B b)
  b : Below w0.heap.size w0 w1
theorem PB.size {w0 w1 : World} {x : Cm} {A : Option Addr} {a : Nat} {B : Option Addr} {b : Nat} {zs : List Int} {V : Option Addr} {cv : Nat} (h : PB w0 w1 x A a B b zs V cv) : w0.heap.size + 1 ≤ w1.heap.size := h.c.lt
theorem PB.next {w0 w1 w2 : World} {x : Cm} {A : Option Addr} {a : Nat} {B : Option Addr} {b : Nat} {zs zs' : List Int} {V V' : Option Addr} {cv cv' : Nat} (h : PB w0 w1 x A a B b zs V cv) (hb : Below w1.heap.size w1 w2) (ho : OwnI w2 w1.heap.size 5 .u8 V' cv' zs') : PB w0 w2 x A a B b zs' V' cv' :=
  ⟨own_mono ho h.size, h.c.below hb, below_row h.b h.b.size (grown_of_below hb none) (fun k hk => by cases hk)⟩
theorem PB.below {w0 w1 w2 : World} {x : Cm} {A : Option Addr} {a : Nat} {B : Option Addr} {b : Nat} {zs : List Int} {V : Option Addr} {cv : Nat} (h : PB w0 w1 x A a B b zs V cv) (hb : Below w1.heap.size w1 w2) : PB w0 w2 x A a B b zs V cv :=
  ⟨own_below h.o hb, h.c.below hb, below_row h.b h.b.size (grown_of_below hb none) (fun k hk => by cases hk)⟩
/-- Something is put behind in place. -/
theorem PB.app {w0 w1 w2 : World} {x : Cm} {A : Option Addr} {a : Nat} {B : Option Addr} {b : Nat} {zs zs' : List Int} {V V' : Option Addr} {cv cv' : Nat} (h : PB w0 w1 x A a B b zs V cv) (hg : w1.grownBy w2 (Value.slice V zs.length cv).ownBlock) (ho : OwnI w2 (w0.heap.size + 1) 5 .u8 V' cv' zs') : PB w0 w2 x A a B b zs' V' cv' :=
  ⟨ho, h.c.kept hg (fun e => by have := (h.o.lt _ e.symm).1; omega), below_row h.b h.b.size hg (fun k hk => by have := (h.o.lt k hk).1; omega)⟩
theorem wrap_in (x : Int) (h0 : 0 ≤ x) (h1 : x < 18446744073709551616) : IntKind.u64.wrap x = x := by
  obtain ⟨n, rfl⟩ := Int.eq_ofNat_of_zero_le h0
  exact wrap_nat n (by omega)
theorem wrap_how (how : Nat) (h : how ≤ 16) : IntKind.u8.wrap (how : Int) = (how : Int) := by
  simp [IntKind.wrap, IntKind.signed, IntKind.bits]
  omega
set_option maxHeartbeats 1000000 in
set_option maxRecDepth 20000 in
theorem put_calls (x : Cm) (A : Option Addr) (a : Nat) (B : Option Addr) (b : Nat) (how : Nat) (w : World) (hk : CmK w x A a B b) (hok : cmOk x) (hx : CmB x) (hh : how ≤ 16) (r : List Int) (hr : Hid (putB x how = r)) :
    Calls Try.prog 38 #[.agg (cmC x A a B b).toArray, .int .i64 (how : Int)] w fun e w' => RetOwn 5 .u8 r w e w' := by
  have hmix : Try.prog.follows .mixedOrders = true := by kernel_rfl
  have hok' := hok
  unfold cmOk at hok'
  obtain ⟨⟨o1, o2⟩, oid, ov, ok, od⟩ := hok'
  have hid : hasN x.op 1 = true → 1 ≤ x.id := fun h => by
    rw [has_id] at h; simp at h; rw [if_pos (by omega)] at oid; exact oid
  have hv : x.v.length ≤ 1024 := by split at ov <;> simp_all
  have hd : x.d.length ≤ 4096 := by split at od <;> simp_all
  have hkk : (0 ≤ x.k ∧ x.k ≤ 2147483647) ∧ 0 ≤ x.p ∧ x.p ≤ 2147483647 := by
    split at ok
    · exact ok
    · omega
  clear oid ov ok od hok
  obtain ⟨z1, hz1⟩ : ∃ z, z = [x.op] ++ idB x := ⟨_, rfl⟩
  obtain ⟨z2, hz2⟩ : ∃ z, z = z1 ++ vecB x how := ⟨_, rfl⟩
  obtain ⟨z3, hz3⟩ : ∃ z, z = z2 ++ kB x := ⟨_, rfl⟩
  have hz4 : r = z3 ++ dB x := by rw [← hr.out, hz3, hz2, hz1]; rfl
  have l1 : z1.length ≤ 100 := by
    rw [hz1]; unfold idB
    split <;> simp [lowB_length]
  have lf : (x.v.flatMap (numB how)).length ≤ 8 * x.v.length := by
    generalize x.v = v
    induction v with
    | nil => simp
    | cons y v ih =>
      simp only [List.flatMap_cons, List.length_append, List.length_cons]
      have : (numB how y).length ≤ 8 := by unfold numB; split <;> simp [lowB_length]
      omega
  have l2 : z2.length ≤ 10000 := by
    rw [hz2]; unfold vecB
    split
    · simp only [List.length_append, lowB_length, List.length_cons, List.length_nil]; omega
    · simp only [List.length_append, List.length_nil]; omega
  have l3 : z3.length ≤ 11000 := by
    rw [hz3]; unfold kB
    split <;> simp only [List.length_append, lowB_length, List.length_nil] <;> omega
  clear lf hr
  replace hz1 := Lib.hid hz1
  replace hz2 := Lib.hid hz2
  replace hz3 := Lib.hid hz3
  replace hz4 := Lib.hid hz4
  have h0 : Blk (w.alloc (.cells (cmC x A a B b).toArray 34)) w.heap.size 34 (cmC x A a B b) := Blk.new w _ _
  have B0 := below_box0 w (.cells (cmC x A a B b).toArray 34)
  have B1 := below_box0 (w.alloc (.cells (cmC x A a B b).toArray 34)) (.cells (nums .u8 [x.op]).toArray 5)
  have H : PB w ((w.alloc (.cells (cmC x A a B b).toArray 34)).alloc (.cells (nums .u8 [x.op]).toArray 5)) x A a B b [x.op] (some ⟨w.heap.size + 1, 0, none⟩) 1 :=
    ⟨by
      have := World.ownsRow_lit (base := (w.alloc (.cells (cmC x A a B b).toArray 34)).heap.size) (e := 5) (size := 1) (w.alloc (.cells (cmC x A a B b).toArray 34)) (nums .u8 [x.op]).toArray 1 (Nat.le_refl _) (by decide) (by rfl)
      simp at this
      exact this, h0.below B1, below_row B0 B0.size (grown_of_below B1 none) (fun k hk => by cases hk)⟩
  obtain ⟨l0, l1', l2', l3', l4, l5⟩ := load_cm (h0)
  replace H := Lib.hid H
  clear h0 B0 B1
  simp only [cmC] at l0 l1' l2' l3' l4 l5 ⊢
  go_enter Try.func38, Try.ntmps38
  go_wp2_with fail
  refine (has_calls x.op 1 _).mono ?_
  rintro e W1 ⟨rfl, hW1⟩
  subst hW1
  go_upto_if 16 with fail
  go_cut [5] (fun s5 w' => ∃ V cv, s5 = .slice V z1.length cv ∧ PB w w' x A a B b z1 V cv)
  case first =>
    cases h1 : hasN x.op 1 with
    | false =>
      have e1 : z1 = [x.op] := by rw [hz1.out]; unfold idB; rw [h1]; simp
      go_wp2_with fail
      go_meet
      exact ⟨_, _, by rw [e1]; rfl, by rw [e1]; exact H.out⟩
    | true =>
      have e1 : [x.op] ++ lowB x.id 8 = z1 := by rw [hz1.out]; unfold idB; rw [h1, if_pos rfl]
      have hid1 := hid h1
      have hid2 := hx.id
      replace e1 := Lib.hid e1
      go_wp2_with fail
      refine (Put_is (some ⟨w.heap.size + 1, 0, none⟩) 1 [x.op] x.id 8 _ (OwnI.sl H.out.o) (show 1 ≤ 140737488355320 by decide) z1 (Lib.hid (by rw [show many8 8 = 8 from rfl]; exact e1.out))).mono ?_
      rintro e w1 ⟨V, cv, rfl, o1, b1⟩
      have HN := Lib.hid (H.out.next b1 o1)
      clear o1 b1
      go_wp2_with fail
      go_meet
      exact ⟨V, cv, rfl, HN.out⟩
  case rest =>
    clear H l0 l1' l2' l3' l4 l5
    obtain ⟨V, cv, rfl, hP⟩ := hcut
    obtain ⟨l0, l1', l2', l3', l4, l5⟩ := load_cm hP.c
    have HP := Lib.hid hP
    clear hP
    go_wp2_with fail
    refine (has_calls x.op 2 _).mono ?_
    rintro e W2 ⟨rfl, hW2⟩
    subst hW2
    go_upto_if 24 with fail
    go_cut [5] (fun s5 w' => ∃ V cv, s5 = .slice V z2.length cv ∧ PB w w' x A a B b z2 V cv)
    case first =>
      cases h2 : hasN x.op 2 with
      | false =>
        have e1 : z2 = z1 := by rw [hz2.out]; unfold vecB; rw [h2]; simp
        go_wp2_with fail
        go_meet
        exact ⟨_, _, by rw [e1], by rw [e1]; exact HP.out⟩
      | true =>
        obtain ⟨y2, hy2⟩ : ∃ y, y = z1 ++ [(how : Int)] ++ lowB x.v.length 2 := ⟨_, rfl⟩
        have e1 : z2 = y2 ++ x.v.flatMap (numB how) := by rw [hz2.out, hy2]; unfold vecB; rw [h2, if_pos rfl]; simp
        have ly2 : y2.length = z1.length + 3 := by rw [hy2]; simp [lowB_length]
        replace e1 := Lib.hid e1
        replace hy2 := Lib.hid hy2
        replace ly2 := Lib.hid ly2
        go_wp2_with fail
        refine region_L (oneQ 99 (fun _ => True) (fun X => X.cell? ⟨w.heap.size, 2, none⟩ = some (.slice A x.v.length a))) hmix ?_
        have h := HP.out.below ((Below.refl W2.heap.size W2).drew)
        clear l0 l1' l2' l3' l4 l5
        generalize W2.drew = V0 at *
        have hS : oneQ 99 (fun _ => True) (fun X => X.cell? ⟨w.heap.size, 2, none⟩ = some (.slice A x.v.length a)) (Array.replicate 11 false) V0 := ⟨fun _ => trivial, h.c.cell 2⟩
        refine anyL_take (fun _ => True) [] (i := 0) (v := ?_) rfl (by kernel_rfl) (by kernel_rfl) (by kernel_rfl) (fun _ _ _ h => h) (by kernel_rfl) (one_ind (i := 0) (by decide)) (fun _ _ _ _ => trivial) (Or.inl ⟨by rfl, ?_⟩) hS ?_
        rotate_left
        · intro X hX
          clear hX
          go_simp
          try with_reducible rfl
        try simp only [List.getElem_toArray, List.getElem_cons_zero, List.getElem_cons_succ]
        simp only [Act.put, List.setIfInBounds_toArray, List.set_cons_zero, List.set_cons_succ]
        replace hS := (one_ind (i := 0) (by decide) _ _).2 hS
        refine anyL_take (fun _ => True) [] (i := 1) (v := ?_) rfl (by kernel_rfl) (by kernel_rfl) (by kernel_rfl) (fun _ _ _ h => h) (by kernel_rfl) (one_ind (i := 1) (by decide)) (fun _ _ _ _ => trivial) (Or.inl ⟨by rfl, ?_⟩) hS ?_
        rotate_left
        · intro X hX
          clear hX
          go_simp
          try with_reducible rfl
        try simp only [List.getElem_toArray, List.getElem_cons_zero, List.getElem_cons_succ]
        simp only [Act.put, List.setIfInBounds_toArray, List.set_cons_zero, List.set_cons_succ]
        replace hS := (one_ind (i := 1) (by decide) _ _).2 hS
        refine anyL_take (fun _ => True) [] (i := 2) (v := ?_) rfl (by kernel_rfl) (by kernel_rfl) (by kernel_rfl) (fun _ _ _ h => h) (by kernel_rfl) (one_ind (i := 2) (by decide)) (fun _ _ _ _ => trivial) (Or.inl ⟨by rfl, ?_⟩) hS ?_
        rotate_left
        · intro X hX
          clear hX
          go_simp
          try with_reducible rfl
        try simp only [List.getElem_toArray, List.getElem_cons_zero, List.getElem_cons_succ]
        simp only [Act.put, List.setIfInBounds_toArray, List.set_cons_zero, List.set_cons_succ]
        replace hS := (one_ind (i := 2) (by decide) _ _).2 hS
        rw [wrap_how how hh]
        refine anyL_take (fun _ => True) [] (i := 5) (v := ?_) rfl (by kernel_rfl) (by kernel_rfl) (by kernel_rfl) (fun _ _ _ h => h) (by kernel_rfl) (one_ind (i := 5) (by decide)) (fun _ _ _ _ => trivial) (Or.inl ⟨by rfl, ?_⟩) hS ?_
        rotate_left
        · intro X hX
          clear hX
          go_simp
          try with_reducible rfl
        try simp only [List.getElem_toArray, List.getElem_cons_zero, List.getElem_cons_succ]
        simp only [Act.put, List.setIfInBounds_toArray, List.set_cons_zero, List.set_cons_succ]
        replace hS := (one_ind (i := 5) (by decide) _ _).2 hS
        refine anyL_take (fun X => X.cell? ⟨w.heap.size, 2, none⟩ = some (.slice A x.v.length a)) [] (i := 6) (v := ?_) rfl (by kernel_rfl) (by kernel_rfl) (by kernel_rfl) (fun _ _ _ h => h) (by kernel_rfl) (one_ind (i := 6) (by decide)) (fun L X h1 h2 => h2.2) (Or.inl ⟨by rfl, ?_⟩) hS ?_
        rotate_left
        · intro X hX
          have g1 := hX; clear hX
          go_simp
          try with_reducible rfl
        try simp only [List.getElem_toArray, List.getElem_cons_zero, List.getElem_cons_succ]
        simp only [Act.put, List.setIfInBounds_toArray, List.set_cons_zero, List.set_cons_succ]
        replace hS := (one_ind (i := 6) (by decide) _ _).2 hS
        refine anyL_take (fun _ => True) [] (i := 7) (v := ?_) rfl (by kernel_rfl) (by kernel_rfl) (by kernel_rfl) (fun _ _ _ h => h) (by kernel_rfl) (one_ind (i := 7) (by decide)) (fun _ _ _ _ => trivial) (Or.inl ⟨by rfl, ?_⟩) hS ?_
        rotate_left
        · intro X hX
          clear hX
          go_simp
          try with_reducible rfl
        try simp only [List.getElem_toArray, List.getElem_cons_zero, List.getElem_cons_succ]
        simp only [Act.put, List.setIfInBounds_toArray, List.set_cons_zero, List.set_cons_succ]
        replace hS := (one_ind (i := 7) (by decide) _ _).2 hS
        refine anyL_take (fun _ => True) [] (i := 8) (v := ?_) rfl (by kernel_rfl) (by kernel_rfl) (by kernel_rfl) (fun _ _ _ h => h) (by kernel_rfl) (one_ind (i := 8) (by decide)) (fun _ _ _ _ => trivial) (Or.inl ⟨by rfl, ?_⟩) hS ?_
        rotate_left
        · intro X hX
          clear hX
          go_simp
          try with_reducible rfl
        try simp only [List.getElem_toArray, List.getElem_cons_zero, List.getElem_cons_succ]
        simp only [Act.put, List.setIfInBounds_toArray, List.set_cons_zero, List.set_cons_succ]
        replace hS := (one_ind (i := 8) (by decide) _ _).2 hS
        rw [wrap_nat x.v.length (by omega)]
        have hb2 := h.below (below_box0 V0 (.cells #[.int .u8 (how : Int)] 5))
        have hel : Rd (V0.alloc (.cells #[.int .u8 (how : Int)] 5)) (some ⟨V0.heap.size, 0, none⟩) (nums .u8 [(how : Int)]) := .inr ⟨_, rfl, World.news_of_block (cs := #[.int .u8 (how : Int)]) (t := 5) (fr := (0, 0)) (heap_alloc_new V0 _)⟩
        clear hS
        refine anyL_step (i := 3) (by kernel_rfl) rfl (by rfl) (fun K hK => ?_)
        go_simp
        refine hK.out _ _ ⟨fun _ => trivial, hb2.c.cell 2⟩ ?_
        clear hK K
        try simp only [Act.put, List.setIfInBounds_toArray, List.set_cons_zero, List.set_cons_succ]
        generalize hV1 : V0.alloc (.cells #[.int .u8 (how : Int)] 5) = V1 at *
        obtain ⟨y1, hy1⟩ : ∃ y, y = z1 ++ [(how : Int)] := ⟨_, rfl⟩
        refine anyL_step (i := 4) (by kernel_rfl) rfl (by rfl) (fun K hK => ?_)
        refine wp_app_row (w.heap.size + 1) _ _ 25 5 .u8 1 rfl Try.underlying25 (by kernel_rfl) (by decide) V cv z1 [(how : Int)] (some ⟨V0.heap.size, 0, none⟩) 1 rfl rfl hb2.o hel hb2.size (by simp; omega) ?_
        intro D1 d1 w3 o3 hg3 _ _
        rw [← hy1] at o3 ⊢
        replace hy1 := Lib.hid hy1
        have h3 := hb2.app hg3 o3
        refine hK.out _ _ ⟨fun _ => trivial, h3.c.cell 2⟩ ?_
        clear hK K
        try simp only [Act.put, List.setIfInBounds_toArray, List.set_cons_zero, List.set_cons_succ]
        refine anyL_step (i := 9) (by kernel_rfl) rfl (by rfl) (fun K hK => ?_)
        go_simp
        refine (Put_is D1 d1 y1 x.v.length 2 _ (OwnI.sl h3.o) (by rw [hy1.out]; simp; omega) y2 (Lib.hid (by rw [show many8 2 = 2 from rfl, hy1.out, hy2.out]))).mono ?_
        rintro e w4 ⟨D2, d2, rfl, o4, b4⟩
        have h4 := h3.next b4 o4
        dsimp only
        refine hK.out _ _ ⟨fun _ => trivial, h4.c.cell 2⟩ ?_
        clear hK K
        try simp only [Act.put, List.setIfInBounds_toArray, List.set_cons_zero, List.set_cons_succ]
        have hS : oneQ 99 (fun _ => True) (fun X => X.cell? ⟨w.heap.size, 2, none⟩ = some (.slice A x.v.length a)) (((((((((((Array.replicate 11 false).setIfInBounds 0 true).setIfInBounds 1 true).setIfInBounds 2 true).setIfInBounds 5 true).setIfInBounds 6 true).setIfInBounds 7 true).setIfInBounds 8 true).setIfInBounds 3 true).setIfInBounds 4 true).setIfInBounds 9 true) w4 := ⟨fun _ => trivial, h4.c.cell 2⟩
        refine anyL_take (fun _ => True) [] (i := 10) (v := ?_) rfl (by kernel_rfl) (by kernel_rfl) (by kernel_rfl) (fun _ _ _ h => h) (by kernel_rfl) (one_ind (i := 10) (by decide)) (fun _ _ _ _ => trivial) (Or.inl ⟨by rfl, ?_⟩) hS ?_
        rotate_left
        · intro X hX
          clear hX
          go_simp
          try with_reducible rfl
        try simp only [List.getElem_toArray, List.getElem_cons_zero, List.getElem_cons_succ]
        simp only [Act.put, List.setIfInBounds_toArray, List.set_cons_zero, List.set_cons_succ]
        replace hS := (one_ind (i := 10) (by decide) _ _).2 hS
        clear hS
        refine anyL_done (by kernel_rfl) ?_ _
        have l2' := h4.c.cell 2
        simp only [cmC, List.getElem?_cons_zero, List.getElem?_cons_succ] at l2'
        have H4 := Lib.hid h4
        clear h h3 h4 hb2 hel hg3 o3 hy1 HP o4 b4
        go_wp2_with fail
        go_loopg [38, 5, 7] (x.v.length + 1) (fun gk i s5 _ w' => ∃ (j : Nat) (V : Option Addr) (cv : Nat) (zs : List Int), i = .int .i64 (j : Int) ∧ s5 = .slice V zs.length cv ∧ j ≤ x.v.length ∧ x.v.length < j + gk ∧ zs = y2 ++ (x.v.take j).flatMap (numB how) ∧ PB w w' x A a B b zs V cv)
        case atStart => exact ⟨0, D2, d2, y2, rfl, rfl, by omega, by omega, by simp, H4.out⟩
        case round =>
          obtain ⟨j, V, cv, zs, rfl, rfl, hj, hg, hz, hP⟩ := hrel
          clear H4 l2'
          by_cases hjl : j < x.v.length
          · have hjl' : (j : Int) < (x.v.length : Int) := by omega
            obtain ⟨ad, hA, hc⟩ := (hk.v.below hP.b).get j hjl
            subst hA
            obtain ⟨n, hn⟩ : ∃ n, n = x.v.getD j 0 := ⟨_, rfl⟩
            rw [← hn] at hc
            have hnb : -32768 ≤ n ∧ n ≤ 32767 := by
              rw [hn, List.getD_eq_getElem?_getD, List.getElem?_eq_getElem hjl]; exact hx.v _ (List.getElem_mem hjl)
            obtain ⟨n0, n1⟩ := hnb
            have hzn : zs ++ numB how n = y2 ++ (x.v.take (j + 1)).flatMap (numB how) := by
              rw [List.take_add_one, List.flatMap_append, ← List.append_assoc, ← hz, List.getElem?_eq_getElem hjl, hn]
              simp [List.getD_eq_getElem?_getD, List.getElem?_eq_getElem hjl]
            have hzl : zs.length ≤ 9000 := by
              have lf : ∀ v : List Int, (v.flatMap (numB how)).length ≤ 8 * v.length := fun v => by
                induction v with
                | nil => simp
                | cons y v ih =>
                  simp only [List.flatMap_cons, List.length_append, List.length_cons]
                  have : (numB how y).length ≤ 8 := by unfold numB; split <;> simp [lowB_length]
                  omega
              have := lf (x.v.take j)
              rw [hz, List.length_append, ly2.out]
              rw [List.length_take] at this
              omega
            replace hz := Lib.hid hz
            replace hzn := Lib.hid hzn
            replace hn := Lib.hid hn
            replace hzl := Lib.hid hzl
            have HP := Lib.hid hP
            clear hP
            by_cases h00 : how = 0
            · subst h00
              obtain ⟨zn, hzn2⟩ : ∃ zn, zn = zs ++ numB 0 n := ⟨_, rfl⟩
              have hput : zs ++ lowB (IntKind.u64.wrap n) 2 = zn := by rw [hzn2]; unfold numB; rw [if_pos rfl]
              replace hput := Lib.hid hput
              replace hzn2 := Lib.hid hzn2
              go_wp2_with fail
              refine (Put_is V cv zs (IntKind.u64.wrap n) 2 _ (OwnI.sl HP.out.o) (by have := hzl.out; omega) zn (Lib.hid (by rw [show many8 2 = 2 from rfl]; exact hput.out))).mono ?_
              rintro e w5 ⟨D3, d3, rfl, o5, b5⟩
              have H5 := Lib.hid (HP.out.next b5 o5)
              clear o5 b5 HP hc
              go_wp2_with fail
              go_roundg (gk - 1)
              case measure => omega
              case rel => exact ⟨j + 1, D3, d3, zn, by simp, rfl, by omega, by omega, by rw [hzn2.out]; exact hzn.out, H5.out⟩
            · have h00' : ((how : Int) == 0) = false := by simp; exact h00
              obtain ⟨zn, hzn2⟩ : ∃ zn, zn = zs ++ numB how n := ⟨_, rfl⟩
              have hput : zs ++ lowB (ldx n (how - 1) : Int) 8 = zn := by rw [hzn2]; unfold numB; rw [if_neg h00]
              replace hput := Lib.hid hput
              replace hzn2 := Lib.hid hzn2
              have e1 : 1 - (how : Int) = -((how - 1 : Nat) : Int) := by omega
              have htb := fun W => tobits (ldx n (how - 1)) W
              replace e1 := Lib.hid e1
              go_wp2_with fail
              rw [e1.out]
              refine (Ldexp_n n (how - 1) _ n0 n1 (by omega)).mono ?_
              rintro e w5 ⟨rfl, rfl⟩
              go_wp2_with fail
              refine (Put_is V cv zs (ldx n (how - 1) : Int) 8 _ (OwnI.sl HP.out.o) (by have := hzl.out; omega) zn (Lib.hid (by rw [show many8 8 = 8 from rfl]; exact hput.out))).mono ?_
              rintro e w6 ⟨D3, d3, rfl, o5, b5⟩
              have H5 := Lib.hid (HP.out.next b5 o5)
              clear o5 b5 HP hc htb
              go_wp2_with fail
              go_roundg (gk - 1)
              case measure => omega
              case rel => exact ⟨j + 1, D3, d3, zn, by simp, rfl, by omega, by omega, by rw [hzn2.out]; exact hzn.out, H5.out⟩
          obtain rfl : j = x.v.length := by omega
          rw [List.take_of_length_le (Nat.le_refl _)] at hz
          have hzz : zs = z2 := by rw [hz, e1.out]
          subst hzz
          clear hz
          have HP := Lib.hid hP
          clear hP
          go_wp2_with fail
          go_meet
          exact ⟨V, cv, rfl, HP.out⟩
    case rest =>
      clear HP l0 l1' l2' l3' l4 l5
      obtain ⟨V, cv, rfl, hP⟩ := hcut
      obtain ⟨l0, l1', l2', l3', l4, l5⟩ := load_cm hP.c
      have HP := Lib.hid hP
      clear hP
      go_wp2_with fail
      refine (has_calls x.op 4 _).mono ?_
      rintro e W3 ⟨rfl, hW3⟩
      subst hW3
      go_upto_if 60 with fail
      go_cut [5] (fun s5 w' => ∃ V cv, s5 = .slice V z3.length cv ∧ PB w w' x A a B b z3 V cv)
      case first =>
        cases h3 : hasN x.op 4 with
        | false =>
          have e1 : z3 = z2 := by rw [hz3.out]; unfold kB; rw [h3]; simp
          go_wp2_with fail
          go_meet
          exact ⟨_, _, by rw [e1], by rw [e1]; exact HP.out⟩
        | true =>
          obtain ⟨y2, hy2⟩ : ∃ y, y = z2 ++ lowB x.k 4 := ⟨_, rfl⟩
          have e1 : y2 ++ lowB x.p 4 = z3 := by rw [hz3.out, hy2]; unfold kB; rw [h3, if_pos rfl]; simp
          have ly2 : y2.length = z2.length + 4 := by rw [hy2]; simp [lowB_length]
          replace e1 := Lib.hid e1
          replace hy2 := Lib.hid hy2
          replace ly2 := Lib.hid ly2
          go_wp2_with fail
          refine region_L (oneQ 99 (fun _ => True) (fun X => X.cell? ⟨w.heap.size, 3, none⟩ = some (.int .i64 x.k) ∧ X.cell? ⟨w.heap.size, 4, none⟩ = some (.int .i64 x.p))) hmix ?_
          have h := HP.out.below ((Below.refl W3.heap.size W3).drew)
          clear l0 l1' l2' l3' l4 l5
          generalize W3.drew = V0 at *
          have hS : oneQ 99 (fun _ => True) (fun X => X.cell? ⟨w.heap.size, 3, none⟩ = some (.int .i64 x.k) ∧ X.cell? ⟨w.heap.size, 4, none⟩ = some (.int .i64 x.p)) (Array.replicate 10 false) V0 := ⟨fun _ => trivial, ⟨h.c.cell 3, h.c.cell 4⟩⟩
          refine anyL_take (fun _ => True) [] (i := 0) (v := ?_) rfl (by kernel_rfl) (by kernel_rfl) (by kernel_rfl) (fun _ _ _ h => h) (by kernel_rfl) (one_ind (i := 0) (by decide)) (fun _ _ _ _ => trivial) (Or.inl ⟨by rfl, ?_⟩) hS ?_
          rotate_left
          · intro X hX
            clear hX
            go_simp
            try with_reducible rfl
          try simp only [List.getElem_toArray, List.getElem_cons_zero, List.getElem_cons_succ]
          simp only [Act.put, List.setIfInBounds_toArray, List.set_cons_zero, List.set_cons_succ]
          replace hS := (one_ind (i := 0) (by decide) _ _).2 hS
          refine anyL_take (fun _ => True) [] (i := 1) (v := ?_) rfl (by kernel_rfl) (by kernel_rfl) (by kernel_rfl) (fun _ _ _ h => h) (by kernel_rfl) (one_ind (i := 1) (by decide)) (fun _ _ _ _ => trivial) (Or.inl ⟨by rfl, ?_⟩) hS ?_
          rotate_left
          · intro X hX
            clear hX
            go_simp
            try with_reducible rfl
          try simp only [List.getElem_toArray, List.getElem_cons_zero, List.getElem_cons_succ]
          simp only [Act.put, List.setIfInBounds_toArray, List.set_cons_zero, List.set_cons_succ]
          replace hS := (one_ind (i := 1) (by decide) _ _).2 hS
          refine anyL_take (fun X => X.cell? ⟨w.heap.size, 3, none⟩ = some (.int .i64 x.k) ∧ X.cell? ⟨w.heap.size, 4, none⟩ = some (.int .i64 x.p)) [] (i := 2) (v := ?_) rfl (by kernel_rfl) (by kernel_rfl) (by kernel_rfl) (fun _ _ _ h => h) (by kernel_rfl) (one_ind (i := 2) (by decide)) (fun L X h1 h2 => h2.2) (Or.inl ⟨by rfl, ?_⟩) hS ?_
          rotate_left
          · intro X hX
            obtain ⟨g1, g2⟩ := hX
            go_simp
            try with_reducible rfl
          try simp only [List.getElem_toArray, List.getElem_cons_zero, List.getElem_cons_succ]
          simp only [Act.put, List.setIfInBounds_toArray, List.set_cons_zero, List.set_cons_succ]
          replace hS := (one_ind (i := 2) (by decide) _ _).2 hS
          refine anyL_take (fun _ => True) [] (i := 3) (v := ?_) rfl (by kernel_rfl) (by kernel_rfl) (by kernel_rfl) (fun _ _ _ h => h) (by kernel_rfl) (one_ind (i := 3) (by decide)) (fun _ _ _ _ => trivial) (Or.inl ⟨by rfl, ?_⟩) hS ?_
          rotate_left
          · intro X hX
            clear hX
            go_simp
            try with_reducible rfl
          try simp only [List.getElem_toArray, List.getElem_cons_zero, List.getElem_cons_succ]
          simp only [Act.put, List.setIfInBounds_toArray, List.set_cons_zero, List.set_cons_succ]
          replace hS := (one_ind (i := 3) (by decide) _ _).2 hS
          rw [wrap_in x.k (by omega) (by omega)]
          refine anyL_take (fun _ => True) [] (i := 5) (v := ?_) rfl (by kernel_rfl) (by kernel_rfl) (by kernel_rfl) (fun _ _ _ h => h) (by kernel_rfl) (one_ind (i := 5) (by decide)) (fun _ _ _ _ => trivial) (Or.inl ⟨by rfl, ?_⟩) hS ?_
          rotate_left
          · intro X hX
            clear hX
            go_simp
            try with_reducible rfl
          try simp only [List.getElem_toArray, List.getElem_cons_zero, List.getElem_cons_succ]
          simp only [Act.put, List.setIfInBounds_toArray, List.set_cons_zero, List.set_cons_succ]
          replace hS := (one_ind (i := 5) (by decide) _ _).2 hS
          refine anyL_take (fun X => X.cell? ⟨w.heap.size, 3, none⟩ = some (.int .i64 x.k) ∧ X.cell? ⟨w.heap.size, 4, none⟩ = some (.int .i64 x.p)) [] (i := 6) (v := ?_) rfl (by kernel_rfl) (by kernel_rfl) (by kernel_rfl) (fun _ _ _ h => h) (by kernel_rfl) (one_ind (i := 6) (by decide)) (fun L X h1 h2 => h2.2) (Or.inl ⟨by rfl, ?_⟩) hS ?_
          rotate_left
          · intro X hX
            obtain ⟨g1, g2⟩ := hX
            go_simp
            try with_reducible rfl
          try simp only [List.getElem_toArray, List.getElem_cons_zero, List.getElem_cons_succ]
          simp only [Act.put, List.setIfInBounds_toArray, List.set_cons_zero, List.set_cons_succ]
          replace hS := (one_ind (i := 6) (by decide) _ _).2 hS
          refine anyL_take (fun _ => True) [] (i := 7) (v := ?_) rfl (by kernel_rfl) (by kernel_rfl) (by kernel_rfl) (fun _ _ _ h => h) (by kernel_rfl) (one_ind (i := 7) (by decide)) (fun _ _ _ _ => trivial) (Or.inl ⟨by rfl, ?_⟩) hS ?_
          rotate_left
          · intro X hX
            clear hX
            go_simp
            try with_reducible rfl
          try simp only [List.getElem_toArray, List.getElem_cons_zero, List.getElem_cons_succ]
          simp only [Act.put, List.setIfInBounds_toArray, List.set_cons_zero, List.set_cons_succ]
          replace hS := (one_ind (i := 7) (by decide) _ _).2 hS
          rw [wrap_in x.p (by omega) (by omega)]
          clear hS
          refine anyL_step (i := 4) (by kernel_rfl) rfl (by rfl) (fun K hK => ?_)
          go_simp
          refine (Put_is V cv z2 x.k 4 _ (OwnI.sl h.o) (by omega) y2 (Lib.hid (by rw [show many8 4 = 4 from rfl, hy2.out]))).mono ?_
          rintro e w4 ⟨D1, d1, rfl, o4, b4⟩
          have h3 := h.next b4 o4
          dsimp only
          refine hK.out _ _ ⟨fun _ => trivial, ⟨h3.c.cell 3, h3.c.cell 4⟩⟩ ?_
          clear hK K
          try simp only [Act.put, List.setIfInBounds_toArray, List.set_cons_zero, List.set_cons_succ]
          refine anyL_step (i := 8) (by kernel_rfl) rfl (by rfl) (fun K hK => ?_)
          go_simp
          refine (Put_is D1 d1 y2 x.p 4 _ (OwnI.sl h3.o) (by have := ly2.out; omega) z3 (Lib.hid (by rw [show many8 4 = 4 from rfl, e1.out]))).mono ?_
          rintro e w5 ⟨D2, d2, rfl, o5, b5⟩
          have h4 := h3.next b5 o5
          dsimp only
          refine hK.out _ _ ⟨fun _ => trivial, ⟨h4.c.cell 3, h4.c.cell 4⟩⟩ ?_
          clear hK K
          try simp only [Act.put, List.setIfInBounds_toArray, List.set_cons_zero, List.set_cons_succ]
          have hS : oneQ 99 (fun _ => True) (fun X => X.cell? ⟨w.heap.size, 3, none⟩ = some (.int .i64 x.k) ∧ X.cell? ⟨w.heap.size, 4, none⟩ = some (.int .i64 x.p)) ((((((((((Array.replicate 10 false).setIfInBounds 0 true).setIfInBounds 1 true).setIfInBounds 2 true).setIfInBounds 3 true).setIfInBounds 5 true).setIfInBounds 6 true).setIfInBounds 7 true).setIfInBounds 4 true).setIfInBounds 8 true) w5 := ⟨fun _ => trivial, ⟨h4.c.cell 3, h4.c.cell 4⟩⟩
          refine anyL_take (fun _ => True) [] (i := 9) (v := ?_) rfl (by kernel_rfl) (by kernel_rfl) (by kernel_rfl) (fun _ _ _ h => h) (by kernel_rfl) (one_ind (i := 9) (by decide)) (fun _ _ _ _ => trivial) (Or.inl ⟨by rfl, ?_⟩) hS ?_
          rotate_left
          · intro X hX
            clear hX
            go_simp
            try with_reducible rfl
          try simp only [List.getElem_toArray, List.getElem_cons_zero, List.getElem_cons_succ]
          simp only [Act.put, List.setIfInBounds_toArray, List.set_cons_zero, List.set_cons_succ]
          replace hS := (one_ind (i := 9) (by decide) _ _).2 hS
          clear hS
          refine anyL_done (by kernel_rfl) ?_ _
          clear h HP
          go_wp2_with fail
          go_meet
          exact ⟨D2, d2, rfl, h4⟩
      case rest =>
        clear HP l0 l1' l2' l3' l4 l5
        obtain ⟨V, cv, rfl, hP⟩ := hcut
        obtain ⟨l0, l1', l2', l3', l4, l5⟩ := load_cm hP.c
        have HP := Lib.hid hP
        clear hP
        go_wp2_with fail
        refine (has_calls x.op 8 _).mono ?_
        rintro e W4 ⟨rfl, hW4⟩
        subst hW4
        go_upto_if 72 with fail
        go_cut [5] (fun s5 w' => ∃ V cv, s5 = .slice V r.length cv ∧ PB w w' x A a B b r V cv)
        case first =>
          cases h4 : hasN x.op 8 with
          | false =>
            have e1 : r = z3 := by rw [hz4.out]; unfold dB; rw [h4]; simp
            go_wp2_with fail
            go_meet
            exact ⟨_, _, by rw [e1], by rw [e1]; exact HP.out⟩
          | true =>
            obtain ⟨y2, hy2⟩ : ∃ y, y = z3 ++ lowB x.d.length 2 := ⟨_, rfl⟩
            have e1 : r = y2 ++ x.d.flatMap (fun y => lowB y 8) := by rw [hz4.out, hy2]; unfold dB; rw [h4, if_pos rfl]; simp
            have ly2 : y2.length = z3.length + 2 := by rw [hy2]; simp [lowB_length]
            replace e1 := Lib.hid e1
            replace hy2 := Lib.hid hy2
            replace ly2 := Lib.hid ly2
            go_wp2_with fail
            refine (Put_is V cv z3 x.d.length 2 _ (OwnI.sl HP.out.o) (by omega) y2 (Lib.hid (by rw [show many8 2 = 2 from rfl, hy2.out]))).mono ?_
            rintro e w4 ⟨D2, d2, rfl, o4, b4⟩
            have h4' := HP.out.next b4 o4
            clear o4 b4 HP l0 l1' l2' l3' l4 l5
            have l5 := h4'.c.cell 5
            simp only [cmC, List.getElem?_cons_zero, List.getElem?_cons_succ] at l5
            have H4 := Lib.hid h4'
            clear h4'
            go_wp2_with fail
            go_loopg [82, 5, 9] (x.d.length + 1) (fun gk i s5 _ w' => ∃ (j : Nat) (V : Option Addr) (cv : Nat) (zs : List Int), i = .int .i64 (j : Int) ∧ s5 = .slice V zs.length cv ∧ j ≤ x.d.length ∧ x.d.length < j + gk ∧ zs = y2 ++ (x.d.take j).flatMap (fun y => lowB y 8) ∧ PB w w' x A a B b zs V cv)
            case atStart => exact ⟨0, D2, d2, y2, rfl, rfl, by omega, by omega, by simp, H4.out⟩
            case round =>
              obtain ⟨j, V, cv, zs, rfl, rfl, hj, hg, hz, hP⟩ := hrel
              clear H4 l5
              by_cases hjl : j < x.d.length
              · have hjl' : (j : Int) < (x.d.length : Int) := by omega
                obtain ⟨ad, hA, hc⟩ := (hk.d.below hP.b).get j hjl
                subst hA
                obtain ⟨n, hn⟩ : ∃ n, n = x.d.getD j 0 := ⟨_, rfl⟩
                rw [← hn] at hc
                have hzn : zs ++ lowB n 8 = y2 ++ (x.d.take (j + 1)).flatMap (fun y => lowB y 8) := by
                  rw [List.take_add_one, List.flatMap_append, ← List.append_assoc, ← hz, List.getElem?_eq_getElem hjl, hn]
                  simp [List.getD_eq_getElem?_getD, List.getElem?_eq_getElem hjl]
                have hzl : zs.length ≤ 50000 := by
                  have lf : ∀ v : List Int, (v.flatMap (fun y => lowB y 8)).length = 8 * v.length := fun v => by
                    induction v with
                    | nil => simp
                    | cons y v ih => simp only [List.flatMap_cons, List.length_append, List.length_cons, lowB_length, ih]; omega
                  have := lf (x.d.take j)
                  rw [hz, List.length_append, ly2.out, this, List.length_take]
                  omega
                replace hz := Lib.hid hz
                replace hzn := Lib.hid hzn
                replace hn := Lib.hid hn
                replace hzl := Lib.hid hzl
                have HP := Lib.hid hP
                clear hP
                obtain ⟨zn, hzn2⟩ : ∃ zn, zn = zs ++ lowB n 8 := ⟨_, rfl⟩
                replace hzn2 := Lib.hid hzn2
                go_wp2_with fail
                refine (Put_is V cv zs n 8 _ (OwnI.sl HP.out.o) (by have := hzl.out; omega) zn (Lib.hid (by rw [show many8 8 = 8 from rfl]; exact hzn2.out.symm))).mono ?_
                rintro e w5 ⟨D3, d3, rfl, o5, b5⟩
                have H5 := Lib.hid (HP.out.next b5 o5)
                clear o5 b5 HP hc
                go_wp2_with fail
                go_roundg (gk - 1)
                case measure => omega
                case rel => exact ⟨j + 1, D3, d3, zn, by simp, rfl, by omega, by omega, by rw [hzn2.out]; exact hzn.out, H5.out⟩
              obtain rfl : j = x.d.length := by omega
              rw [List.take_of_length_le (Nat.le_refl _)] at hz
              have hzz : zs = r := by rw [hz, e1.out]
              subst hzz
              clear hz
              have HP := Lib.hid hP
              clear hP
              go_wp2_with fail
              go_meet
              exact ⟨V, cv, rfl, HP.out⟩
        case rest =>
          clear HP l0 l1' l2' l3' l4 l5
          obtain ⟨V, cv, rfl, hP⟩ := hcut
          have HP := Lib.hid hP
          clear hP
          go_wp2_with fail
          go_ret
          exact ⟨V, cv, rfl, own_mono HP.out.o (by omega), HP.out.b⟩
end Go.Proofs.Ytjdablkdndmcgaa
