/- CmdD: Bytes, Doubles. -/
import Derived.Test.YtjdablkdndmcgaaCmdB
namespace Go.Proofs.Ytjdablkdndmcgaa
set_option linter.unusedVariables false
set_option linter.unusedSimpArgs false
open Go.RowKit
def bytesR (x : Cm) : List Int := if cmOk x then putB x 0 else []
def doublesOk (x : Cm) (f : Int) : Prop := cmOk x ∧ (0 ≤ f ∧ f ≤ 15) ∧ hasN x.op 2 = true
instance (x : Cm) (f : Int) : Decidable (doublesOk x f) := by unfold doublesOk; infer_instance
def doublesR (x : Cm) (f : Int) : List Int := if doublesOk x f then putB x (f.toNat + 1) else []
set_option maxHeartbeats 1000000 in
theorem Bytes_calls (x : Cm) (A : Option Addr) (a : Nat) (B : Option Addr) (b : Nat) (w : World) (hk : CmK w x A a B b) (hx : CmB x) (r : List Int) (hr : Hid (bytesR x = r)) (er : Int) (he : Hid ((if cmOk x then 0 else 2) = er)) :
    Calls Try.prog 16 #[.agg (cmC x A a B b).toArray] w fun e w' => ∃ V cv, e = .returned (.tuple #[.slice V r.length cv, .int .i64 er]) ∧ SlI w' .u8 V cv r ∧ Below w.heap.size w w' := by
  have h0 : Blk (w.alloc (.cells (cmC x A a B b).toArray 34)) w.heap.size 34 (cmC x A a B b) := Blk.new w _ _
  have B0 := below_box0 w (.cells (cmC x A a B b).toArray 34)
  obtain ⟨l0, l1', l2', l3', l4, l5⟩ := load_cm h0
  have HX := Lib.hid (And.intro (hk.below B0) (And.intro h0 B0))
  clear h0 B0 hk
  simp only [cmC] at l0 l1' l2' l3' l4 l5 ⊢
  by_cases hok : cmOk x
  case neg =>
    have e1 := he.out
    rw [if_neg hok] at e1
    have e2 := hr.out
    unfold bytesR at e2
    rw [if_neg hok] at e2
    subst e1
    subst e2
    go_enter Try.func16, Try.ntmps16
    go_wp2_with fail
    refine (CCheck_calls x A a B b _ HX.out.1).mono ?_
    rintro e w1 ⟨rfl, b1⟩
    rw [if_neg hok]
    have HB := Lib.hid (below_row HX.out.2.2 HX.out.2.2.size (grown_of_below b1 none) (fun k hk => by cases hk))
    clear b1 l0 l1' l2' l3' l4 l5
    go_wp2_with fail
    go_ret2
    exact ⟨none, 0, rfl, SlI.nil _ _, HB.out⟩
  have e1 := he.out
  rw [if_pos hok] at e1
  have e2 := hr.out
  unfold bytesR at e2
  rw [if_pos hok] at e2
  subst e1
  replace e2 := Lib.hid e2
  clear hr he
  go_enter Try.func16, Try.ntmps16
  go_wp2_with fail
  refine (CCheck_calls x A a B b _ HX.out.1).mono ?_
  rintro e w1 ⟨rfl, b1⟩
  rw [if_pos hok]
  have HB := Lib.hid (And.intro (HX.out.1.below b1) (below_row HX.out.2.2 HX.out.2.2.size (grown_of_below b1 none) (fun k hk => by cases hk)))
  have h1 := HX.out.2.1.below b1
  clear l0 l1' l2' l3' l4 l5 b1
  obtain ⟨l0, l1', l2', l3', l4, l5⟩ := load_cm h1
  clear h1 HX
  go_wp2_with fail
  refine (put_calls x A a B b 0 _ HB.out.1 hok hx (by decide) r e2).mono ?_
  rintro e w2 ⟨V, cv, rfl, o2, b2⟩
  have HN := Lib.hid (And.intro (OwnI.sl o2) (below_row HB.out.2 HB.out.2.size (grown_of_below b2 none) (fun k hk => by cases hk)))
  clear l0 l1' l2' l3' l4 l5 b2 o2
  go_wp2_with fail
  go_ret2
  exact ⟨V, cv, rfl, HN.out.1, HN.out.2⟩
set_option maxHeartbeats 1000000 in
theorem Doubles_calls (x : Cm) (A : Option Addr) (a : Nat) (B : Option Addr) (b : Nat) (f : Int) (w : World) (hk : CmK w x A a B b) (hx : CmB x) (r : List Int) (hr : Hid (doublesR x f = r)) (er : Int) (he : Hid ((if doublesOk x f then 0 else 2) = er)) :
    Calls Try.prog 17 #[.agg (cmC x A a B b).toArray, .int .i64 f] w fun e w' => ∃ V cv, e = .returned (.tuple #[.slice V r.length cv, .int .i64 er]) ∧ SlI w' .u8 V cv r ∧ Below w.heap.size w w' := by
  have h0 : Blk (w.alloc (.cells (cmC x A a B b).toArray 34)) w.heap.size 34 (cmC x A a B b) := Blk.new w _ _
  have B0 := below_box0 w (.cells (cmC x A a B b).toArray 34)
  obtain ⟨l0, l1', l2', l3', l4, l5⟩ := load_cm h0
  have HX := Lib.hid (And.intro (hk.below B0) (And.intro h0 B0))
  clear h0 B0 hk
  simp only [cmC] at l0 l1' l2' l3' l4 l5 ⊢
  have bad : ¬ doublesOk x f → r = [] ∧ er = 2 := fun h => by
    have e1 := he.out
    rw [if_neg h] at e1
    have e2 := hr.out
    unfold doublesR at e2
    rw [if_neg h] at e2
    exact ⟨e2.symm, e1.symm⟩
  replace bad := Lib.hid bad
  by_cases hok : cmOk x
  case neg =>
    obtain ⟨rfl, rfl⟩ := bad.out (fun h => hok h.1)
    clear hr he bad
    go_enter Try.func17, Try.ntmps17
    go_wp2_with fail
    refine (CCheck_calls x A a B b _ HX.out.1).mono ?_
    rintro e w1 ⟨rfl, b1⟩
    rw [if_neg hok]
    have HB := Lib.hid (below_row HX.out.2.2 HX.out.2.2.size (grown_of_below b1 none) (fun k hk => by cases hk))
    clear b1 l0 l1' l2' l3' l4 l5
    go_wp2_with fail
    go_ret2
    exact ⟨none, 0, rfl, SlI.nil _ _, HB.out⟩
  by_cases hf1 : f < 0
  · obtain ⟨rfl, rfl⟩ := bad.out (fun h => by have := h.2.1.1; omega)
    clear hr he bad
    go_enter Try.func17, Try.ntmps17
    go_wp2_with fail
    refine (CCheck_calls x A a B b _ HX.out.1).mono ?_
    rintro e w1 ⟨rfl, b1⟩
    rw [if_pos hok]
    have HB := Lib.hid (below_row HX.out.2.2 HX.out.2.2.size (grown_of_below b1 none) (fun k hk => by cases hk))
    clear b1 l0 l1' l2' l3' l4 l5
    go_wp2_with fail
    go_ret2
    exact ⟨none, 0, rfl, SlI.nil _ _, HB.out⟩
  by_cases hf2 : 16 ≤ f
  · obtain ⟨rfl, rfl⟩ := bad.out (fun h => by have := h.2.1.2; omega)
    clear hr he bad
    go_enter Try.func17, Try.ntmps17
    go_wp2_with fail
    refine (CCheck_calls x A a B b _ HX.out.1).mono ?_
    rintro e w1 ⟨rfl, b1⟩
    rw [if_pos hok]
    have HB := Lib.hid (below_row HX.out.2.2 HX.out.2.2.size (grown_of_below b1 none) (fun k hk => by cases hk))
    clear b1 l0 l1' l2' l3' l4 l5
    go_wp2_with fail
    go_ret2
    exact ⟨none, 0, rfl, SlI.nil _ _, HB.out⟩
  obtain ⟨k, rfl⟩ := Int.eq_ofNat_of_zero_le (show 0 ≤ f by omega)
  cases h2 : hasN x.op 2 with
  | false =>
    obtain ⟨rfl, rfl⟩ := bad.out (fun h => by have := h.2.2; rw [h2] at this; cases this)
    clear hr he bad
    go_enter Try.func17, Try.ntmps17
    go_wp2_with fail
    refine (CCheck_calls x A a B b _ HX.out.1).mono ?_
    rintro e w1 ⟨rfl, b1⟩
    rw [if_pos hok]
    have HB := Lib.hid (below_row HX.out.2.2 HX.out.2.2.size (grown_of_below b1 none) (fun k hk => by cases hk))
    have h1 := HX.out.2.1.below b1
    clear b1 l0 l1' l2' l3' l4 l5
    have l0 := h1.cell 0
    simp only [cmC, List.getElem?_cons_zero] at l0
    clear h1 HX
    go_wp2_with fail
    refine (has_calls x.op 2 _).mono ?_
    rintro e W ⟨rfl, hW⟩
    subst hW
    rw [h2]
    go_wp2_with fail
    go_ret2
    exact ⟨none, 0, rfl, SlI.nil _ _, HB.out⟩
  | true =>
    have hd : doublesOk x k := ⟨hok, ⟨by omega, by omega⟩, h2⟩
    have e1 := he.out
    rw [if_pos hd] at e1
    have e2 := hr.out
    unfold doublesR at e2
    rw [if_pos hd, show ((k : Nat) : Int).toNat = k from rfl] at e2
    subst e1
    replace e2 := Lib.hid e2
    clear hr he bad hd
    go_enter Try.func17, Try.ntmps17
    go_wp2_with fail
    refine (CCheck_calls x A a B b _ HX.out.1).mono ?_
    rintro e w1 ⟨rfl, b1⟩
    rw [if_pos hok]
    have HB := Lib.hid (And.intro (HX.out.1.below b1) (below_row HX.out.2.2 HX.out.2.2.size (grown_of_below b1 none) (fun k hk => by cases hk)))
    have h1 := HX.out.2.1.below b1
    clear l0 l1' l2' l3' l4 l5 b1
    obtain ⟨l0, l1', l2', l3', l4, l5⟩ := load_cm h1
    clear h1 HX
    go_wp2_with fail
    refine (has_calls x.op 2 _).mono ?_
    rintro e W ⟨rfl, hW⟩
    subst hW
    rw [h2]
    go_wp2_with fail
    refine (put_calls x A a B b (k + 1) _ HB.out.1 hok hx (by omega) r e2).mono ?_
    rintro e w2 ⟨V, cv, rfl, o2, b2⟩
    have HN := Lib.hid (And.intro (OwnI.sl o2) (below_row HB.out.2 HB.out.2.size (grown_of_below b2 none) (fun k hk => by cases hk)))
    clear l0 l1' l2' l3' l4 l5 b2 o2
    go_wp2_with fail
    go_ret2
    exact ⟨V, cv, rfl, HN.out.1, HN.out.2⟩
end Go.Proofs.Ytjdablkdndmcgaa
