/- CmdS: api.Cmd as a value; command.Same and the reference's. -/
import Derived.Test.YtjdablkdndmcgaaCmdA
import Derived.Test.YtjdablkdndmcgaaSlLib
import Derived.Test.YtjdablkdndmcgaaBlk
namespace Go.Proofs.Ytjdablkdndmcgaa
set_option linter.unusedVariables false
set_option linter.unusedSimpArgs false
open Go.RowKit
/-- A command. -/
structure Cm where
  op : Int
  id : Int
  v : List Int
  k : Int
  p : Int
  d : List Int
deriving DecidableEq, Inhabited
/-- Its cells. -/
def cmC (x : Cm) (A : Option Addr) (a : Nat) (B : Option Addr) (b : Nat) : List Value :=
  [.int .i64 x.op, .int .i64 x.id, .slice A x.v.length a, .int .i64 x.k, .int .i64 x.p, .slice B x.d.length b]
/-- Its slices, read. -/
structure CmK (w : World) (x : Cm) (A : Option Addr) (a : Nat) (B : Option Addr) (b : Nat) : Prop where
  v : SlI w .i16 A a x.v
  d : SlI w .u64 B b x.d
theorem CmK.below {w w' : World} {x : Cm} {A : Option Addr} {a : Nat} {B : Option Addr} {b : Nat} (h : CmK w x A a B b) (hb : Below w.heap.size w w') : CmK w' x A a B b := ⟨h.v.below hb, h.d.below hb⟩
theorem CSame_calls (x y : Cm) (A : Option Addr) (a : Nat) (B : Option Addr) (b : Nat) (A' : Option Addr) (a' : Nat) (B' : Option Addr) (b' : Nat) (w : World) (hx : CmK w x A a B b) (hy : CmK w y A' a' B' b') :
    Calls Try.prog 12 #[.agg (cmC x A a B b).toArray, .agg (cmC y A' a' B' b').toArray] w fun e w' => e = .returned (.bool (decide (x = y))) ∧ Below w.heap.size w w' := by
  obtain ⟨op, id, v, k, p, d⟩ := x
  obtain ⟨op', id', v', k', p', d'⟩ := y
  obtain ⟨hv, hd⟩ := hx
  obtain ⟨hv', hd'⟩ := hy
  unfold cmC
  dsimp only at *
  have b2 : ∀ o o', Below w.heap.size w ((w.alloc o).alloc o') := fun o o' => below_alloc (below_alloc (Below.refl _ _) _) _
  have B2 := Lib.hid b2
  clear b2
  by_cases hop : op = op'
  case neg =>
    rw [decide_eq_false (fun hh => hop (by injection hh))]
    go_enter Try.func12, Try.ntmps12
    go_wp2_with fail
    go_ret
    exact ⟨rfl, B2.out _ _⟩
  subst hop
  by_cases hid : id = id'
  case neg =>
    rw [decide_eq_false (fun hh => hid (by injection hh))]
    go_enter Try.func12, Try.ntmps12
    go_wp2_with fail
    go_ret
    exact ⟨rfl, B2.out _ _⟩
  subst hid
  by_cases hk : k = k'
  case neg =>
    rw [decide_eq_false (fun hh => hk (by injection hh))]
    go_enter Try.func12, Try.ntmps12
    go_wp2_with fail
    go_ret
    exact ⟨rfl, B2.out _ _⟩
  subst hk
  by_cases hp : p = p'
  case neg =>
    rw [decide_eq_false (fun hh => hp (by injection hh))]
    go_enter Try.func12, Try.ntmps12
    go_wp2_with fail
    go_ret
    exact ⟨rfl, B2.out _ _⟩
  subst hp
  have hv2 := fun o o' => hv.below (B2.out o o')
  have hd2 := fun o o' => hd.below (B2.out o o')
  have hv2' := fun o o' => hv'.below (B2.out o o')
  have hd2' := fun o o' => hd'.below (B2.out o o')
  clear hv hd hv' hd'
  go_enter Try.func12, Try.ntmps12
  go_wp2_with fail
  refine (Equal_int16_calls A A' a a' v v' _ (hv2 _ _) (hv2' _ _)).mono ?_
  rintro e w1 ⟨rfl, b1⟩
  by_cases e1 : v = v'
  case neg =>
    rw [decide_eq_false e1]
    go_wp2_with fail
    go_ret
    exact ⟨by rw [decide_eq_false (fun hh => e1 (by injection hh))]; rfl, below_then (B2.out _ _) (B2.out _ _).size b1⟩
  subst e1
  rw [decide_eq_true (rfl : v = v)]
  have c1 := below_then (B2.out _ _) (B2.out _ _).size b1
  have hd3 := (hd2 _ _).below b1
  have hd3' := (hd2' _ _).below b1
  have k5 := ((((Blk.new w 34 [.int .i64 op, .int .i64 id, .slice A v.length a, .int .i64 k, .int .i64 p, .slice B d.length b]).alloc (.cells #[.int .i64 op, .int .i64 id, .slice A' v.length a', .int .i64 k, .int .i64 p, .slice B' d'.length b'] 34)).below b1).cell 5)
  have k5' := ((Blk.new (w.alloc (.cells #[.int .i64 op, .int .i64 id, .slice A v.length a, .int .i64 k, .int .i64 p, .slice B d.length b] 34)) 34 [.int .i64 op, .int .i64 id, .slice A' v.length a', .int .i64 k, .int .i64 p, .slice B' d'.length b']).below b1).cell 5
  rw [show (w.alloc (.cells #[.int .i64 op, .int .i64 id, .slice A v.length a, .int .i64 k, .int .i64 p, .slice B d.length b] 34)).heap.size = w.heap.size + 1 from by simp] at k5'
  simp only [List.getElem?_cons_zero, List.getElem?_cons_succ] at k5 k5'
  clear hd2 hd2' hv2 hv2' b1
  go_wp2_with fail
  refine (Equal_uint64_calls B B' b b' d d' _ hd3 hd3').mono ?_
  rintro e w2 ⟨rfl, b2⟩
  by_cases e1 : d = d'
  case neg =>
    rw [decide_eq_false e1]
    go_wp2_with fail
    go_ret
    exact ⟨by rw [decide_eq_false (fun hh => e1 (by injection hh))]; rfl, below_then c1 c1.size b2⟩
  subst e1
  rw [decide_eq_true (rfl : d = d)]
  go_wp2_with fail
  go_ret
  exact ⟨rfl, below_then c1 c1.size b2⟩
end Go.Proofs.Ytjdablkdndmcgaa
