/- CmdCa: CommandCalls. -/
import Derived.Test.YtjdablkdndmcgaaCmdRU
import Derived.Test.YtjdablkdndmcgaaCmdRD
import Derived.Test.YtjdablkdndmcgaaCmdRN
import Derived.Test.YtjdablkdndmcgaaCmdRS
import Derived.Test.YtjdablkdndmcgaaCmdO
import Derived.Test.YtjdablkdndmcgaaCmdW
import Derived.Test.YtjdablkdndmcgaaCmdL
namespace Go.Proofs.Ytjdablkdndmcgaa
set_option linter.unusedVariables false
set_option linter.unusedSimpArgs false
open Go.RowKit
/-- The two commands in their boxes, their slices, the bytes, and what was ahead. -/
structure BXX (w w1 : World) (R : Option Addr) (cr : Nat) (raw : List Int) (x : Cm) (A : Option Addr) (a : Nat) (B : Option Addr) (b : Nat) (y : Cm) (A' : Option Addr) (a' : Nat) (B' : Option Addr) (b' : Nat) : Prop where
  c : Blk w1 w.heap.size 34 (cmC x A a B b)
  o : Blk w1 (w.heap.size + 1) 34 (cmC y A' a' B' b')
  k : CmK w1 x A a B b
  l : CmK w1 y A' a' B' b'
  r : SlI w1 .u8 R cr raw
  B : Below w.heap.size w w1
theorem BXX.below {w w1 w2 : World} {R : Option Addr} {cr : Nat} {raw : List Int} {x : Cm} {A : Option Addr} {a : Nat} {B : Option Addr} {b : Nat} {y : Cm} {A' : Option Addr} {a' : Nat} {B' : Option Addr} {b' : Nat} (h : BXX w w1 R cr raw x A a B b y A' a' B' b') (hb : Below w1.heap.size w1 w2) : BXX w w2 R cr raw x A a B b y A' a' B' b' :=
  ⟨h.c.below hb, h.o.below hb, h.k.below hb, h.l.below hb, h.r.below hb, below_row h.B h.B.size (grown_of_below hb none) (fun k hk => by cases hk)⟩
/-- All that is known where the law compares. -/
structure CA (X : World) (w : World) (R : Option Addr) (cr : Nat) (raw : List Int) (x : Cm) (A : Option Addr) (a : Nat) (B : Option Addr) (b : Nat) (y : Cm) (A' : Option Addr) (a' : Nat) (B' : Option Addr) (b' : Nat) (g1 g2 g3 g4 : Nat) (z sx : Cm)
    (P1 : Option Addr) (p1 : Nat) (Q1 : Option Addr) (q1 : Nat) (P2 : Option Addr) (p2 : Nat) (Q2 : Option Addr) (q2 : Nat) (P3 : Option Addr) (p3 : Nat) (Q3 : Option Addr) (q3 : Nat) (P4 : Option Addr) (p4 : Nat) (Q4 : Option Addr) (q4 : Nat)
    (rb rd : List Int) (V0 : Option Addr) (v0 : Nat) (V1 : Option Addr) (v1 : Nat) (V2 : Option Addr) (v2 : Nat) (V3 : Option Addr) (v3 : Nat) : Prop where
  f : BXX w X R cr raw x A a B b y A' a' B' b'
  b1 : Blk X g1 34 (cmC z P1 p1 Q1 q1)
  b2 : Blk X g2 34 (cmC z P2 p2 Q2 q2)
  b3 : Blk X g3 34 (cmC sx P3 p3 Q3 q3)
  b4 : Blk X g4 34 (cmC sx P4 p4 Q4 q4)
  k1 : CmK X z P1 p1 Q1 q1
  k2 : CmK X z P2 p2 Q2 q2
  k3 : CmK X sx P3 p3 Q3 q3
  k4 : CmK X sx P4 p4 Q4 q4
  s0 : SlI X .u8 V0 v0 rb
  s1 : SlI X .u8 V1 v1 rb
  s2 : SlI X .u8 V2 v2 rd
  s3 : SlI X .u8 V3 v3 rd
theorem CA.below {X X' : World} {w : World} {R : Option Addr} {cr : Nat} {raw : List Int} {x : Cm} {A : Option Addr} {a : Nat} {B : Option Addr} {b : Nat} {y : Cm} {A' : Option Addr} {a' : Nat} {B' : Option Addr} {b' : Nat} {g1 g2 g3 g4 : Nat} {z sx : Cm}
    {P1 : Option Addr} {p1 : Nat} {Q1 : Option Addr} {q1 : Nat} {P2 : Option Addr} {p2 : Nat} {Q2 : Option Addr} {q2 : Nat} {P3 : Option Addr} {p3 : Nat} {Q3 : Option Addr} {q3 : Nat} {P4 : Option Addr} {p4 : Nat} {Q4 : Option Addr} {q4 : Nat}
    {rb rd : List Int} {V0 : Option Addr} {v0 : Nat} {V1 : Option Addr} {v1 : Nat} {V2 : Option Addr} {v2 : Nat} {V3 : Option Addr} {v3 : Nat}
    (h : CA X w R cr raw x A a B b y A' a' B' b' g1 g2 g3 g4 z sx P1 p1 Q1 q1 P2 p2 Q2 q2 P3 p3 Q3 q3 P4 p4 Q4 q4 rb rd V0 v0 V1 v1 V2 v2 V3 v3) (hb : Below X.heap.size X X') : CA X' w R cr raw x A a B b y A' a' B' b' g1 g2 g3 g4 z sx P1 p1 Q1 q1 P2 p2 Q2 q2 P3 p3 Q3 q3 P4 p4 Q4 q4 rb rd V0 v0 V1 v1 V2 v2 V3 v3 :=
  ⟨h.f.below hb, h.b1.below hb, h.b2.below hb, h.b3.below hb, h.b4.below hb, h.k1.below hb, h.k2.below hb, h.k3.below hb, h.k4.below hb, h.s0.below hb, h.s1.below hb, h.s2.below hb, h.s3.below hb⟩
set_option maxHeartbeats 4000000 in
set_option maxRecDepth 20000 in
theorem CommandCalls_row (R : Option Addr) (cr : Nat) (raw : List Int) (q : Option Addr × Option Addr) (cc : Nat × Nat) (x : Cm) (q' : Option Addr × Option Addr) (cc' : Nat × Nat) (y : Cm) (dim fr n : Int) (w : World)
    (h : SlI w .u8 R cr raw) (fl : ∀ n ∈ raw, (Lit.int .u8 n).wf = true) (_yl : raw.length * 1 ≤ 140737488351232) (hw : CmW w q.1 q.2 cc.1 cc.2 x) (hw' : CmW w q'.1 q'.2 cc'.1 cc'.2 y) (_hd : (Lit.int .i64 dim).wf = true) (_hf : (Lit.int .i64 fr).wf = true) (_hn : (Lit.int .i64 n).wf = true) :
    Calls Try.prog 7 #[.slice R raw.length cr, .agg (cmC x q.1 cc.1 q.2 cc.2).toArray, .agg (cmC y q'.1 cc'.1 q'.2 cc'.2).toArray, .int .i64 dim, .int .i64 fr, .int .i64 n] w fun e w' => e = .returned (.bool true) ∧ Below w.heap.size w w' := by
  have hmix : Try.prog.follows .mixedOrders = true := by kernel_rfl
  have hbr : Bytes raw := fun z hz => bdU8 (fl z hz)
  clear fl _yl _hd _hf _hn
  obtain ⟨A, B⟩ := q
  obtain ⟨a, b⟩ := cc
  obtain ⟨A', B'⟩ := q'
  obtain ⟨a', b'⟩ := cc'
  dsimp only at *
  obtain ⟨hk, hx, _⟩ := hw
  obtain ⟨hk', hx', _⟩ := hw'
  have h0 : Blk (w.alloc (.cells (cmC x A a B b).toArray 34)) w.heap.size 34 (cmC x A a B b) := Blk.new w _ _
  have B0 := below_box0 w (.cells (cmC x A a B b).toArray 34)
  have h1 : Blk ((w.alloc (.cells (cmC x A a B b).toArray 34)).alloc (.cells (cmC y A' a' B' b').toArray 34)) (w.heap.size + 1) 34 (cmC y A' a' B' b') := by
    have := Blk.new (w.alloc (.cells (cmC x A a B b).toArray 34)) 34 (cmC y A' a' B' b')
    simpa using this
  have B1 := below_box0 (w.alloc (.cells (cmC x A a B b).toArray 34)) (.cells (cmC y A' a' B' b').toArray 34)
  have HW : BXX w ((w.alloc (.cells (cmC x A a B b).toArray 34)).alloc (.cells (cmC y A' a' B' b').toArray 34)) R cr raw x A a B b y A' a' B' b' :=
    ⟨h0.below B1, h1, (hk.below B0).below B1, (hk'.below B0).below B1, (h.below B0).below B1, below_row B0 B0.size (grown_of_below B1 none) (fun k hk => by cases hk)⟩
  replace HW := Lib.hid HW
  clear h0 B0 h1 B1 hk hk' h
  obtain ⟨r0, hr0⟩ : ∃ r, parseR raw = r := ⟨_, rfl⟩
  obtain ⟨rb, hrb⟩ : ∃ r, bytesR x = r := ⟨_, rfl⟩
  obtain ⟨eb, heb⟩ : ∃ r : Int, (if cmOk x then (0 : Int) else 2) = r := ⟨_, rfl⟩
  obtain ⟨rd, hrd⟩ : ∃ r, doublesR x fr = r := ⟨_, rfl⟩
  obtain ⟨ed, hed⟩ : ∃ r : Int, (if doublesOk x fr then (0 : Int) else 2) = r := ⟨_, rfl⟩
  obtain ⟨⟨sx, st⟩, hst⟩ : ∃ r, statusR raw dim = r := ⟨_, rfl⟩
  replace hr0 := Lib.hid hr0
  replace hrb := Lib.hid hrb
  replace heb := Lib.hid heb
  replace hrd := Lib.hid hrd
  replace hed := Lib.hid hed
  replace hst := Lib.hid hst
  simp only [cmC]
  go_enter Try.func7, Try.ntmps7
  obtain ⟨l0, l1', l2', l3', l4, l5⟩ := load_cm HW.out.c
  obtain ⟨o0, o1', o2', o3', o4, o5⟩ := load_cm HW.out.o
  go_wp2_with fail
  refine (lives_calls _).mono ?_
  rintro e w' ⟨rfl, b1⟩
  replace HW := Lib.hid (HW.out.below b1)
  clear b1 
  clear l0 l1' l2' l3' l4 l5 o0 o1' o2' o3' o4 o5
  obtain ⟨l0, l1', l2', l3', l4, l5⟩ := load_cm HW.out.c
  obtain ⟨o0, o1', o2', o3', o4, o5⟩ := load_cm HW.out.o
  try clear wr
  obtain ⟨wr, hwr⟩ : ∃ W, W = w' := ⟨_, rfl⟩
  subst hwr
  by_cases hlr : raw.length ≤ 10000
  case neg =>
    have i1 : (10000 : Int) < (raw.length : Int) := by omega
    go_wp2_with fail
    go_ret
    exact ⟨rfl, HW.out.B⟩
  have i1 : ¬ (10000 : Int) < (raw.length : Int) := by omega
  go_wp2_with fail
  refine (clight_calls x A a B b _).mono ?_
  rintro e w' ⟨rfl, b1⟩
  replace HW := Lib.hid (HW.out.below b1)
  clear b1 l0 l1' l2' l3' l4 l5 o0 o1' o2' o3' o4 o5
  obtain ⟨wr, hwr⟩ : ∃ W, W = w' := ⟨_, rfl⟩
  subst hwr
  obtain ⟨l0, l1', l2', l3', l4, l5⟩ := load_cm HW.out.c
  obtain ⟨o0, o1', o2', o3', o4, o5⟩ := load_cm HW.out.o
  by_cases hlt : x.v.length ≤ 10000 ∧ x.d.length ≤ 10000
  case neg =>
    rw [decide_eq_false hlt]
    clear hlt
    go_wp2_with fail
    go_ret
    exact ⟨rfl, HW.out.B⟩
  rw [decide_eq_true hlt]
  clear hlt
  go_wp2_with fail
  refine (clight_calls y A' a' B' b' _).mono ?_
  rintro e w' ⟨rfl, b1⟩
  replace HW := Lib.hid (HW.out.below b1)
  clear b1 l0 l1' l2' l3' l4 l5 o0 o1' o2' o3' o4 o5
  obtain ⟨wr, hwr⟩ : ∃ W, W = w' := ⟨_, rfl⟩
  subst hwr
  obtain ⟨l0, l1', l2', l3', l4, l5⟩ := load_cm HW.out.c
  obtain ⟨o0, o1', o2', o3', o4, o5⟩ := load_cm HW.out.o
  by_cases hlt : y.v.length ≤ 10000 ∧ y.d.length ≤ 10000
  case neg =>
    rw [decide_eq_false hlt]
    clear hlt
    go_wp2_with fail
    go_ret
    exact ⟨rfl, HW.out.B⟩
  rw [decide_eq_true hlt]
  clear hlt i1
  go_wp2_with fail
  refine (Own_byte_calls R cr raw _ HW.out.r (by omega)).mono ?_
  rintro e w' ⟨A1, c1, rfl, own1, b1⟩
  replace HW := Lib.hid (HW.out.below b1)
  replace own1 := Lib.hid own1
  clear b1 
  clear l0 l1' l2' l3' l4 l5 o0 o1' o2' o3' o4 o5
  obtain ⟨l0, l1', l2', l3', l4, l5⟩ := load_cm HW.out.c
  obtain ⟨o0, o1', o2', o3', o4, o5⟩ := load_cm HW.out.o
  try clear wr
  obtain ⟨wr, hwr⟩ : ∃ W, W = w' := ⟨_, rfl⟩
  subst hwr
  go_wp2_with fail
  refine (Parse_calls A1 c1 raw _ (OwnI.sl own1.out) hbr (by omega) r0 hr0).mono ?_
  rintro e w' ⟨⟨P1, p1, Q1, q1, rfl, k1, fr1⟩, b1⟩
  replace HW := Lib.hid (HW.out.below b1)
  replace k1 := Lib.hid k1
  clear b1 
  clear l0 l1' l2' l3' l4 l5 o0 o1' o2' o3' o4 o5
  obtain ⟨l0, l1', l2', l3', l4, l5⟩ := load_cm HW.out.c
  obtain ⟨o0, o1', o2', o3', o4, o5⟩ := load_cm HW.out.o
  try clear wr
  obtain ⟨wr, hwr⟩ : ∃ W, W = w' := ⟨_, rfl⟩
  subst hwr
  clear own1
  obtain ⟨z1, hz1⟩ : ∃ z, z = r0.getD cm0 := ⟨_, rfl⟩
  rw [← hz1] at k1 ⊢
  obtain ⟨e1, he1⟩ : ∃ z : Int, z = (if r0.isSome then 0 else 4) := ⟨_, rfl⟩
  rw [← he1]
  replace hz1 := Lib.hid hz1
  replace he1 := Lib.hid he1
  clear fr1
  obtain ⟨wa, hwa⟩ : ∃ W, W = wr := ⟨_, rfl⟩
  subst hwa
  have bb := below_box0 wa (.cells (cmC z1 P1 p1 Q1 q1).toArray 34)
  have bx1 : Blk (wa.alloc (.cells (cmC z1 P1 p1 Q1 q1).toArray 34)) wa.heap.size 34 (cmC z1 P1 p1 Q1 q1) := Blk.new wa _ _
  replace HW := Lib.hid (HW.out.below bb)
  replace k1 := Lib.hid (k1.out.below bb)
  replace bx1 := Lib.hid bx1
  clear bb l0 l1' l2' l3' l4 l5 o0 o1' o2' o3' o4 o5
  obtain ⟨l0, l1', l2', l3', l4, l5⟩ := load_cm HW.out.c
  obtain ⟨o0, o1', o2', o3', o4, o5⟩ := load_cm HW.out.o
  simp only [cmC] at l0 l1' l2' l3' l4 l5 o0 o1' o2' o3' o4 o5 ⊢
  go_wp2_with fail
  refine (RParse_calls R cr raw _ HW.out.r hbr (Lib.hid (by omega)) r0 hr0).mono ?_
  rintro e w' ⟨⟨P2, p2, Q2, q2, rfl, k2, fr1⟩, b1⟩
  replace HW := Lib.hid (HW.out.below b1)
  replace bx1 := Lib.hid (bx1.out.below b1)
  replace k1 := Lib.hid (k1.out.below b1)
  replace k2 := Lib.hid k2
  clear b1 
  clear l0 l1' l2' l3' l4 l5 o0 o1' o2' o3' o4 o5
  obtain ⟨l0, l1', l2', l3', l4, l5⟩ := load_cm HW.out.c
  obtain ⟨o0, o1', o2', o3', o4, o5⟩ := load_cm HW.out.o
  try clear wr
  obtain ⟨wr, hwr⟩ : ∃ W, W = w' := ⟨_, rfl⟩
  subst hwr
  clear fr1
  rw [← hz1.out] at k2 ⊢
  rw [← he1.out]
  obtain ⟨wb, hwb⟩ : ∃ W, W = wr := ⟨_, rfl⟩
  subst hwb
  have bb := below_box0 wb (.cells (cmC z1 P2 p2 Q2 q2).toArray 34)
  have bx2 : Blk (wb.alloc (.cells (cmC z1 P2 p2 Q2 q2).toArray 34)) wb.heap.size 34 (cmC z1 P2 p2 Q2 q2) := Blk.new wb _ _
  replace HW := Lib.hid (HW.out.below bb)
  replace bx1 := Lib.hid (bx1.out.below bb)
  replace k1 := Lib.hid (k1.out.below bb)
  replace k2 := Lib.hid (k2.out.below bb)
  replace bx2 := Lib.hid bx2
  clear bb l0 l1' l2' l3' l4 l5 o0 o1' o2' o3' o4 o5
  obtain ⟨l0, l1', l2', l3', l4, l5⟩ := load_cm HW.out.c
  obtain ⟨o0, o1', o2', o3', o4, o5⟩ := load_cm HW.out.o
  simp only [cmC] at l0 l1' l2' l3' l4 l5 o0 o1' o2' o3' o4 o5 ⊢
  go_wp2_with fail
  refine (Bytes_calls x A a B b _ HW.out.k hx rb hrb eb heb).mono ?_
  rintro e w' ⟨V0, v0, rfl, s0, b1⟩
  replace HW := Lib.hid (HW.out.below b1)
  replace bx1 := Lib.hid (bx1.out.below b1)
  replace k1 := Lib.hid (k1.out.below b1)
  replace bx2 := Lib.hid (bx2.out.below b1)
  replace k2 := Lib.hid (k2.out.below b1)
  replace s0 := Lib.hid s0
  clear b1 
  clear l0 l1' l2' l3' l4 l5 o0 o1' o2' o3' o4 o5
  obtain ⟨l0, l1', l2', l3', l4, l5⟩ := load_cm HW.out.c
  obtain ⟨o0, o1', o2', o3', o4, o5⟩ := load_cm HW.out.o
  try clear wr
  obtain ⟨wr, hwr⟩ : ∃ W, W = w' := ⟨_, rfl⟩
  subst hwr
  go_wp2_with fail
  refine (RBytes_calls x A a B b _ HW.out.k hx rb hrb eb heb).mono ?_
  rintro e w' ⟨V1, v1, rfl, s1, b1⟩
  replace HW := Lib.hid (HW.out.below b1)
  replace bx1 := Lib.hid (bx1.out.below b1)
  replace k1 := Lib.hid (k1.out.below b1)
  replace bx2 := Lib.hid (bx2.out.below b1)
  replace k2 := Lib.hid (k2.out.below b1)
  replace s0 := Lib.hid (s0.out.below b1)
  replace s1 := Lib.hid s1
  clear b1 
  clear l0 l1' l2' l3' l4 l5 o0 o1' o2' o3' o4 o5
  obtain ⟨l0, l1', l2', l3', l4, l5⟩ := load_cm HW.out.c
  obtain ⟨o0, o1', o2', o3', o4, o5⟩ := load_cm HW.out.o
  try clear wr
  obtain ⟨wr, hwr⟩ : ∃ W, W = w' := ⟨_, rfl⟩
  subst hwr
  go_wp2_with fail
  refine (Doubles_calls x A a B b fr _ HW.out.k hx rd hrd ed hed).mono ?_
  rintro e w' ⟨V2, v2, rfl, s2, b1⟩
  replace HW := Lib.hid (HW.out.below b1)
  replace bx1 := Lib.hid (bx1.out.below b1)
  replace k1 := Lib.hid (k1.out.below b1)
  replace bx2 := Lib.hid (bx2.out.below b1)
  replace k2 := Lib.hid (k2.out.below b1)
  replace s0 := Lib.hid (s0.out.below b1)
  replace s1 := Lib.hid (s1.out.below b1)
  replace s2 := Lib.hid s2
  clear b1 
  clear l0 l1' l2' l3' l4 l5 o0 o1' o2' o3' o4 o5
  obtain ⟨l0, l1', l2', l3', l4, l5⟩ := load_cm HW.out.c
  obtain ⟨o0, o1', o2', o3', o4, o5⟩ := load_cm HW.out.o
  try clear wr
  obtain ⟨wr, hwr⟩ : ∃ W, W = w' := ⟨_, rfl⟩
  subst hwr
  go_wp2_with fail
  refine (RDoubles_calls x A a B b fr _ HW.out.k hx rd hrd ed hed).mono ?_
  rintro e w' ⟨V3, v3, rfl, s3, b1⟩
  replace HW := Lib.hid (HW.out.below b1)
  replace bx1 := Lib.hid (bx1.out.below b1)
  replace k1 := Lib.hid (k1.out.below b1)
  replace bx2 := Lib.hid (bx2.out.below b1)
  replace k2 := Lib.hid (k2.out.below b1)
  replace s0 := Lib.hid (s0.out.below b1)
  replace s1 := Lib.hid (s1.out.below b1)
  replace s2 := Lib.hid (s2.out.below b1)
  replace s3 := Lib.hid s3
  clear b1 
  clear l0 l1' l2' l3' l4 l5 o0 o1' o2' o3' o4 o5
  obtain ⟨l0, l1', l2', l3', l4, l5⟩ := load_cm HW.out.c
  obtain ⟨o0, o1', o2', o3', o4, o5⟩ := load_cm HW.out.o
  try clear wr
  obtain ⟨wr, hwr⟩ : ∃ W, W = w' := ⟨_, rfl⟩
  subst hwr
  go_wp2_with fail
  refine (Status_calls R cr raw dim _ HW.out.r hbr (by omega) sx st hst).mono ?_
  rintro e w' ⟨⟨P3, p3, Q3, q3, rfl, k3, fr1⟩, b1⟩
  replace HW := Lib.hid (HW.out.below b1)
  replace bx1 := Lib.hid (bx1.out.below b1)
  replace k1 := Lib.hid (k1.out.below b1)
  replace bx2 := Lib.hid (bx2.out.below b1)
  replace k2 := Lib.hid (k2.out.below b1)
  replace s0 := Lib.hid (s0.out.below b1)
  replace s1 := Lib.hid (s1.out.below b1)
  replace s2 := Lib.hid (s2.out.below b1)
  replace s3 := Lib.hid (s3.out.below b1)
  replace k3 := Lib.hid k3
  clear b1 
  clear l0 l1' l2' l3' l4 l5 o0 o1' o2' o3' o4 o5
  obtain ⟨l0, l1', l2', l3', l4, l5⟩ := load_cm HW.out.c
  obtain ⟨o0, o1', o2', o3', o4, o5⟩ := load_cm HW.out.o
  try clear wr
  obtain ⟨wr, hwr⟩ : ∃ W, W = w' := ⟨_, rfl⟩
  subst hwr
  clear fr1
  obtain ⟨wc, hwc⟩ : ∃ W, W = wr := ⟨_, rfl⟩
  subst hwc
  have bb := below_box0 wc (.cells (cmC sx P3 p3 Q3 q3).toArray 34)
  have bx3 : Blk (wc.alloc (.cells (cmC sx P3 p3 Q3 q3).toArray 34)) wc.heap.size 34 (cmC sx P3 p3 Q3 q3) := Blk.new wc _ _
  replace HW := Lib.hid (HW.out.below bb)
  replace bx1 := Lib.hid (bx1.out.below bb)
  replace k1 := Lib.hid (k1.out.below bb)
  replace bx2 := Lib.hid (bx2.out.below bb)
  replace k2 := Lib.hid (k2.out.below bb)
  replace s0 := Lib.hid (s0.out.below bb)
  replace s1 := Lib.hid (s1.out.below bb)
  replace s2 := Lib.hid (s2.out.below bb)
  replace s3 := Lib.hid (s3.out.below bb)
  replace k3 := Lib.hid (k3.out.below bb)
  replace bx3 := Lib.hid bx3
  clear bb l0 l1' l2' l3' l4 l5 o0 o1' o2' o3' o4 o5
  obtain ⟨l0, l1', l2', l3', l4, l5⟩ := load_cm HW.out.c
  obtain ⟨o0, o1', o2', o3', o4, o5⟩ := load_cm HW.out.o
  simp only [cmC] at l0 l1' l2' l3' l4 l5 o0 o1' o2' o3' o4 o5 ⊢
  go_wp2_with fail
  refine (RStatus_calls R cr raw dim _ HW.out.r hbr (Lib.hid (by omega)) sx st hst).mono ?_
  rintro e w' ⟨⟨P4, p4, Q4, q4, rfl, k4, fr1⟩, b1⟩
  replace HW := Lib.hid (HW.out.below b1)
  replace bx1 := Lib.hid (bx1.out.below b1)
  replace k1 := Lib.hid (k1.out.below b1)
  replace bx2 := Lib.hid (bx2.out.below b1)
  replace k2 := Lib.hid (k2.out.below b1)
  replace s0 := Lib.hid (s0.out.below b1)
  replace s1 := Lib.hid (s1.out.below b1)
  replace s2 := Lib.hid (s2.out.below b1)
  replace s3 := Lib.hid (s3.out.below b1)
  replace bx3 := Lib.hid (bx3.out.below b1)
  replace k3 := Lib.hid (k3.out.below b1)
  replace k4 := Lib.hid k4
  clear b1 
  clear l0 l1' l2' l3' l4 l5 o0 o1' o2' o3' o4 o5
  obtain ⟨l0, l1', l2', l3', l4, l5⟩ := load_cm HW.out.c
  obtain ⟨o0, o1', o2', o3', o4, o5⟩ := load_cm HW.out.o
  try clear wr
  obtain ⟨wr, hwr⟩ : ∃ W, W = w' := ⟨_, rfl⟩
  subst hwr
  clear fr1
  obtain ⟨wd, hwd⟩ : ∃ W, W = wr := ⟨_, rfl⟩
  subst hwd
  have bb := below_box0 wd (.cells (cmC sx P4 p4 Q4 q4).toArray 34)
  have bx4 : Blk (wd.alloc (.cells (cmC sx P4 p4 Q4 q4).toArray 34)) wd.heap.size 34 (cmC sx P4 p4 Q4 q4) := Blk.new wd _ _
  replace HW := Lib.hid (HW.out.below bb)
  replace bx1 := Lib.hid (bx1.out.below bb)
  replace k1 := Lib.hid (k1.out.below bb)
  replace bx2 := Lib.hid (bx2.out.below bb)
  replace k2 := Lib.hid (k2.out.below bb)
  replace s0 := Lib.hid (s0.out.below bb)
  replace s1 := Lib.hid (s1.out.below bb)
  replace s2 := Lib.hid (s2.out.below bb)
  replace s3 := Lib.hid (s3.out.below bb)
  replace bx3 := Lib.hid (bx3.out.below bb)
  replace k3 := Lib.hid (k3.out.below bb)
  replace k4 := Lib.hid (k4.out.below bb)
  replace bx4 := Lib.hid bx4
  clear bb l0 l1' l2' l3' l4 l5 o0 o1' o2' o3' o4 o5
  obtain ⟨l0, l1', l2', l3', l4, l5⟩ := load_cm HW.out.c
  obtain ⟨o0, o1', o2', o3', o4, o5⟩ := load_cm HW.out.o
  simp only [cmC] at l0 l1' l2' l3' l4 l5 o0 o1' o2' o3' o4 o5 ⊢
  obtain ⟨Fu, hFu⟩ : ∃ F : World → Prop, F = fun X => CA X w R cr raw x A a B b y A' a' B' b' (wa.heap.size) (wb.heap.size) (wc.heap.size) (wd.heap.size) z1 sx P1 p1 Q1 q1 P2 p2 Q2 q2 P3 p3 Q3 q3 P4 p4 Q4 q4 rb rd V0 v0 V1 v1 V2 v2 V3 v3 := ⟨_, rfl⟩
  have HFu := Lib.hid (show ∀ X, Fu X → CA X w R cr raw x A a B b y A' a' B' b' (wa.heap.size) (wb.heap.size) (wc.heap.size) (wd.heap.size) z1 sx P1 p1 Q1 q1 P2 p2 Q2 q2 P3 p3 Q3 q3 P4 p4 Q4 q4 rb rd V0 v0 V1 v1 V2 v2 V3 v3 from fun X h => by rw [hFu] at h; exact h)
  have HFb := Lib.hid (show ∀ X X', Fu X → Below X.heap.size X X' → Fu X' from fun X X' h hb => by rw [hFu] at h ⊢; exact h.below hb)
  have hF : Fu (wd.alloc (.cells (cmC sx P4 p4 Q4 q4).toArray 34)) := by rw [hFu]; exact ⟨HW.out, bx1.out, bx2.out, bx3.out, bx4.out, k1.out, k2.out, k3.out, k4.out, s0.out, s1.out, s2.out, s3.out⟩
  clear hFu HW bx1 bx2 bx3 bx4 k1 k2 k3 k4 s0 s1 s2 s3 l0 l1' l2' l3' l4 l5 o0 o1' o2' o3' o4 o5
  simp only [cmC] at hF
  replace hF := Lib.hid hF
  go_wp2_with fail
  refine region_L (oneQ 999 (fun _ => True) Fu) hmix ?_
  change anyL _ _ _ _ _ 76 (Array.replicate 76 false) _ _
  replace hF := HFb.out _ _ hF.out ((Below.refl _ _).drew)
  generalize World.drew _ = V at *
  obtain ⟨ck, hck⟩ : ∃ c : Int, (if cmOk x then 0 else 2) = c := ⟨_, rfl⟩
  obtain ⟨ud, hud⟩ : ∃ c, decide (n = 1 ∨ n = 2) = c := ⟨_, rfl⟩
  obtain ⟨sm, hsm⟩ : ∃ c, decide (x = y) = c := ⟨_, rfl⟩
  obtain ⟨nm, hnm⟩ : ∃ c, wordS n nameL = c := ⟨_, rfl⟩
  obtain ⟨wd', hwd⟩ : ∃ c, wordS n wordL = c := ⟨_, rfl⟩
  replace hck := Lib.hid hck
  replace hud := Lib.hid hud
  replace hsm := Lib.hid hsm
  replace hnm := Lib.hid hnm
  replace hwd := Lib.hid hwd
  have hS : oneQ 999 (fun _ => True) Fu (Array.replicate 76 false) V := ⟨fun _ => trivial, hF⟩
  refine anyL_take (Fu) [] (i := 0) (v := ?_) rfl (by kernel_rfl) (by kernel_rfl) (by kernel_rfl) (fun _ _ _ h => h) (by kernel_rfl) (one_ind (i := 0) (by decide)) (fun L X h1 h2 => h2.2) (Or.inl ⟨by kernel_rfl, ?_⟩) hS ?_
  rotate_left
  · intro X hX
    obtain ⟨g0, g1, g2, g3, g4, g5⟩ := load_cm (HFu.out X hX).b1; clear hX
    go_simp
    try with_reducible rfl
  try simp only [List.getElem_toArray, List.getElem_cons_zero, List.getElem_cons_succ]
  simp only [Act.put, List.setIfInBounds_toArray, List.set_cons_zero, List.set_cons_succ]
  replace hS := (one_ind (i := 0) (by decide) _ _).2 hS
  refine anyL_take (Fu) [] (i := 1) (v := ?_) rfl (by kernel_rfl) (by kernel_rfl) (by kernel_rfl) (fun _ _ _ h => h) (by kernel_rfl) (one_ind (i := 1) (by decide)) (fun L X h1 h2 => h2.2) (Or.inl ⟨by kernel_rfl, ?_⟩) hS ?_
  rotate_left
  · intro X hX
    obtain ⟨g0, g1, g2, g3, g4, g5⟩ := load_cm (HFu.out X hX).b2; clear hX
    go_simp
    try with_reducible rfl
  try simp only [List.getElem_toArray, List.getElem_cons_zero, List.getElem_cons_succ]
  simp only [Act.put, List.setIfInBounds_toArray, List.set_cons_zero, List.set_cons_succ]
  replace hS := (one_ind (i := 1) (by decide) _ _).2 hS
  clear hS
  refine anyL_step (i := 2) (by kernel_rfl) rfl (by kernel_rfl) (fun K hK => ?_)
  go_simp
  refine (RSame_calls z1 z1 P1 p1 Q1 q1 P2 p2 Q2 q2 _ (HFu.out _ hF).k1 (HFu.out _ hF).k2).mono ?_
  rintro e V1' ⟨rfl, b1⟩
  rw [decide_eq_true (rfl : z1 = z1)]
  replace hF := HFb.out _ _ hF b1
  clear b1
  dsimp only
  refine hK.out _ _ ⟨fun _ => trivial, hF⟩ ?_
  clear hK K
  try simp only [Act.put, List.setIfInBounds_toArray, List.set_cons_zero, List.set_cons_succ]
  have hS : oneQ 999 (fun _ => True) Fu ((((Array.replicate 76 false).setIfInBounds 0 true).setIfInBounds 1 true).setIfInBounds 2 true) V1' := ⟨fun _ => trivial, hF⟩
  refine anyL_take (fun _ => True) [] (i := 3) (v := ?_) rfl (by kernel_rfl) (by kernel_rfl) (by kernel_rfl) (fun _ _ _ h => h) (by kernel_rfl) (one_ind (i := 3) (by decide)) (fun _ _ _ _ => trivial) (Or.inl ⟨by kernel_rfl, ?_⟩) hS ?_
  rotate_left
  · intro X hX
    clear hX
    go_simp
    try with_reducible rfl
  try simp only [List.getElem_toArray, List.getElem_cons_zero, List.getElem_cons_succ]
  simp only [Act.put, List.setIfInBounds_toArray, List.set_cons_zero, List.set_cons_succ]
  replace hS := (one_ind (i := 3) (by decide) _ _).2 hS
  refine anyL_take (fun _ => True) [] (i := 4) (v := ?_) rfl (by kernel_rfl) (by kernel_rfl) (by kernel_rfl) (fun _ _ _ h => h) (by kernel_rfl) (one_ind (i := 4) (by decide)) (fun _ _ _ _ => trivial) (Or.inl ⟨by kernel_rfl, ?_⟩) hS ?_
  rotate_left
  · intro X hX
    clear hX
    go_simp
    try with_reducible rfl
  try simp only [List.getElem_toArray, List.getElem_cons_zero, List.getElem_cons_succ]
  simp only [Act.put, List.setIfInBounds_toArray, List.set_cons_zero, List.set_cons_succ]
  replace hS := (one_ind (i := 4) (by decide) _ _).2 hS
  refine anyL_take (fun _ => True) [] (i := 5) (v := ?_) rfl (by kernel_rfl) (by kernel_rfl) (by kernel_rfl) (fun _ _ _ h => h) (by kernel_rfl) (one_ind (i := 5) (by decide)) (fun _ _ _ _ => trivial) (Or.inl ⟨by kernel_rfl, ?_⟩) hS ?_
  rotate_left
  · intro X hX
    clear hX
    go_simp
    try with_reducible rfl
  try simp only [List.getElem_toArray, List.getElem_cons_zero, List.getElem_cons_succ]
  simp only [Act.put, List.setIfInBounds_toArray, List.set_cons_zero, List.set_cons_succ]
  replace hS := (one_ind (i := 5) (by decide) _ _).2 hS
  refine anyL_take (fun _ => True) [] (i := 6) (v := ?_) rfl (by kernel_rfl) (by kernel_rfl) (by kernel_rfl) (fun _ _ _ h => h) (by kernel_rfl) (one_ind (i := 6) (by decide)) (fun _ _ _ _ => trivial) (Or.inl ⟨by kernel_rfl, ?_⟩) hS ?_
  rotate_left
  · intro X hX
    clear hX
    go_simp
    try with_reducible rfl
  try simp only [List.getElem_toArray, List.getElem_cons_zero, List.getElem_cons_succ]
  simp only [Act.put, List.setIfInBounds_toArray, List.set_cons_zero, List.set_cons_succ]
  replace hS := (one_ind (i := 6) (by decide) _ _).2 hS
  refine anyL_take (fun _ => True) [] (i := 7) (v := ?_) rfl (by kernel_rfl) (by kernel_rfl) (by kernel_rfl) (fun _ _ _ h => h) (by kernel_rfl) (one_ind (i := 7) (by decide)) (fun _ _ _ _ => trivial) (Or.inl ⟨by kernel_rfl, ?_⟩) hS ?_
  rotate_left
  · intro X hX
    clear hX
    go_simp
    try with_reducible rfl
  try simp only [List.getElem_toArray, List.getElem_cons_zero, List.getElem_cons_succ]
  simp only [Act.put, List.setIfInBounds_toArray, List.set_cons_zero, List.set_cons_succ]
  replace hS := (one_ind (i := 7) (by decide) _ _).2 hS
  refine anyL_take (fun _ => True) [] (i := 8) (v := ?_) rfl (by kernel_rfl) (by kernel_rfl) (by kernel_rfl) (fun _ _ _ h => h) (by kernel_rfl) (one_ind (i := 8) (by decide)) (fun _ _ _ _ => trivial) (Or.inl ⟨by kernel_rfl, ?_⟩) hS ?_
  rotate_left
  · intro X hX
    clear hX
    go_simp
    try with_reducible rfl
  try simp only [List.getElem_toArray, List.getElem_cons_zero, List.getElem_cons_succ]
  simp only [Act.put, List.setIfInBounds_toArray, List.set_cons_zero, List.set_cons_succ]
  replace hS := (one_ind (i := 8) (by decide) _ _).2 hS
  refine anyL_take (fun _ => True) [] (i := 9) (v := ?_) rfl (by kernel_rfl) (by kernel_rfl) (by kernel_rfl) (fun _ _ _ h => h) (by kernel_rfl) (one_ind (i := 9) (by decide)) (fun _ _ _ _ => trivial) (Or.inl ⟨by kernel_rfl, ?_⟩) hS ?_
  rotate_left
  · intro X hX
    clear hX
    go_simp
    try with_reducible rfl
  try simp only [List.getElem_toArray, List.getElem_cons_zero, List.getElem_cons_succ]
  simp only [Act.put, List.setIfInBounds_toArray, List.set_cons_zero, List.set_cons_succ]
  replace hS := (one_ind (i := 9) (by decide) _ _).2 hS
  refine anyL_take (fun _ => True) [] (i := 10) (v := ?_) rfl (by kernel_rfl) (by kernel_rfl) (by kernel_rfl) (fun _ _ _ h => h) (by kernel_rfl) (one_ind (i := 10) (by decide)) (fun _ _ _ _ => trivial) (Or.inl ⟨by kernel_rfl, ?_⟩) hS ?_
  rotate_left
  · intro X hX
    clear hX
    go_simp
    try with_reducible rfl
  try simp only [List.getElem_toArray, List.getElem_cons_zero, List.getElem_cons_succ]
  simp only [Act.put, List.setIfInBounds_toArray, List.set_cons_zero, List.set_cons_succ]
  replace hS := (one_ind (i := 10) (by decide) _ _).2 hS
  clear hS
  refine anyL_step (i := 11) (by kernel_rfl) rfl (by kernel_rfl) (fun K hK => ?_)
  go_simp
  refine (Same_byte_b V0 V1 v0 v1 rb rb _ (HFu.out _ hF).s0 (HFu.out _ hF).s1).mono ?_
  rintro e V2' ⟨rfl, b1⟩
  rw [decide_eq_true (rfl : rb = rb)]
  replace hF := HFb.out _ _ hF b1
  clear b1
  dsimp only
  refine hK.out _ _ ⟨fun _ => trivial, hF⟩ ?_
  clear hK K
  try simp only [Act.put, List.setIfInBounds_toArray, List.set_cons_zero, List.set_cons_succ]
  have hS : oneQ 999 (fun _ => True) Fu (((((((((((((Array.replicate 76 false).setIfInBounds 0 true).setIfInBounds 1 true).setIfInBounds 2 true).setIfInBounds 3 true).setIfInBounds 4 true).setIfInBounds 5 true).setIfInBounds 6 true).setIfInBounds 7 true).setIfInBounds 8 true).setIfInBounds 9 true).setIfInBounds 10 true).setIfInBounds 11 true) V2' := ⟨fun _ => trivial, hF⟩
  refine anyL_take (fun _ => True) [] (i := 12) (v := ?_) rfl (by kernel_rfl) (by kernel_rfl) (by kernel_rfl) (fun _ _ _ h => h) (by kernel_rfl) (one_ind (i := 12) (by decide)) (fun _ _ _ _ => trivial) (Or.inl ⟨by kernel_rfl, ?_⟩) hS ?_
  rotate_left
  · intro X hX
    clear hX
    go_simp
    try with_reducible rfl
  try simp only [List.getElem_toArray, List.getElem_cons_zero, List.getElem_cons_succ]
  simp only [Act.put, List.setIfInBounds_toArray, List.set_cons_zero, List.set_cons_succ]
  replace hS := (one_ind (i := 12) (by decide) _ _).2 hS
  refine anyL_take (fun _ => True) [] (i := 13) (v := ?_) rfl (by kernel_rfl) (by kernel_rfl) (by kernel_rfl) (fun _ _ _ h => h) (by kernel_rfl) (one_ind (i := 13) (by decide)) (fun _ _ _ _ => trivial) (Or.inl ⟨by kernel_rfl, ?_⟩) hS ?_
  rotate_left
  · intro X hX
    clear hX
    go_simp
    try with_reducible rfl
  try simp only [List.getElem_toArray, List.getElem_cons_zero, List.getElem_cons_succ]
  simp only [Act.put, List.setIfInBounds_toArray, List.set_cons_zero, List.set_cons_succ]
  replace hS := (one_ind (i := 13) (by decide) _ _).2 hS
  refine anyL_take (fun _ => True) [] (i := 14) (v := ?_) rfl (by kernel_rfl) (by kernel_rfl) (by kernel_rfl) (fun _ _ _ h => h) (by kernel_rfl) (one_ind (i := 14) (by decide)) (fun _ _ _ _ => trivial) (Or.inl ⟨by kernel_rfl, ?_⟩) hS ?_
  rotate_left
  · intro X hX
    clear hX
    go_simp
    try with_reducible rfl
  try simp only [List.getElem_toArray, List.getElem_cons_zero, List.getElem_cons_succ]
  simp only [Act.put, List.setIfInBounds_toArray, List.set_cons_zero, List.set_cons_succ]
  replace hS := (one_ind (i := 14) (by decide) _ _).2 hS
  refine anyL_take (fun _ => True) [] (i := 15) (v := ?_) rfl (by kernel_rfl) (by kernel_rfl) (by kernel_rfl) (fun _ _ _ h => h) (by kernel_rfl) (one_ind (i := 15) (by decide)) (fun _ _ _ _ => trivial) (Or.inl ⟨by kernel_rfl, ?_⟩) hS ?_
  rotate_left
  · intro X hX
    clear hX
    go_simp
    try with_reducible rfl
  try simp only [List.getElem_toArray, List.getElem_cons_zero, List.getElem_cons_succ]
  simp only [Act.put, List.setIfInBounds_toArray, List.set_cons_zero, List.set_cons_succ]
  replace hS := (one_ind (i := 15) (by decide) _ _).2 hS
  refine anyL_take (fun _ => True) [] (i := 16) (v := ?_) rfl (by kernel_rfl) (by kernel_rfl) (by kernel_rfl) (fun _ _ _ h => h) (by kernel_rfl) (one_ind (i := 16) (by decide)) (fun _ _ _ _ => trivial) (Or.inl ⟨by kernel_rfl, ?_⟩) hS ?_
  rotate_left
  · intro X hX
    clear hX
    go_simp
    try with_reducible rfl
  try simp only [List.getElem_toArray, List.getElem_cons_zero, List.getElem_cons_succ]
  simp only [Act.put, List.setIfInBounds_toArray, List.set_cons_zero, List.set_cons_succ]
  replace hS := (one_ind (i := 16) (by decide) _ _).2 hS
  refine anyL_take (fun _ => True) [] (i := 17) (v := ?_) rfl (by kernel_rfl) (by kernel_rfl) (by kernel_rfl) (fun _ _ _ h => h) (by kernel_rfl) (one_ind (i := 17) (by decide)) (fun _ _ _ _ => trivial) (Or.inl ⟨by kernel_rfl, ?_⟩) hS ?_
  rotate_left
  · intro X hX
    clear hX
    go_simp
    try with_reducible rfl
  try simp only [List.getElem_toArray, List.getElem_cons_zero, List.getElem_cons_succ]
  simp only [Act.put, List.setIfInBounds_toArray, List.set_cons_zero, List.set_cons_succ]
  replace hS := (one_ind (i := 17) (by decide) _ _).2 hS
  refine anyL_take (fun _ => True) [] (i := 18) (v := ?_) rfl (by kernel_rfl) (by kernel_rfl) (by kernel_rfl) (fun _ _ _ h => h) (by kernel_rfl) (one_ind (i := 18) (by decide)) (fun _ _ _ _ => trivial) (Or.inl ⟨by kernel_rfl, ?_⟩) hS ?_
  rotate_left
  · intro X hX
    clear hX
    go_simp
    try with_reducible rfl
  try simp only [List.getElem_toArray, List.getElem_cons_zero, List.getElem_cons_succ]
  simp only [Act.put, List.setIfInBounds_toArray, List.set_cons_zero, List.set_cons_succ]
  replace hS := (one_ind (i := 18) (by decide) _ _).2 hS
  refine anyL_take (fun _ => True) [] (i := 19) (v := ?_) rfl (by kernel_rfl) (by kernel_rfl) (by kernel_rfl) (fun _ _ _ h => h) (by kernel_rfl) (one_ind (i := 19) (by decide)) (fun _ _ _ _ => trivial) (Or.inl ⟨by kernel_rfl, ?_⟩) hS ?_
  rotate_left
  · intro X hX
    clear hX
    go_simp
    try with_reducible rfl
  try simp only [List.getElem_toArray, List.getElem_cons_zero, List.getElem_cons_succ]
  simp only [Act.put, List.setIfInBounds_toArray, List.set_cons_zero, List.set_cons_succ]
  replace hS := (one_ind (i := 19) (by decide) _ _).2 hS
  refine anyL_take (fun _ => True) [] (i := 20) (v := ?_) rfl (by kernel_rfl) (by kernel_rfl) (by kernel_rfl) (fun _ _ _ h => h) (by kernel_rfl) (one_ind (i := 20) (by decide)) (fun _ _ _ _ => trivial) (Or.inl ⟨by kernel_rfl, ?_⟩) hS ?_
  rotate_left
  · intro X hX
    clear hX
    go_simp
    try with_reducible rfl
  try simp only [List.getElem_toArray, List.getElem_cons_zero, List.getElem_cons_succ]
  simp only [Act.put, List.setIfInBounds_toArray, List.set_cons_zero, List.set_cons_succ]
  replace hS := (one_ind (i := 20) (by decide) _ _).2 hS
  clear hS
  refine anyL_step (i := 21) (by kernel_rfl) rfl (by kernel_rfl) (fun K hK => ?_)
  go_simp
  refine (Same_byte_b V2 V3 v2 v3 rd rd _ (HFu.out _ hF).s2 (HFu.out _ hF).s3).mono ?_
  rintro e V3' ⟨rfl, b1⟩
  rw [decide_eq_true (rfl : rd = rd)]
  replace hF := HFb.out _ _ hF b1
  clear b1
  dsimp only
  refine hK.out _ _ ⟨fun _ => trivial, hF⟩ ?_
  clear hK K
  try simp only [Act.put, List.setIfInBounds_toArray, List.set_cons_zero, List.set_cons_succ]
  have hS : oneQ 999 (fun _ => True) Fu (((((((((((((((((((((((Array.replicate 76 false).setIfInBounds 0 true).setIfInBounds 1 true).setIfInBounds 2 true).setIfInBounds 3 true).setIfInBounds 4 true).setIfInBounds 5 true).setIfInBounds 6 true).setIfInBounds 7 true).setIfInBounds 8 true).setIfInBounds 9 true).setIfInBounds 10 true).setIfInBounds 11 true).setIfInBounds 12 true).setIfInBounds 13 true).setIfInBounds 14 true).setIfInBounds 15 true).setIfInBounds 16 true).setIfInBounds 17 true).setIfInBounds 18 true).setIfInBounds 19 true).setIfInBounds 20 true).setIfInBounds 21 true) V3' := ⟨fun _ => trivial, hF⟩
  refine anyL_take (fun _ => True) [] (i := 22) (v := ?_) rfl (by kernel_rfl) (by kernel_rfl) (by kernel_rfl) (fun _ _ _ h => h) (by kernel_rfl) (one_ind (i := 22) (by decide)) (fun _ _ _ _ => trivial) (Or.inl ⟨by kernel_rfl, ?_⟩) hS ?_
  rotate_left
  · intro X hX
    clear hX
    go_simp
    try with_reducible rfl
  try simp only [List.getElem_toArray, List.getElem_cons_zero, List.getElem_cons_succ]
  simp only [Act.put, List.setIfInBounds_toArray, List.set_cons_zero, List.set_cons_succ]
  replace hS := (one_ind (i := 22) (by decide) _ _).2 hS
  refine anyL_take (fun _ => True) [] (i := 23) (v := ?_) rfl (by kernel_rfl) (by kernel_rfl) (by kernel_rfl) (fun _ _ _ h => h) (by kernel_rfl) (one_ind (i := 23) (by decide)) (fun _ _ _ _ => trivial) (Or.inl ⟨by kernel_rfl, ?_⟩) hS ?_
  rotate_left
  · intro X hX
    clear hX
    go_simp
    try with_reducible rfl
  try simp only [List.getElem_toArray, List.getElem_cons_zero, List.getElem_cons_succ]
  simp only [Act.put, List.setIfInBounds_toArray, List.set_cons_zero, List.set_cons_succ]
  replace hS := (one_ind (i := 23) (by decide) _ _).2 hS
  refine anyL_take (fun _ => True) [] (i := 24) (v := ?_) rfl (by kernel_rfl) (by kernel_rfl) (by kernel_rfl) (fun _ _ _ h => h) (by kernel_rfl) (one_ind (i := 24) (by decide)) (fun _ _ _ _ => trivial) (Or.inl ⟨by kernel_rfl, ?_⟩) hS ?_
  rotate_left
  · intro X hX
    clear hX
    go_simp
    try with_reducible rfl
  try simp only [List.getElem_toArray, List.getElem_cons_zero, List.getElem_cons_succ]
  simp only [Act.put, List.setIfInBounds_toArray, List.set_cons_zero, List.set_cons_succ]
  replace hS := (one_ind (i := 24) (by decide) _ _).2 hS
  refine anyL_take (fun _ => True) [] (i := 25) (v := ?_) rfl (by kernel_rfl) (by kernel_rfl) (by kernel_rfl) (fun _ _ _ h => h) (by kernel_rfl) (one_ind (i := 25) (by decide)) (fun _ _ _ _ => trivial) (Or.inl ⟨by kernel_rfl, ?_⟩) hS ?_
  rotate_left
  · intro X hX
    clear hX
    go_simp
    try with_reducible rfl
  try simp only [List.getElem_toArray, List.getElem_cons_zero, List.getElem_cons_succ]
  simp only [Act.put, List.setIfInBounds_toArray, List.set_cons_zero, List.set_cons_succ]
  replace hS := (one_ind (i := 25) (by decide) _ _).2 hS
  refine anyL_take (fun _ => True) [] (i := 26) (v := ?_) rfl (by kernel_rfl) (by kernel_rfl) (by kernel_rfl) (fun _ _ _ h => h) (by kernel_rfl) (one_ind (i := 26) (by decide)) (fun _ _ _ _ => trivial) (Or.inl ⟨by kernel_rfl, ?_⟩) hS ?_
  rotate_left
  · intro X hX
    clear hX
    go_simp
    try with_reducible rfl
  try simp only [List.getElem_toArray, List.getElem_cons_zero, List.getElem_cons_succ]
  simp only [Act.put, List.setIfInBounds_toArray, List.set_cons_zero, List.set_cons_succ]
  replace hS := (one_ind (i := 26) (by decide) _ _).2 hS
  refine anyL_take (fun _ => True) [] (i := 27) (v := ?_) rfl (by kernel_rfl) (by kernel_rfl) (by kernel_rfl) (fun _ _ _ h => h) (by kernel_rfl) (one_ind (i := 27) (by decide)) (fun _ _ _ _ => trivial) (Or.inl ⟨by kernel_rfl, ?_⟩) hS ?_
  rotate_left
  · intro X hX
    clear hX
    go_simp
    try with_reducible rfl
  try simp only [List.getElem_toArray, List.getElem_cons_zero, List.getElem_cons_succ]
  simp only [Act.put, List.setIfInBounds_toArray, List.set_cons_zero, List.set_cons_succ]
  replace hS := (one_ind (i := 27) (by decide) _ _).2 hS
  refine anyL_take (fun _ => True) [] (i := 28) (v := ?_) rfl (by kernel_rfl) (by kernel_rfl) (by kernel_rfl) (fun _ _ _ h => h) (by kernel_rfl) (one_ind (i := 28) (by decide)) (fun _ _ _ _ => trivial) (Or.inl ⟨by kernel_rfl, ?_⟩) hS ?_
  rotate_left
  · intro X hX
    clear hX
    go_simp
    try with_reducible rfl
  try simp only [List.getElem_toArray, List.getElem_cons_zero, List.getElem_cons_succ]
  simp only [Act.put, List.setIfInBounds_toArray, List.set_cons_zero, List.set_cons_succ]
  replace hS := (one_ind (i := 28) (by decide) _ _).2 hS
  refine anyL_take (Fu) [] (i := 29) (v := ?_) rfl (by kernel_rfl) (by kernel_rfl) (by kernel_rfl) (fun _ _ _ h => h) (by kernel_rfl) (one_ind (i := 29) (by decide)) (fun L X h1 h2 => h2.2) (Or.inl ⟨by kernel_rfl, ?_⟩) hS ?_
  rotate_left
  · intro X hX
    obtain ⟨g0, g1, g2, g3, g4, g5⟩ := load_cm (HFu.out X hX).b3; clear hX
    go_simp
    try with_reducible rfl
  try simp only [List.getElem_toArray, List.getElem_cons_zero, List.getElem_cons_succ]
  simp only [Act.put, List.setIfInBounds_toArray, List.set_cons_zero, List.set_cons_succ]
  replace hS := (one_ind (i := 29) (by decide) _ _).2 hS
  refine anyL_take (Fu) [] (i := 30) (v := ?_) rfl (by kernel_rfl) (by kernel_rfl) (by kernel_rfl) (fun _ _ _ h => h) (by kernel_rfl) (one_ind (i := 30) (by decide)) (fun L X h1 h2 => h2.2) (Or.inl ⟨by kernel_rfl, ?_⟩) hS ?_
  rotate_left
  · intro X hX
    obtain ⟨g0, g1, g2, g3, g4, g5⟩ := load_cm (HFu.out X hX).b4; clear hX
    go_simp
    try with_reducible rfl
  try simp only [List.getElem_toArray, List.getElem_cons_zero, List.getElem_cons_succ]
  simp only [Act.put, List.setIfInBounds_toArray, List.set_cons_zero, List.set_cons_succ]
  replace hS := (one_ind (i := 30) (by decide) _ _).2 hS
  clear hS
  refine anyL_step (i := 31) (by kernel_rfl) rfl (by kernel_rfl) (fun K hK => ?_)
  go_simp
  refine (RSame_calls sx sx P3 p3 Q3 q3 P4 p4 Q4 q4 _ (HFu.out _ hF).k3 (HFu.out _ hF).k4).mono ?_
  rintro e V4' ⟨rfl, b1⟩
  rw [decide_eq_true (rfl : sx = sx)]
  replace hF := HFb.out _ _ hF b1
  clear b1
  dsimp only
  refine hK.out _ _ ⟨fun _ => trivial, hF⟩ ?_
  clear hK K
  try simp only [Act.put, List.setIfInBounds_toArray, List.set_cons_zero, List.set_cons_succ]
  have hS : oneQ 999 (fun _ => True) Fu (((((((((((((((((((((((((((((((((Array.replicate 76 false).setIfInBounds 0 true).setIfInBounds 1 true).setIfInBounds 2 true).setIfInBounds 3 true).setIfInBounds 4 true).setIfInBounds 5 true).setIfInBounds 6 true).setIfInBounds 7 true).setIfInBounds 8 true).setIfInBounds 9 true).setIfInBounds 10 true).setIfInBounds 11 true).setIfInBounds 12 true).setIfInBounds 13 true).setIfInBounds 14 true).setIfInBounds 15 true).setIfInBounds 16 true).setIfInBounds 17 true).setIfInBounds 18 true).setIfInBounds 19 true).setIfInBounds 20 true).setIfInBounds 21 true).setIfInBounds 22 true).setIfInBounds 23 true).setIfInBounds 24 true).setIfInBounds 25 true).setIfInBounds 26 true).setIfInBounds 27 true).setIfInBounds 28 true).setIfInBounds 29 true).setIfInBounds 30 true).setIfInBounds 31 true) V4' := ⟨fun _ => trivial, hF⟩
  refine anyL_take (fun _ => True) [] (i := 32) (v := ?_) rfl (by kernel_rfl) (by kernel_rfl) (by kernel_rfl) (fun _ _ _ h => h) (by kernel_rfl) (one_ind (i := 32) (by decide)) (fun _ _ _ _ => trivial) (Or.inl ⟨by kernel_rfl, ?_⟩) hS ?_
  rotate_left
  · intro X hX
    clear hX
    go_simp
    try with_reducible rfl
  try simp only [List.getElem_toArray, List.getElem_cons_zero, List.getElem_cons_succ]
  simp only [Act.put, List.setIfInBounds_toArray, List.set_cons_zero, List.set_cons_succ]
  replace hS := (one_ind (i := 32) (by decide) _ _).2 hS
  refine anyL_take (fun _ => True) [] (i := 33) (v := ?_) rfl (by kernel_rfl) (by kernel_rfl) (by kernel_rfl) (fun _ _ _ h => h) (by kernel_rfl) (one_ind (i := 33) (by decide)) (fun _ _ _ _ => trivial) (Or.inl ⟨by kernel_rfl, ?_⟩) hS ?_
  rotate_left
  · intro X hX
    clear hX
    go_simp
    try with_reducible rfl
  try simp only [List.getElem_toArray, List.getElem_cons_zero, List.getElem_cons_succ]
  simp only [Act.put, List.setIfInBounds_toArray, List.set_cons_zero, List.set_cons_succ]
  replace hS := (one_ind (i := 33) (by decide) _ _).2 hS
  refine anyL_take (fun _ => True) [] (i := 34) (v := ?_) rfl (by kernel_rfl) (by kernel_rfl) (by kernel_rfl) (fun _ _ _ h => h) (by kernel_rfl) (one_ind (i := 34) (by decide)) (fun _ _ _ _ => trivial) (Or.inl ⟨by kernel_rfl, ?_⟩) hS ?_
  rotate_left
  · intro X hX
    clear hX
    go_simp
    try with_reducible rfl
  try simp only [List.getElem_toArray, List.getElem_cons_zero, List.getElem_cons_succ]
  simp only [Act.put, List.setIfInBounds_toArray, List.set_cons_zero, List.set_cons_succ]
  replace hS := (one_ind (i := 34) (by decide) _ _).2 hS
  refine anyL_take (fun _ => True) [] (i := 35) (v := ?_) rfl (by kernel_rfl) (by kernel_rfl) (by kernel_rfl) (fun _ _ _ h => h) (by kernel_rfl) (one_ind (i := 35) (by decide)) (fun _ _ _ _ => trivial) (Or.inl ⟨by kernel_rfl, ?_⟩) hS ?_
  rotate_left
  · intro X hX
    clear hX
    go_simp
    try with_reducible rfl
  try simp only [List.getElem_toArray, List.getElem_cons_zero, List.getElem_cons_succ]
  simp only [Act.put, List.setIfInBounds_toArray, List.set_cons_zero, List.set_cons_succ]
  replace hS := (one_ind (i := 35) (by decide) _ _).2 hS
  refine anyL_take (fun _ => True) [] (i := 36) (v := ?_) rfl (by kernel_rfl) (by kernel_rfl) (by kernel_rfl) (fun _ _ _ h => h) (by kernel_rfl) (one_ind (i := 36) (by decide)) (fun _ _ _ _ => trivial) (Or.inl ⟨by kernel_rfl, ?_⟩) hS ?_
  rotate_left
  · intro X hX
    clear hX
    go_simp
    try with_reducible rfl
  try simp only [List.getElem_toArray, List.getElem_cons_zero, List.getElem_cons_succ]
  simp only [Act.put, List.setIfInBounds_toArray, List.set_cons_zero, List.set_cons_succ]
  replace hS := (one_ind (i := 36) (by decide) _ _).2 hS
  refine anyL_take (fun _ => True) [] (i := 37) (v := ?_) rfl (by kernel_rfl) (by kernel_rfl) (by kernel_rfl) (fun _ _ _ h => h) (by kernel_rfl) (one_ind (i := 37) (by decide)) (fun _ _ _ _ => trivial) (Or.inl ⟨by kernel_rfl, ?_⟩) hS ?_
  rotate_left
  · intro X hX
    clear hX
    go_simp
    try with_reducible rfl
  try simp only [List.getElem_toArray, List.getElem_cons_zero, List.getElem_cons_succ]
  simp only [Act.put, List.setIfInBounds_toArray, List.set_cons_zero, List.set_cons_succ]
  replace hS := (one_ind (i := 37) (by decide) _ _).2 hS
  refine anyL_take (fun _ => True) [] (i := 38) (v := ?_) rfl (by kernel_rfl) (by kernel_rfl) (by kernel_rfl) (fun _ _ _ h => h) (by kernel_rfl) (one_ind (i := 38) (by decide)) (fun _ _ _ _ => trivial) (Or.inl ⟨by kernel_rfl, ?_⟩) hS ?_
  rotate_left
  · intro X hX
    clear hX
    go_simp
    try with_reducible rfl
  try simp only [List.getElem_toArray, List.getElem_cons_zero, List.getElem_cons_succ]
  simp only [Act.put, List.setIfInBounds_toArray, List.set_cons_zero, List.set_cons_succ]
  replace hS := (one_ind (i := 38) (by decide) _ _).2 hS
  refine anyL_take (Fu) [] (i := 39) (v := ?_) rfl (by kernel_rfl) (by kernel_rfl) (by kernel_rfl) (fun _ _ _ h => h) (by kernel_rfl) (one_ind (i := 39) (by decide)) (fun L X h1 h2 => h2.2) (Or.inl ⟨by kernel_rfl, ?_⟩) hS ?_
  rotate_left
  · intro X hX
    obtain ⟨g0, g1, g2, g3, g4, g5⟩ := load_cm (HFu.out X hX).f.c; clear hX
    go_simp
    try with_reducible rfl
  try simp only [List.getElem_toArray, List.getElem_cons_zero, List.getElem_cons_succ]
  simp only [Act.put, List.setIfInBounds_toArray, List.set_cons_zero, List.set_cons_succ]
  replace hS := (one_ind (i := 39) (by decide) _ _).2 hS
  refine anyL_take (Fu) [] (i := 41) (v := ?_) rfl (by kernel_rfl) (by kernel_rfl) (by kernel_rfl) (fun _ _ _ h => h) (by kernel_rfl) (one_ind (i := 41) (by decide)) (fun L X h1 h2 => h2.2) (Or.inl ⟨by kernel_rfl, ?_⟩) hS ?_
  rotate_left
  · intro X hX
    obtain ⟨g0, g1, g2, g3, g4, g5⟩ := load_cm (HFu.out X hX).f.c; clear hX
    go_simp
    try with_reducible rfl
  try simp only [List.getElem_toArray, List.getElem_cons_zero, List.getElem_cons_succ]
  simp only [Act.put, List.setIfInBounds_toArray, List.set_cons_zero, List.set_cons_succ]
  replace hS := (one_ind (i := 41) (by decide) _ _).2 hS
  clear hS
  refine anyL_step (i := 40) (by kernel_rfl) rfl (by kernel_rfl) (fun K hK => ?_)
  go_simp
  refine (CCheck_calls x A a B b _ (HFu.out _ hF).f.k).mono ?_
  rintro e V5' ⟨rfl, b1⟩
  rw [hck.out]
  replace hF := HFb.out _ _ hF b1
  clear b1
  dsimp only
  refine hK.out _ _ ⟨fun _ => trivial, hF⟩ ?_
  clear hK K
  try simp only [Act.put, List.setIfInBounds_toArray, List.set_cons_zero, List.set_cons_succ]
  refine anyL_step (i := 42) (by kernel_rfl) rfl (by kernel_rfl) (fun K hK => ?_)
  go_simp
  refine (RCheck_calls x A a B b _).mono ?_
  rintro e V6' ⟨rfl, b1⟩
  rw [hck.out]
  replace hF := HFb.out _ _ hF b1
  clear b1
  dsimp only
  refine hK.out _ _ ⟨fun _ => trivial, hF⟩ ?_
  clear hK K
  try simp only [Act.put, List.setIfInBounds_toArray, List.set_cons_zero, List.set_cons_succ]
  have hS : oneQ 999 (fun _ => True) Fu ((((((((((((((((((((((((((((((((((((((((((((Array.replicate 76 false).setIfInBounds 0 true).setIfInBounds 1 true).setIfInBounds 2 true).setIfInBounds 3 true).setIfInBounds 4 true).setIfInBounds 5 true).setIfInBounds 6 true).setIfInBounds 7 true).setIfInBounds 8 true).setIfInBounds 9 true).setIfInBounds 10 true).setIfInBounds 11 true).setIfInBounds 12 true).setIfInBounds 13 true).setIfInBounds 14 true).setIfInBounds 15 true).setIfInBounds 16 true).setIfInBounds 17 true).setIfInBounds 18 true).setIfInBounds 19 true).setIfInBounds 20 true).setIfInBounds 21 true).setIfInBounds 22 true).setIfInBounds 23 true).setIfInBounds 24 true).setIfInBounds 25 true).setIfInBounds 26 true).setIfInBounds 27 true).setIfInBounds 28 true).setIfInBounds 29 true).setIfInBounds 30 true).setIfInBounds 31 true).setIfInBounds 32 true).setIfInBounds 33 true).setIfInBounds 34 true).setIfInBounds 35 true).setIfInBounds 36 true).setIfInBounds 37 true).setIfInBounds 38 true).setIfInBounds 39 true).setIfInBounds 41 true).setIfInBounds 40 true).setIfInBounds 42 true) V6' := ⟨fun _ => trivial, hF⟩
  refine anyL_take (fun _ => True) [] (i := 43) (v := ?_) rfl (by kernel_rfl) (by kernel_rfl) (by kernel_rfl) (fun _ _ _ h => h) (by kernel_rfl) (one_ind (i := 43) (by decide)) (fun _ _ _ _ => trivial) (Or.inl ⟨by kernel_rfl, ?_⟩) hS ?_
  rotate_left
  · intro X hX
    clear hX
    go_simp
    try with_reducible rfl
  try simp only [List.getElem_toArray, List.getElem_cons_zero, List.getElem_cons_succ]
  simp only [Act.put, List.setIfInBounds_toArray, List.set_cons_zero, List.set_cons_succ]
  replace hS := (one_ind (i := 43) (by decide) _ _).2 hS
  refine anyL_take (fun _ => True) [] (i := 44) (v := ?_) rfl (by kernel_rfl) (by kernel_rfl) (by kernel_rfl) (fun _ _ _ h => h) (by kernel_rfl) (one_ind (i := 44) (by decide)) (fun _ _ _ _ => trivial) (Or.inl ⟨by kernel_rfl, ?_⟩) hS ?_
  rotate_left
  · intro X hX
    clear hX
    go_simp
    try with_reducible rfl
  try simp only [List.getElem_toArray, List.getElem_cons_zero, List.getElem_cons_succ]
  simp only [Act.put, List.setIfInBounds_toArray, List.set_cons_zero, List.set_cons_succ]
  replace hS := (one_ind (i := 44) (by decide) _ _).2 hS
  refine anyL_take (fun _ => True) [] (i := 45) (v := ?_) rfl (by kernel_rfl) (by kernel_rfl) (by kernel_rfl) (fun _ _ _ h => h) (by kernel_rfl) (one_ind (i := 45) (by decide)) (fun _ _ _ _ => trivial) (Or.inl ⟨by kernel_rfl, ?_⟩) hS ?_
  rotate_left
  · intro X hX
    clear hX
    go_simp
    try with_reducible rfl
  try simp only [List.getElem_toArray, List.getElem_cons_zero, List.getElem_cons_succ]
  simp only [Act.put, List.setIfInBounds_toArray, List.set_cons_zero, List.set_cons_succ]
  replace hS := (one_ind (i := 45) (by decide) _ _).2 hS
  refine anyL_take (fun _ => True) [] (i := 46) (v := ?_) rfl (by kernel_rfl) (by kernel_rfl) (by kernel_rfl) (fun _ _ _ h => h) (by kernel_rfl) (one_ind (i := 46) (by decide)) (fun _ _ _ _ => trivial) (Or.inl ⟨by kernel_rfl, ?_⟩) hS ?_
  rotate_left
  · intro X hX
    clear hX
    go_simp
    try with_reducible rfl
  try simp only [List.getElem_toArray, List.getElem_cons_zero, List.getElem_cons_succ]
  simp only [Act.put, List.setIfInBounds_toArray, List.set_cons_zero, List.set_cons_succ]
  replace hS := (one_ind (i := 46) (by decide) _ _).2 hS
  refine anyL_take (fun _ => True) [] (i := 48) (v := ?_) rfl (by kernel_rfl) (by kernel_rfl) (by kernel_rfl) (fun _ _ _ h => h) (by kernel_rfl) (one_ind (i := 48) (by decide)) (fun _ _ _ _ => trivial) (Or.inl ⟨by kernel_rfl, ?_⟩) hS ?_
  rotate_left
  · intro X hX
    clear hX
    go_simp
    try with_reducible rfl
  try simp only [List.getElem_toArray, List.getElem_cons_zero, List.getElem_cons_succ]
  simp only [Act.put, List.setIfInBounds_toArray, List.set_cons_zero, List.set_cons_succ]
  replace hS := (one_ind (i := 48) (by decide) _ _).2 hS
  clear hS
  refine anyL_step (i := 47) (by kernel_rfl) rfl (by kernel_rfl) (fun K hK => ?_)
  go_simp
  refine (CUpdates_calls n _).mono ?_
  rintro e V7' ⟨rfl, rfl⟩
  rw [hud.out]
  dsimp only
  refine hK.out _ _ ⟨fun _ => trivial, hF⟩ ?_
  clear hK K
  try simp only [Act.put, List.setIfInBounds_toArray, List.set_cons_zero, List.set_cons_succ]
  refine anyL_step (i := 49) (by kernel_rfl) rfl (by kernel_rfl) (fun K hK => ?_)
  go_simp
  refine (RUpdates_calls n _).mono ?_
  rintro e V8' ⟨rfl, rfl⟩
  rw [hud.out]
  dsimp only
  refine hK.out _ _ ⟨fun _ => trivial, hF⟩ ?_
  clear hK K
  try simp only [Act.put, List.setIfInBounds_toArray, List.set_cons_zero, List.set_cons_succ]
  have hS : oneQ 999 (fun _ => True) Fu (((((((((((((((((((((((((((((((((((((((((((((((((((Array.replicate 76 false).setIfInBounds 0 true).setIfInBounds 1 true).setIfInBounds 2 true).setIfInBounds 3 true).setIfInBounds 4 true).setIfInBounds 5 true).setIfInBounds 6 true).setIfInBounds 7 true).setIfInBounds 8 true).setIfInBounds 9 true).setIfInBounds 10 true).setIfInBounds 11 true).setIfInBounds 12 true).setIfInBounds 13 true).setIfInBounds 14 true).setIfInBounds 15 true).setIfInBounds 16 true).setIfInBounds 17 true).setIfInBounds 18 true).setIfInBounds 19 true).setIfInBounds 20 true).setIfInBounds 21 true).setIfInBounds 22 true).setIfInBounds 23 true).setIfInBounds 24 true).setIfInBounds 25 true).setIfInBounds 26 true).setIfInBounds 27 true).setIfInBounds 28 true).setIfInBounds 29 true).setIfInBounds 30 true).setIfInBounds 31 true).setIfInBounds 32 true).setIfInBounds 33 true).setIfInBounds 34 true).setIfInBounds 35 true).setIfInBounds 36 true).setIfInBounds 37 true).setIfInBounds 38 true).setIfInBounds 39 true).setIfInBounds 41 true).setIfInBounds 40 true).setIfInBounds 42 true).setIfInBounds 43 true).setIfInBounds 44 true).setIfInBounds 45 true).setIfInBounds 46 true).setIfInBounds 48 true).setIfInBounds 47 true).setIfInBounds 49 true) V8' := ⟨fun _ => trivial, hF⟩
  refine anyL_take (fun _ => True) [] (i := 50) (v := ?_) rfl (by kernel_rfl) (by kernel_rfl) (by kernel_rfl) (fun _ _ _ h => h) (by kernel_rfl) (one_ind (i := 50) (by decide)) (fun _ _ _ _ => trivial) (Or.inl ⟨by kernel_rfl, ?_⟩) hS ?_
  rotate_left
  · intro X hX
    clear hX
    go_simp
    try with_reducible rfl
  try simp only [List.getElem_toArray, List.getElem_cons_zero, List.getElem_cons_succ]
  simp only [Act.put, List.setIfInBounds_toArray, List.set_cons_zero, List.set_cons_succ]
  replace hS := (one_ind (i := 50) (by decide) _ _).2 hS
  refine anyL_take (fun _ => True) [] (i := 51) (v := ?_) rfl (by kernel_rfl) (by kernel_rfl) (by kernel_rfl) (fun _ _ _ h => h) (by kernel_rfl) (one_ind (i := 51) (by decide)) (fun _ _ _ _ => trivial) (Or.inl ⟨by kernel_rfl, ?_⟩) hS ?_
  rotate_left
  · intro X hX
    clear hX
    go_simp
    try with_reducible rfl
  try simp only [List.getElem_toArray, List.getElem_cons_zero, List.getElem_cons_succ]
  simp only [Act.put, List.setIfInBounds_toArray, List.set_cons_zero, List.set_cons_succ]
  replace hS := (one_ind (i := 51) (by decide) _ _).2 hS
  refine anyL_take (fun _ => True) [] (i := 52) (v := ?_) rfl (by kernel_rfl) (by kernel_rfl) (by kernel_rfl) (fun _ _ _ h => h) (by kernel_rfl) (one_ind (i := 52) (by decide)) (fun _ _ _ _ => trivial) (Or.inl ⟨by kernel_rfl, ?_⟩) hS ?_
  rotate_left
  · intro X hX
    clear hX
    go_simp
    try with_reducible rfl
  try simp only [List.getElem_toArray, List.getElem_cons_zero, List.getElem_cons_succ]
  simp only [Act.put, List.setIfInBounds_toArray, List.set_cons_zero, List.set_cons_succ]
  replace hS := (one_ind (i := 52) (by decide) _ _).2 hS
  refine anyL_take (fun _ => True) [] (i := 53) (v := ?_) rfl (by kernel_rfl) (by kernel_rfl) (by kernel_rfl) (fun _ _ _ h => h) (by kernel_rfl) (one_ind (i := 53) (by decide)) (fun _ _ _ _ => trivial) (Or.inl ⟨by kernel_rfl, ?_⟩) hS ?_
  rotate_left
  · intro X hX
    clear hX
    go_simp
    try with_reducible rfl
  try simp only [List.getElem_toArray, List.getElem_cons_zero, List.getElem_cons_succ]
  simp only [Act.put, List.setIfInBounds_toArray, List.set_cons_zero, List.set_cons_succ]
  replace hS := (one_ind (i := 53) (by decide) _ _).2 hS
  refine anyL_take (fun _ => True) [] (i := 55) (v := ?_) rfl (by kernel_rfl) (by kernel_rfl) (by kernel_rfl) (fun _ _ _ h => h) (by kernel_rfl) (one_ind (i := 55) (by decide)) (fun _ _ _ _ => trivial) (Or.inl ⟨by kernel_rfl, ?_⟩) hS ?_
  rotate_left
  · intro X hX
    clear hX
    go_simp
    try with_reducible rfl
  try simp only [List.getElem_toArray, List.getElem_cons_zero, List.getElem_cons_succ]
  simp only [Act.put, List.setIfInBounds_toArray, List.set_cons_zero, List.set_cons_succ]
  replace hS := (one_ind (i := 55) (by decide) _ _).2 hS
  clear hS
  refine anyL_step (i := 54) (by kernel_rfl) rfl (by kernel_rfl) (fun K hK => ?_)
  go_simp
  refine (Name_calls n _).mono ?_
  rintro e V9' ⟨rfl, b1⟩
  rw [hnm.out]
  replace hF := HFb.out _ _ hF b1
  clear b1
  dsimp only
  refine hK.out _ _ ⟨fun _ => trivial, hF⟩ ?_
  clear hK K
  try simp only [Act.put, List.setIfInBounds_toArray, List.set_cons_zero, List.set_cons_succ]
  refine anyL_step (i := 56) (by kernel_rfl) rfl (by kernel_rfl) (fun K hK => ?_)
  go_simp
  refine (RName_calls n _).mono ?_
  rintro e V10' ⟨rfl, b1⟩
  rw [hnm.out]
  replace hF := HFb.out _ _ hF b1
  clear b1
  dsimp only
  refine hK.out _ _ ⟨fun _ => trivial, hF⟩ ?_
  clear hK K
  try simp only [Act.put, List.setIfInBounds_toArray, List.set_cons_zero, List.set_cons_succ]
  have hS : oneQ 999 (fun _ => True) Fu ((((((((((((((((((((((((((((((((((((((((((((((((((((((((((Array.replicate 76 false).setIfInBounds 0 true).setIfInBounds 1 true).setIfInBounds 2 true).setIfInBounds 3 true).setIfInBounds 4 true).setIfInBounds 5 true).setIfInBounds 6 true).setIfInBounds 7 true).setIfInBounds 8 true).setIfInBounds 9 true).setIfInBounds 10 true).setIfInBounds 11 true).setIfInBounds 12 true).setIfInBounds 13 true).setIfInBounds 14 true).setIfInBounds 15 true).setIfInBounds 16 true).setIfInBounds 17 true).setIfInBounds 18 true).setIfInBounds 19 true).setIfInBounds 20 true).setIfInBounds 21 true).setIfInBounds 22 true).setIfInBounds 23 true).setIfInBounds 24 true).setIfInBounds 25 true).setIfInBounds 26 true).setIfInBounds 27 true).setIfInBounds 28 true).setIfInBounds 29 true).setIfInBounds 30 true).setIfInBounds 31 true).setIfInBounds 32 true).setIfInBounds 33 true).setIfInBounds 34 true).setIfInBounds 35 true).setIfInBounds 36 true).setIfInBounds 37 true).setIfInBounds 38 true).setIfInBounds 39 true).setIfInBounds 41 true).setIfInBounds 40 true).setIfInBounds 42 true).setIfInBounds 43 true).setIfInBounds 44 true).setIfInBounds 45 true).setIfInBounds 46 true).setIfInBounds 48 true).setIfInBounds 47 true).setIfInBounds 49 true).setIfInBounds 50 true).setIfInBounds 51 true).setIfInBounds 52 true).setIfInBounds 53 true).setIfInBounds 55 true).setIfInBounds 54 true).setIfInBounds 56 true) V10' := ⟨fun _ => trivial, hF⟩
  refine anyL_take (fun _ => True) [] (i := 57) (v := ?_) rfl (by kernel_rfl) (by kernel_rfl) (by kernel_rfl) (fun _ _ _ h => h) (by kernel_rfl) (one_ind (i := 57) (by decide)) (fun _ _ _ _ => trivial) (Or.inl ⟨by kernel_rfl, ?_⟩) hS ?_
  rotate_left
  · intro X hX
    clear hX
    go_simp
    try with_reducible rfl
  try simp only [List.getElem_toArray, List.getElem_cons_zero, List.getElem_cons_succ]
  simp only [Act.put, List.setIfInBounds_toArray, List.set_cons_zero, List.set_cons_succ]
  replace hS := (one_ind (i := 57) (by decide) _ _).2 hS
  refine anyL_take (fun _ => True) [] (i := 58) (v := ?_) rfl (by kernel_rfl) (by kernel_rfl) (by kernel_rfl) (fun _ _ _ h => h) (by kernel_rfl) (one_ind (i := 58) (by decide)) (fun _ _ _ _ => trivial) (Or.inl ⟨by kernel_rfl, ?_⟩) hS ?_
  rotate_left
  · intro X hX
    clear hX
    go_simp
    try with_reducible rfl
  try simp only [List.getElem_toArray, List.getElem_cons_zero, List.getElem_cons_succ]
  simp only [Act.put, List.setIfInBounds_toArray, List.set_cons_zero, List.set_cons_succ]
  replace hS := (one_ind (i := 58) (by decide) _ _).2 hS
  refine anyL_take (fun _ => True) [] (i := 59) (v := ?_) rfl (by kernel_rfl) (by kernel_rfl) (by kernel_rfl) (fun _ _ _ h => h) (by kernel_rfl) (one_ind (i := 59) (by decide)) (fun _ _ _ _ => trivial) (Or.inl ⟨by kernel_rfl, ?_⟩) hS ?_
  rotate_left
  · intro X hX
    clear hX
    go_simp
    try with_reducible rfl
  try simp only [List.getElem_toArray, List.getElem_cons_zero, List.getElem_cons_succ]
  simp only [Act.put, List.setIfInBounds_toArray, List.set_cons_zero, List.set_cons_succ]
  replace hS := (one_ind (i := 59) (by decide) _ _).2 hS
  refine anyL_take (fun _ => True) [] (i := 60) (v := ?_) rfl (by kernel_rfl) (by kernel_rfl) (by kernel_rfl) (fun _ _ _ h => h) (by kernel_rfl) (one_ind (i := 60) (by decide)) (fun _ _ _ _ => trivial) (Or.inl ⟨by kernel_rfl, ?_⟩) hS ?_
  rotate_left
  · intro X hX
    clear hX
    go_simp
    try with_reducible rfl
  try simp only [List.getElem_toArray, List.getElem_cons_zero, List.getElem_cons_succ]
  simp only [Act.put, List.setIfInBounds_toArray, List.set_cons_zero, List.set_cons_succ]
  replace hS := (one_ind (i := 60) (by decide) _ _).2 hS
  refine anyL_take (fun _ => True) [] (i := 62) (v := ?_) rfl (by kernel_rfl) (by kernel_rfl) (by kernel_rfl) (fun _ _ _ h => h) (by kernel_rfl) (one_ind (i := 62) (by decide)) (fun _ _ _ _ => trivial) (Or.inl ⟨by kernel_rfl, ?_⟩) hS ?_
  rotate_left
  · intro X hX
    clear hX
    go_simp
    try with_reducible rfl
  try simp only [List.getElem_toArray, List.getElem_cons_zero, List.getElem_cons_succ]
  simp only [Act.put, List.setIfInBounds_toArray, List.set_cons_zero, List.set_cons_succ]
  replace hS := (one_ind (i := 62) (by decide) _ _).2 hS
  clear hS
  refine anyL_step (i := 61) (by kernel_rfl) rfl (by kernel_rfl) (fun K hK => ?_)
  go_simp
  refine (Word_calls n _).mono ?_
  rintro e V11' ⟨rfl, b1⟩
  rw [hwd.out]
  replace hF := HFb.out _ _ hF b1
  clear b1
  dsimp only
  refine hK.out _ _ ⟨fun _ => trivial, hF⟩ ?_
  clear hK K
  try simp only [Act.put, List.setIfInBounds_toArray, List.set_cons_zero, List.set_cons_succ]
  refine anyL_step (i := 63) (by kernel_rfl) rfl (by kernel_rfl) (fun K hK => ?_)
  go_simp
  refine (RWord_calls n _).mono ?_
  rintro e V12' ⟨rfl, b1⟩
  rw [hwd.out]
  replace hF := HFb.out _ _ hF b1
  clear b1
  dsimp only
  refine hK.out _ _ ⟨fun _ => trivial, hF⟩ ?_
  clear hK K
  try simp only [Act.put, List.setIfInBounds_toArray, List.set_cons_zero, List.set_cons_succ]
  have hS : oneQ 999 (fun _ => True) Fu (((((((((((((((((((((((((((((((((((((((((((((((((((((((((((((((((Array.replicate 76 false).setIfInBounds 0 true).setIfInBounds 1 true).setIfInBounds 2 true).setIfInBounds 3 true).setIfInBounds 4 true).setIfInBounds 5 true).setIfInBounds 6 true).setIfInBounds 7 true).setIfInBounds 8 true).setIfInBounds 9 true).setIfInBounds 10 true).setIfInBounds 11 true).setIfInBounds 12 true).setIfInBounds 13 true).setIfInBounds 14 true).setIfInBounds 15 true).setIfInBounds 16 true).setIfInBounds 17 true).setIfInBounds 18 true).setIfInBounds 19 true).setIfInBounds 20 true).setIfInBounds 21 true).setIfInBounds 22 true).setIfInBounds 23 true).setIfInBounds 24 true).setIfInBounds 25 true).setIfInBounds 26 true).setIfInBounds 27 true).setIfInBounds 28 true).setIfInBounds 29 true).setIfInBounds 30 true).setIfInBounds 31 true).setIfInBounds 32 true).setIfInBounds 33 true).setIfInBounds 34 true).setIfInBounds 35 true).setIfInBounds 36 true).setIfInBounds 37 true).setIfInBounds 38 true).setIfInBounds 39 true).setIfInBounds 41 true).setIfInBounds 40 true).setIfInBounds 42 true).setIfInBounds 43 true).setIfInBounds 44 true).setIfInBounds 45 true).setIfInBounds 46 true).setIfInBounds 48 true).setIfInBounds 47 true).setIfInBounds 49 true).setIfInBounds 50 true).setIfInBounds 51 true).setIfInBounds 52 true).setIfInBounds 53 true).setIfInBounds 55 true).setIfInBounds 54 true).setIfInBounds 56 true).setIfInBounds 57 true).setIfInBounds 58 true).setIfInBounds 59 true).setIfInBounds 60 true).setIfInBounds 62 true).setIfInBounds 61 true).setIfInBounds 63 true) V12' := ⟨fun _ => trivial, hF⟩
  refine anyL_take (fun _ => True) [] (i := 64) (v := ?_) rfl (by kernel_rfl) (by kernel_rfl) (by kernel_rfl) (fun _ _ _ h => h) (by kernel_rfl) (one_ind (i := 64) (by decide)) (fun _ _ _ _ => trivial) (Or.inl ⟨by kernel_rfl, ?_⟩) hS ?_
  rotate_left
  · intro X hX
    clear hX
    go_simp
    try with_reducible rfl
  try simp only [List.getElem_toArray, List.getElem_cons_zero, List.getElem_cons_succ]
  simp only [Act.put, List.setIfInBounds_toArray, List.set_cons_zero, List.set_cons_succ]
  replace hS := (one_ind (i := 64) (by decide) _ _).2 hS
  refine anyL_take (fun _ => True) [] (i := 65) (v := ?_) rfl (by kernel_rfl) (by kernel_rfl) (by kernel_rfl) (fun _ _ _ h => h) (by kernel_rfl) (one_ind (i := 65) (by decide)) (fun _ _ _ _ => trivial) (Or.inl ⟨by kernel_rfl, ?_⟩) hS ?_
  rotate_left
  · intro X hX
    clear hX
    go_simp
    try with_reducible rfl
  try simp only [List.getElem_toArray, List.getElem_cons_zero, List.getElem_cons_succ]
  simp only [Act.put, List.setIfInBounds_toArray, List.set_cons_zero, List.set_cons_succ]
  replace hS := (one_ind (i := 65) (by decide) _ _).2 hS
  refine anyL_take (fun _ => True) [] (i := 66) (v := ?_) rfl (by kernel_rfl) (by kernel_rfl) (by kernel_rfl) (fun _ _ _ h => h) (by kernel_rfl) (one_ind (i := 66) (by decide)) (fun _ _ _ _ => trivial) (Or.inl ⟨by kernel_rfl, ?_⟩) hS ?_
  rotate_left
  · intro X hX
    clear hX
    go_simp
    try with_reducible rfl
  try simp only [List.getElem_toArray, List.getElem_cons_zero, List.getElem_cons_succ]
  simp only [Act.put, List.setIfInBounds_toArray, List.set_cons_zero, List.set_cons_succ]
  replace hS := (one_ind (i := 66) (by decide) _ _).2 hS
  refine anyL_take (Fu) [] (i := 67) (v := ?_) rfl (by kernel_rfl) (by kernel_rfl) (by kernel_rfl) (fun _ _ _ h => h) (by kernel_rfl) (one_ind (i := 67) (by decide)) (fun L X h1 h2 => h2.2) (Or.inl ⟨by kernel_rfl, ?_⟩) hS ?_
  rotate_left
  · intro X hX
    obtain ⟨g0, g1, g2, g3, g4, g5⟩ := load_cm (HFu.out X hX).f.c; clear hX
    go_simp
    try with_reducible rfl
  try simp only [List.getElem_toArray, List.getElem_cons_zero, List.getElem_cons_succ]
  simp only [Act.put, List.setIfInBounds_toArray, List.set_cons_zero, List.set_cons_succ]
  replace hS := (one_ind (i := 67) (by decide) _ _).2 hS
  refine anyL_take (Fu) [] (i := 68) (v := ?_) rfl (by kernel_rfl) (by kernel_rfl) (by kernel_rfl) (fun _ _ _ h => h) (by kernel_rfl) (one_ind (i := 68) (by decide)) (fun L X h1 h2 => h2.2) (Or.inl ⟨by kernel_rfl, ?_⟩) hS ?_
  rotate_left
  · intro X hX
    obtain ⟨g0, g1, g2, g3, g4, g5⟩ := load_cm (HFu.out X hX).f.o; clear hX
    go_simp
    try with_reducible rfl
  try simp only [List.getElem_toArray, List.getElem_cons_zero, List.getElem_cons_succ]
  simp only [Act.put, List.setIfInBounds_toArray, List.set_cons_zero, List.set_cons_succ]
  replace hS := (one_ind (i := 68) (by decide) _ _).2 hS
  refine anyL_take (Fu) [] (i := 70) (v := ?_) rfl (by kernel_rfl) (by kernel_rfl) (by kernel_rfl) (fun _ _ _ h => h) (by kernel_rfl) (one_ind (i := 70) (by decide)) (fun L X h1 h2 => h2.2) (Or.inl ⟨by kernel_rfl, ?_⟩) hS ?_
  rotate_left
  · intro X hX
    obtain ⟨g0, g1, g2, g3, g4, g5⟩ := load_cm (HFu.out X hX).f.c; clear hX
    go_simp
    try with_reducible rfl
  try simp only [List.getElem_toArray, List.getElem_cons_zero, List.getElem_cons_succ]
  simp only [Act.put, List.setIfInBounds_toArray, List.set_cons_zero, List.set_cons_succ]
  replace hS := (one_ind (i := 70) (by decide) _ _).2 hS
  refine anyL_take (Fu) [] (i := 71) (v := ?_) rfl (by kernel_rfl) (by kernel_rfl) (by kernel_rfl) (fun _ _ _ h => h) (by kernel_rfl) (one_ind (i := 71) (by decide)) (fun L X h1 h2 => h2.2) (Or.inl ⟨by kernel_rfl, ?_⟩) hS ?_
  rotate_left
  · intro X hX
    obtain ⟨g0, g1, g2, g3, g4, g5⟩ := load_cm (HFu.out X hX).f.o; clear hX
    go_simp
    try with_reducible rfl
  try simp only [List.getElem_toArray, List.getElem_cons_zero, List.getElem_cons_succ]
  simp only [Act.put, List.setIfInBounds_toArray, List.set_cons_zero, List.set_cons_succ]
  replace hS := (one_ind (i := 71) (by decide) _ _).2 hS
  clear hS
  refine anyL_step (i := 69) (by kernel_rfl) rfl (by kernel_rfl) (fun K hK => ?_)
  go_simp
  refine (CSame_calls x y A a B b A' a' B' b' _ (HFu.out _ hF).f.k (HFu.out _ hF).f.l).mono ?_
  rintro e V13' ⟨rfl, b1⟩
  rw [hsm.out]
  replace hF := HFb.out _ _ hF b1
  clear b1
  dsimp only
  refine hK.out _ _ ⟨fun _ => trivial, hF⟩ ?_
  clear hK K
  try simp only [Act.put, List.setIfInBounds_toArray, List.set_cons_zero, List.set_cons_succ]
  refine anyL_step (i := 72) (by kernel_rfl) rfl (by kernel_rfl) (fun K hK => ?_)
  go_simp
  refine (RSame_calls x y A a B b A' a' B' b' _ (HFu.out _ hF).f.k (HFu.out _ hF).f.l).mono ?_
  rintro e V14' ⟨rfl, b1⟩
  rw [hsm.out]
  replace hF := HFb.out _ _ hF b1
  clear b1
  dsimp only
  refine hK.out _ _ ⟨fun _ => trivial, hF⟩ ?_
  clear hK K
  try simp only [Act.put, List.setIfInBounds_toArray, List.set_cons_zero, List.set_cons_succ]
  have hS : oneQ 999 (fun _ => True) Fu ((((((((((((((((((((((((((((((((((((((((((((((((((((((((((((((((((((((((((Array.replicate 76 false).setIfInBounds 0 true).setIfInBounds 1 true).setIfInBounds 2 true).setIfInBounds 3 true).setIfInBounds 4 true).setIfInBounds 5 true).setIfInBounds 6 true).setIfInBounds 7 true).setIfInBounds 8 true).setIfInBounds 9 true).setIfInBounds 10 true).setIfInBounds 11 true).setIfInBounds 12 true).setIfInBounds 13 true).setIfInBounds 14 true).setIfInBounds 15 true).setIfInBounds 16 true).setIfInBounds 17 true).setIfInBounds 18 true).setIfInBounds 19 true).setIfInBounds 20 true).setIfInBounds 21 true).setIfInBounds 22 true).setIfInBounds 23 true).setIfInBounds 24 true).setIfInBounds 25 true).setIfInBounds 26 true).setIfInBounds 27 true).setIfInBounds 28 true).setIfInBounds 29 true).setIfInBounds 30 true).setIfInBounds 31 true).setIfInBounds 32 true).setIfInBounds 33 true).setIfInBounds 34 true).setIfInBounds 35 true).setIfInBounds 36 true).setIfInBounds 37 true).setIfInBounds 38 true).setIfInBounds 39 true).setIfInBounds 41 true).setIfInBounds 40 true).setIfInBounds 42 true).setIfInBounds 43 true).setIfInBounds 44 true).setIfInBounds 45 true).setIfInBounds 46 true).setIfInBounds 48 true).setIfInBounds 47 true).setIfInBounds 49 true).setIfInBounds 50 true).setIfInBounds 51 true).setIfInBounds 52 true).setIfInBounds 53 true).setIfInBounds 55 true).setIfInBounds 54 true).setIfInBounds 56 true).setIfInBounds 57 true).setIfInBounds 58 true).setIfInBounds 59 true).setIfInBounds 60 true).setIfInBounds 62 true).setIfInBounds 61 true).setIfInBounds 63 true).setIfInBounds 64 true).setIfInBounds 65 true).setIfInBounds 66 true).setIfInBounds 67 true).setIfInBounds 68 true).setIfInBounds 70 true).setIfInBounds 71 true).setIfInBounds 69 true).setIfInBounds 72 true) V14' := ⟨fun _ => trivial, hF⟩
  refine anyL_take (fun _ => True) [] (i := 73) (v := ?_) rfl (by kernel_rfl) (by kernel_rfl) (by kernel_rfl) (fun _ _ _ h => h) (by kernel_rfl) (one_ind (i := 73) (by decide)) (fun _ _ _ _ => trivial) (Or.inl ⟨by kernel_rfl, ?_⟩) hS ?_
  rotate_left
  · intro X hX
    clear hX
    go_simp
    try with_reducible rfl
  change anyL _ _ _ _ _ _ _ (Act.put _ (some 162) _) _
  try simp only [List.getElem_toArray, List.getElem_cons_zero, List.getElem_cons_succ]
  simp only [Act.put, List.setIfInBounds_toArray, List.set_cons_zero, List.set_cons_succ]
  replace hS := (one_ind (i := 73) (by decide) _ _).2 hS
  refine anyL_take (fun _ => True) [] (i := 74) (v := ?_) rfl (by kernel_rfl) (by kernel_rfl) (by kernel_rfl) (fun _ _ _ h => h) (by kernel_rfl) (one_ind (i := 74) (by decide)) (fun _ _ _ _ => trivial) (Or.inl ⟨by kernel_rfl, ?_⟩) hS ?_
  rotate_left
  · intro X hX
    clear hX
    go_simp
    try with_reducible rfl
  change anyL _ _ _ _ _ _ _ (Act.put _ (some 163) _) _
  try simp only [List.getElem_toArray, List.getElem_cons_zero, List.getElem_cons_succ]
  simp only [Act.put, List.setIfInBounds_toArray, List.set_cons_zero, List.set_cons_succ]
  replace hS := (one_ind (i := 74) (by decide) _ _).2 hS
  refine anyL_take (fun _ => True) [] (i := 75) (v := ?_) rfl (by kernel_rfl) (by kernel_rfl) (by kernel_rfl) (fun _ _ _ h => h) (by kernel_rfl) (one_ind (i := 75) (by decide)) (fun _ _ _ _ => trivial) (Or.inl ⟨by kernel_rfl, ?_⟩) hS ?_
  rotate_left
  · intro X hX
    clear hX
    go_simp
    try with_reducible rfl
  change anyL _ _ _ _ _ _ _ (Act.put _ (some 12) _) _
  try simp only [List.getElem_toArray, List.getElem_cons_zero, List.getElem_cons_succ]
  simp only [Act.put, List.setIfInBounds_toArray, List.set_cons_zero, List.set_cons_succ]
  replace hS := (one_ind (i := 75) (by decide) _ _).2 hS
  clear hS
  refine anyL_done (by kernel_rfl) ?_ _
  go_wp2_with fail
  go_ret
  exact ⟨by kernel_rfl, (HFu.out _ hF).f.B⟩
end Go.Proofs.Ytjdablkdndmcgaa
