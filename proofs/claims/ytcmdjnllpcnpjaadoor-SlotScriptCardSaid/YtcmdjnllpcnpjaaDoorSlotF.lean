/- Slots in memory: TrailingZeros64, Check, New, Count, Has, least. -/
import Derived.Test.YtcmdjnllpcnpjaaDoorSlotM
import Derived.Test.YtcmdjnllpcnpjaaDoorKeepM
import Derived.Test.YtcmdjnllpcnpjaaDoorKit
import Derived.Deep.LoopGhost
import Derived.WalkArith
namespace Go.Proofs.YtcmdjnllpcnpjaaDoor
set_option linter.unusedVariables false
set_option linter.unusedSimpArgs false
open Go.RowKit
theorem wrap_u64_neg (x : Nat) (h0 : x ≠ 0) (h : x < 18446744073709551616) : IntKind.u64.wrap (-(x : Int)) = ((18446744073709551616 - x : Nat) : Int) := by rw [IntKind.wrap_u64]; omega
theorem tz_key (x a : Nat) (hx : x < 18446744073709551616) (hx0 : x ≠ 0) (hlow : x &&& (18446744073709551616 - x) = a) :
    IntKind.u64.wrap (bits BinOp.and IntKind.u64 (x : Int) (IntKind.u64.wrap (-(x : Int))) * 285870213051353865) / 288230376151711744 = ((a * 285870213051353865 % 18446744073709551616 / 288230376151711744 : Nat) : Int) := by
  rw [wrap_u64_neg x hx0 hx, bits_and_u64_nat x _ hx (by omega), hlow, IntKind.wrap_u64]
  omega
theorem tz_core (x k idx : Nat) (w : World) (hx0 : ((x : Int) == 0) = false)
    (key : IntKind.u64.wrap (bits BinOp.and IntKind.u64 (x : Int) (IntKind.u64.wrap (-(x : Int))) * 285870213051353865) / 288230376151711744 = (idx : Int))
    (hi : idx < 64) (hk : k < 64) (hcell : w.cell? ⟨0, idx, none⟩ = some (.int .u8 k)) :
    Calls Tryd.prog 38 #[.int .u64 x] w fun e w' => e = .returned (.int .i64 k) ∧ w = w' := by
  go_enter Tryd.func38, Tryd.ntmps38
  go_wp2_with (simp only [key])
  go_ret
  exact ⟨rfl, rfl⟩
/-- The library's table in its variable. -/
def TabG (w : World) : Prop := ∀ j, j < 64 → w.cell? ⟨0, j, none⟩ = some (.int .u8 (Lib.deBruijn64tab.getD j 0 : Nat))
theorem TabG.below {w w' : World} (h : TabG w) (hb : Below w.heap.size w w') : TabG w' := fun j hj => cell_below hb _ _ (h j hj)
theorem TabG.keep {T : Nat → Prop} {w w' : World} (h : TabG w) (hk : Keep T w w') (h0 : ¬ T 0) : TabG w' := fun j hj => by
  have h1 := h j hj
  rw [World.cell?_of_block (hk.block 0 (World.block_lt_of_cell? w _ h1) h0)]
  exact h1
/-- TrailingZeros64 of a number that is not 0. -/
theorem TZ_calls (x : Nat) (w : World) (hT : TabG w) (hx : x < 18446744073709551616) (hx0 : x ≠ 0) :
    Calls Tryd.prog 38 #[.int .u64 x] w fun e w' => e = .returned (.int .i64 (Lib.ctz 64 x)) ∧ w = w' := by
  obtain ⟨hlow, hk⟩ := Lib.lowest_bit 64 x hx0 hx
  obtain ⟨hi, htab⟩ := Lib.deBruijn64_at _ hk
  have hcell := hT _ hi
  rw [htab] at hcell
  exact tz_core x _ _ w (by simp; omega) (tz_key x _ hx hx0 hlow) hi hk hcell
/-- vec.Check: both. -/
def ckR (v : List Int) (dim : Int) : Int := if dim < 1 ∨ 1024 < dim ∨ (v.length : Int) ≠ dim then 2 else 0
theorem VCheck_calls (A : Option Addr) (c : Nat) (v : List Int) (dim : Int) (w : World) (h : SlI w .i16 A c v) :
    Calls Tryd.prog 31 #[.slice A v.length c, .int .i64 dim] w fun e w' => e = .returned (.int .i64 (ckR v dim)) ∧ w = w' := by
  have hm := h.len
  unfold ckR
  by_cases h1 : dim < 1
  · rw [if_pos (.inl h1)]
    go_enter Tryd.func31, Tryd.ntmps31
    go_wp2_with fail
    go_ret
    exact ⟨rfl, rfl⟩
  · by_cases h2 : 1024 < dim
    · rw [if_pos (.inr (.inl h2))]
      go_enter Tryd.func31, Tryd.ntmps31
      go_wp2_with fail
      go_ret
      exact ⟨rfl, rfl⟩
    · by_cases h3 : (v.length : Int) = dim
      · have hb : ((v.length : Int) != dim) = false := by simp [h3]
        rw [if_neg (by omega)]
        clear h3
        go_enter Tryd.func31, Tryd.ntmps31
        go_wp2_with fail
        go_ret
        exact ⟨rfl, rfl⟩
      · have hb : ((v.length : Int) != dim) = true := by simp [h3]
        rw [if_pos (.inr (.inr h3))]
        go_enter Tryd.func31, Tryd.ntmps31
        go_wp2_with fail
        go_ret
        exact ⟨rfl, rfl⟩
theorem RCheck_calls (A : Option Addr) (c : Nat) (v : List Int) (dim : Int) (w : World) (h : SlI w .i16 A c v) :
    Calls Tryd.prog 36 #[.slice A v.length c, .int .i64 dim] w fun e w' => e = .returned (.int .i64 (ckR v dim)) ∧ w = w' := by
  have hm := h.len
  unfold ckR
  by_cases h1 : dim < 1
  · rw [if_pos (.inl h1)]
    go_enter Tryd.func36, Tryd.ntmps36
    go_wp2_with fail
    go_ret
    exact ⟨rfl, rfl⟩
  · by_cases h2 : 1024 < dim
    · rw [if_pos (.inr (.inl h2))]
      go_enter Tryd.func36, Tryd.ntmps36
      go_wp2_with fail
      go_ret
      exact ⟨rfl, rfl⟩
    · by_cases h3 : (v.length : Int) = dim
      · have hb : ((v.length : Int) != dim) = false := by simp [h3]
        rw [if_neg (by omega)]
        clear h3
        go_enter Tryd.func36, Tryd.ntmps36
        go_wp2_with fail
        go_ret
        exact ⟨rfl, rfl⟩
      · have hb : ((v.length : Int) != dim) = true := by simp [h3]
        rw [if_pos (.inr (.inr h3))]
        go_enter Tryd.func36, Tryd.ntmps36
        go_wp2_with fail
        go_ret
        exact ⟨rfl, rfl⟩
abbrev cellsS (dim room : Nat) (cnt : Int) (T : Option Addr) (tn tc : Nat) (A : Option Addr) (an ac : Nat) (R : Option Addr) (rn rc : Nat) : List Value := [.int .i64 dim, .int .i64 room, .int .i64 cnt, .slice T tn tc, .slice A an ac, .slice R rn rc]
/-- The program's slots in memory: block g; all blocks are in S. -/
structure SLM (w : World) (S : Nat → Prop) (g dim room : Nat) (cnt : Int) (tk al tr : List Int) (T : Option Addr) (tc : Nat) (A : Option Addr) (ac : Nat) (R : Option Addr) (rc : Nat) : Prop where
  blk : Blk w g 61 (cellsS dim room cnt T tk.length tc A al.length ac R tr.length rc)
  ot : OwnI w 0 63 .u64 T tc tk
  oa : OwnI w 0 31 .i16 A ac al
  or : OwnI w 0 3 .i64 R rc tr
  sg : S g
  st : ∀ k, (Value.slice T tk.length tc).ownBlock = some k → S k ∧ k ≠ g
  sa : ∀ k, (Value.slice A al.length ac).ownBlock = some k → S k ∧ k ≠ g ∧ (Value.slice T tk.length tc).ownBlock ≠ some k
  sr : ∀ k, (Value.slice R tr.length rc).ownBlock = some k → S k ∧ k ≠ g ∧ (Value.slice T tk.length tc).ownBlock ≠ some k ∧ (Value.slice A al.length ac).ownBlock ≠ some k
def SLOTS (w : World) (S : Nat → Prop) (g : Nat) (dim room : Nat) (st : St) (tr : List Int) : Prop :=
  ((1 ≤ dim ∧ dim ≤ 1024) ∧ 1 ≤ room ∧ room ≤ 16777216) ∧ ∃ tk al T tc A ac R rc, SLM w S g dim room (cntS st : Nat) tk al tr T tc A ac R rc ∧ Words st tk ∧ NumsS st dim al
section
variable {w w' : World} {S S' : Nat → Prop} {g dim room : Nat} {cnt : Int} {tk al tr : List Int} {T : Option Addr} {tc : Nat} {A : Option Addr} {ac : Nat} {R : Option Addr} {rc : Nat}
theorem SLM.same (h : SLM w S g dim room cnt tk al tr T tc A ac R rc) (hb : ∀ k, k < w.heap.size → S k → w'.heap[k]? = w.heap[k]?) : SLM w' S g dim room cnt tk al tr T tc A ac R rc :=
  { h with
    blk := (hb g h.blk.lt h.sg).trans h.blk
    ot := row_same h.ot fun k hk => hb k (h.ot.lt k hk).2 (h.st k hk).1
    oa := row_same h.oa fun k hk => hb k (h.oa.lt k hk).2 (h.sa k hk).1
    or := row_same h.or fun k hk => hb k (h.or.lt k hk).2 (h.sr k hk).1 }
theorem SLM.weaken (h : SLM w S g dim room cnt tk al tr T tc A ac R rc) (hs : ∀ k, S k → S' k) : SLM w S' g dim room cnt tk al tr T tc A ac R rc :=
  { h with sg := hs _ h.sg, st := fun k hk => ⟨hs _ (h.st k hk).1, (h.st k hk).2⟩, sa := fun k hk => ⟨hs _ (h.sa k hk).1, (h.sa k hk).2⟩, sr := fun k hk => ⟨hs _ (h.sr k hk).1, (h.sr k hk).2⟩ }
theorem SLM.below (h : SLM w S g dim room cnt tk al tr T tc A ac R rc) (hb : Below w.heap.size w w') : SLM w' S g dim room cnt tk al tr T tc A ac R rc := h.same fun k hk _ => hb.block k hk
/-- The count is written. -/
theorem SLM.setCnt (h : SLM w S g dim room cnt tk al tr T tc A ac R rc) (n : Int) : SLM (w.setCell ⟨g, 2, none⟩ (.int .i64 n)) S g dim room n tk al tr T tc A ac R rc :=
  { h with
    blk := h.blk.set 2 (.int .i64 n)
    ot := row_same h.ot fun k hk => heap_setCell_other w ⟨g, 2, none⟩ k _ (h.st k hk).2
    oa := row_same h.oa fun k hk => heap_setCell_other w ⟨g, 2, none⟩ k _ (h.sa k hk).2.1
    or := row_same h.or fun k hk => heap_setCell_other w ⟨g, 2, none⟩ k _ (h.sr k hk).2.1 }
/-- The trace is emptied. -/
theorem SLM.clearR (h : SLM w S g dim room cnt tk al tr T tc A ac R rc) : SLM (w.setCell ⟨g, 5, none⟩ (.slice none 0 0)) S g dim room cnt tk al [] T tc A ac none 0 :=
  { h with
    blk := h.blk.set 5 (.slice none 0 0)
    ot := row_same h.ot fun k hk => heap_setCell_other w ⟨g, 5, none⟩ k _ (h.st k hk).2
    oa := row_same h.oa fun k hk => heap_setCell_other w ⟨g, 5, none⟩ k _ (h.sa k hk).2.1
    or := own_nil _ _ _ _
    sr := fun k hk => by cases hk }
/-- A word is written. -/
theorem SLM.setT {gt : Nat} (h : SLM w S g dim room cnt tk al tr (some ⟨gt, 0, none⟩) tc A ac R rc) (i : Nat) (x : Int) :
    SLM (w.setCell ⟨gt, i, none⟩ (.int .u64 x)) S g dim room cnt (tk.set i x) al tr (some ⟨gt, 0, none⟩) tc A ac R rc := by
  have h1 := (h.st gt rfl).2
  have hl : (tk.set i x).length = tk.length := List.length_set
  exact { blk := by rw [hl]; exact h.blk.other (fun e => h1 e.symm) _
          ot := OwnI.put h.ot i x
          oa := row_same h.oa fun k hk => heap_setCell_other w ⟨gt, i, none⟩ k _ fun e => (h.sa k hk).2.2 (by subst e; rfl)
          or := row_same h.or fun k hk => heap_setCell_other w ⟨gt, i, none⟩ k _ fun e => (h.sr k hk).2.2.1 (by subst e; rfl)
          sg := h.sg, st := h.st, sa := h.sa, sr := h.sr }
/-- The words' row is another one. -/
theorem SLM.growT {tk1 : List Int} {T1 : Option Addr} {tc1 q : Nat} (h : SLM w S g dim room cnt tk al tr T tc A ac R rc) (ho : OwnI w' 0 63 .u64 T1 tc1 tk1) (hg : w.grownBy w' (Value.slice T tk.length tc).ownBlock)
    (hat : (Value.slice T1 tk1.length tc1).ownBlock = (Value.slice T tk.length tc).ownBlock ∨ (Value.slice T1 tk1.length tc1).ownBlock = some q) (hq : w.heap.size ≤ q) (hS : ∀ k, S k → S' k) (hn : ∀ k, w.heap.size ≤ k → k < w'.heap.size → S' k) :
    SLM (w'.setCell ⟨g, 3, none⟩ (.slice T1 tk1.length tc1)) S' g dim room cnt tk1 al tr T1 tc1 A ac R rc := by
  have hgn : some g ≠ (Value.slice T tk.length tc).ownBlock := fun e => (h.st g e.symm).2 rfl
  have hgl := h.blk.lt
  have new : ∀ k, (Value.slice T1 tk1.length tc1).ownBlock = some k → S' k ∧ k ≠ g := fun k hk => by
    rcases hat with e | e
    · rw [e] at hk; exact ⟨hS _ (h.st k hk).1, (h.st k hk).2⟩
    · rw [e] at hk; injection hk with hk; subst hk; exact ⟨hn _ hq (ho.lt _ e).2, by omega⟩
  have far : ∀ k, k < w.heap.size → (Value.slice T tk.length tc).ownBlock ≠ some k → (Value.slice T1 tk1.length tc1).ownBlock ≠ some k := fun k hk h1 h2 => by
    rcases hat with e | e
    · rw [e] at h2; exact h1 h2
    · rw [e] at h2; injection h2 with h2; omega
  exact { blk := (h.blk.kept hg hgn).set 3 _
          ot := row_same ho fun k hk => heap_setCell_other w' ⟨g, 3, none⟩ k _ (new k hk).2
          oa := row_same (row_same h.oa fun k hk => hg.block k (h.oa.lt k hk).2 fun e => (h.sa k hk).2.2 e.symm) fun k hk => heap_setCell_other w' ⟨g, 3, none⟩ k _ (h.sa k hk).2.1
          or := row_same (row_same h.or fun k hk => hg.block k (h.or.lt k hk).2 fun e => (h.sr k hk).2.2.1 e.symm) fun k hk => heap_setCell_other w' ⟨g, 3, none⟩ k _ (h.sr k hk).2.1
          sg := hS _ h.sg, st := new
          sa := fun k hk => ⟨hS _ (h.sa k hk).1, (h.sa k hk).2.1, far k (h.oa.lt k hk).2 (h.sa k hk).2.2⟩
          sr := fun k hk => ⟨hS _ (h.sr k hk).1, (h.sr k hk).2.1, far k (h.or.lt k hk).2 (h.sr k hk).2.2.1, (h.sr k hk).2.2.2⟩ }
/-- The numbers' row is another one. -/
theorem SLM.growA {al1 : List Int} {A1 : Option Addr} {ac1 q : Nat} (h : SLM w S g dim room cnt tk al tr T tc A ac R rc) (ho : OwnI w' 0 31 .i16 A1 ac1 al1) (hg : w.grownBy w' (Value.slice A al.length ac).ownBlock)
    (hat : (Value.slice A1 al1.length ac1).ownBlock = (Value.slice A al.length ac).ownBlock ∨ (Value.slice A1 al1.length ac1).ownBlock = some q) (hq : w.heap.size ≤ q) (hS : ∀ k, S k → S' k) (hn : ∀ k, w.heap.size ≤ k → k < w'.heap.size → S' k) :
    SLM (w'.setCell ⟨g, 4, none⟩ (.slice A1 al1.length ac1)) S' g dim room cnt tk al1 tr T tc A1 ac1 R rc := by
  have hgn : some g ≠ (Value.slice A al.length ac).ownBlock := fun e => (h.sa g e.symm).2.1 rfl
  have hgl := h.blk.lt
  have new : ∀ k, (Value.slice A1 al1.length ac1).ownBlock = some k → S' k ∧ k ≠ g ∧ (Value.slice T tk.length tc).ownBlock ≠ some k := fun k hk => by
    rcases hat with e | e
    · rw [e] at hk; exact ⟨hS _ (h.sa k hk).1, (h.sa k hk).2⟩
    · rw [e] at hk; injection hk with hk; subst hk; exact ⟨hn _ hq (ho.lt _ e).2, by omega, fun e2 => by have := (h.ot.lt _ e2).2; omega⟩
  have far : ∀ k, k < w.heap.size → (Value.slice A al.length ac).ownBlock ≠ some k → (Value.slice A1 al1.length ac1).ownBlock ≠ some k := fun k hk h1 h2 => by
    rcases hat with e | e
    · rw [e] at h2; exact h1 h2
    · rw [e] at h2; injection h2 with h2; omega
  exact { blk := (h.blk.kept hg hgn).set 4 _
          ot := row_same (row_same h.ot fun k hk => hg.block k (h.ot.lt k hk).2 fun e => (h.sa k e.symm).2.2 hk) fun k hk => heap_setCell_other w' ⟨g, 4, none⟩ k _ (h.st k hk).2
          oa := row_same ho fun k hk => heap_setCell_other w' ⟨g, 4, none⟩ k _ (new k hk).2.1
          or := row_same (row_same h.or fun k hk => hg.block k (h.or.lt k hk).2 fun e => (h.sr k hk).2.2.2 e.symm) fun k hk => heap_setCell_other w' ⟨g, 4, none⟩ k _ (h.sr k hk).2.1
          sg := hS _ h.sg, st := fun k hk => ⟨hS _ (h.st k hk).1, (h.st k hk).2⟩, sa := new
          sr := fun k hk => ⟨hS _ (h.sr k hk).1, (h.sr k hk).2.1, (h.sr k hk).2.2.1, far k (h.or.lt k hk).2 (h.sr k hk).2.2.2⟩ }
/-- The trace's row is another one. -/
theorem SLM.growR {tr1 : List Int} {R1 : Option Addr} {rc1 q : Nat} (h : SLM w S g dim room cnt tk al tr T tc A ac R rc) (ho : OwnI w' 0 3 .i64 R1 rc1 tr1) (hg : w.grownBy w' (Value.slice R tr.length rc).ownBlock)
    (hat : (Value.slice R1 tr1.length rc1).ownBlock = (Value.slice R tr.length rc).ownBlock ∨ (Value.slice R1 tr1.length rc1).ownBlock = some q) (hq : w.heap.size ≤ q) (hS : ∀ k, S k → S' k) (hn : ∀ k, w.heap.size ≤ k → k < w'.heap.size → S' k) :
    SLM (w'.setCell ⟨g, 5, none⟩ (.slice R1 tr1.length rc1)) S' g dim room cnt tk al tr1 T tc A ac R1 rc1 := by
  have hgn : some g ≠ (Value.slice R tr.length rc).ownBlock := fun e => (h.sr g e.symm).2.1 rfl
  have hgl := h.blk.lt
  have new : ∀ k, (Value.slice R1 tr1.length rc1).ownBlock = some k → S' k ∧ k ≠ g ∧ (Value.slice T tk.length tc).ownBlock ≠ some k ∧ (Value.slice A al.length ac).ownBlock ≠ some k := fun k hk => by
    rcases hat with e | e
    · rw [e] at hk; exact ⟨hS _ (h.sr k hk).1, (h.sr k hk).2⟩
    · rw [e] at hk; injection hk with hk; subst hk; exact ⟨hn _ hq (ho.lt _ e).2, by omega, fun e2 => by have := (h.ot.lt _ e2).2; omega, fun e2 => by have := (h.oa.lt _ e2).2; omega⟩
  exact { blk := (h.blk.kept hg hgn).set 5 _
          ot := row_same (row_same h.ot fun k hk => hg.block k (h.ot.lt k hk).2 fun e => (h.sr k e.symm).2.2.1 hk) fun k hk => heap_setCell_other w' ⟨g, 5, none⟩ k _ (h.st k hk).2
          oa := row_same (row_same h.oa fun k hk => hg.block k (h.oa.lt k hk).2 fun e => (h.sr k e.symm).2.2.2 hk) fun k hk => heap_setCell_other w' ⟨g, 5, none⟩ k _ (h.sa k hk).2.1
          or := row_same ho fun k hk => heap_setCell_other w' ⟨g, 5, none⟩ k _ (new k hk).2.1
          sg := hS _ h.sg, st := fun k hk => ⟨hS _ (h.st k hk).1, (h.st k hk).2⟩
          sa := fun k hk => ⟨hS _ (h.sa k hk).1, (h.sa k hk).2⟩, sr := new }
/-- The cells, one by one. -/
theorem SLM.cells (h : SLM w S g dim room cnt tk al tr T tc A ac R rc) : w.cell? ⟨g, 0, none⟩ = some (.int .i64 dim) ∧ w.cell? ⟨g, 1, none⟩ = some (.int .i64 room) ∧ w.cell? ⟨g, 2, none⟩ = some (.int .i64 cnt) ∧ w.cell? ⟨g, 3, none⟩ = some (.slice T tk.length tc) ∧
    w.cell? ⟨g, 4, none⟩ = some (.slice A al.length ac) ∧ w.cell? ⟨g, 5, none⟩ = some (.slice R tr.length rc) := by
  refine ⟨h.blk.cell 0, h.blk.cell 1, h.blk.cell 2, h.blk.cell 3, h.blk.cell 4, h.blk.cell 5⟩
end
section
variable {w w' : World} {S S' T : Nat → Prop} {g dim room : Nat} {st : St} {tr : List Int}
theorem SLOTS.same (h : SLOTS w S g dim room st tr) (hb : ∀ k, k < w.heap.size → S k → w'.heap[k]? = w.heap[k]?) : SLOTS w' S g dim room st tr := by
  obtain ⟨hd, tk, al, T, tc, A, ac, R, rc, h, h2⟩ := h
  exact ⟨hd, tk, al, T, tc, A, ac, R, rc, h.same hb, h2⟩
theorem SLOTS.weaken (h : SLOTS w S g dim room st tr) (hs : ∀ k, S k → S' k) : SLOTS w S' g dim room st tr := by
  obtain ⟨hd, tk, al, T, tc, A, ac, R, rc, h, h2⟩ := h
  exact ⟨hd, tk, al, T, tc, A, ac, R, rc, h.weaken hs, h2⟩
theorem SLOTS.below (h : SLOTS w S g dim room st tr) (hb : Below w.heap.size w w') : SLOTS w' S g dim room st tr := h.same fun k hk _ => hb.block k hk
theorem SLOTS.keep (h : SLOTS w S g dim room st tr) (hk : Keep T w w') (hd : ∀ k, k < w.heap.size → S k → ¬ T k) : SLOTS w' S g dim room st tr := h.same fun k hl hs => hk.block k hl (hd k hl hs)
end
abbrev PtrS (g : Nat) : Value := .pointer (some ⟨g, 0, none⟩)
theorem SNew_calls (dim room : Nat) (w : World) (h1 : 1 ≤ dim) (h2 : dim ≤ 1024) (h3 : 1 ≤ room) (h4 : room ≤ 16777216) :
    Calls Tryd.prog 10 #[.int .i64 dim, .int .i64 room] w fun e w' => ∃ g, e = .returned (.tuple #[PtrS g, .int .i64 0]) ∧ SLOTS w' (seg w.heap.size w'.heap.size) g dim room [] [] ∧ Below w.heap.size w w' := by
  go_enter Tryd.func10, Tryd.ntmps10
  go_wp2_with fail
  go_ret2
  refine ⟨w.heap.size, rfl, ⟨⟨⟨h1, h2⟩, h3, h4⟩, [], [], none, 0, none, 0, none, 0, ⟨?_, own_nil _ _ _ _, own_nil _ _ _ _, own_nil _ _ _ _, ⟨by omega, by simp⟩, (fun k hk => by cases hk), (fun k hk => by cases hk), (fun k hk => by cases hk)⟩, Words.nil, NumsS.nil _⟩, below_alloc (Below.refl _ _) _⟩
  exact Blk.new w 61 (cellsS dim room 0 none 0 0 none 0 0 none 0 0)
theorem SNew_bad (dim room : Int) (w : World) (h : dim < 1 ∨ 1024 < dim ∨ room < 1 ∨ 16777216 < room) :
    Calls Tryd.prog 10 #[.int .i64 dim, .int .i64 room] w fun e w' => e = .returned (.tuple #[.pointer none, .int .i64 2]) ∧ w = w' := by
  by_cases h1 : dim < 1
  · go_enter Tryd.func10, Tryd.ntmps10
    go_wp2_with fail
    go_ret2
    exact ⟨rfl, rfl⟩
  · by_cases h2 : 1024 < dim
    · go_enter Tryd.func10, Tryd.ntmps10
      go_wp2_with fail
      go_ret2
      exact ⟨rfl, rfl⟩
    · by_cases h3 : room < 1
      · go_enter Tryd.func10, Tryd.ntmps10
        go_wp2_with fail
        go_ret2
        exact ⟨rfl, rfl⟩
      · have h4 : 16777216 < room := by omega
        go_enter Tryd.func10, Tryd.ntmps10
        go_wp2_with fail
        go_ret2
        exact ⟨rfl, rfl⟩
theorem SCount_calls (S : Nat → Prop) (g dim room : Nat) (st : St) (tr : List Int) (w : World) (h : SLOTS w S g dim room st tr) :
    Calls Tryd.prog 14 #[PtrS g] w fun e w' => e = .returned (.int .i64 (cntS st : Nat)) ∧ w = w' := by
  obtain ⟨_, tk, al, T, tc, A, ac, R, rc, h, _⟩ := h
  have c2 := h.blk.cell 2
  simp only [List.getElem?_cons_zero, List.getElem?_cons_succ] at c2
  clear h
  generalize cntS st = b at *
  unfold PtrS
  go_enter Tryd.func14, Tryd.ntmps14
  go_wp2_with fail
  go_ret
  exact ⟨rfl, rfl⟩
theorem SCount_nil (w : World) : Calls Tryd.prog 14 #[.pointer none] w fun e w' => e = .returned (.int .i64 0) ∧ w = w' := by
  go_enter Tryd.func14, Tryd.ntmps14
  go_wp2_with fail
  go_ret
  exact ⟨rfl, rfl⟩
def hasI (st : St) (n : Int) : Bool := decide (0 ≤ n) && used st n.toNat
theorem SHas_nil (n : Int) (w : World) : Calls Tryd.prog 22 #[.pointer none, .int .i64 n] w fun e w' => e = .returned (.bool false) ∧ w = w' := by
  go_enter Tryd.func22, Tryd.ntmps22
  go_wp2_with fail
  go_ret
  exact ⟨rfl, rfl⟩
theorem nat_div (m k : Nat) : (m : Int).tdiv (k : Int) = ((m / k : Nat) : Int) := by rw [Int.tdiv_eq_ediv_of_nonneg (by omega)]; rfl
theorem nat_mod (m k : Nat) : (m : Int).tmod (k : Int) = ((m % k : Nat) : Int) := by rw [Int.tmod_eq_emod_of_nonneg (by omega)]; rfl
theorem bit_test {x : Int} (h0 : 0 ≤ x) (h1 : x < 18446744073709551616) (b : Nat) : (bits .and .u64 (x / 2 ^ b) 1 == 1) = x.toNat.testBit b := by
  obtain ⟨n, rfl⟩ := Int.eq_ofNat_of_zero_le h0
  have e : ((n : Int) / 2 ^ b) = ((n / 2 ^ b : Nat) : Int) := by simp
  have hle : n / 2 ^ b ≤ n := Nat.div_le_self _ _
  rw [e, show (1 : Int) = ((1 : Nat) : Int) from rfl, bits_and_u64_nat _ _ (by omega) (by decide), Nat.and_one_is_mod, Int.toNat_natCast, Nat.testBit_eq_decide_div_mod_eq]
  rcases Nat.mod_two_eq_zero_or_one (n / 2 ^ b) with h | h <;> rw [h] <;> rfl
theorem SHas_calls (S : Nat → Prop) (g dim room : Nat) (st : St) (tr : List Int) (n : Int) (w : World) (h : SLOTS w S g dim room st tr) (hn : n ≤ 9223372036854775807) (hl : st.length ≤ 1000000) :
    Calls Tryd.prog 22 #[PtrS g, .int .i64 n] w fun e w' => e = .returned (.bool (hasI st n)) ∧ w = w' := by
  obtain ⟨_, tk, al, T, tc, A, ac, R, rc, h, hws, _⟩ := h
  have c3 := h.blk.cell 3
  simp only [List.getElem?_cons_zero, List.getElem?_cons_succ] at c3
  unfold PtrS hasI
  by_cases h0 : n < 0
  · rw [show decide (0 ≤ n) = false from decide_eq_false (by omega), Bool.false_and]
    go_enter Tryd.func22, Tryd.ntmps22
    go_wp2_with fail
    go_ret
    exact ⟨rfl, rfl⟩
  · obtain ⟨m, rfl⟩ := Int.eq_ofNat_of_zero_le (show 0 ≤ n by omega)
    have hh0 : ¬ (m : Int) < 0 := by omega
    rw [show decide (0 ≤ (m : Int)) = true from decide_eq_true (by omega), Bool.true_and, Int.toNat_natCast]
    have hlen := hws.len
    by_cases h1 : m / 64 < tk.length
    · have hbd := hws.at _ h1
      obtain ⟨ad, rfl, hc⟩ := (OwnI.sl h.ot).get _ h1
      have hbt := bit_test hbd.1 hbd.2 (m % 64)
      rw [hws.bitGrown m] at hbt
      generalize tk.getD (m / 64) 0 = x at *
      generalize used st m = u at *
      have i1 : (m : Int) / 64 < (tk.length : Int) := by omega
      have htl : tk.length ≤ 1000000 := by omega
      clear h hlen hws
      go_enter Tryd.func22, Tryd.ntmps22
      go_wp2_with fail
      go_ret
      exact ⟨rfl, rfl⟩
    · have hu : used st m = false := used_ge (by omega)
      rw [hu]
      have i1 : ¬ (m : Int) / 64 < (tk.length : Int) := by omega
      have htl : tk.length ≤ 1000000 := by omega
      clear h hlen hu hws
      go_enter Tryd.func22, Tryd.ntmps22
      go_wp2_with fail
      go_ret
      exact ⟨rfl, rfl⟩
end Go.Proofs.YtcmdjnllpcnpjaaDoor
