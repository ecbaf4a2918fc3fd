import Derived.Test.YtipjmglieedimaaKit
import Derived.Test.YtipjmglieedimaaSumMath
import Derived.Laws.BitsAllLaws
import Derived.Deep.WholeRow
namespace Go.Proofs.Ytipjmglieedimaa
set_option linter.unusedVariables false
set_option linter.unusedSimpArgs false
open Go.RowKit
/-- A register as the program has it. -/
def uv (s : BitVec 32) : Int := (s.toNat : Int)
theorem uv_xor (a b : BitVec 32) : bits .xor .u32 (uv a) (uv b) = uv (a ^^^ b) := by
  unfold uv; rw [u32_xor_nat _ _ a.isLt b.isLt, BitVec.toNat_xor]
theorem uv_not (a : BitVec 32) : bits .xor .u32 4294967295 (uv a) = uv (~~~ a) := by
  have : uv (BitVec.allOnes 32) = 4294967295 := by decide
  rw [← this, uv_xor, BitVec.xor_comm, BitVec.xor_allOnes]
theorem uv_notm (a : BitVec 32) : bits .xor .u32 IntKind.u32.max (uv a) = uv (~~~ a) := uv_not a
theorem uv_half (a : BitVec 32) : uv a / (2 : Int) = uv (a >>> 1) := by
  unfold uv; rw [BitVec.toNat_ushiftRight, Nat.shiftRight_eq_div_pow]; simp
theorem uv_one (j : Nat) : (2 ^ j % 4294967296 : Int) = uv (1#32 <<< j) := by
  unfold uv; rw [BitVec.toNat_shiftLeft, Nat.shiftLeft_eq]; simp
theorem uv_shr (a : BitVec 32) (k : Nat) : uv a / 2 ^ k = uv (a >>> k) := by
  unfold uv; rw [BitVec.toNat_ushiftRight, Nat.shiftRight_eq_div_pow]; simp
theorem uv_bit0 (a : BitVec 32) : bits .and .u32 (uv a) 1 = if a.getLsbD 0 then 1 else 0 := by
  unfold uv
  rw [show (1 : Int) = ((1 : Nat) : Int) by rfl, u32_and_nat _ _ a.isLt (by decide), Nat.and_one_is_mod]
  rw [BitVec.getLsbD, Nat.testBit_zero]
  have := Nat.mod_two_eq_zero_or_one a.toNat
  rcases this with h | h <;> simp [h]
theorem uv_odd (a : BitVec 32) : (bits .and .u32 (uv a) 1 == 1) = a.getLsbD 0 := by
  rw [uv_bit0]; cases a.getLsbD 0 <;> simp
theorem uv_range (a : BitVec 32) : 0 ≤ uv a ∧ uv a < 4294967296 := by unfold uv; have := a.isLt; omega
theorem uv_inj {a b : BitVec 32} (h : uv a = uv b) : a = b := by unfold uv at h; exact BitVec.eq_of_toNat_eq (by omega)
theorem uv_of {n : Int} (h0 : 0 ≤ n) (h1 : n ≤ 4294967295) : ∃ s, n = uv s := ⟨BitVec.ofNat 32 n.toNat, by unfold uv; rw [BitVec.toNat_ofNat]; omega⟩
theorem uv_mv_odd {s : BitVec 32} (h : s.getLsbD 0 = true) : bits .xor .u32 (uv s / 2) 2197175160 = uv (mv s) := by
  have : uv 0x82f63b78#32 = 2197175160 := by decide
  rw [uv_half, ← this, uv_xor, mv, if_pos h]
theorem uv_mv_even {s : BitVec 32} (h : s.getLsbD 0 = false) : uv s / 2 = uv (mv s) := by
  rw [uv_half, mv, if_neg (by rw [h]; decide)]
theorem move_calls (s : BitVec 32) (w : World) :
    Calls Try.prog 42 #[.int .u32 (uv s)] w fun e w' => e = .returned (.int .u32 (uv (mv s))) ∧ w' = w := by
  cases hp : s.getLsbD 0 with
  | true =>
    have h1 := (uv_odd s).trans hp
    have h2 := uv_mv_odd hp
    go_enter Try.func42, Try.ntmps42
    go_wp2
    go_ret
    exact ⟨rfl, rfl⟩
  | false =>
    have h1 := (uv_odd s).trans hp
    have h2 := uv_mv_even hp
    go_enter Try.func42, Try.ntmps42
    go_wp2
    go_ret
    exact ⟨rfl, rfl⟩
/-- An array of whole numbers at block g. -/
def Arr (w : World) (g : Nat) (T : TypeId) (xs : List Int) : Prop := w.heap[g]? = some (.cells (nums .u32 xs).toArray T (0, 0))
theorem Arr.lt {w : World} {g : Nat} {T : TypeId} {xs : List Int} (h : Arr w g T xs) : g < w.heap.size := by
  have := (Array.getElem?_eq_some_iff.1 h).1; exact this
theorem Arr.cell {w : World} {g : Nat} {T : TypeId} {xs : List Int} (h : Arr w g T xs) (j : Nat) (hj : j < xs.length) : w.cell? ⟨g, j, none⟩ = some (.int .u32 (xs.getD j 0)) := by
  rw [cell_of_row w g j _ T (0, 0) h]; simp [nums, List.getD_eq_getElem?_getD, hj]
theorem Arr.froze {w : World} {g : Nat} {T : TypeId} {xs : List Int} (h : Arr w g T xs) (j : Nat) : w.frozen? ⟨g, j, none⟩ = false := frozen_of_row w g j _ T h
theorem Arr.set {w : World} {g : Nat} {T : TypeId} {xs : List Int} (h : Arr w g T xs) (j : Nat) (v : Int) : Arr (w.setCell ⟨g, j, none⟩ (.int .u32 v)) g T (xs.set j v) := by
  unfold Arr
  rw [heap_setCell_same w g j _ T _ h]; simp [nums, List.map_set]
theorem Arr.load {w : World} {g : Nat} {T : TypeId} {xs : List Int} (h : Arr w g T xs) {P : Program} {n : Nat} {e : TypeId} (hu : P.underlying T = some (.array n e)) (hi : (P.info? T).map (·.size) = some n) (hn : xs.length = n) :
    (Instr.loadAt T (.pointer (some ⟨g, 0, none⟩))).run P w = .ok (.agg (nums .u32 xs).toArray) w := by
  simp only [Instr.loadAt, Instr.sureAddr, Sem.run_bind, Sem.run_pure, Result.andThen]
  exact run_loadVar_row _ _ T T _ (0, 0) _ h hu rfl (by rw [hi]; simp [nums, hn])
theorem Arr.storeAll {w : World} {g : Nat} {T : TypeId} {xs ys : List Int} (h : Arr w g T xs) {P : Program} {n : Nat} (hi : (P.info? T).map (·.size) = some n) (hn : xs.length = n) (hm : ys.length = n) :
    (Instr.storeAt T (.pointer (some ⟨g, 0, none⟩)) (.agg (nums .u32 ys).toArray)).run P w = .ok () (w.setRow g (nums .u32 ys).toArray) := by
  simp only [Instr.storeAt, Instr.sureAddr, Sem.run_bind, Sem.run_pure, Result.andThen]
  exact run_storeVar_row _ _ T T _ _ h (by rw [hi]; simp [nums, hm]) (by simp [nums, hn, hm]) (by simp [nums, Value.oneCell'])
theorem Arr.row {w : World} {g : Nat} {T : TypeId} {xs : List Int} (h : Arr w g T xs) (ys : List Int) : Arr (w.setRow g (nums .u32 ys).toArray) g T ys := setRow_heap w g _ _ T _ h
theorem Arr.below {w w' : World} {g : Nat} {T : TypeId} {xs : List Int} (h : Arr w g T xs) (hb : Below w.heap.size w w') : Arr w' g T xs := by
  unfold Arr; rw [hb.block g h.lt]; exact h
theorem Arr.alloc (w : World) (T : TypeId) (xs : List Int) : Arr (w.alloc (.cells (nums .u32 xs).toArray T)) w.heap.size T xs := heap_alloc_last w _
theorem row_self {w : World} {g : Nat} {T : TypeId} {xs : List Int} (h : Arr w g T xs) : w.setRow g (nums .u32 xs).toArray = w := setRow_self w g _ T _ h
theorem wp_load_arr {P : Program} {ops : Array Oper} {rest : List Oper} {o : Oper} {a : Act} {w : World} {Q : Exit → Act → World → Prop} (hgd : o.guard = none) (ty : TypeId) (x : Operand) (ho : o.op = .load ty x)
    {g : Nat} {xs : List Int} {n : Nat} {e : TypeId} (ha : Arr w g ty xs) (hu : P.underlying ty = some (.array n e)) (hi : (P.info? ty).map (·.size) = some n) (hn : xs.length = n) (hx : a.eval x = .pointer (some ⟨g, 0, none⟩))
    (h : wpList P ops Q rest (a.put o.dst (.agg (nums .u32 xs).toArray)) w) : wpList P ops Q (o :: rest) a w :=
  wpList_load_row hgd ty x ho g hx ty _ _ _ ha hu rfl (by rw [hi]; simp [nums, hn]) h
theorem wp_store_arr {P : Program} {ops : Array Oper} {rest : List Oper} {o : Oper} {a : Act} {w : World} {Q : Exit → Act → World → Prop} (hgd : o.guard = none) (ty : TypeId) (x y : Operand) (ho : o.op = .store ty x y)
    {g : Nat} {xs : List Int} (ys : List Int) {n : Nat} (ha : Arr w g ty xs) (hi : (P.info? ty).map (·.size) = some n) (hn : xs.length = n) (hm : ys.length = n) (hx : a.eval x = .pointer (some ⟨g, 0, none⟩)) (hy : a.eval y = .agg (nums .u32 ys).toArray) (hd : o.dst = none)
    (h : wpList P ops Q rest a (w.setRow g (nums .u32 ys).toArray)) : wpList P ops Q (o :: rest) a w :=
  wpList_store_row hgd ty x y ho g _ hx hy ty _ ha (by rw [hi]; simp [nums, hm]) (by simp [nums, hn, hm]) (by simp [nums, Value.oneCell']) (by rw [hd]; exact h)
theorem wp_restore_arr {P : Program} {ops : Array Oper} {rest : List Oper} {o : Oper} {a : Act} {w : World} {Q : Exit → Act → World → Prop} (hgd : o.guard = none) (ty : TypeId) (x y : Operand) (ho : o.op = .store ty x y)
    {g : Nat} {xs : List Int} {n : Nat} (ha : Arr w g ty xs) (hi : (P.info? ty).map (·.size) = some n) (hn : xs.length = n) (hx : a.eval x = .pointer (some ⟨g, 0, none⟩)) (hy : a.eval y = .agg (nums .u32 xs).toArray) (hd : o.dst = none)
    (h : wpList P ops Q rest a w) : wpList P ops Q (o :: rest) a w :=
  wp_store_arr hgd ty x y ho xs ha hi hn hn hx hy hd (by rw [row_self ha]; exact h)
theorem ret_arr {P : Program} {fn : Func} {p : Tmp} {ty : TypeId} {a : Act} {w : World} {Q : Ending → World → Prop} (h : fn.results = #[.cell p ty]) {g : Nat} {xs : List Int} {n : Nat} {e : TypeId}
    (hp : a.tmps.getD p undef = .pointer (some ⟨g, 0, none⟩)) (ha : Arr w g ty xs) (hu : P.underlying ty = some (.array n e)) (hi : (P.info? ty).map (·.size) = some n) (hn : xs.length = n) (hq : Q (.returned (.agg (nums .u32 xs).toArray)) w) (hd : a.defers = [] := by rfl) :
    bodyPost P fn Q .ret a w :=
  bodyPost_ret (v := .agg (nums .u32 xs).toArray) (results_cell_row h _ w g ty _ _ _ hp ha hu rfl (by rw [hi]; simp [nums, hn])) hd hq
/-- The table. -/
def tab : List Int := (List.range 256).map fun i => uv (mvN 8 (BitVec.ofNat 32 i))
theorem table_calls (w : World) :
    Calls Try.prog 41 #[] w fun e w' => e = .returned (.agg (nums .u32 tab).toArray) ∧ Below w.heap.size w w' := by
  have zv := (zero_of_info (P := Try.prog) (t := 61) (v := .agg (nums .u32 (List.replicate 256 0)).toArray) (n := 256) (by kernel_rfl)).1
  have ha := Arr.alloc w 61 (List.replicate 256 0)
  obtain ⟨zs, hz⟩ : ∃ zs : List Int, Hid (zs = List.replicate 256 0) := ⟨_, Lib.hid rfl⟩
  rw [← hz.out] at zv ha
  go_enter Try.func41, Try.ntmps41
  go_wp2_with fail
  go_loopg [1, 2, 3] 257 (fun gk u1 u2 i w' => ∃ (j : Nat) (xs : List Int), i = .int .i64 (j : Int) ∧ j ≤ 256 ∧ 256 < j + gk ∧ Hid (xs.length = 256 ∧ ∀ k, k < j → xs.getD k 0 = uv (mvN 8 (BitVec.ofNat 32 k))) ∧ Arr w' w.heap.size 61 xs ∧ Below w.heap.size w w')
  case atStart => exact ⟨0, zs, rfl, by omega, by omega, ⟨by rw [hz.out]; exact List.length_replicate, fun k hk => by omega⟩, ha, below_alloc (Below.refl _ _) _⟩
  case round =>
    clear ha
    obtain ⟨j, xs, rfl, hj, hg, hx, ha, hb⟩ := hrel
    by_cases hlt : j < 256
    · have hjl : (j : Int) < 256 := by omega
      have hcell := ha.cell j (by have := hx.out.1; omega)
      have hfr := ha.froze j
      have hset := ha.set j (uv (mvN 8 (BitVec.ofNat 32 j)))
      have bset := hb.setCell (p := ⟨w.heap.size, j, none⟩) (Nat.le_refl _) (.int .u32 (uv (mvN 8 (BitVec.ofNat 32 j))))
      have hj32 := Lib.hid (show (j : Int) = uv (BitVec.ofNat 32 j) by unfold uv; rw [BitVec.toNat_ofNat]; omega)
      obtain ⟨G, hG⟩ : ∃ G, Hid (G = gk) := ⟨gk, Lib.hid rfl⟩
      have HX := Lib.hid (show (xs.set j (uv (mvN 8 (BitVec.ofNat 32 j)))).length = 256 ∧ ∀ k, k < j + 1 → (xs.set j (uv (mvN 8 (BitVec.ofNat 32 j)))).getD k 0 = uv (mvN 8 (BitVec.ofNat 32 k)) by
        refine ⟨by simpa using hx.out.1, fun k hk => ?_⟩
        have hl := hx.out.1
        by_cases hkj : k = j
        · subst hkj; simp [List.getD_eq_getElem?_getD, List.getElem?_set_self, hl, hlt]
        · have := hx.out.2 k (by omega)
          simpa [List.getD_eq_getElem?_getD, List.getElem?_set_ne (Ne.symm hkj)] using this)
      generalize xs.getD j 0 = old at hcell
      generalize BitVec.ofNat 32 j = s0 at *
      go_wp2_with fail
      go_loopg [2, 8] 9 (fun gk s i w' => ∃ m : Nat, i = .int .i64 (m : Int) ∧ s = .int .u32 (uv (mvN m s0)) ∧ m ≤ 8 ∧ 8 < m + gk ∧ w' = wr)
      case atStart => exact ⟨0, rfl, by rw [hj32.out]; rfl, by omega, by omega, rfl⟩
      case round =>
        obtain ⟨m, rfl, rfl, hm, hg2, rfl⟩ := hrel
        by_cases hm8 : m < 8
        · have hml : (m : Int) < 8 := by omega
          go_wp2_with fail
          refine (move_calls _ _).mono ?_
          rintro e w' ⟨rfl, rfl⟩
          go_wp2_with fail
          go_roundg (gk - 1)
          case measure => omega
          case rel => exact ⟨m + 1, by simp, by rw [mvN_succ], by omega, by omega, rfl⟩
        · have hml : ¬ (m : Int) < 8 := by omega
          obtain rfl : m = 8 := by omega
          go_wp2_with fail
          go_roundg (G - 1)
          case measure => have := hG.out; omega
          case rel => exact ⟨j + 1, _, by simp, by omega, by have := hG.out; omega, HX, hset, bset⟩
    · have hjl : ¬ (j : Int) < 256 := by omega
      have hj2 : j = 256 := by omega
      have hT : Hid (xs = tab) := by
        apply List.ext_getElem
        · simp [tab, hx.out.1]
        · intro k h1 h2
          have := hx.out.2 k (by have := hx.out.1; omega)
          rw [List.getD_eq_getElem?_getD, List.getElem?_eq_getElem h1] at this
          simpa [tab] using this
      have hn := hx.out.1
      have hs : (Try.prog.info? 61).map (·.size) = some 256 := by kernel_rfl
      have HU := Lib.hid Try.underlying61
      have HS := Lib.hid hs
      have HN := Lib.hid hn
      clear hx hj2 hj hn hs
      go_wp2_with (first
        | (refine wp_load_arr rfl 61 _ rfl ha HU.out HS.out HN.out rfl ?_)
        | (refine wp_restore_arr rfl 61 _ _ rfl ha HS.out HN.out rfl rfl rfl ?_))
      exact ret_arr (rfl) rfl ha HU.out HS.out HN.out ⟨by rw [hT.out], hb⟩
end Go.Proofs.Ytipjmglieedimaa
