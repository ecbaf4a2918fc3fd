import Derived.Test.YtipjmglieedimaaSumR
import Derived.Test.YtipjmglieedimaaOct
import Derived.Test.YtipjmglieedimaaMemCut
import Derived.Test.YtipjmglieedimaaMake
import Derived.Test.YtipjmglieedimaaLit
import Derived.Deep.RegionHeld3
import Derived.WalkSpells
namespace Go.Proofs.Ytipjmglieedimaa
set_option linter.unusedVariables false
set_option linter.unusedSimpArgs false
open Go.RowKit
/-! frame: what it computes, and its contracts. -/
def len4 (n : Nat) : List Int := Oct.lowB (n : Int) 4
def sealV (p : List Int) : BitVec 32 := more 0#32 (len4 p.length ++ p)
/-- A frame. -/
def frm (p : List Int) : List Int := len4 p.length ++ Oct.lowB (uv (sealV p)) 4 ++ p
theorem len4_len (n : Nat) : (len4 n).length = 4 := Oct.lowB_length _ _
theorem frm_len (p : List Int) : (frm p).length = p.length + 8 := by unfold frm; simp [len4_len, Oct.lowB_length]; omega
theorem lowB_bytes (x : Int) (m : Nat) : Bytes (Oct.lowB x m) := by
  intro y hy
  unfold Oct.lowB at hy
  rw [List.mem_map] at hy
  obtain ⟨i, _, rfl⟩ := hy
  omega
theorem bytes_app {a b : List Int} (ha : Bytes a) (hb : Bytes b) : Bytes (a ++ b) := fun x hx => by
  rcases List.mem_append.1 hx with h | h
  · exact ha x h
  · exact hb x h
theorem frm_bytes {p : List Int} (h : Bytes p) : Bytes (frm p) := bytes_app (bytes_app (lowB_bytes _ _) (lowB_bytes _ _)) h
/-- The first frame of bytes: its payload, its length, the error. -/
def oneR (b : List Int) : List Int × Int × Int :=
  if b.length < 8 then ([], 0, 5)
  else if Oct.ofB (b.take 4) > 33554432 then ([], 0, 3)
  else if Oct.ofB (b.take 4) > (b.length : Int) - 8 then ([], 0, 5)
  else if uv (more 0#32 (b.take 4 ++ (b.drop 8).take (Oct.ofB (b.take 4)).toNat)) ≠ Oct.ofB ((b.drop 4).take 4) then ([], 0, 4)
  else ((b.drop 8).take (Oct.ofB (b.take 4)).toNat, 8 + Oct.ofB (b.take 4), 0)
/-- A function that hands back a slice of its own, and an error. -/
def RetOwnE (E : Nat) (k : IntKind) (zs : List Int) (er : Int) (w : World) (e : Ending) (w' : World) : Prop := ∃ A' c', e = .returned (.tuple #[.slice A' zs.length c', .int .i64 er]) ∧ OwnI w' w.heap.size E k A' c' zs ∧ Below w.heap.size w w'
theorem Clone_byte_calls (A : Option Addr) (c : Nat) (xs : List Int) (w : World) (h : SlI w .u8 A c xs) (hl : xs.length * 1 ≤ 140737488355328) :
    Calls Try.prog 30 #[.slice A xs.length c] w fun e w' => RetOwn 5 .u8 xs w e w' := by
  have qT := fun (w : World) (a : Option Addr) (n c : Nat) => Lib.run_eql_slice_nil (P := Try.prog) w 22 5 a n c 0 0 Try.underlying22
  cases A with
  | none =>
    obtain rfl : xs = [] := by
      rcases h.rd with h1 | ⟨ad, h1, _⟩
      · exact List.map_eq_nil_iff.1 h1
      · cases h1
    go_enter Try.func30, Try.ntmps30
    go_wp2
    go_ret
    exact RetOwn.mk rfl (own_nil _ _ _ _) (Below.refl _ _)
  | some ad =>
    go_enter Try.func30, Try.ntmps30
    go_wp2_with (at_builtin; refine app_row w.heap.size rfl _ _ 22 5 .u8 1 rfl Try.underlying22 (by kernel_rfl) (by decide) _ _ [] xs (some ad) c rfl rfl (own_empty _ _ _ (Nat.le_refl _)) (h.below (below_alloc (Below.refl _ _) _)).rd (by simp) (by simpa using hl) ?_)
    intro B1 c1 w1 hown hg _ _
    go_wp2
    go_ret
    exact RetOwn.mk rfl hown (below_grown (below_alloc (Below.refl _ _) _) hg (own_empty _ _ _ (Nat.le_refl _)) (Nat.le_refl _))
theorem seal_calls (A B : Option Addr) (c d : Nat) (a p : List Int) (w : World) (h : SlI w .u8 A c a) (hp : SlI w .u8 B d p) (ba : Bytes a) (bp : Bytes p) :
    Calls Try.prog 28 #[.slice A a.length c, .slice B p.length d] w fun e w' => e = .returned (.int .u32 (uv (more 0#32 (a ++ p)))) ∧ Below w.heap.size w w' := by
  have HM := Lib.hid (more_append 0#32 a p)
  go_enter Try.func28, Try.ntmps28
  go_wp2_with fail
  refine (Of_calls A c a _ h ba).mono ?_
  rintro e w1 ⟨rfl, b1⟩
  go_wp2_with fail
  refine (More_calls B d p _ _ (hp.below b1) bp).mono ?_
  rintro e w2 ⟨rfl, b2⟩
  go_wp2_with fail
  go_ret
  exact ⟨by rw [HM.out]; rfl, below_trans b1 b2⟩
theorem seal_at (A B : Option Addr) (c d n m : Nat) (a p : List Int) (w : World) (h : SlI w .u8 A c a) (hp : SlI w .u8 B d p) (ba : Bytes a) (bp : Bytes p) (hn : Hid (a.length = n)) (hm : Hid (p.length = m)) (v : Int) (hv : Hid (uv (more 0#32 (a ++ p)) = v)) :
    Calls Try.prog 28 #[.slice A n c, .slice B m d] w fun e w' => e = .returned (.int .u32 v) ∧ Below w.heap.size w w' := hn.out ▸ hm.out ▸ hv.out ▸ seal_calls A B c d a p w h hp ba bp
theorem octOf_at (A : Option Addr) (c n : Nat) (b : List Int) (w : World) (h : SlI w .u8 A c b) (hb : Bytes b) (hn : Hid (b.length = n)) (v : Int) (hv : Hid (Oct.ofB (b.take 8) = v)) :
    Calls Try.prog 38 #[.slice A n c] w fun e w' => e = .returned (.int .u64 v) ∧ w = w' := hn.out ▸ hv.out ▸ Oct.Of_calls A c b w h hb
theorem octPut_at (A : Option Addr) (c n : Nat) (b : List Int) (x m : Int) (w : World) (h : SlI w .u8 A c b) (hl : b.length ≤ 140737488355320) (hn : Hid (b.length = n)) (zs : List Int) (hz : Hid (b ++ Oct.lowB x (Oct.many8 m) = zs)) :
    Calls Try.prog 27 #[.slice A n c, .int .u64 x, .int .i64 m] w fun e w' => RetOwn 5 .u8 zs w e w' := hn.out ▸ Oct.Put_is A c b x m w h hl zs hz
theorem Bytes_calls (A : Option Addr) (c : Nat) (p : List Int) (w : World) (h : SlI w .u8 A c p) (hb : Bytes p) (hl : p.length ≤ 33554432) :
    Calls Try.prog 10 #[.slice A p.length c] w fun e w' => RetOwnE 5 .u8 (frm p) 0 w e w' := by
  have i1 : ¬ (p.length : Int) > 33554432 := by omega
  have i2 : (0 : Int) ≤ (p.length : Int) := by omega
  obtain ⟨s, hs⟩ : ∃ s, Hid (uv (more 0#32 (len4 p.length ++ p)) = s) := ⟨_, Lib.hid rfl⟩
  have hs0 : 0 ≤ s ∧ s ≤ 4294967295 := by have := uv_range (more 0#32 (len4 p.length ++ p)); rw [hs.out] at this; omega
  obtain ⟨L, hL⟩ : ∃ L, Hid (len4 p.length = L) := ⟨_, Lib.hid rfl⟩
  have LL : L.length = 4 := by rw [← hL.out]; exact len4_len _
  have LB : Bytes L := by rw [← hL.out]; exact lowB_bytes _ _
  have z1 : Hid ([] ++ Oct.lowB (p.length : Int) (Oct.many8 4) = L) := by show _ = _; rw [← hL.out]; rfl
  obtain ⟨M, hM⟩ : ∃ M, Hid (L ++ Oct.lowB s (Oct.many8 4) = M) := ⟨_, Lib.hid rfl⟩
  have ML : M.length = 8 := by rw [← hM.out]; simp [LL, Oct.lowB_length]; decide
  have hF : Hid (M ++ p = frm p) := by show _ = _; rw [← hM.out, ← hL.out, ← hs.out]; rfl
  rw [hL.out] at hs
  have HLL := Lib.hid LL
  have HML := Lib.hid ML
  clear hL LL ML
  go_enter Try.func10, Try.ntmps10
  go_wp2_with fail
  refine (octPut_at none 0 0 [] (p.length : Int) 4 _ (SlI.nil _ _) (by simp) (Lib.hid rfl) L z1).mono ?_
  rintro e w1 ⟨A1, c1, rfl, o1, b1⟩
  go_wp2_with fail
  refine (seal_at A1 A c1 c _ _ L p _ (OwnI.sl o1) (h.below b1) LB hb (Lib.hid rfl) (Lib.hid rfl) s hs).mono ?_
  rintro e w2 ⟨rfl, b2⟩
  have b02 := below_trans b1 b2
  have o2 := own_below o1 b2
  clear b2 o1
  go_wp2_with fail
  refine (octPut_at A1 c1 _ L s 4 _ (OwnI.sl o2) (by have := HLL.out; omega) (Lib.hid rfl) M hM).mono ?_
  rintro e w3 ⟨A3, c3, rfl, o3, b3⟩
  have b03 := below_trans b02 b3
  have o3' := own_mono o3 b02.size
  clear b02 b3 o3 o2
  go_wp2_with (at_builtin; refine app_row_is w.heap.size rfl _ _ 22 5 .u8 1 rfl Try.underlying22 (by kernel_rfl) (by decide) _ _ M p (frm p) hF A c rfl rfl o3' (h.below b03).rd b03.size (by have := HML.out; omega) ?_)
  intro B1 d1 w4 o4 hg _
  go_wp2_with fail
  go_ret2
  exact ⟨_, _, rfl, o4, below_grown b03 hg o3' (Nat.le_refl _)⟩
theorem Bytes_long (A : Option Addr) (c : Nat) (p : List Int) (w : World) (h : SlI w .u8 A c p) (hl : ¬ p.length ≤ 33554432) :
    Calls Try.prog 10 #[.slice A p.length c] w fun e w' => RetOwnE 5 .u8 [] 3 w e w' := by
  have hm := h.len
  have i1 : (p.length : Int) > 33554432 := by omega
  go_enter Try.func10, Try.ntmps10
  go_wp2_with fail
  go_ret2
  exact ⟨_, _, rfl, own_nil _ _ _ _, Below.refl _ _⟩
def sizeR (n : Int) : Int := if n < 0 ∨ n > 33554432 then 0 else 8 + n
theorem Size_calls (n : Int) (w : World) : Calls Try.prog 21 #[.int .i64 n] w fun e w' => e = .returned (.int .i64 (sizeR n)) ∧ w = w' := by
  by_cases h1 : n < 0
  · have H := Lib.hid (show sizeR n = 0 by unfold sizeR; rw [if_pos (.inl h1)])
    go_enter Try.func21, Try.ntmps21
    go_wp2_with fail
    go_ret
    rw [H.out]; exact ⟨rfl, rfl⟩
  · by_cases h2 : n > 33554432
    · have H := Lib.hid (show sizeR n = 0 by unfold sizeR; rw [if_pos (.inr h2)])
      go_enter Try.func21, Try.ntmps21
      go_wp2_with fail
      go_ret
      rw [H.out]; exact ⟨rfl, rfl⟩
    · have H := Lib.hid (show sizeR n = 8 + n by unfold sizeR; rw [if_neg (by omega)])
      go_enter Try.func21, Try.ntmps21
      go_wp2_with fail
      go_ret
      rw [H.out]; exact ⟨rfl, rfl⟩
end Go.Proofs.Ytipjmglieedimaa
