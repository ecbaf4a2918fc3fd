/- A list in memory: Get, All, Live, Same, Clone. -/
import Derived.Test.YtikjmhijkegdgaaListM
import Derived.Test.YtikjmhijkegdgaaBranch
import Derived.Test.YtikjmhijkegdgaaOneQ
import Derived.Deep.DeepCutAuto
namespace Go.Proofs.Ytikjmhijkegdgaa
set_option linter.unusedVariables false
set_option linter.unusedSimpArgs false
open Go.RowKit
theorem LISTx.codes {w : World} {S : Nat → Prop} {g : Nat} {parts : Int} {xs : List HE} {A : Option Addr} {c bm : Nat} (h : LISTx w S g parts xs A c bm) : ∀ q ∈ xs, q.e.code.length ≤ 1000000 := fun q hq => by
  have := (h.2.2.2.2.2.1 q.e (List.mem_map.2 ⟨q, hq, rfl⟩)).2
  omega
theorem LISTx.sl {w : World} {S : Nat → Prop} {g : Nat} {parts : Int} {xs : List HE} {A : Option Addr} {c bm : Nat} (h : LISTx w S g parts xs A c bm) : SlX w A c xs (fun _ => True) :=
  OwnX.sl (base := 0) (E := 33) ⟨h.2.1, h.2.2.1.weaken fun _ _ => trivial⟩
theorem All_calls (S : Nat → Prop) (g : Nat) (parts : Int) (es : List En) (w : World) (h : LIST w S g parts es) (hl : es.length ≤ 1000000) :
    Calls Try.prog 21 #[PtrL g] w (RetO es w) := by
  obtain ⟨xs, A, c, bm, rfl, h⟩ := h
  have OC := fun W (hW : Below w.heap.size w W) => owned_calls A c xs (fun _ => True) W (h.sl.below hW) (by rw [ents_length] at hl; exact hl) h.codes
  have c1 := h.1.cell 1
  simp only [List.getElem?_cons_zero, List.getElem?_cons_succ] at c1
  clear h
  unfold PtrL
  go_enter Try.func21, Try.ntmps21
  go_wp2_with fail
  refine (OC _ (Below.refl _ _)).mono ?_
  rintro e w1 ⟨A1, d1, ys, rfl, hy, o1, o2, b1⟩
  have HY := Lib.hid hy
  clear hy
  go_wp2_with fail
  go_ret
  exact ⟨A1, d1, ys, rfl, HY.out, o1, o2, b1⟩
theorem All_nil (w : World) : Calls Try.prog 21 #[.pointer none] w fun e w' => e = .returned (.slice none 0 0) ∧ w = w' := by
  go_enter Try.func21, Try.ntmps21
  go_wp2_with fail
  go_ret
  exact ⟨rfl, rfl⟩
/-- A function that hands back entries of the call's own; its slice may be clipped. -/
def RetL (es : List En) (w : World) (e : Ending) (w' : World) : Prop := ∃ A' c' ys, e = .returned (.slice A' es.length c') ∧ ents ys = es ∧ SlX w' A' c' ys (newE w.heap.size w' A') ∧ CodesO w' w.heap.size ys ∧ Below w.heap.size w w' ∧ ∀ y, A' = some y → w.heap.size ≤ y.block ∧ y.block < w'.heap.size
theorem own_at {w : World} {base E size n c : Nat} {A : Option Addr} {xs : List Value} (h : w.ownsRow base E size (.slice A n c) n xs) : ∀ y, A = some y → base ≤ y.block ∧ y.block < w.heap.size := fun y hy => by
  subst hy
  exact h.lt y.block rfl
theorem RetO.l {es : List En} {w : World} {e : Ending} {w' : World} (h : RetO es w e w') : RetL es w e w' := by
  obtain ⟨A, c, ys, h1, h2, h3, h4, h5⟩ := h
  exact ⟨A, c, ys, h1, h2, h3.sl, h4, h5, own_at h3.1⟩
theorem RetL.sl {es : List En} {w : World} {e : Ending} {w' : World} (h : RetL es w e w') : ∃ A' c', e = .returned (.slice A' es.length c') ∧ SlE w' A' c' es ∧ Below w.heap.size w w' := by
  obtain ⟨A, c, ys, h1, h2, h3, h4, h5, _⟩ := h
  exact ⟨A, c, h1, ⟨ys, h2.symm, h3.weaken fun _ _ => trivial⟩, h5⟩
theorem Live_calls (S : Nat → Prop) (g : Nat) (parts : Int) (es : List En) (w : World) (h : LIST w S g parts es) (hl : es.length ≤ 1000000) :
    Calls Try.prog 16 #[PtrL g] w (RetL (liveE es) w) := by
  have AC := All_calls S g parts es w h hl
  have HL := Lib.hid hl
  clear h hl
  unfold PtrL at AC ⊢
  go_enter Try.func16, Try.ntmps16
  go_wp2_with fail
  refine AC.mono ?_
  rintro e w1 ⟨A1, d1, ys, rfl, hy, o1, o2, b1⟩
  have hyl : es.length = ys.length := by rw [← hy, ents_length]
  have hapart : ∀ b, newE w.heap.size w1 A1 b → some b ≠ (Value.slice A1 ys.length d1).ownBlock := fun b hb hh => by
    cases A1 with
    | none => cases hh
    | some y => exact hb.2.2 y rfl (by injection hh)
  have DC := DelDead_calls A1 d1 ys _ w.heap.size w1 o1 hapart (by have := HL.out; omega)
  rw [← hyl] at DC
  have HY := Lib.hid hy
  have HYL := Lib.hid hyl
  have HLL := Lib.hid (show (liveX ys).length = (liveE es).length by rw [← hy, ← ents_live, ents_length])
  have o3 : CodesO w1 w.heap.size (liveX ys) := o2.sub fun q hq => (List.mem_filter.1 hq).1
  have hcd := o1.2
  clear hy hyl
  go_wp2_with fail
  refine DC.mono ?_
  rintro e w2 ⟨rfl, o4, hg⟩
  have hle := o4.sl.1
  have hm := o4.sl.2.1
  have b2 := below_grown b1 hg (by rw [HYL.out]; exact o1.1) (Nat.le_refl _)
  rw [HLL.out] at hle ⊢
  have CC := fun W => Clip_calls A1 (liveE es).length d1 W hle (by unfold maxLen at hm; omega)
  go_wp2_with fail
  refine (CC _).mono ?_
  rintro e w3 ⟨rfl, rfl⟩
  go_wp2_with fail
  go_ret
  have hsz := hg.size
  refine ⟨A1, (liveE es).length, liveX ys, rfl, by rw [ents_live, HY.out], ?_, o3.kept hg ?_, b2, own_at o4.1⟩
  · obtain ⟨s1, s2, s3, s4⟩ := o4.sl
    exact ⟨by rw [HLL.out]; exact Nat.le_refl _, by omega, s3.weaken fun b hb => ⟨hb.1, by have := hb.2.1; omega, hb.2.2⟩, s4⟩
  · intro q hq x hx
    have := (hcd q (List.mem_filter.1 hq).1).2 x hx
    rw [HYL.out]
    exact hapart _ this
theorem Live_nil (w : World) : Calls Try.prog 16 #[.pointer none] w fun e w' => e = .returned (.slice none 0 0) ∧ Below w.heap.size w w' := by
  have DC := fun W => DelDead_calls none 0 [] (fun _ => True) 0 W (OwnX.nil _ _ _ _) (fun b _ hh => by cases hh) (by simp)
  have CC := fun W => Clip_calls none 0 0 W (by simp) (by simp)
  go_enter Try.func16, Try.ntmps16
  go_wp2_with fail
  refine (All_nil _).mono ?_
  rintro e w' ⟨rfl, rfl⟩
  go_wp2_with fail
  refine (DC _).mono ?_
  rintro e w1 ⟨rfl, _, hg⟩
  go_wp2_with fail
  refine (CC _).mono ?_
  rintro e w3 ⟨rfl, rfl⟩
  go_wp2_with fail
  go_ret
  exact ⟨rfl, ⟨hg.os, hg.tape, hg.output, hg.size, fun i hi => hg.block i hi (by simp [Value.ownBlock])⟩⟩
end Go.Proofs.Ytikjmhijkegdgaa
