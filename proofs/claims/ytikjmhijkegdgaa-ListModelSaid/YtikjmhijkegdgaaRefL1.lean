/- The reference's list in memory: what only reads it. -/
import Derived.Test.YtikjmhijkegdgaaListAny
namespace Go.Proofs.Ytikjmhijkegdgaa
set_option linter.unusedVariables false
set_option linter.unusedSimpArgs false
open Go.RowKit
def RLISTx (w : World) (S : Nat → Prop) (g : Nat) (parts : Int) (xs : List HE) (A : Option Addr) (c : Nat) : Prop :=
  Blk w g 67 [.int .i64 parts, .slice A xs.length c] ∧ w.ownsRow 0 33 4 (.slice A xs.length c) xs.length (flat xs) ∧
    CodesE w (fun b => S b ∧ b < w.heap.size ∧ b ≠ g ∧ some b ≠ (Value.slice A xs.length c).ownBlock) xs ∧ (S g ∧ (∀ k, (Value.slice A xs.length c).ownBlock = some k → S k))
def RLIST (w : World) (S : Nat → Prop) (g : Nat) (parts : Int) (es : List En) : Prop := ∃ xs A c, es = ents xs ∧ RLISTx w S g parts xs A c
theorem RLISTx.same {w w' : World} {S : Nat → Prop} {g : Nat} {parts : Int} {xs : List HE} {A : Option Addr} {c : Nat} (h : RLISTx w S g parts xs A c) (hs : w.heap.size ≤ w'.heap.size) (hb : ∀ k, k < w.heap.size → S k → w'.heap[k]? = w.heap[k]?) : RLISTx w' S g parts xs A c := by
  obtain ⟨h1, h2, h3, ⟨s1, s3⟩⟩ := h
  refine ⟨(hb g h1.lt s1).trans h1, row_same h2 fun k hk => hb k (h2.lt k hk).2 (s3 k hk), fun q hq => ?_, ⟨s1, s3⟩⟩
  obtain ⟨c1, c2⟩ := h3 q hq
  exact ⟨c1.same fun x hx => hb x.block (c2 x hx).2.1 (c2 x hx).1, fun x hx => by have := c2 x hx; exact ⟨this.1, by omega, this.2.2⟩⟩
theorem RLIST.same {w w' : World} {S : Nat → Prop} {g : Nat} {parts : Int} {es : List En} (h : RLIST w S g parts es) (hs : w.heap.size ≤ w'.heap.size) (hb : ∀ k, k < w.heap.size → S k → w'.heap[k]? = w.heap[k]?) : RLIST w' S g parts es := by
  obtain ⟨xs, A, c, e, h⟩ := h
  exact ⟨xs, A, c, e, h.same hs hb⟩
theorem RLIST.below {w w' : World} {S : Nat → Prop} {g : Nat} {parts : Int} {es : List En} (h : RLIST w S g parts es) (hb : Below w.heap.size w w') : RLIST w' S g parts es := h.same hb.size fun k hk _ => hb.block k hk
theorem RLIST.keep {w w' : World} {S T : Nat → Prop} {g : Nat} {parts : Int} {es : List En} (h : RLIST w S g parts es) (hk : Keep T w w') (hd : ∀ k, k < w.heap.size → S k → ¬ T k) : RLIST w' S g parts es := h.same hk.size fun k hl hs => hk.block k hl (hd k hl hs)
theorem RLISTx.sl {w : World} {S : Nat → Prop} {g : Nat} {parts : Int} {xs : List HE} {A : Option Addr} {c : Nat} (h : RLISTx w S g parts xs A c) : SlE w A c (ents xs) := OwnX.sle (base := 0) (ok := fun b => S b ∧ b < w.heap.size ∧ b ≠ g ∧ some b ≠ (Value.slice A xs.length c).ownBlock) ⟨h.2.1, h.2.2.1⟩
theorem RNew_calls (parts : Int) (w : World) (h1 : 1 ≤ parts) (h2 : parts ≤ 1024) :
    Calls Try.prog 26 #[.int .i64 parts] w fun e w' => ∃ g, e = .returned (.tuple #[PtrL g, .int .i64 0]) ∧ RLIST w' (seg w.heap.size w'.heap.size) g parts [] ∧ Below w.heap.size w w' := by
  go_enter Try.func26, Try.ntmps26
  go_wp2_with fail
  go_ret2
  refine ⟨w.heap.size, rfl, ⟨[], none, 0, rfl, Blk.new w 67 [.int .i64 parts, .slice none 0 0], own_nil _ _ _ _, CodesE.nil _ _, ⟨⟨Nat.le_refl _, by simp⟩, fun k hk => by simp [Value.ownBlock] at hk⟩⟩, below_box0 w _⟩
theorem RNew_bad (parts : Int) (w : World) (h : parts < 1 ∨ 1024 < parts) :
    Calls Try.prog 26 #[.int .i64 parts] w fun e w' => e = .returned (.tuple #[.pointer none, .int .i64 2]) ∧ w = w' := by
  rcases h with h | h
  · go_enter Try.func26, Try.ntmps26
    go_wp2_with fail
    go_ret2
    exact ⟨rfl, rfl⟩
  · go_enter Try.func26, Try.ntmps26
    go_wp2_with fail
    go_ret2
    exact ⟨rfl, rfl⟩
theorem RStored_calls (S : Nat → Prop) (g : Nat) (parts : Int) (es : List En) (w : World) (h : RLIST w S g parts es) :
    Calls Try.prog 29 #[PtrL g] w fun e w' => e = .returned (.int .i64 (es.length : Int)) ∧ w = w' := by
  obtain ⟨xs, A, c, rfl, h⟩ := h
  have c1 := h.1.cell 1
  simp only [List.getElem?_cons_zero, List.getElem?_cons_succ] at c1
  rw [ents_length]
  unfold PtrL
  go_enter Try.func29, Try.ntmps29
  go_wp2_with fail
  go_ret
  exact ⟨rfl, rfl⟩
def atR (es : List En) (id : Int) : Int := match place es id with | some j => (j : Int) | none => -1
set_option maxHeartbeats 1000000 in
theorem RAt_calls (S : Nat → Prop) (g : Nat) (parts : Int) (es : List En) (id : Int) (w : World) (h : RLIST w S g parts es) (hl : es.length ≤ 1000000) :
    Calls Try.prog 55 #[PtrL g, .int .i64 id] w fun e w' => e = .returned (.int .i64 (atR es id)) ∧ w = w' := by
  obtain ⟨xs, A, c, rfl, h⟩ := h
  have c1 := h.1.cell 1
  simp only [List.getElem?_cons_zero, List.getElem?_cons_succ] at c1
  have hsl := h.sl
  rw [ents_length] at hl
  have HLN := Lib.hid (ents_length xs)
  unfold PtrL
  go_enter Try.func55, Try.ntmps55
  go_wp2_with fail
  go_loopg [5] (xs.length + 1) (fun gk i w' => ∃ j : Nat, i = .int .i64 (j : Int) ∧ j ≤ xs.length ∧ xs.length < j + gk ∧ Hid (∀ t, t < j → hitE id ((ents xs).getD t ⟨0, [], 0, false⟩) = false) ∧ w = w')
  case atStart => exact ⟨0, rfl, by omega, by omega, (fun _ h => absurd h (by omega)), rfl⟩
  case round =>
    obtain ⟨j, rfl, hj, hg, HE, rfl⟩ := hrel
    by_cases hlt : j < xs.length
    · obtain ⟨ad, B1, d1, rfl, hx, _⟩ := hsl.get j (by rw [HLN.out]; exact hlt)
      have i1 : (j : Int) < (xs.length : Int) := by omega
      have HE2 := Lib.hid (fun (hh : hitE id ((ents xs).getD j ⟨0, [], 0, false⟩) = false) t (ht : t < j + 1) => show hitE id ((ents xs).getD t ⟨0, [], 0, false⟩) = false by
        rcases Nat.lt_or_ge t j with h1 | h1
        · exact HE.out t h1
        · obtain rfl : t = j := by omega
          exact hh)
      have HF := Lib.hid (fun (hh : hitE id ((ents xs).getD j ⟨0, [], 0, false⟩) = true) => show (j : Int) = atR (ents xs) id from by
        suffices hs : place (ents xs) id = some j by unfold atR; rw [hs]
        unfold place
        rw [List.findIdx?_eq_some_iff_getElem]
        refine ⟨by rw [HLN.out]; exact hlt, by simpa [List.getD_eq_getElem?_getD, HLN.out, hlt] using hh, fun t ht => ?_⟩
        have := HE.out t ht
        simp [List.getD_eq_getElem?_getD, HLN.out, show t < xs.length by omega] at this
        simpa using this)
      generalize (ents xs).getD j ⟨0, [], 0, false⟩ = p at *
      obtain ⟨x0, x1, x2, x3⟩ := hx
      by_cases hi : p.id = id
      · have hib : (p.id == id) = true := by simp [hi]
        cases hd : p.dead with
        | false =>
          have HF2 := Lib.hid (HF.out (by unfold hitE; rw [hib, hd]; rfl))
          rw [hd] at x3
          clear HF HE2 hi hd
          go_wp2_with fail
          go_ret
          exact ⟨ret_int' HF2.out, rfl⟩
        | true =>
          have HE3 := Lib.hid (HE2.out (by unfold hitE; rw [hib, hd]; rfl))
          rw [hd] at x3
          clear HF HE2 hi hd
          go_wp2_with fail
          go_roundg (gk - 1)
          case measure => omega
          case rel => exact ⟨j + 1, by simp, by omega, by omega, HE3.out, rfl⟩
      · have hib : (p.id == id) = false := by simp [hi]
        have HE3 := Lib.hid (HE2.out (by unfold hitE; rw [hib]; rfl))
        clear HF HE2 hi
        go_wp2_with fail
        go_roundg (gk - 1)
        case measure => omega
        case rel => exact ⟨j + 1, by simp, by omega, by omega, HE3.out, rfl⟩
    · have i1 : ¬ (j : Int) < (xs.length : Int) := by omega
      have HF := Lib.hid (show (-1 : Int) = atR (ents xs) id from by
        suffices hs : place (ents xs) id = none by unfold atR; rw [hs]
        unfold place
        rw [List.findIdx?_eq_none_iff]
        intro e he
        obtain ⟨t, ht, rfl⟩ := List.mem_iff_getElem.1 he
        have := HE.out t (by rw [HLN.out] at ht; omega)
        rwa [List.getD_eq_getElem?_getD, List.getElem?_eq_getElem ht] at this)
      go_wp2_with fail
      go_ret
      exact ⟨ret_int' HF.out, rfl⟩
theorem RHas_calls (S : Nat → Prop) (g : Nat) (parts : Int) (es : List En) (id : Int) (w : World) (h : RLIST w S g parts es) (hl : es.length ≤ 1000000) :
    Calls Try.prog 47 #[PtrL g, .int .i64 id] w fun e w' => e = .returned (.bool (place es id).isSome) ∧ w = w' := by
  have HA := RAt_calls S g parts es id w h hl
  unfold PtrL at *
  unfold atR at HA
  cases hp : place es id with
  | none =>
    rw [hp] at HA
    dsimp only at HA
    go_enter Try.func47, Try.ntmps47
    go_wp2_with fail
    refine HA.mono ?_
    rintro e _ ⟨rfl, rfl⟩
    go_wp2_with fail
    go_ret
    exact ⟨rfl, rfl⟩
  | some j =>
    rw [hp] at HA
    dsimp only at HA
    have hj : (0 : Int) ≤ (j : Int) := by omega
    go_enter Try.func47, Try.ntmps47
    go_wp2_with fail
    refine HA.mono ?_
    rintro e _ ⟨rfl, rfl⟩
    go_wp2_with fail
    go_ret
    exact ⟨rfl, rfl⟩
end Go.Proofs.Ytikjmhijkegdgaa
