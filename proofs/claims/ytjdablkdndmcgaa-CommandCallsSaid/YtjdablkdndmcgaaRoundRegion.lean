/- A region that draws its order, within a round of a range over a function, walked as in a plain function. No program of its own. -/
import Derived.OrdersHeld
import Derived.OrdersIn
import Derived.RangeFuncCalls
import Derived.TacticsIn
import Derived.Deep.RegionHeld
namespace Go.Proofs.Ytjdablkdndmcgaa
set_option linter.unusedVariables false
set_option linter.unusedSimpArgs false
open Go.RowKit
variable {P : Program} {l n : Nat}
theorem rows_round {row : String} {args : Array Value} {w : World} {R : Value → World → Prop} (h : Rows P row args w R) : RowsIn (Fence.wide.inRound l) n P row args w R :=
  fun c cs _ => let ⟨v, w', r, s⟩ := h c cs; ⟨v, w', r, (stepsIn_wide.2 s : StepsIn (Machine.fenced P Fence.wide) P _ _)⟩
theorem wp_round {o : Oper} {a : Act} {w : World} {K : Act → World → Prop} {Q : Exit → Act → World → Prop} (hd : ∀ c, o.op ≠ .defer c) (h : o.wp P a w K Q) : o.wpIn (Fence.wide.inRound l) n P a w K Q := by
  refine ⟨fun _ _ => trivial, ?_⟩
  rw [Oper.semAt_eq _ _ _ hd]
  unfold Oper.wp at h
  generalize (execOp a.eval o).run P w = r at *
  cases r with
  | ok x w' =>
    cases x <;> simp only [Oper.upon, Oper.uponIn] at h ⊢ <;>
      first
        | exact h
        | exact ⟨(fun hh => by cases hh), CallsIn.inRound l (callsIn_wide.2 h)⟩
        | exact ⟨(fun hh => by cases hh), rows_round h⟩
        | exact False.elim h
  | halt x w' => cases x <;> simp only [Oper.upon, Oper.uponIn] at h ⊢ <;> exact h
theorem wpOp_round {ops : Array Oper} {Q : Exit → Act → World → Prop} {i : Nat} {K : Act → World → Prop} {a : Act} {w : World} (hd : ∀ (i : Nat) (o : Oper), ops[i]? = some o → ∀ c, o.op ≠ .defer c) (hQ : ¬ LetsOut Q) (h : wpOp P ops Q i K a w) :
    wpOpIn (Fence.wide.inRound l) n P ops Q i K a w := by
  unfold wpOp at h
  unfold wpOpIn
  cases ho : ops[i]? with
  | none => simpa [ho] using h
  | some o =>
    simp only [ho] at h ⊢
    split
    · rename_i hw
      simp only [hw, if_true] at h
      rcases h with h | ⟨_, h⟩
      · exact wp_round (hd i o ho) h
      · exact absurd h hQ
    · rename_i hw
      simp only [hw] at h
      exact ⟨fun _ _ => trivial, h⟩
theorem any_round {md : Region.Mode} {ops : Array Oper} {Q : Exit → Act → World → Prop} (hd : ∀ (i : Nat) (o : Oper), ops[i]? = some o → ∀ c, o.op ≠ .defer c) (hQ : ¬ LetsOut Q) :
    ∀ (fuel : Nat) (listed : Array Bool) (a : Act) (w : World), wpAny P md ops Q fuel listed a w → wpAnyIn (Fence.wide.inRound l) n P md ops Q fuel listed a w
  | 0, _, _, _, h => h
  | fuel + 1, _, _, _, h => ⟨h.1, fun i hi => wpOpIn_mono (fun a' w' h' => any_round hd hQ fuel _ a' w' h') (wpOp_round hd hQ (h.2 i hi))⟩
/-- The beginning. -/
theorem region_round {id : Nat} {ops : Array Oper} {Q : Exit → Act → World → Prop} {S : World → Prop} {a : Act} {w : World} (hm : P.follows .mixedOrders = true) (hd : ops.all (fun o => match o.op with | .defer _ => false | _ => true) = true) (hQ : ¬ LetsOut Q)
    (hS : S w.drew) (h : S w.drew → wpAnyH P .any ops Q S ops.size (Array.replicate ops.size false) a w.drew) : (Code.region id ops true).wpIn (Fence.wide.inRound l) n P Q a w := by
  refine wpIn_region_any hm (any_round ?_ hQ _ _ _ _ (wpAny_of_held _ _ _ _ (h hS)))
  intro i o ho c hc
  have h1 := Array.all_eq_true.1 hd i (Array.getElem?_eq_some_iff.1 ho).1
  rw [(Array.getElem?_eq_some_iff.1 ho).2, hc] at h1
  cases h1
/-! A load is taken first although a later store of the region writes its cell: what is known of the world (SL) hangs on which operations have come up. -/
section
variable {ops : Array Oper} {Q : Exit → Act → World → Prop} {md : Region.Mode}
def anyL (P : Program) (md : Region.Mode) (ops : Array Oper) (Q : Exit → Act → World → Prop) (SL : Array Bool → World → Prop) : Nat → Array Bool → Act → World → Prop
  | 0, listed, a, w => Region.ready md ops listed = [] ∧ Q .normal a w
  | fuel + 1, listed, a, w =>
    (Region.ready md ops listed = [] → Q .normal a w) ∧
    ∀ i ∈ Region.ready md ops listed, wpOp P ops Q i (fun a' w' => SL (listed.setIfInBounds i true) w' ∧ anyL P md ops Q SL fuel (listed.setIfInBounds i true) a' w') a w
theorem any_of_anyL {SL : Array Bool → World → Prop} : ∀ (fuel : Nat) (listed : Array Bool) (a : Act) (w : World), anyL P md ops Q SL fuel listed a w → wpAny P md ops Q fuel listed a w
  | 0, _, _, _, h => h
  | fuel + 1, _, _, _, h => ⟨h.1, fun i hi => wpOp_mono (fun _ _ h' => any_of_anyL fuel _ _ _ h'.2) (h.2 i hi)⟩
theorem anyL_first {SL : Array Bool → World → Prop} {Si : World → Prop} {sts : List Nat} {i : Nat} {oi : Oper} {v : Value} (hi : ops[i]? = some oi) (hsel : ∀ (j : Nat) (o : Oper) cs b, ops[j]? = some o → o.op ≠ .select cs b)
    (hQ : ∀ c a w, Q (.panic c) (a.put oi.dst v) w → Q (.panic c) a w) (hne : ∀ t ∈ sts, t ≠ i) (waits : ∀ t ∈ sts, ∃ o, ops[t]? = some o ∧ ∃ e ∈ o.after, Region.binds md e = true ∧ e.on = i)
    (hind : ∀ L w, SL (L.setIfInBounds i true) w ↔ SL L w) (hSi : ∀ L w, (∀ t ∈ sts, L.getD t true = false) → SL L w → Si w) :
    ∀ (fuel : Nat) (listed : Array Bool) (a : Act) (w : World), (∀ t ∈ sts, listed.getD t true = false) →
      (∀ j oj, ops[j]? = some oj → j ≠ i → listed.getD j true = false → (∀ e ∈ oj.after, Region.binds md e = true → e.on ≠ i) → oi.apart ops oj = true) →
      i ∈ Region.ready md ops listed → YieldsIf P ops Si oi v a → SL listed w →
      anyL P md ops Q SL fuel (listed.setIfInBounds i true) (a.put oi.dst v) w → anyL P md ops Q SL (fuel + 1) listed a w := by
  intro fuel
  induction fuel with
  | zero =>
    intro listed a w hs hfree hr hy hS H
    refine ⟨fun h => (by rw [h] at hr; cases hr), fun j hj => ?_⟩
    by_cases hji : j = i
    · subst hji; exact hy.wpOp hi (hSi _ _ hs hS) ⟨(hind _ _).2 hS, H⟩
    · have := ready_mono hj hji
      rw [H.1] at this; cases this
  | succ fuel ih =>
    intro listed a w hs hfree hr hy hS H
    refine ⟨fun h => (by rw [h] at hr; cases hr), fun j hj => ?_⟩
    by_cases hji : j = i
    · subst hji; exact hy.wpOp hi (hSi _ _ hs hS) ⟨(hind _ _).2 hS, H⟩
    obtain ⟨hjun, oj, hoj, hall⟩ := mem_ready.1 hj
    have unl : ∀ (o : Oper), (∃ e ∈ o.after, Region.binds md e = true ∧ e.on = i) → oj = o → False := fun o ⟨e, he, hb, heq⟩ ho => by
      subst ho
      have h1 := hall e he hb
      have h0 := (mem_ready.1 hr).1
      rw [heq] at h1
      rcases Nat.lt_or_ge i listed.size with h' | h'
      · simp [h'] at h0 h1; rw [h0] at h1; cases h1
      · simp [Array.getElem?_eq_none h'] at h1
    have hjs : ∀ t ∈ sts, j ≠ t := fun t ht hh => by
      obtain ⟨o, ho, hw⟩ := waits t ht
      rw [← hh, hoj] at ho
      exact unl o hw (Option.some.inj ho)
    have h1 := H.2 j (ready_mono hj hji)
    have h2 := wpOp_putIf hoj (hfree j oj hoj hji hjun (fun e he hb heq => unl oj ⟨e, he, hb, heq⟩ rfl)) (fun cs b => hsel i oi cs b hi) (fun cs b => hsel j oj cs b hoj) hQ hy h1
    have hs' : ∀ t ∈ sts, (listed.setIfInBounds j true).getD t true = false := fun t ht => by rw [getD_set_ne true (hjs t ht)]; exact hs t ht
    have turn : ∀ w', SL ((listed.setIfInBounds i true).setIfInBounds j true) w' → SL (listed.setIfInBounds j true) w' := fun w' h => by
      rw [Array.setIfInBounds_comm _ _ (Ne.symm hji)] at h
      exact (hind _ _).1 h
    refine wpOp_mono (fun a' w' h3 => ⟨turn _ h3.2.1, ih (listed.setIfInBounds j true) a' w' hs' ?_ (ready_mono hr (Ne.symm hji)) h3.1 (turn _ h3.2.1) ?_⟩) h2
    · intro k ok hk hki hun hno
      refine hfree k ok hk hki ?_ hno
      by_cases hjk : j = k
      · subst hjk; exact hjun
      · rw [getD_set_ne true hjk] at hun; exact hun
    · rw [Array.setIfInBounds_comm _ _ hji]
      exact h3.2.2
def waitsB (md : Region.Mode) (ops : Array Oper) (listed : Array Bool) (i : Nat) (sts : List Nat) : Bool :=
  sts.all fun t => t != i && !(listed.getD t true) && (match ops[t]? with | some o => o.after.any (fun e => Region.binds md e && e.on == i) | none => false)
/-- Number i is taken first. -/
theorem anyL_take {SL : Array Bool → World → Prop} (Si : World → Prop) (sts : List Nat) {i : Nat} {oi : Oper} {v : Value} {fuel : Nat} {listed : Array Bool} {a : Act} {w : World} (hi : ops[i]? = some oi)
    (hs : Region.noSelect ops = true) (hf : Region.free md ops listed i = true) (hr : (Region.ready md ops listed).contains i = true) (hQ : ∀ c a w, Q (.panic c) (a.put oi.dst v) w → Q (.panic c) a w)
    (hst : waitsB md ops listed i sts = true) (hind : ∀ L w, SL (L.setIfInBounds i true) w ↔ SL L w) (hSi : ∀ L w, (∀ t ∈ sts, L.getD t true = false) → SL L w → Si w)
    (hy : YieldsIf P ops Si oi v a) (hS : SL listed w) (h : anyL P md ops Q SL fuel (listed.setIfInBounds i true) (a.put oi.dst v) w) : anyL P md ops Q SL (fuel + 1) listed a w := by
  unfold waitsB at hst
  rw [List.all_eq_true] at hst
  have key : ∀ t ∈ sts, t ≠ i ∧ listed.getD t true = false ∧ ∃ o, ops[t]? = some o ∧ ∃ e ∈ o.after, Region.binds md e = true ∧ e.on = i := fun t ht => by
    have h0 := hst t ht
    simp only [Bool.and_eq_true, bne_iff_ne, ne_eq, Bool.not_eq_true'] at h0
    obtain ⟨⟨h1, h2⟩, h3⟩ := h0
    refine ⟨h1, h2, ?_⟩
    cases ho : ops[t]? with
    | none => rw [ho] at h3; cases h3
    | some o =>
      rw [ho] at h3
      obtain ⟨k, hk, he⟩ := Array.any_eq_true.1 h3
      simp only [Bool.and_eq_true, beq_iff_eq] at he
      exact ⟨o, rfl, _, Array.getElem_mem hk, he.1, he.2⟩
  exact anyL_first hi (Region.noSelect_spec hs) hQ (fun t ht => (key t ht).1) (fun t ht => (key t ht).2.2) hind hSi fuel listed a w (fun t ht => (key t ht).2.1) (Region.free_spec hi hf) (by simpa using hr) hy hS h
/-- The one that may come up comes up. -/
theorem anyL_step {SL : Array Bool → World → Prop} {i : Nat} {o : Oper} {fuel : Nat} {listed : Array Bool} {a : Act} {w : World} (hr : Region.ready md ops listed = [i]) (ho : ops[i]? = some o) (hw : Region.wanted o (yielded ops a.tmps) = true)
    (h : ∀ K : Act → World → Prop, Shut (∀ a w, SL (listed.setIfInBounds i true) w → anyL P md ops Q SL fuel (listed.setIfInBounds i true) a w → K a w) → Oper.wp P o a w K Q) : anyL P md ops Q SL (fuel + 1) listed a w := by
  refine ⟨(fun hh => by rw [hr] at hh; cases hh), fun j hj => ?_⟩
  rw [hr] at hj
  obtain rfl : j = i := by simpa using hj
  unfold wpOp
  rw [ho]
  simp only [hw, if_true]
  exact .inl (h _ fun a w h1 h2 => ⟨h1, h2⟩)
theorem anyL_done {SL : Array Bool → World → Prop} {listed : Array Bool} {a : Act} {w : World} (hr : Region.ready md ops listed = []) (h : Q .normal a w) : ∀ fuel, anyL P md ops Q SL fuel listed a w
  | 0 => ⟨hr, h⟩
  | _ + 1 => ⟨fun _ => h, by rw [hr]; simp⟩
/-- The beginning, within a round. -/
theorem region_roundL {id : Nat} (SL : Array Bool → World → Prop) {a : Act} {w : World} (hm : P.follows .mixedOrders = true) (hd : ops.all (fun o => match o.op with | .defer _ => false | _ => true) = true) (hQ : ¬ LetsOut Q)
    (h : anyL P .any ops Q SL ops.size (Array.replicate ops.size false) a w.drew) : (Code.region id ops true).wpIn (Fence.wide.inRound l) n P Q a w := by
  refine wpIn_region_any hm (any_round ?_ hQ _ _ _ _ (any_of_anyL _ _ _ _ h))
  intro i o ho c hc
  have h1 := Array.all_eq_true.1 hd i (Array.getElem?_eq_some_iff.1 ho).1
  rw [(Array.getElem?_eq_some_iff.1 ho).2, hc] at h1
  cases h1
/-- The same in a plain function. -/
theorem region_L {id : Nat} (SL : Array Bool → World → Prop) {a : Act} {w : World} (hm : P.follows .mixedOrders = true)
    (h : anyL P .any ops Q SL ops.size (Array.replicate ops.size false) a w.drew) : (Code.region id ops true).wp P Q a w := wp_region_any hm (any_of_anyL _ _ _ _ h)
/-- What is known of two cells until their stores, numbers s and t, have come up. -/
def two (s t : Nat) (p q : World → Prop) (L : Array Bool) (w : World) : Prop := (L.getD s true = false → p w) ∧ (L.getD t true = false → q w)
theorem two_ind {s t i : Nat} {p q : World → Prop} (h1 : i ≠ s) (h2 : i ≠ t) (L : Array Bool) (w : World) : two s t p q (L.setIfInBounds i true) w ↔ two s t p q L w := by
  unfold two; rw [getD_set_ne true h1, getD_set_ne true h2]
end
end Go.Proofs.Ytjdablkdndmcgaa
