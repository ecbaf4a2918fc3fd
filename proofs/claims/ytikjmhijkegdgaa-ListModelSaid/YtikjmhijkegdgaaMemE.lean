/- Words for memory: slices of entries (a struct of four cells: a number, a slice of bytes, a number, a bool). No program of its own. -/
import Derived.Test.YtikjmhijkegdgaaMemV
namespace Go.Proofs.Ytikjmhijkegdgaa
set_option linter.unusedVariables false
set_option linter.unusedSimpArgs false
open Go.RowKit
structure En where
  id : Int
  code : List Int
  rad : Int
  dead : Bool
deriving DecidableEq
/-- An entry and where its code lies. -/
structure HE where
  e : En
  A : Option Addr
  c : Nat
instance : Inhabited HE := ⟨⟨0, [], 0, false⟩, none, 0⟩
def cells4 (h : HE) : List Value := [.int .i64 h.e.id, .slice h.A h.e.code.length h.c, .int .i64 h.e.rad, .bool h.e.dead]
abbrev aggE (e : En) (A : Option Addr) (c : Nat) : Value := .agg #[.int .i64 e.id, .slice A e.code.length c, .int .i64 e.rad, .bool e.dead]
def flat (xs : List HE) : List Value := xs.flatMap cells4
def ents (xs : List HE) : List En := xs.map (·.e)
theorem flat_nil : flat [] = [] := rfl
theorem flat_cons (h : HE) (xs : List HE) : flat (h :: xs) = cells4 h ++ flat xs := rfl
theorem flat_append (xs ys : List HE) : flat (xs ++ ys) = flat xs ++ flat ys := by simp [flat]
theorem flat_length (xs : List HE) : (flat xs).length = xs.length * 4 := by
  induction xs with
  | nil => rfl
  | cons h xs ih => rw [flat_cons, List.length_append, ih]; simp [cells4]; omega
theorem flat_one (xs : List HE) : ∀ u ∈ flat xs, u.oneCell' = true := by
  intro u hu
  simp only [flat, List.mem_flatMap] at hu
  obtain ⟨h, _, hu⟩ := hu
  simp only [cells4, List.mem_cons, List.not_mem_nil, or_false] at hu
  rcases hu with rfl | rfl | rfl | rfl <;> rfl
theorem flat_get (xs : List HE) (j f : Nat) (hj : j < xs.length) (hf : f < 4) : (flat xs)[j * 4 + f]? = (cells4 (xs.getD j default))[f]? := by
  induction xs generalizing j with
  | nil => cases hj
  | cons h xs ih =>
    rw [flat_cons]
    cases j with
    | zero => rw [List.getElem?_append_left (by simp [cells4]; omega)]; simp
    | succ j =>
      rw [List.getElem?_append_right (by simp [cells4]; omega)]
      have : (j + 1) * 4 + f - (cells4 h).length = j * 4 + f := by simp [cells4]; omega
      rw [this, ih j (by simpa using hj)]
      simp
theorem flat_take (xs : List HE) (m : Nat) : flat (xs.take m) = (flat xs).take (m * 4) := by
  induction xs generalizing m with
  | nil => simp [flat]
  | cons h xs ih =>
    cases m with
    | zero => simp [flat]
    | succ m =>
      have h4 : (m + 1) * 4 = (cells4 h).length + m * 4 := by simp [cells4]; omega
      rw [List.take_succ_cons, flat_cons, flat_cons, ih, h4, List.take_length_add_append]
theorem ents_length (xs : List HE) : (ents xs).length = xs.length := by simp [ents]
theorem ents_get (xs : List HE) (j : Nat) (hj : j < xs.length) : (xs.getD j default).e = (ents xs).getD j ⟨0, [], 0, false⟩ := by
  simp [ents, List.getD_eq_getElem?_getD, hj]
/-- An entry that is read. -/
def EntAt (w : World) (ad : Addr) (e : En) (A : Option Addr) (c : Nat) : Prop :=
  w.cell? ad = some (.int .i64 e.id) ∧ w.cell? ⟨ad.block, ad.off + 1, none⟩ = some (.slice A e.code.length c) ∧ w.cell? ⟨ad.block, ad.off + 2, none⟩ = some (.int .i64 e.rad) ∧ w.cell? ⟨ad.block, ad.off + 3, none⟩ = some (.bool e.dead)
theorem EntAt.below {w w' : World} {ad : Addr} {e : En} {A : Option Addr} {c : Nat} (h : EntAt w ad e A c) (hb : Below w.heap.size w w') : EntAt w' ad e A c :=
  ⟨cell_below hb _ _ h.1, cell_below hb _ _ h.2.1, cell_below hb _ _ h.2.2.1, cell_below hb _ _ h.2.2.2⟩
/-- Where the codes lie. -/
def CodesE (w : World) (ok : Nat → Prop) (xs : List HE) : Prop := ∀ h ∈ xs, SlI w .u8 h.A h.c h.e.code ∧ ∀ x, h.A = some x → ok x.block
theorem CodesE.below {w w' : World} {ok : Nat → Prop} {xs : List HE} (h : CodesE w ok xs) (hb : Below w.heap.size w w') : CodesE w' ok xs := fun e he => ⟨(h e he).1.below hb, (h e he).2⟩
theorem CodesE.weaken {w : World} {ok ok' : Nat → Prop} {xs : List HE} (h : CodesE w ok xs) (ho : ∀ b, ok b → ok' b) : CodesE w ok' xs := fun e he => ⟨(h e he).1, fun x hx => ho _ ((h e he).2 x hx)⟩
theorem CodesE.nil (w : World) (ok : Nat → Prop) : CodesE w ok [] := fun _ h => by cases h
theorem CodesE.append {w : World} {ok : Nat → Prop} {xs ys : List HE} (h : CodesE w ok xs) (h' : CodesE w ok ys) : CodesE w ok (xs ++ ys) := fun e he => (List.mem_append.1 he).elim (h e) (h' e)
theorem CodesE.sub {w : World} {ok : Nat → Prop} {xs ys : List HE} (h : CodesE w ok xs) (hs : ∀ e ∈ ys, e ∈ xs) : CodesE w ok ys := fun e he => h e (hs e he)
theorem getD_mem' (xs : List HE) (j : Nat) (hj : j < xs.length) : xs.getD j default ∈ xs := by rw [List.getD_eq_getElem?_getD, List.getElem?_eq_getElem hj]; exact List.getElem_mem hj
/-- A slice of entries that is read. -/
def SlX (w : World) (A : Option Addr) (c : Nat) (xs : List HE) (ok : Nat → Prop) : Prop :=
  xs.length ≤ c ∧ c ≤ maxLen ∧ CodesE w ok xs ∧ ∀ j, j < xs.length → ∃ ad, A = some ad ∧ EntAt w (ad.add (j * 4)) (xs.getD j default).e (xs.getD j default).A (xs.getD j default).c
def SlE (w : World) (A : Option Addr) (c : Nat) (es : List En) : Prop := ∃ xs, es = ents xs ∧ SlX w A c xs (fun _ => True)
theorem SlX.below {w w' : World} {A : Option Addr} {c : Nat} {xs : List HE} {ok : Nat → Prop} (h : SlX w A c xs ok) (hb : Below w.heap.size w w') : SlX w' A c xs ok :=
  ⟨h.1, h.2.1, h.2.2.1.below hb, fun j hj => by obtain ⟨ad, h1, h2⟩ := h.2.2.2 j hj; exact ⟨ad, h1, h2.below hb⟩⟩
theorem SlE.below {w w' : World} {A : Option Addr} {c : Nat} {es : List En} (h : SlE w A c es) (hb : Below w.heap.size w w') : SlE w' A c es := by
  obtain ⟨xs, h1, h2⟩ := h
  exact ⟨xs, h1, h2.below hb⟩
theorem SlE.len {w : World} {A : Option Addr} {c : Nat} {es : List En} (h : SlE w A c es) : es.length ≤ c ∧ c ≤ maxLen := by
  obtain ⟨xs, rfl, h2⟩ := h
  rw [ents_length]; exact ⟨h2.1, h2.2.1⟩
theorem SlE.len' {w : World} {A : Option Addr} {c : Nat} {es : List En} (h : SlE w A c es) : es.length ≤ 9223372036854775807 := by
  have := h.len; unfold maxLen at this; omega
theorem SlE.get {w : World} {A : Option Addr} {c : Nat} {es : List En} (h : SlE w A c es) (j : Nat) (hj : j < es.length) :
    ∃ ad B d, A = some ad ∧ EntAt w (ad.add (j * 4)) (es.getD j ⟨0, [], 0, false⟩) B d ∧ SlI w .u8 B d (es.getD j ⟨0, [], 0, false⟩).code := by
  obtain ⟨xs, rfl, h2⟩ := h
  rw [ents_length] at hj
  obtain ⟨ad, e1, e2⟩ := h2.2.2.2 j hj
  rw [ents_get xs j hj] at e2
  refine ⟨ad, _, _, e1, e2, ?_⟩
  rw [← ents_get xs j hj]
  exact (h2.2.2.1 _ (getD_mem' xs j hj)).1
theorem SlE.nil (w : World) : SlE w none 0 [] := ⟨[], rfl, Nat.le_refl _, Nat.zero_le _, CodesE.nil _ _, fun j hj => absurd hj (by simp)⟩
/-- A row of entries of the call's own (E: the entry's type); the codes lie at ok. -/
def OwnX (w : World) (base E : Nat) (A : Option Addr) (c : Nat) (xs : List HE) (ok : Nat → Prop) : Prop :=
  w.ownsRow base E 4 (.slice A xs.length c) xs.length (flat xs) ∧ CodesE w ok xs
theorem entAt_of {w : World} {ad : Addr} {h : HE} (j : Nat) (hd : ∀ f u, f < 4 → (cells4 h)[f]? = some u → w.cell? (ad.add (j * 4 + f)) = some u) : EntAt w (ad.add (j * 4)) h.e h.A h.c := by
  have ha : ∀ f, ad.add (j * 4 + (f + 1)) = ⟨(ad.add (j * 4)).block, (ad.add (j * 4)).off + (f + 1), none⟩ := fun f => by
    unfold Addr.add
    by_cases h0 : j * 4 = 0
    · rw [if_neg (by omega), if_pos h0, h0]; simp
    · rw [if_neg (by omega), if_neg h0]; simp [Nat.add_assoc]
  refine ⟨?_, ?_, ?_, ?_⟩
  · exact hd 0 _ (by decide) rfl
  · rw [← ha 0]; exact hd 1 _ (by decide) rfl
  · rw [← ha 1]; exact hd 2 _ (by decide) rfl
  · rw [← ha 2]; exact hd 3 _ (by decide) rfl
theorem OwnX.sl {w : World} {base E : Nat} {A : Option Addr} {c : Nat} {xs : List HE} {ok : Nat → Prop} (h : OwnX w base E A c xs ok) : SlX w A c xs ok := by
  obtain ⟨h1, h2⟩ := h
  rcases h1.2 with ⟨e1, e2⟩ | ⟨g, cap, cur, e1, hb, hh, hn, hm, _⟩
  · injection e1 with e1 e3 e4
    subst e1 e4
    refine ⟨by omega, Nat.zero_le _, h2, fun j hj => by omega⟩
  · injection e1 with e1 e3 e4
    subst e1 e4
    refine ⟨hn, hm, h2, fun j hj => ⟨_, rfl, entAt_of j fun f u hf hu => ?_⟩⟩
    exact h1.cells (g := g) rfl (j * 4 + f) u (by rw [flat_get xs j f hj hf]; exact hu)
theorem SlX.weaken {w : World} {A : Option Addr} {c : Nat} {xs : List HE} {ok ok' : Nat → Prop} (h : SlX w A c xs ok) (ho : ∀ b, ok b → ok' b) : SlX w A c xs ok' := ⟨h.1, h.2.1, h.2.2.1.weaken ho, h.2.2.2⟩
theorem OwnX.sle {w : World} {base E : Nat} {A : Option Addr} {c : Nat} {xs : List HE} {ok : Nat → Prop} (h : OwnX w base E A c xs ok) : SlE w A c (ents xs) := ⟨xs, rfl, h.sl.weaken fun _ _ => trivial⟩
theorem OwnX.below {w w' : World} {base E : Nat} {A : Option Addr} {c : Nat} {xs : List HE} {ok : Nat → Prop} (h : OwnX w base E A c xs ok) (hb : Below w.heap.size w w') : OwnX w' base E A c xs ok := ⟨own_below h.1 hb, h.2.below hb⟩
theorem OwnX.mono {w : World} {base base' E : Nat} {A : Option Addr} {c : Nat} {xs : List HE} {ok : Nat → Prop} (h : OwnX w base E A c xs ok) (hb : base' ≤ base) : OwnX w base' E A c xs ok := ⟨own_mono h.1 hb, h.2⟩
theorem OwnX.weaken {w : World} {base E : Nat} {A : Option Addr} {c : Nat} {xs : List HE} {ok ok' : Nat → Prop} (h : OwnX w base E A c xs ok) (ho : ∀ b, ok b → ok' b) : OwnX w base E A c xs ok' := ⟨h.1, h.2.weaken ho⟩
theorem OwnX.nil (w : World) (base E : Nat) (ok : Nat → Prop) : OwnX w base E none 0 [] ok := ⟨own_nil _ _ _ _, CodesE.nil _ _⟩
theorem CodesE.kept {w w' : World} {ok : Nat → Prop} {xs : List HE} {row : Option Nat} (h : CodesE w ok xs) (hg : w.grownBy w' row) (hr : ∀ b, ok b → some b ≠ row) : CodesE w' ok xs := fun e he =>
  ⟨(h e he).1.kept hg fun x hx => hr _ ((h e he).2 x hx), (h e he).2⟩
/-- A flag is written. -/
theorem flat_kill (xs : List HE) (j : Nat) (hj : j < xs.length) (d : Bool) : (flat xs).set (j * 4 + 3) (.bool d) = flat (xs.set j { xs.getD j default with e := { (xs.getD j default).e with dead := d } }) := by
  induction xs generalizing j with
  | nil => cases hj
  | cons h xs ih =>
    rw [flat_cons]
    cases j with
    | zero => simp [flat_cons, cells4]
    | succ j =>
      have e1 : (j + 1) * 4 + 3 = (cells4 h).length + (j * 4 + 3) := by simp [cells4]; omega
      rw [e1, List.set_append_right _ _ (Nat.le_add_right _ _)]
      have e2 : (cells4 h).length + (j * 4 + 3) - (cells4 h).length = j * 4 + 3 := by omega
      rw [e2, ih j (by simpa using hj)]
      simp [flat_cons]
/-- An entry is written: four cells. -/
theorem flat_put (xs : List HE) (j : Nat) (hj : j < xs.length) (h : HE) : ((((flat xs).set (j * 4) (.int .i64 h.e.id)).set (j * 4 + 1) (.slice h.A h.e.code.length h.c)).set (j * 4 + 2) (.int .i64 h.e.rad)).set (j * 4 + 3) (.bool h.e.dead) = flat (xs.set j h) := by
  induction xs generalizing j with
  | nil => cases hj
  | cons h0 xs ih =>
    rw [flat_cons]
    cases j with
    | zero => simp [flat_cons, cells4]
    | succ j =>
      have e0 : (j + 1) * 4 = (cells4 h0).length + (j * 4) := by simp [cells4]; omega
      have ee : ∀ f, (j + 1) * 4 + f = (cells4 h0).length + (j * 4 + f) := fun f => by rw [e0]; omega
      rw [ee 1, ee 2, ee 3, e0, List.set_append_right _ _ (Nat.le_add_right _ _), List.set_append_right _ _ (Nat.le_add_right _ _), List.set_append_right _ _ (Nat.le_add_right _ _), List.set_append_right _ _ (Nat.le_add_right _ _)]
      have e2 : ∀ f, (cells4 h0).length + f - (cells4 h0).length = f := fun f => by omega
      rw [e2, e2, e2, e2, ih j (by simpa using hj)]
      simp [flat_cons]
end Go.Proofs.Ytikjmhijkegdgaa
