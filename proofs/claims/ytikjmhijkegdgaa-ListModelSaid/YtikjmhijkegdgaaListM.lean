/- A list in memory; New, Has, Count, Stored, Dead. -/
import Derived.Test.YtikjmhijkegdgaaListP
import Derived.Test.YtikjmhijkegdgaaMapZ
namespace Go.Proofs.Ytikjmhijkegdgaa
set_option linter.unusedVariables false
set_option linter.unusedSimpArgs false
open Go.RowKit
/-- w' is w but for the blocks in T and new ones. -/
structure Keep (T : Nat → Prop) (w w' : World) : Prop where
  os : w'.os = w.os
  tape : w'.tape = w.tape
  output : w'.output = w.output
  size : w.heap.size ≤ w'.heap.size
  block : ∀ k, k < w.heap.size → ¬ T k → w'.heap[k]? = w.heap[k]?
theorem Keep.refl (T : Nat → Prop) (w : World) : Keep T w w := ⟨rfl, rfl, rfl, Nat.le_refl _, fun _ _ _ => rfl⟩
theorem Keep.trans {T U : Nat → Prop} {w w1 w2 : World} (h : Keep T w w1) (k : Keep U w1 w2) (hu : ∀ n, n < w.heap.size → U n → T n) : Keep T w w2 :=
  ⟨k.os.trans h.os, k.tape.trans h.tape, k.output.trans h.output, Nat.le_trans h.size k.size, fun n hn ht => (k.block n (Nat.lt_of_lt_of_le hn h.size) fun hh => ht (hu n hn hh)).trans (h.block n hn ht)⟩
theorem Keep.of_grown {T : Nat → Prop} {w w' : World} {row : Option Nat} (h : w.grownBy w' row) (hr : ∀ k, row = some k → T k) : Keep T w w' :=
  ⟨h.os, h.tape, h.output, h.size, fun k hk ht => h.block k hk fun e => ht (hr k e.symm)⟩
theorem Keep.of_below (T : Nat → Prop) {w w' : World} (h : Below w.heap.size w w') : Keep T w w' := ⟨h.os, h.tape, h.output, h.size, fun k hk _ => h.block k hk⟩
theorem Keep.below {T : Nat → Prop} {B : Nat} {w w' : World} (h : Keep T w w') (hB : B ≤ w.heap.size) (hT : ∀ k, T k → B ≤ k) : Below B w w' := ⟨h.os, h.tape, h.output, h.size, fun i hi => h.block i (by omega) fun ht => by have := hT i ht; omega⟩
theorem below_keep {T : Nat → Prop} {B : Nat} {w w1 w2 : World} (h : Below B w w1) (k : Keep T w1 w2) (hB : B ≤ w1.heap.size) (hT : ∀ k, T k → B ≤ k) : Below B w w2 := h.trans (k.below hB hT)
theorem SlI.same {w w' : World} {k : IntKind} {A : Option Addr} {c : Nat} {xs : List Int} (h : SlI w k A c xs) (hb : ∀ x, A = some x → w'.heap[x.block]? = w.heap[x.block]?) : SlI w' k A c xs := by
  refine ⟨?_, h.le, h.cap⟩
  rcases h.rd with h1 | ⟨ad, h1, h2⟩
  · exact .inl h1
  · refine .inr ⟨ad, h1, fun j u hj => ?_⟩
    rw [World.cell?_of_block (w := w)]
    · exact h2 j u hj
    · rw [show (ad.add j).block = ad.block from by unfold Addr.add; split <;> rfl]; exact hb ad h1
theorem row_same {w w' : World} {base E size n : Nat} {v : Value} {xs : List Value} (h : w.ownsRow base E size v n xs) (hb : ∀ k, v.ownBlock = some k → w'.heap[k]? = w.heap[k]?) : w'.ownsRow base E size v n xs := by
  refine ⟨h.1, ?_⟩
  rcases h.2 with hn | ⟨g, cap, cur, rfl, hb2, hgg, rest⟩
  · exact .inl hn
  · exact .inr ⟨g, cap, cur, rfl, hb2, (hb g rfl).trans hgg, rest⟩
/-- The program's list: block g; all its blocks are in S. -/
def LISTx (w : World) (S : Nat → Prop) (g : Nat) (parts : Int) (xs : List HE) (A : Option Addr) (c bm : Nat) : Prop :=
  Blk w g 57 [.int .i64 parts, .slice A xs.length c, .map (some bm)] ∧ w.ownsRow 0 33 4 (.slice A xs.length c) xs.length (flat xs) ∧
    CodesE w (fun b => S b ∧ b < w.heap.size ∧ b ≠ g ∧ b ≠ bm ∧ some b ≠ (Value.slice A xs.length c).ownBlock) xs ∧ MapN w bm (fPlace (ents xs)) (liveE (ents xs)).length xs.length ∧
    (S g ∧ S bm ∧ (∀ k, (Value.slice A xs.length c).ownBlock = some k → S k)) ∧ goodL (ents xs)
def LIST (w : World) (S : Nat → Prop) (g : Nat) (parts : Int) (es : List En) : Prop := ∃ xs A c bm, es = ents xs ∧ LISTx w S g parts xs A c bm
theorem LISTx.same {w w' : World} {S : Nat → Prop} {g : Nat} {parts : Int} {xs : List HE} {A : Option Addr} {c bm : Nat} (h : LISTx w S g parts xs A c bm) (hs : w.heap.size ≤ w'.heap.size) (hb : ∀ k, k < w.heap.size → S k → w'.heap[k]? = w.heap[k]?) : LISTx w' S g parts xs A c bm := by
  obtain ⟨h1, h2, h3, h4, ⟨s1, s2, s3⟩, h5⟩ := h
  refine ⟨(hb g h1.lt s1).trans h1, row_same h2 fun k hk => hb k (h2.lt k hk).2 (s3 k hk), fun q hq => ?_, h4.block (hb bm h4.lt s2), ⟨s1, s2, s3⟩, h5⟩
  obtain ⟨c1, c2⟩ := h3 q hq
  exact ⟨c1.same fun x hx => hb x.block (c2 x hx).2.1 (c2 x hx).1, fun x hx => by have := c2 x hx; exact ⟨this.1, by omega, this.2.2⟩⟩
theorem LIST.same {w w' : World} {S : Nat → Prop} {g : Nat} {parts : Int} {es : List En} (h : LIST w S g parts es) (hs : w.heap.size ≤ w'.heap.size) (hb : ∀ k, k < w.heap.size → S k → w'.heap[k]? = w.heap[k]?) : LIST w' S g parts es := by
  obtain ⟨xs, A, c, bm, e, h⟩ := h
  exact ⟨xs, A, c, bm, e, h.same hs hb⟩
theorem LIST.below {w w' : World} {S : Nat → Prop} {g : Nat} {parts : Int} {es : List En} (h : LIST w S g parts es) (hb : Below w.heap.size w w') : LIST w' S g parts es := h.same hb.size fun k hk _ => hb.block k hk
theorem LIST.keep {w w' : World} {S T : Nat → Prop} {g : Nat} {parts : Int} {es : List En} (h : LIST w S g parts es) (hk : Keep T w w') (hd : ∀ k, k < w.heap.size → S k → ¬ T k) : LIST w' S g parts es := h.same hk.size fun k hl hs => hk.block k hl (hd k hl hs)
theorem LIST.weaken {w : World} {S S' : Nat → Prop} {g : Nat} {parts : Int} {es : List En} (h : LIST w S g parts es) (hs : ∀ k, S k → S' k) : LIST w S' g parts es := by
  obtain ⟨xs, A, c, bm, e, h1, h2, h3, h4, ⟨s1, s2, s3⟩, h5⟩ := h
  exact ⟨xs, A, c, bm, e, h1, h2, h3.weaken fun b hb => ⟨hs b hb.1, hb.2⟩, h4, ⟨hs _ s1, hs _ s2, fun k hk => hs _ (s3 k hk)⟩, h5⟩
theorem LIST.good {w : World} {S : Nat → Prop} {g : Nat} {parts : Int} {es : List En} (h : LIST w S g parts es) : goodL es := by
  obtain ⟨xs, A, c, bm, rfl, h1, h2, h3, h4, h5, h6⟩ := h
  exact h6
abbrev PtrL (g : Nat) : Value := .pointer (some ⟨g, 0, none⟩)
/-- The blocks that came between. -/
def seg (a b : Nat) : Nat → Prop := fun k => a ≤ k ∧ k < b
theorem Blk.keep {w w' : World} {T : Nat → Prop} {g : Nat} {ty : TypeId} {cs : List Value} (h : Blk w g ty cs) (hk : Keep T w w') (ht : ¬ T g) : Blk w' g ty cs := (hk.block g h.lt ht).trans h
theorem New_calls (parts : Int) (w : World) (h1 : 1 ≤ parts) (h2 : parts ≤ 1024) :
    Calls Try.prog 11 #[.int .i64 parts] w fun e w' => ∃ g, e = .returned (.tuple #[PtrL g, .int .i64 0]) ∧ LIST w' (seg w.heap.size w'.heap.size) g parts [] ∧ Below w.heap.size w w' ∧ w.heap.size ≤ g := by
  have hmm := @run_makeMap Try.prog
  go_enter Try.func11, Try.ntmps11
  go_wp2_with fail
  go_ret2
  have b1 := below_alloc (Below.refl w.heap.size w) (.map #[] 0)
  refine ⟨w.heap.size + 1, rfl, ⟨[], none, 0, w.heap.size, rfl, ?_, own_nil _ _ _ _, CodesE.nil _ _, ?_, ⟨⟨by omega, by simp⟩, ⟨by omega, by simp; omega⟩, fun k hk => by cases hk⟩, goodL_nil⟩, below_alloc b1 _, by omega⟩
  · have := Blk.new (w.alloc (.map #[] 0)) 57 [.int .i64 parts, .slice none 0 0, .map (some w.heap.size)]
    rw [World.size_alloc] at this
    exact this
  · exact ((MapN.new w).below (below_box0 _ _)).congr (fun id _ => rfl) rfl
theorem New_bad (parts : Int) (w : World) (h : parts < 1 ∨ 1024 < parts) :
    Calls Try.prog 11 #[.int .i64 parts] w fun e w' => e = .returned (.tuple #[.pointer none, .int .i64 2]) ∧ w = w' := by
  rcases h with h | h
  · go_enter Try.func11, Try.ntmps11
    go_wp2_with fail
    go_ret2
    exact ⟨rfl, rfl⟩
  · have h' : ¬ parts < 1 := by omega
    go_enter Try.func11, Try.ntmps11
    go_wp2_with fail
    go_ret2
    exact ⟨rfl, rfl⟩
theorem Has_calls (S : Nat → Prop) (g : Nat) (parts : Int) (es : List En) (id : Int) (w : World) (h : LIST w S g parts es) (hid : (Lit.int .i64 id).wf = true) :
    Calls Try.prog 23 #[PtrL g, .int .i64 id] w fun e w' => e = .returned (.bool (place es id).isSome) ∧ w = w' := by
  obtain ⟨xs, A, c, bm, rfl, h1, h2, h3, h4, h5, h6⟩ := h
  obtain ⟨v, hl, _⟩ := h4.look id hid
  have c2 := h1.cell 2
  simp only [List.getElem?_cons_zero, List.getElem?_cons_succ] at c2
  have HP := Lib.hid (show (fPlace (ents xs) id).isSome = (place (ents xs) id).isSome by unfold fPlace; cases place (ents xs) id <;> rfl)
  rw [HP.out] at hl
  clear h1 h2 h3 h4 h5 h6
  generalize (place (ents xs) id).isSome = b at *
  unfold PtrL
  go_enter Try.func23, Try.ntmps23
  go_wp2_with fail
  go_ret
  exact ⟨rfl, rfl⟩
theorem Has_nil (id : Int) (w : World) : Calls Try.prog 23 #[.pointer none, .int .i64 id] w fun e w' => e = .returned (.bool false) ∧ w = w' := by
  go_enter Try.func23, Try.ntmps23
  go_wp2_with fail
  go_ret
  exact ⟨rfl, rfl⟩
theorem Count_calls (S : Nat → Prop) (g : Nat) (parts : Int) (es : List En) (w : World) (h : LIST w S g parts es) :
    Calls Try.prog 18 #[PtrL g] w fun e w' => e = .returned (.int .i64 ((liveE es).length : Int)) ∧ w = w' := by
  obtain ⟨xs, A, c, bm, rfl, h1, h2, h3, h4, h5, h6⟩ := h
  have hl := fun ty => h4.len ty
  have c2 := h1.cell 2
  simp only [List.getElem?_cons_zero, List.getElem?_cons_succ] at c2
  clear h1 h2 h3 h4 h5 h6
  generalize (liveE (ents xs)).length = b at *
  unfold PtrL
  go_enter Try.func18, Try.ntmps18
  go_wp2_with fail
  go_ret
  exact ⟨rfl, rfl⟩
theorem Count_nil (w : World) : Calls Try.prog 18 #[.pointer none] w fun e w' => e = .returned (.int .i64 0) ∧ w = w' := by
  go_enter Try.func18, Try.ntmps18
  go_wp2_with fail
  go_ret
  exact ⟨rfl, rfl⟩
theorem Stored_calls (S : Nat → Prop) (g : Nat) (parts : Int) (es : List En) (w : World) (h : LIST w S g parts es) :
    Calls Try.prog 20 #[PtrL g] w fun e w' => e = .returned (.int .i64 (es.length : Int)) ∧ w = w' := by
  obtain ⟨xs, A, c, bm, rfl, h1, h2, h3, h4, h5, h6⟩ := h
  have c2 := h1.cell 1
  simp only [List.getElem?_cons_zero, List.getElem?_cons_succ] at c2
  rw [← ents_length] at c2
  clear h1 h2 h3 h4 h5 h6
  generalize (ents xs).length = b at *
  unfold PtrL
  go_enter Try.func20, Try.ntmps20
  go_wp2_with fail
  go_ret
  exact ⟨rfl, rfl⟩
theorem Stored_nil (w : World) : Calls Try.prog 20 #[.pointer none] w fun e w' => e = .returned (.int .i64 0) ∧ w = w' := by
  go_enter Try.func20, Try.ntmps20
  go_wp2_with fail
  go_ret
  exact ⟨rfl, rfl⟩
theorem liveE_le (es : List En) : (liveE es).length ≤ es.length := List.length_filter_le _ _
theorem Dead_calls (S : Nat → Prop) (g : Nat) (parts : Int) (es : List En) (w : World) (h : LIST w S g parts es) (hl : es.length ≤ 1000000) :
    Calls Try.prog 19 #[PtrL g] w fun e w' => e = .returned (.int .i64 ((es.length - (liveE es).length : Nat) : Int)) ∧ w = w' := by
  have C1 := Stored_calls S g parts es w h
  have C2 := Count_calls S g parts es w h
  have hle := liveE_le es
  have HE := Lib.hid (show (es.length : Int) - ((liveE es).length : Int) = ((es.length - (liveE es).length : Nat) : Int) by omega)
  clear h
  generalize (liveE es).length = a at *
  generalize es.length = b at *
  go_enter Try.func19, Try.ntmps19
  go_wp2_with fail
  refine C1.mono ?_
  rintro e w' ⟨rfl, rfl⟩
  go_wp2_with fail
  refine C2.mono ?_
  rintro e w' ⟨rfl, rfl⟩
  go_wp2_with fail
  go_ret
  exact ⟨ret_int' HE.out, rfl⟩
theorem Dead_nil (w : World) : Calls Try.prog 19 #[.pointer none] w fun e w' => e = .returned (.int .i64 0) ∧ w = w' := by
  go_enter Try.func19, Try.ntmps19
  go_wp2_with fail
  refine (Stored_nil _).mono ?_
  rintro e w' ⟨rfl, rfl⟩
  go_wp2_with fail
  refine (Count_nil _).mono ?_
  rintro e w' ⟨rfl, rfl⟩
  go_wp2_with fail
  go_ret
  exact ⟨rfl, rfl⟩
end Go.Proofs.Ytikjmhijkegdgaa
