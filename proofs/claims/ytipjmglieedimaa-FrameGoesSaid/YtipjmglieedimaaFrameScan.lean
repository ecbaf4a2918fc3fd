import Derived.Test.YtipjmglieedimaaFrameMath
namespace Go.Proofs.Ytipjmglieedimaa
set_option linter.unusedVariables false
set_option linter.unusedSimpArgs false
/-! frame.Scan: plain. -/
def scanF : Nat → List Int → List (List Int)
  | 0, _ => []
  | f + 1, b => if (oneR b).2.2 = 0 then (oneR b).1 :: scanF f (b.drop (8 + (oneR b).1.length)) else []
def scanR (b : List Int) : List (List Int) := scanF (b.length + 1) b
/-- How many bytes payloads' frames have. -/
def used : List (List Int) → Nat
  | [] => 0
  | p :: l => 8 + p.length + used l
theorem used_app (a b : List (List Int)) : used (a ++ b) = used a + used b := by
  induction a with
  | nil => simp [used]
  | cons x a ih => simp only [List.cons_append, used, ih]; omega
theorem used_take_succ {l : List (List Int)} {k : Nat} (h : k < l.length) : used (l.take (k + 1)) = used (l.take k) + (8 + (l.getD k []).length) := by
  rw [List.take_add_one, List.getElem?_eq_getElem h, used_app, List.getD_eq_getElem?_getD, List.getElem?_eq_getElem h]
  simp [used]
/-- What a frame that is read is. -/
theorem oneR_ok {b : List Int} (hb : Bytes b) (h : (oneR b).2.2 = 0) : ∃ p, oneR b = (p, 8 + (p.length : Int), 0) ∧ 8 + p.length ≤ b.length ∧ p = (b.drop 8).take p.length ∧ (p.length : Int) ≤ 33554432 ∧
    Oct.ofB (b.take 4) = p.length ∧ uv (more 0#32 (b.take 4 ++ p)) = Oct.ofB ((b.drop 4).take 4) := by
  have h0 := Oct.ofB_nonneg (b.take 4) (fun x hx => (hb.take 4 x hx).1)
  unfold oneR at h ⊢
  split at h
  · cases h
  · rename_i h1
    rw [if_neg h1]
    split at h
    · cases h
    · rename_i h2
      rw [if_neg h2]
      split at h
      · cases h
      · rename_i h3
        rw [if_neg h3]
        split at h
        · cases h
        · rename_i h4
          rw [if_neg h4]
          have hl : ((b.drop 8).take (Oct.ofB (b.take 4)).toNat).length = (Oct.ofB (b.take 4)).toNat := by rw [List.length_take, List.length_drop]; omega
          refine ⟨(b.drop 8).take (Oct.ofB (b.take 4)).toNat, ?_, ?_, ?_, ?_, ?_, ?_⟩
          · rw [hl, Int.toNat_of_nonneg h0]
          · rw [hl]; omega
          · rw [hl]
          · rw [hl]; omega
          · rw [hl]; omega
          · exact Decidable.of_not_not h4
theorem scanF_spec : ∀ (f : Nat) (b : List Int), Bytes b → b.length < f → ∀ k, k ≤ (scanF f b).length →
    used ((scanF f b).take k) ≤ b.length ∧
    (k < (scanF f b).length → oneR (b.drop (used ((scanF f b).take k))) = ((scanF f b).getD k [], 8 + (((scanF f b).getD k []).length : Int), 0)) ∧
    (k = (scanF f b).length → (oneR (b.drop (used ((scanF f b).take k)))).2.2 ≠ 0) := by
  intro f
  induction f with
  | zero => intro b _ hf; omega
  | succ f ih =>
    intro b hb hf k hk
    by_cases h : (oneR b).2.2 = 0
    · obtain ⟨p, hp, hlen, _⟩ := oneR_ok hb h
      have hs : scanF (f + 1) b = p :: scanF f (b.drop (8 + p.length)) := by rw [scanF, if_pos h, hp]
      rw [hs] at hk ⊢
      cases k with
      | zero =>
        refine ⟨by simp [used], fun _ => ?_, fun hh => by simp at hh⟩
        simp only [List.take_zero, used, List.drop_zero]
        exact hp
      | succ k =>
        have hk' : k ≤ (scanF f (b.drop (8 + p.length))).length := by simpa using hk
        obtain ⟨i1, i2, i3⟩ := ih (b.drop (8 + p.length)) (hb.drop _) (by rw [List.length_drop]; omega) k hk'
        rw [List.length_drop] at i1
        simp only [List.take_succ_cons, used, List.length_cons]
        have e : ∀ x, b.drop (8 + p.length + x) = (b.drop (8 + p.length)).drop x := fun x => by rw [List.drop_drop]
        rw [e]
        refine ⟨by omega, fun hh => ?_, fun hh => ?_⟩
        · have := i2 (by omega)
          simpa using this
        · exact i3 (by omega)
    · have hs : scanF (f + 1) b = [] := by rw [scanF, if_neg h]
      rw [hs] at hk ⊢
      obtain rfl : k = 0 := by simpa using hk
      refine ⟨by simp [used], fun hh => by simp at hh, fun _ => ?_⟩
      simpa [used] using h
theorem scanR_spec {b : List Int} (hb : Bytes b) {k : Nat} (hk : k ≤ (scanR b).length) :
    used ((scanR b).take k) ≤ b.length ∧
    (k < (scanR b).length → oneR (b.drop (used ((scanR b).take k))) = ((scanR b).getD k [], 8 + (((scanR b).getD k []).length : Int), 0)) ∧
    (k = (scanR b).length → (oneR (b.drop (used ((scanR b).take k)))).2.2 ≠ 0) := scanF_spec _ b hb (by omega) k hk
theorem used_len (l : List (List Int)) : 8 * l.length ≤ used l := by
  induction l with
  | nil => simp [used]
  | cons p l ih => simp only [used, List.length_cons]; omega
/-- The address behind a cut. -/
def cutA (A : Option Addr) (c m : Nat) : Option Addr := if c = m then A else A.map (·.add m)
theorem cut_run {P : Program} (t e : TypeId) (kl : IntKind) {i : TypeInfo} (ht : P.underlying t = some (.slice e)) (hi : P.info? e = some i) (hsz : i.size = 1) (A : Option Addr) (n c m : Nat) (L : Int) (eL : L = m) (hm : m ≤ n) (hc : n ≤ c) (W : World) (n' c' : Nat) (e1 : n - m = n') (e2 : c - m = c') :
    (Instr.slice t (.slice A n c) (some (.int kl L)) none none).run P W = .ok (.slice (cutA A c m) n' c') W := by
  subst eL; subst e1; subst e2
  have hel : P.elem t = e := by simp [Program.elem, ht]
  have hu : P.underlying t = some (.slice (P.elem t)) := by rw [hel]; exact ht
  rw [run_slice_l W t A n c hu kl (m : Int) (Int.natCast_nonneg _) (by omega), hel]
  simp [sizeOf, typeInfo, hi, hsz, sliced, Result.andThen, cutA]
theorem cutA_sl {w : World} {k : IntKind} {A : Option Addr} {c : Nat} {xs : List Int} (h : SlI w k A c xs) (m : Nat) (hm : m ≤ xs.length) : SlI w k (cutA A c m) (c - m) (xs.drop m) := by
  have := h.le
  exact h.dropIf m (c - m) hm (by omega) (by omega)
/-- Where the rest stands behind k frames. -/
def seqA (ps : List (List Int)) (A : Option Addr) (c : Nat) : Nat → Option Addr × Nat
  | 0 => (A, c)
  | k + 1 => (cutA (seqA ps A c k).1 (seqA ps A c k).2 (8 + (ps.getD k []).length), (seqA ps A c k).2 - (8 + (ps.getD k []).length))
theorem seqA_sl {b : List Int} (hb : Bytes b) {A : Option Addr} {c : Nat} {w : World} (h : SlI w .u8 A c b) : ∀ k, k ≤ (scanR b).length →
    SlI w .u8 (seqA (scanR b) A c k).1 (seqA (scanR b) A c k).2 (b.drop (used ((scanR b).take k))) := by
  intro k
  induction k with
  | zero => intro _; simpa [used, seqA] using h
  | succ k ih =>
    intro hk
    have h1 := ih (by omega)
    have hu := used_take_succ (l := scanR b) (k := k) (by omega)
    have hl := (scanR_spec hb hk).1
    rw [hu, ← List.drop_drop, seqA]
    exact cutA_sl h1 _ (by rw [List.length_drop]; omega)
theorem seqA_le {b : List Int} (hb : Bytes b) {A : Option Addr} {c : Nat} (h : b.length ≤ c) : ∀ k, k ≤ (scanR b).length →
    (b.drop (used ((scanR b).take k))).length ≤ (seqA (scanR b) A c k).2 ∧ (seqA (scanR b) A c k).2 ≤ c := by
  intro k
  induction k with
  | zero => intro _; simp only [List.take_zero, used, List.drop_zero, seqA]; exact ⟨h, Nat.le_refl _⟩
  | succ k ih =>
    intro hk
    have h1 := ih (by omega)
    have hu := used_take_succ (l := scanR b) (k := k) (by omega)
    have hl := (scanR_spec hb hk).1
    simp only [List.length_drop, seqA] at h1 ⊢
    omega
theorem scanR_part {b : List Int} (hb : Bytes b) {k : Nat} (hk : k < (scanR b).length) : ((scanR b).getD k []).length ≤ b.length := by
  have h1 := used_take_succ hk
  have h2 := (scanR_spec hb (k := k + 1) (by omega)).1
  omega
end Go.Proofs.Ytipjmglieedimaa
