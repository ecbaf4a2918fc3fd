/- ListModel: the row beside the list; what a kill leaves of the live ones. -/
import Derived.Test.YtikjmhijkegdgaaListAny
import Derived.Test.YtikjmhijkegdgaaRefL2
namespace Go.Proofs.Ytikjmhijkegdgaa
set_option linter.unusedVariables false
set_option linter.unusedSimpArgs false
open Go.RowKit
theorem kill_erase {es : List En} {t : Nat} {id : Int} (hg : goodL es) (ht : t < (liveE es).length) (hid : ((liveE es).getD t ⟨0, [], 0, false⟩).id = id) : killR es id = 0 ∧ liveE (kill1 es id) = (liveE es).take t ++ (liveE es).drop (t + 1) := by
  have hmem : (liveE es).getD t ⟨0, [], 0, false⟩ ∈ liveE es := by rw [List.getD_eq_getElem?_getD, List.getElem?_eq_getElem ht]; exact List.getElem_mem ht
  unfold killR kill1
  cases hp : place es id with
  | none => exact absurd hid (not_live_of_place hp _ hmem)
  | some j =>
    refine ⟨rfl, ?_⟩
    dsimp only
    obtain ⟨h1, h2⟩ := place_lt hp
    unfold hitE at h2
    simp only [Bool.and_eq_true, Bool.not_eq_true', beq_iff_eq] at h2
    obtain ⟨e1, e2⟩ := live_kill h1 h2.2
    have hn := hg.2
    rw [e2]
    generalize es.getD j ⟨0, [], 0, false⟩ = q at *
    generalize liveE (es.take j) = P at *
    generalize liveE (es.drop (j + 1)) = Q at *
    rw [e1] at hn hid ht ⊢
    have hl : t < ((P ++ q :: Q).map (·.id)).length := by simpa using ht
    have hl2 : P.length < ((P ++ q :: Q).map (·.id)).length := by simp
    have g1 : ((P ++ q :: Q).map (·.id))[t]'hl = id := by
      rw [List.getElem_map, ← hid, List.getD_eq_getElem?_getD, List.getElem?_eq_getElem ht]; rfl
    have g2 : ((P ++ q :: Q).map (·.id))[P.length]'hl2 = id := by
      rw [List.getElem_map]; simp [h2.1]
    have : t = P.length := (List.getElem_inj hn).1 (g1.trans g2.symm)
    subst this
    simp
theorem kill_no {es : List En} {id : Int} (h : ∀ t, t < (liveE es).length → ((liveE es).getD t ⟨0, [], 0, false⟩).id ≠ id) : place es id = none := by
  cases hp : place es id with
  | none => rfl
  | some j =>
    obtain ⟨h1, h2⟩ := place_lt hp
    unfold hitE at h2
    simp only [Bool.and_eq_true, Bool.not_eq_true', beq_iff_eq] at h2
    obtain ⟨e1, _⟩ := live_kill h1 h2.2
    exfalso
    refine h (liveE (es.take j)).length (by rw [e1]; simp) ?_
    rw [e1, List.getD_eq_getElem?_getD]
    simpa using h2.1
/-- The row of entries that the law keeps, apart from the list. -/
structure RowL (w : World) (B : Nat) (S : Nat → Prop) (R : Option Addr) (c : Nat) (rs : List HE) : Prop where
  own : w.ownsRow B 33 4 (.slice R rs.length c) rs.length (flat rs)
  codes : CodesE w (fun b => B ≤ b ∧ b < w.heap.size ∧ ¬ S b ∧ some b ≠ (Value.slice R rs.length c).ownBlock) rs
  off : ∀ k, (Value.slice R rs.length c).ownBlock = some k → ¬ S k
theorem RowL.sl {w : World} {B : Nat} {S : Nat → Prop} {R : Option Addr} {c : Nat} {rs : List HE} (h : RowL w B S R c rs) : SlE w R c (ents rs) := OwnX.sle ⟨h.own, h.codes⟩
theorem RowL.keep {w w' : World} {B : Nat} {S S1 : Nat → Prop} {R : Option Addr} {c : Nat} {rs : List HE} (h : RowL w B S R c rs) (kp : Keep S w w') (h1 : ∀ k, S1 k → S k ∨ w.heap.size ≤ k) : RowL w' B S1 R c rs := by
  have ho := h.own.lt
  refine ⟨row_same h.own fun k hk => kp.block k (ho k hk).2 (h.off k hk), fun q hq => ?_, fun k hk hs => ?_⟩
  · obtain ⟨a, b⟩ := h.codes q hq
    refine ⟨a.same fun x hx => kp.block _ (b x hx).2.1 (b x hx).2.2.1, fun x hx => ?_⟩
    obtain ⟨t1, t2, t3, t4⟩ := b x hx
    have := kp.size
    refine ⟨t1, by omega, fun hs => ?_, t4⟩
    rcases h1 _ hs with h2 | h2
    · exact t3 h2
    · omega
  · rcases h1 _ hs with h2 | h2
    · exact h.off k hk h2
    · have := (ho k hk).2; omega
theorem RowL.below {w w' : World} {B : Nat} {S : Nat → Prop} {R : Option Addr} {c : Nat} {rs : List HE} (h : RowL w B S R c rs) (hb : Below w.heap.size w w') : RowL w' B S R c rs := h.keep (Keep.of_below S hb) fun _ hk => .inl hk
theorem RowL.nil (w : World) (B : Nat) (S : Nat → Prop) : RowL w B S none 0 [] := ⟨own_nil _ _ _ _, CodesE.nil _ _, fun k hk => by simp [Value.ownBlock] at hk⟩
/-- An entry's copy behind the row. -/
theorem RowL.push {w v v3 : World} {B : Nat} {S : Nat → Prop} {R R3 A2 : Option Addr} {c c2 c3 : Nat} {rs : List HE} {q : En} (h : RowL w B S R c rs) (hB : B ≤ w.heap.size) (hS : ∀ k, S k → k < w.heap.size) (hb : Below w.heap.size w v)
    (hc : SlI v .u8 A2 c2 q.code) (hca : ∀ x, A2 = some x → w.heap.size ≤ x.block ∧ x.block < v.heap.size)
    (h3 : v3.ownsRow B 33 4 (.slice R3 (rs ++ [(⟨q, A2, c2⟩ : HE)]).length c3) (rs ++ [(⟨q, A2, c2⟩ : HE)]).length (flat (rs ++ [(⟨q, A2, c2⟩ : HE)]))) (hg : v.grownBy v3 (Value.slice R rs.length c).ownBlock)
    (hat : (Value.slice R3 (rs ++ [(⟨q, A2, c2⟩ : HE)]).length c3).ownBlock = (Value.slice R rs.length c).ownBlock ∨ (Value.slice R3 (rs ++ [(⟨q, A2, c2⟩ : HE)]).length c3).ownBlock = some v.heap.size) : RowL v3 B S R3 c3 (rs ++ [⟨q, A2, c2⟩]) := by
  have hs := hb.size
  have hs3 := hg.size
  have hrow := h.own.lt
  refine ⟨h3, CodesE.append (fun p hp => ?_) (fun p hp => ?_), fun k hk hk2 => ?_⟩
  · obtain ⟨a, b⟩ := h.codes p hp
    refine ⟨(a.below hb).kept hg fun x hx => (b x hx).2.2.2, fun x hx => ?_⟩
    obtain ⟨t1, t2, t3, t4⟩ := b x hx
    refine ⟨t1, by omega, t3, fun hh => ?_⟩
    rcases hat with ha | ha
    · exact t4 (hh.trans ha)
    · rw [← hh] at ha; injection ha with ha; omega
  · rw [List.mem_singleton] at hp
    subst hp
    refine ⟨hc.kept hg fun x hx hh => by have := hca x hx; have := (hrow _ hh.symm).2; omega, fun x hx => ?_⟩
    have q1 := hca x hx
    refine ⟨by omega, by omega, fun hh => by have := hS _ hh; omega, fun hh => ?_⟩
    rcases hat with ha | ha
    · rw [ha] at hh; have := (hrow _ hh.symm).2; omega
    · rw [← hh] at ha; injection ha with ha; omega
  · rcases hat with ha | ha
    · exact h.off k (ha.symm.trans hk) hk2
    · rw [ha] at hk; injection hk with hk; have := hS _ hk2; omega
/-- The row without one of its entries, in memory of its own. -/
theorem RowL.cut {w v : World} {B : Nat} {S : Nat → Prop} {R R3 : Option Addr} {c c3 : Nat} {rs ys : List HE} (h : RowL w B S R c rs) (hB : B ≤ w.heap.size) (hS : ∀ k, S k → k < w.heap.size) (hb : Below w.heap.size w v) (hsub : ∀ q ∈ ys, q ∈ rs)
    (h3 : v.ownsRow w.heap.size 33 4 (.slice R3 ys.length c3) ys.length (flat ys)) : RowL v B S R3 c3 ys := by
  have hs := hb.size
  have hrow := h3.lt
  refine ⟨own_mono h3 hB, fun q hq => ?_, fun k hk hk2 => by have := (hrow k hk).1; have := hS _ hk2; omega⟩
  obtain ⟨a, b⟩ := h.codes q (hsub q hq)
  refine ⟨a.below hb, fun x hx => ?_⟩
  obtain ⟨t1, t2, t3, t4⟩ := b x hx
  exact ⟨t1, by omega, t3, fun hh => by have := (hrow _ hh.symm).1; omega⟩
/-- The first number of each code may be written. -/
def Bumpy (w : World) (B : Nat) (ys : List HE) : Prop := ∀ q ∈ ys, ∃ x v, q.A = some x ∧ 1 ≤ q.e.code.length ∧ w.cell? (x.add 0) = some (.int .u8 v) ∧ w.frozen? (x.add 0) = false ∧ B ≤ x.block ∧ (Lit.int .u8 v).wf = true
end Go.Proofs.Ytikjmhijkegdgaa
