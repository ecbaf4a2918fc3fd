/- Plain laws of a list of entries: where the live ones stand. -/
import Derived.Test.YtikjmhijkegdgaaEntD
namespace Go.Proofs.Ytikjmhijkegdgaa
set_option linter.unusedVariables false
set_option linter.unusedSimpArgs false
def hitE (id : Int) (e : En) : Bool := e.id == id && !e.dead
def place (es : List En) (id : Int) : Option Nat := es.findIdx? (hitE id)
def fPlace (es : List En) : Int → Option Int := fun id => (place es id).map fun j => (j : Int)
/-- Ids are numbers of 64 bits; no two live ones are the same. -/
def goodL (es : List En) : Prop := (∀ e ∈ es, (Lit.int .i64 e.id).wf = true ∧ e.code.length ≤ 1024) ∧ ((liveE es).map (·.id)).Nodup
theorem goodL_nil : goodL [] := ⟨by simp, by simp [liveE]⟩
theorem liveE_append (a b : List En) : liveE (a ++ b) = liveE a ++ liveE b := by simp [liveE]
theorem place_nil (id : Int) : place [] id = none := rfl
theorem place_lt {es : List En} {id : Int} {j : Nat} (h : place es id = some j) : j < es.length ∧ hitE id (es.getD j ⟨0, [], 0, false⟩) = true := by
  unfold place at h
  rw [List.findIdx?_eq_some_iff_getElem] at h
  obtain ⟨h1, h2, _⟩ := h
  exact ⟨h1, by simpa [List.getD_eq_getElem?_getD, h1] using h2⟩
theorem place_app {es : List En} {e : En} (hd : e.dead = false) (hn : place es e.id = none) (id : Int) : place (es ++ [e]) id = if id = e.id then some es.length else place es id := by
  unfold place at hn ⊢
  rw [List.findIdx?_append]
  by_cases h : id = e.id
  · subst h
    rw [hn, if_pos rfl]
    simp [hitE, hd]
  · rw [if_neg h]
    have : hitE id e = false := by simp [hitE]; intro hh; exact absurd hh.symm h
    cases hp : es.findIdx? (hitE id) <;> simp [this]
theorem fPlace_app {es : List En} {e : En} (hd : e.dead = false) (hn : place es e.id = none) : fPlace (es ++ [e]) = fun id => if id = e.id then some (es.length : Int) else fPlace es id := by
  funext id
  unfold fPlace
  rw [place_app hd hn]
  split <;> rfl
theorem liveE_one {e : En} (hd : e.dead = false) : liveE [e] = [e] := by simp [liveE, hd]
theorem not_live_of_place {es : List En} {id : Int} (h : place es id = none) : ∀ e ∈ liveE es, e.id ≠ id := by
  intro e he
  unfold liveE at he
  rw [List.mem_filter] at he
  unfold place at h
  rw [List.findIdx?_eq_none_iff] at h
  have := h e he.1
  intro hh
  simp [hitE, hh] at this
  have h2 := he.2
  simp [this] at h2
theorem goodL_app {es : List En} {e : En} (hg : goodL es) (hw : (Lit.int .i64 e.id).wf = true ∧ e.code.length ≤ 1024) (hd : e.dead = false) (hn : place es e.id = none) : goodL (es ++ [e]) := by
  refine ⟨fun x hx => (List.mem_append.1 hx).elim (hg.1 x) fun h => by rw [List.mem_singleton] at h; subst h; exact hw, ?_⟩
  rw [liveE_append, liveE_one hd, List.map_append]
  rw [List.nodup_append]
  refine ⟨hg.2, by simp, fun a ha b hb => ?_⟩
  simp only [List.map_cons, List.map_nil, List.mem_singleton] at hb
  subst hb
  obtain ⟨q, hq, rfl⟩ := List.mem_map.1 ha
  exact not_live_of_place hn q hq
/-- One is killed. -/
def killE (es : List En) (j : Nat) : List En := es.set j { es.getD j ⟨0, [], 0, false⟩ with dead := true }
theorem killE_length (es : List En) (j : Nat) : (killE es j).length = es.length := by simp [killE]
theorem split_at (es : List En) (j : Nat) (hj : j < es.length) : es = es.take j ++ es.getD j ⟨0, [], 0, false⟩ :: es.drop (j + 1) := by
  have : es.getD j ⟨0, [], 0, false⟩ = es[j] := by simp [List.getD_eq_getElem?_getD, hj]
  rw [this, ← List.drop_eq_getElem_cons hj, List.take_append_drop]
theorem killE_split (es : List En) (j : Nat) (hj : j < es.length) : killE es j = es.take j ++ { es.getD j ⟨0, [], 0, false⟩ with dead := true } :: es.drop (j + 1) := by
  unfold killE
  rw [List.set_eq_take_append_cons_drop, if_pos hj]
theorem live_kill {es : List En} {j : Nat} (hj : j < es.length) (hd : (es.getD j ⟨0, [], 0, false⟩).dead = false) : liveE es = liveE (es.take j) ++ es.getD j ⟨0, [], 0, false⟩ :: liveE (es.drop (j + 1)) ∧ liveE (killE es j) = liveE (es.take j) ++ liveE (es.drop (j + 1)) := by
  rw [killE_split es j hj]
  constructor
  · conv => lhs; rw [split_at es j hj]
    rw [liveE_append]
    unfold liveE
    rw [List.filter_cons, if_pos (by rw [hd]; rfl)]
  · rw [liveE_append]
    simp [liveE, List.filter_cons]
theorem live_kill_length {es : List En} {j : Nat} (hj : j < es.length) (hd : (es.getD j ⟨0, [], 0, false⟩).dead = false) : (liveE (killE es j)).length = (liveE es).length - 1 ∧ 1 ≤ (liveE es).length := by
  obtain ⟨h1, h2⟩ := live_kill hj hd
  rw [h1, h2]
  simp only [List.length_append, List.length_cons]
  omega
theorem nodup_mid {α : Type} {a b : List α} {x : α} (h : (a ++ x :: b).Nodup) : (x :: (a ++ b)).Nodup := by
  rw [List.nodup_append, List.nodup_cons] at h
  rw [List.nodup_cons, List.nodup_append]
  obtain ⟨h1, ⟨h2, h3⟩, h4⟩ := h
  refine ⟨fun hm => ?_, h1, h3, fun u hu v hv => h4 u hu v (List.mem_cons_of_mem _ hv)⟩
  rcases List.mem_append.1 hm with hm | hm
  · exact h4 x hm x (List.mem_cons_self ..) rfl
  · exact h2 hm
theorem goodL_kill {es : List En} {j : Nat} (hg : goodL es) (hj : j < es.length) (hd : (es.getD j ⟨0, [], 0, false⟩).dead = false) : goodL (killE es j) := by
  obtain ⟨h1, h2⟩ := live_kill hj hd
  refine ⟨fun x hx => ?_, ?_⟩
  · unfold killE at hx
    rcases List.mem_or_eq_of_mem_set hx with h | h
    · exact hg.1 x h
    · subst h
      refine hg.1 (es.getD j ⟨0, [], 0, false⟩) ?_
      rw [List.getD_eq_getElem?_getD, List.getElem?_eq_getElem hj]
      exact List.getElem_mem hj
  · have := hg.2
    rw [h1] at this
    rw [h2]
    simp only [List.map_append, List.map_cons] at this ⊢
    exact (List.nodup_cons.1 (nodup_mid this)).2
theorem place_kill {es : List En} {j : Nat} {id : Int} (hg : goodL es) (hp : place es id = some j) (x : Int) : place (killE es j) x = if x = id then none else place es x := by
  obtain ⟨hj, hh⟩ := place_lt hp
  have hd : (es.getD j ⟨0, [], 0, false⟩).dead = false := by simp [hitE] at hh; exact hh.2
  have hid : (es.getD j ⟨0, [], 0, false⟩).id = id := by simp [hitE] at hh; exact hh.1
  obtain ⟨h1, h2⟩ := live_kill hj hd
  by_cases hx : x = id
  · subst hx
    rw [if_pos rfl]
    unfold place
    rw [List.findIdx?_eq_none_iff]
    intro e he
    cases hb : hitE x e with
    | false => rfl
    | true =>
      exfalso
      have hl : e ∈ liveE (killE es j) := by
        unfold liveE
        rw [List.mem_filter]
        simp [hitE] at hb
        exact ⟨he, by simp [hb.2]⟩
      rw [h2] at hl
      have nd := hg.2
      rw [h1] at nd
      simp only [List.map_append, List.map_cons] at nd
      have nd2 := nodup_mid nd
      rw [List.nodup_cons] at nd2
      apply nd2.1
      rw [hid, ← List.map_append]
      simp [hitE] at hb
      exact List.mem_map.2 ⟨e, hl, hb.1⟩
  · rw [if_neg hx]
    have hn1 : hitE x (es.getD j ⟨0, [], 0, false⟩) = false := by
      unfold hitE
      rw [hid, show (id == x) = false from by simp; exact fun h => hx h.symm]
      rfl
    have hn2 : hitE x { es.getD j ⟨0, [], 0, false⟩ with dead := true } = false := by simp [hitE]
    unfold place
    conv => rhs; rw [split_at es j hj]
    rw [killE_split es j hj, List.findIdx?_append, List.findIdx?_append, List.findIdx?_cons, List.findIdx?_cons, hn1, hn2]
theorem fPlace_kill {es : List En} {j : Nat} {id : Int} (hg : goodL es) (hp : place es id = some j) : fPlace (killE es j) = fun x => if x = id then none else fPlace es x := by
  funext x
  unfold fPlace
  rw [place_kill hg hp]
  split <;> rfl
/-- The live ones, one by one. -/
theorem live_nodead (es : List En) : ∀ e ∈ liveE es, e.dead = false := by
  intro e he
  unfold liveE at he
  have := (List.mem_filter.1 he).2
  simpa using this
theorem liveE_idem (es : List En) : liveE (liveE es) = liveE es := by
  unfold liveE; rw [List.filter_filter]; simp
theorem goodL_live {es : List En} (hg : goodL es) : goodL (liveE es) := by
  refine ⟨fun e he => hg.1 e (List.mem_filter.1 he).1, ?_⟩
  rw [liveE_idem]
  exact hg.2
theorem place_fresh {es : List En} (hn : (es.map (·.id)).Nodup) {k : Nat} (hk : k < es.length) : place (es.take k) (es.getD k ⟨0, [], 0, false⟩).id = none := by
  unfold place
  rw [List.findIdx?_eq_none_iff]
  intro e he
  simp only [hitE, Bool.and_eq_false_imp, beq_iff_eq]
  intro heq
  exfalso
  have h1 := split_at es k hk
  rw [h1] at hn
  simp only [List.map_append, List.map_cons] at hn
  have hn2 := nodup_mid hn
  rw [List.nodup_cons] at hn2
  apply hn2.1
  rw [← heq]
  exact List.mem_append_left _ (List.mem_map.2 ⟨e, he, rfl⟩)
end Go.Proofs.Ytikjmhijkegdgaa
