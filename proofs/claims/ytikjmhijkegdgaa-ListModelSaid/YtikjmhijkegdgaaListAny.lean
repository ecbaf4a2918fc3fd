/- Put, Kill: what they do, whatever they are given. -/
import Derived.Test.YtikjmhijkegdgaaListActs
namespace Go.Proofs.Ytikjmhijkegdgaa
set_option linter.unusedVariables false
set_option linter.unusedSimpArgs false
open Go.RowKit
def putR (parts : Int) (es : List En) (e : En) : Int := if okE parts e then (if place es e.id = none then 0 else 8) else 2
def putE (parts : Int) (es : List En) (e : En) : List En := if okE parts e ∧ place es e.id = none then es ++ [e] else es
def killR (es : List En) (id : Int) : Int := match place es id with | none => 6 | some _ => 0
def kill1 (es : List En) (id : Int) : List En := match place es id with | none => es | some j => killE es j
theorem putE_length (parts : Int) (es : List En) (e : En) : (putE parts es e).length ≤ es.length + 1 := by unfold putE; split <;> simp
theorem putE_live {parts : Int} {es : List En} (e : En) (h : ∀ x ∈ es, x.dead = false) : ∀ x ∈ putE parts es e, x.dead = false := by
  unfold putE; split
  · rename_i hh
    intro x hx
    rcases List.mem_append.1 hx with hx | hx
    · exact h x hx
    · rw [List.mem_singleton] at hx; subst hx; exact hh.1.2.2.2.2
  · exact h
/-- What Put leaves. -/
def RetP (S : Nat → Prop) (g : Nat) (parts : Int) (es : List En) (e : En) (w : World) (x : Ending) (w' : World) : Prop :=
  ∃ S', x = .returned (.int .i64 (putR parts es e)) ∧ LIST w' S' g parts (putE parts es e) ∧ Keep S w w' ∧ ∀ k, S' k → S k ∨ (w.heap.size ≤ k ∧ k < w'.heap.size)
theorem LPut_any (S : Nat → Prop) (g : Nat) (parts : Int) (es : List En) (e : En) (B : Option Addr) (d : Nat) (w : World) (h : LIST w S g parts es) (hp : parts ≤ 1024) (hm : e.code.length ≤ 1000000) (hid : (Lit.int .i64 e.id).wf = true) (hcode : SlI w .u8 B d e.code) (hl : es.length ≤ 1000000) :
    Calls Try.prog 13 #[PtrL g, aggE e B d] w (RetP S g parts es e w) := by
  by_cases hok : okE parts e
  · have hc : e.code.length ≤ 1024 := by have := hok.2.1; omega
    cases hpl : place es e.id with
    | none =>
      refine (LPut_calls S g parts es e B d w h hc hok hid hpl hcode hl).mono ?_
      rintro x w' ⟨rfl, L, kp⟩
      refine ⟨_, ?_, ?_, kp, fun k hk => hk⟩
      · unfold putR; rw [if_pos hok, if_pos hpl]
      · unfold putE; rw [if_pos ⟨hok, hpl⟩]; exact L
    | some j =>
      refine (LPut_there S g parts es e B d w h hc hok hid (by rw [hpl]; rfl)).mono ?_
      rintro x w' ⟨rfl, b⟩
      refine ⟨S, ?_, ?_, Keep.of_below S b, fun k hk => Or.inl hk⟩
      · unfold putR; rw [if_pos hok, if_neg (by rw [hpl]; simp)]
      · unfold putE; rw [if_neg (by rw [hpl]; simp)]; exact h.below b
  · refine (LPut_bad S g parts es e B d w h hm hok).mono ?_
    rintro x w' ⟨rfl, b⟩
    refine ⟨S, ?_, ?_, Keep.of_below S b, fun k hk => Or.inl hk⟩
    · unfold putR; rw [if_neg hok]
    · unfold putE; rw [if_neg (fun hh => hok hh.1)]; exact h.below b
theorem Keep.of_eq (T : Nat → Prop) (w : World) : Keep T w w := Keep.refl T w
theorem LKill_any (S : Nat → Prop) (g : Nat) (parts : Int) (es : List En) (id : Int) (w : World) (h : LIST w S g parts es) (hid : (Lit.int .i64 id).wf = true) :
    Calls Try.prog 14 #[PtrL g, .int .i64 id] w fun x w' => x = .returned (.int .i64 (killR es id)) ∧ LIST w' S g parts (kill1 es id) ∧ Keep S w w' := by
  cases hp : place es id with
  | none =>
    refine (LKill_no S g parts es id w h hid hp).mono ?_
    rintro x _ ⟨rfl, rfl⟩
    refine ⟨?_, ?_, Keep.refl S w⟩
    · unfold killR; rw [hp]
    · unfold kill1; rw [hp]; exact h
  | some j =>
    refine (LKill_calls S g parts es id j w h hid hp).mono ?_
    rintro x w' ⟨rfl, L, kp⟩
    refine ⟨?_, ?_, kp⟩
    · unfold killR; rw [hp]
    · unfold kill1; rw [hp]; exact L
theorem kill1_length (es : List En) (id : Int) : (kill1 es id).length = es.length := by
  unfold kill1; split
  · rfl
  · exact killE_length es _
theorem kill1_none {es : List En} (hg : goodL es) (id x : Int) (h : x = id ∨ place es x = none) : place (kill1 es id) x = none := by
  unfold kill1
  cases hp : place es id with
  | none =>
    rcases h with rfl | h
    · exact hp
    · exact h
  | some j =>
    dsimp only
    rw [place_kill hg hp x]
    split
    · rfl
    · rename_i hne
      exact h.resolve_left hne
/-- One kill: none, or one live one fewer. -/
theorem kill1_count (es : List En) (id : Int) : (killR es id = 6 ∧ kill1 es id = es) ∨ (killR es id = 0 ∧ (liveE (kill1 es id)).length + 1 = (liveE es).length) := by
  unfold killR kill1
  cases hp : place es id with
  | none => exact Or.inl ⟨rfl, rfl⟩
  | some j =>
    obtain ⟨h1, h2⟩ := place_lt hp
    have hd : (es.getD j ⟨0, [], 0, false⟩).dead = false := by
      unfold hitE at h2; simp only [Bool.and_eq_true, Bool.not_eq_true'] at h2; exact h2.2
    have := live_kill_length h1 hd
    exact Or.inr ⟨rfl, by dsimp only; omega⟩
theorem place_live_none {es : List En} {id : Int} (h : place es id = none) : place (liveE es) id = none := by
  unfold place
  rw [List.findIdx?_eq_none_iff]
  intro e he
  have := not_live_of_place h e he
  unfold hitE
  simp [this]
theorem live_all {es : List En} (h : ∀ x ∈ es, x.dead = false) : liveE es = es := by
  unfold liveE
  rw [List.filter_eq_self]
  intro e he; simp [h e he]
end Go.Proofs.Ytikjmhijkegdgaa
