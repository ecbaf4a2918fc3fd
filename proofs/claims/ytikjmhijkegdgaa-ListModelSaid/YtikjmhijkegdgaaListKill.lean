/- A list in memory: Kill. -/
import Derived.Test.YtikjmhijkegdgaaListPut
namespace Go.Proofs.Ytikjmhijkegdgaa
set_option linter.unusedVariables false
set_option linter.unusedSimpArgs false
open Go.RowKit
theorem LKill_nil (id : Int) (w : World) : Calls Try.prog 14 #[.pointer none, .int .i64 id] w fun x w' => x = .returned (.int .i64 1) ∧ w = w' := by
  go_enter Try.func14, Try.ntmps14
  go_wp2_with fail
  go_ret
  exact ⟨rfl, rfl⟩
theorem LKill_no (S : Nat → Prop) (g : Nat) (parts : Int) (es : List En) (id : Int) (w : World) (h : LIST w S g parts es) (hid : (Lit.int .i64 id).wf = true) (hp : place es id = none) :
    Calls Try.prog 14 #[PtrL g, .int .i64 id] w fun x w' => x = .returned (.int .i64 6) ∧ w = w' := by
  obtain ⟨xs, A, c, bm, rfl, h⟩ := h
  obtain ⟨v, hl, hv⟩ := h.2.2.2.1.look id hid
  rw [show (fPlace (ents xs) id).isSome = false from by simp [fPlace, hp]] at hl
  have c2 := h.1.cell 2
  simp only [List.getElem?_cons_zero, List.getElem?_cons_succ] at c2
  clear h hv
  unfold PtrL
  go_enter Try.func14, Try.ntmps14
  go_wp2_with fail
  go_ret
  exact ⟨rfl, rfl⟩
theorem ents_kill (xs : List HE) (j : Nat) (hj : j < xs.length) : ents (xs.set j { xs.getD j default with e := { (xs.getD j default).e with dead := true } }) = killE (ents xs) j := by
  unfold killE
  rw [← ents_get xs j hj]
  simp [ents, List.map_set]
set_option maxHeartbeats 1000000 in
theorem LKill_calls (S : Nat → Prop) (g : Nat) (parts : Int) (es : List En) (id : Int) (j : Nat) (w : World) (h : LIST w S g parts es) (hid : (Lit.int .i64 id).wf = true) (hp : place es id = some j) :
    Calls Try.prog 14 #[PtrL g, .int .i64 id] w fun x w' => x = .returned (.int .i64 0) ∧ LIST w' S g parts (killE es j) ∧ Keep S w w' := by
  obtain ⟨xs, A, c, bm, rfl, h⟩ := h
  have hsl := h.sl
  obtain ⟨h1, h2, h3, h4, ⟨s1, s2, s3⟩, h5⟩ := h
  obtain ⟨v, hl, hv⟩ := h4.look id hid
  rw [show (fPlace (ents xs) id).isSome = true from by simp [fPlace, hp]] at hl
  obtain rfl : v = (j : Int) := hv _ (by simp [fPlace, hp])
  obtain ⟨hjl, hhit⟩ := place_lt hp
  rw [ents_length] at hjl
  have hdead : ((ents xs).getD j ⟨0, [], 0, false⟩).dead = false := by simp [hitE] at hhit; exact hhit.2
  have HGK := Lib.hid (goodL_kill h5 (by rw [ents_length]; exact hjl) hdead)
  have HPK := Lib.hid (fPlace_kill h5 hp)
  have HLK := Lib.hid (live_kill_length (es := ents xs) (j := j) (by rw [ents_length]; exact hjl) hdead)
  have HEK := Lib.hid (ents_kill xs j hjl)
  have hps : (fPlace (ents xs) id).isSome = true := by simp [fPlace, hp]
  obtain ⟨gr, rfl, gr0, gr1⟩ := rowE_form h2 (by omega)
  have x3 := rowE_at h2 j 3 hjl (by decide)
  obtain ⟨x3, f3⟩ := x3
  simp only [cells4, List.getElem?_cons_zero, List.getElem?_cons_succ] at x3
  have c1 := h1.cell 1
  have c2 := h1.cell 2
  simp only [List.getElem?_cons_zero, List.getElem?_cons_succ] at c1 c2
  have hgg : g ≠ gr := fun e => by
    subst e
    rcases h2.2 with ⟨q1, _⟩ | ⟨g', cap, cur, q1, _, q2, _⟩
    · cases q1
    · injection q1 with q1
      injection q1 with q1
      injection q1 with q1
      subst q1
      rw [show w.heap[g]? = _ from h1] at q2
      injection q2 with q2
      injection q2 with _ q2 _
      exact absurd q2 (by decide)
  have hbg : bm ≠ gr := fun e => by
    rcases h2.2 with ⟨q1, _⟩ | ⟨g', cap, cur, q1, _, q2, _⟩
    · cases q1
    · injection q1 with q1
      injection q1 with q1
      injection q1 with q1
      exact h4.no_row q2 (e.trans q1)
  have hg1 := grownBy_cell w gr (j * 4 + 3) (.bool true)
  have m1 := h4.kept hg1 (by simpa using hbg)
  have r1 := (h2.stored (j * 4 + 3) (.bool true)).1
  rw [flat_kill xs j hjl true] at r1
  have b1 := h1.kept hg1 (by simpa using hgg)
  have d2 := b1.cell 2
  simp only [List.getElem?_cons_zero, List.getElem?_cons_succ] at d2
  obtain ⟨W2, hdr, m2, hg2⟩ := m1.drop id hid hps 0
  have i1 : (j : Int) < (xs.length : Int) := by omega
  have hg12 : Keep S w W2 := (Keep.of_grown (T := S) hg1 (fun k hk => by injection hk with hk; subst hk; exact s3 _ rfl)).trans (Keep.of_grown (T := S) hg2 (fun k hk => by injection hk with hk; subst hk; exact s2)) (fun n _ hn => hn)
  clear hv hhit hp hdead hsl h5
  unfold PtrL
  go_enter Try.func14, Try.ntmps14
  go_wp2_with fail
  go_ret
  have hng : g ≠ bm := fun e => (h4.no_row h1) e.symm
  have hlen : (xs.set j { xs.getD j default with e := { (xs.getD j default).e with dead := true } }).length = xs.length := List.length_set
  refine ⟨rfl, ⟨_, some ⟨gr, 0, none⟩, c, bm, HEK.out.symm, ?_, ?_, ?_, ?_, ⟨s1, s2, fun k hk => s3 k (by rw [hlen] at hk; exact hk)⟩, by rw [HEK.out]; exact HGK.out⟩, hg12⟩
  · rw [hlen]; exact b1.kept hg2 (by simpa using hng)
  · rw [hlen]; exact r1.kept hg2 (.inr (by simp [Value.ownBlock]; exact fun e => hbg e.symm))
  · rw [hlen]
    intro q hq
    have key : ∀ q0 ∈ xs, SlI W2 .u8 q0.A q0.c q0.e.code ∧ ∀ x, q0.A = some x → S x.block ∧ x.block < W2.heap.size ∧ x.block ≠ g ∧ x.block ≠ bm ∧ some x.block ≠ (Value.slice (some ⟨gr, 0, none⟩) xs.length c).ownBlock := fun q0 hq0 => by
      obtain ⟨c1, c2⟩ := h3 q0 hq0
      refine ⟨(c1.kept hg1 fun x hx => (c2 x hx).2.2.2.2).kept hg2 fun x hx => by simpa using (c2 x hx).2.2.2.1, fun x hx => ?_⟩
      obtain ⟨t1, t2, t3, t4, t5⟩ := c2 x hx
      have := hg12.size
      exact ⟨t1, by omega, t3, t4, t5⟩
    rcases List.mem_or_eq_of_mem_set hq with h | h
    · exact key q h
    · subst h
      exact key (xs.getD j default) (getD_mem' xs j hjl)
  · rw [hlen, HEK.out]
    refine m2.congr (fun x _ => ?_) HLK.out.1.symm
    rw [HPK.out]
    rfl
end Go.Proofs.Ytikjmhijkegdgaa
