import Derived.Test.YtipjmglieedimaaFrame1
import Derived.Test.YtipjmglieedimaaFrameScan
import Derived.Test.YtipjmglieedimaaRangeBox
import Derived.RangeFuncBound
import Derived.RangeFuncCalls
import Derived.Shelf.Abstract
import Derived.Shelf.RegionOpen
import Derived.OwnWalkIn
import Derived.TacticsInMore
import Derived.LoopNIn
import Derived.LoopIn
import Derived.Sort.LoopGhostIn
import Derived.Outline
namespace Go.Proofs.Ytipjmglieedimaa
set_option linter.unusedVariables false
set_option linter.unusedSimpArgs false
open Go.RowKit Go.Shelf
attribute [local go_sem] Oper.semAt_some
/-- What a round keeps: whatever lay below n₀, and the iterator's cell. -/
def KpB (n₀ B : Nat) (X Y : World) : Prop := Below n₀ X Y ∧ Y.heap[B]? = X.heap[B]?
set_option maxHeartbeats 1000000 in
theorem iter_calls (b : List Int) (hb : Bytes b) (A : Option Addr) (c : Nat) (hle : b.length ≤ c) (hmx : c ≤ maxLen) :
    ∃ (pA : Nat → Option Addr) (pc : Nat → Nat), (∀ k, k < (scanR b).length → ∀ w, SlI w .u8 A c b → SlI w .u8 (pA k) (pc k) ((scanR b).getD k [])) ∧
      ∀ (n n₀ B : Nat) (w : World), 2 ≤ n → n₀ ≤ B → Boxed w B 22 (.slice A b.length c) → (∀ W, Below n₀ w W → SlI W .u8 A c b) →
        ∀ (l : Nat) (J : Nat → World → Prop) (W : World), KpB n₀ B w W → (∀ s X Y, J s X → X.grownBy Y (some B) → J s Y) →
          (∀ k W1, J k W1 → k < (scanR b).length → YieldAt Fence.wide (n - 1) Try.prog l #[.slice (pA k) ((scanR b).getD k []).length (pc k)] W1 fun e W' => e = .returned (.bool true) ∧ J (k + 1) W' ∧ KpB n₀ B W1 W') → J 0 W →
          CallsIn Fence.wide n Try.prog 39 (#[.func (.yield l) #[] #[]] ++ #[.pointer (some ⟨B, 0, none⟩)]) W fun e W' => (∃ v, e = .returned v) ∧ J (scanR b).length W' := by
  have key : ∀ k, ∃ q : Option Addr × Nat, k ≤ (scanR b).length → (∀ w, SlI w .u8 A c b → SlI w .u8 q.1 q.2 (oneR (b.drop (used ((scanR b).take k)))).1) ∧
      ∀ w, SlI w .u8 A c b → Calls Try.prog 29 #[.slice (seqA (scanR b) A c k).1 (b.drop (used ((scanR b).take k))).length (seqA (scanR b) A c k).2] w fun e w' => OneDet (b.drop (used ((scanR b).take k))) q.1 q.2 w e w' := fun k => by
    by_cases hk : k ≤ (scanR b).length
    · have hl : (b.drop (used ((scanR b).take k))).length ≤ (seqA (scanR b) A c k).2 ∧ (seqA (scanR b) A c k).2 ≤ maxLen := by
        have := seqA_le hb (A := A) hle k hk
        exact ⟨this.1, by omega⟩
      obtain ⟨A', c', h1, h2⟩ := one_det (seqA (scanR b) A c k).1 (seqA (scanR b) A c k).2 (b.drop (used ((scanR b).take k))) hl.1 hl.2 (hb.drop _)
      exact ⟨(A', c'), fun _ => ⟨fun w hw => h1 w (seqA_sl hb hw k hk), fun w hw => h2 w (seqA_sl hb hw k hk)⟩⟩
    · exact ⟨(none, 0), fun h => absurd h hk⟩
  obtain ⟨q, hq⟩ := Classical.axiomOfChoice key
  refine ⟨fun k => (q k).1, fun k => (q k).2, fun k hk w hw => ?_, ?_⟩
  · have := (hq k (by omega)).1 w hw
    rwa [((scanR_spec hb (Nat.le_of_lt hk)).2.1 hk)] at this
  intro n n₀ B w hn hnB hbox hsl l J W hKp hJ hY h0
  refine callsIn_of_wp Try.func39 rfl trivial ?_ rfl
  simp only [Try.ntmps39, List.size_toArray, List.length_cons, List.length_nil, Nat.reduceAdd, Nat.reduceSub, Array.replicate_succ, Array.replicate_zero, List.push_toArray, List.append_toArray, List.nil_append, List.cons_append]
  gi_wp2
  gi_loopg [3] ((scanR b).length + 1) (fun gk u3 wr => ∃ k : Nat, k ≤ (scanR b).length ∧ (scanR b).length < k + gk ∧ Boxed wr B 22 (.slice (seqA (scanR b) A c k).1 (b.drop (used ((scanR b).take k))).length (seqA (scanR b) A c k).2) ∧ J k wr ∧ Below n₀ w wr)
  case atStart =>
    refine ⟨0, by omega, by omega, ?_, h0, hKp.1⟩
    have : W.heap[B]? = _ := hKp.2.trans hbox
    exact this
  case round =>
    obtain ⟨k, hk, hg, hbx, hj, hbel⟩ := hrel
    have hsp := scanR_spec hb hk
    have hO := (hq k hk).2 wr (hsl wr hbel)
    unfold OneDet at hO
    have hc := hbx.cell
    by_cases hlt : k < (scanR b).length
    · have hone := hsp.2.1 hlt
      have hY1 := fun W1 hh => hY k W1 hh hlt
      have hus := used_take_succ hlt
      have hle2 := (scanR_spec hb (k := k + 1) (by omega)).1
      rw [hone] at hO
      have hsq : seqA (scanR b) A c (k + 1) = (cutA (seqA (scanR b) A c k).1 (seqA (scanR b) A c k).2 (8 + ((scanR b).getD k []).length), (seqA (scanR b) A c k).2 - (8 + ((scanR b).getD k []).length)) := rfl
      have hsqle := seqA_le hb (A := A) hle k hk
      have hsw := (hq k hk).1 wr (hsl wr hbel)
      rw [hone] at hsw
      generalize (scanR b).getD k [] = pk at *
      generalize q k = qk at *
      generalize seqA (scanR b) A c k = sk at *
      obtain ⟨sA, sc⟩ := sk
      obtain ⟨qA, qc⟩ := qk
      dsimp only at *
      have hlen : (b.drop (used ((scanR b).take k))).length = b.length - used ((scanR b).take k) := List.length_drop ..
      have hlen2 : (b.drop (used ((scanR b).take (k + 1)))).length = (b.drop (used ((scanR b).take k))).length - (8 + pk.length) := by rw [List.length_drop, hlen, hus]; omega
      have hcutm : 8 + pk.length ≤ (b.drop (used ((scanR b).take k))).length := by rw [hlen]; omega
      obtain ⟨nk1, hnk1⟩ : ∃ x, Hid ((b.drop (used ((scanR b).take (k + 1)))).length = x) := ⟨_, Lib.hid rfl⟩
      rw [hnk1.out] at hlen2
      have LEN2 := Lib.hid hlen2
      generalize (b.drop (used ((scanR b).take k))).length = nk at *
      have HSQ := Lib.hid hsq
      clear hsq hlen hlen2 hone hsp hus hle2
      obtain ⟨i0, hi, _, hz1, _⟩ := info_parts (P := Try.prog) (e := 5) (z := .int .u8 0) (size := 1) (bytes := 1) (by kernel_rfl)
      have hcut := fun W => cut_run (P := Try.prog) 22 5 .i64 Try.underlying22 hi hz1 sA nk sc (8 + pk.length) (8 + (pk.length : Int)) (by push_cast; rfl) hcutm hsqle.1 W nk1 (sc - (8 + pk.length)) LEN2.out.symm rfl
      gi_wp2
      refine ⟨trivial, ?_⟩
      refine ⟨fun _ => by omega, ?_⟩
      refine (callsIn_wide.2 hO).mono ?_
      rintro e w1 ⟨rfl, b1⟩
      have hj1 := hJ _ _ _ hj (grown_of_below b1 (some B))
      have hbx1 : Boxed w1 B 22 _ := hbx.kept (grown_of_below b1 none) (by simp)
      obtain ⟨fn, tmps, assign, body, hy, hR⟩ := hY1 w1 hj1
      gi_wp2
      refine ⟨fun _ => by omega, ?_⟩
      refine hR.mono ?_
      rintro e W3 ⟨rfl, hj3, hk3⟩
      have hbx3 : Boxed W3 B 22 (.slice sA nk sc) := hk3.2.trans hbx1
      have hc3 := hbx3.cell
      have hf3 := hbx3.frozen
      have nle : n₀ ≤ wr.heap.size := by have := hbx.lt; omega
      have hbel3 := (hbel.trans (b1.mono nle)).trans hk3.1
      have lb : (8 : Int) + (pk.length : Int) ≤ (nk : Int) := by omega
      clear hc hbx hbx1
      gi_wp2
      gi_roundg (gk - 1)
      case measure => omega
      case rel =>
        refine ⟨k + 1, by omega, by omega, ?_, hJ _ _ _ hj3 (grownBy_setCell' W3 B _), hbel3.setCell (p := ⟨B, 0, none⟩) hnB _⟩
        have := hbx3.set (.slice (cutA sA sc (8 + pk.length)) nk1 (sc - (8 + pk.length)))
        rw [HSQ.out, hnk1.out]; exact this
    · obtain rfl : k = (scanR b).length := by omega
      have hne := hsp.2.2 rfl
      clear hsp hg hk
      generalize q (scanR b).length = qk at *
      generalize seqA (scanR b) A c (scanR b).length = sk at *
      obtain ⟨sA, sc⟩ := sk
      obtain ⟨qA, qc⟩ := qk
      generalize oneR (b.drop (used ((scanR b).take (scanR b).length))) = r at *
      obtain ⟨r1, r2, r3⟩ := r
      dsimp only at *
      generalize (b.drop (used ((scanR b).take (scanR b).length))).length = nk at *
      have hne1 : (r3 != 0) = true := by simpa using hne
      clear hne
      gi_wp2
      refine ⟨trivial, ?_⟩
      refine ⟨fun _ => by omega, ?_⟩
      refine (callsIn_wide.2 hO).mono ?_
      rintro e w1 ⟨rfl, b1⟩
      have hj1 := hJ _ _ _ hj (grown_of_below b1 (some B))
      gi_wp2
      refine ⟨fun _ h => (by cases h), ?_⟩
      gi_wp2
      refine bodyPost_ret (results_none rfl _ _ _) rfl ?_
      exact ⟨⟨_, rfl⟩, hj1⟩
end Go.Proofs.Ytipjmglieedimaa
