/- CmdRS: the reference's Same. -/
import Derived.Test.YtjdablkdndmcgaaCmdRC
namespace Go.Proofs.Ytjdablkdndmcgaa
set_option linter.unusedVariables false
set_option linter.unusedSimpArgs false
open Go.RowKit
set_option maxHeartbeats 2000000 in
set_option maxRecDepth 20000 in
theorem RSame_calls (x y : Cm) (A : Option Addr) (a : Nat) (B : Option Addr) (b : Nat) (A' : Option Addr) (a' : Nat) (B' : Option Addr) (b' : Nat) (w : World) (hx : CmK w x A a B b) (hy : CmK w y A' a' B' b') :
    Calls Try.prog 29 #[.agg (cmC x A a B b).toArray, .agg (cmC y A' a' B' b').toArray] w fun e w' => e = .returned (.bool (decide (x = y))) ∧ Below w.heap.size w w' := by
  obtain ⟨op, id, v, k, p, d⟩ := x
  obtain ⟨op', id', v', k', p', d'⟩ := y
  obtain ⟨hv, hd⟩ := hx
  obtain ⟨hv', hd'⟩ := hy
  obtain ⟨W, hW⟩ : ∃ W, W = (w.alloc (.cells (cmC ⟨op, id, v, k, p, d⟩ A a B b).toArray 34)).alloc (.cells (cmC ⟨op', id', v', k', p', d'⟩ A' a' B' b').toArray 34) := ⟨_, rfl⟩
  have B2 : Below w.heap.size w W := by rw [hW]; exact below_alloc (below_box0 w _) _
  have q1 : Blk W w.heap.size 34 (cmC ⟨op, id, v, k, p, d⟩ A a B b) := by rw [hW]; exact (Blk.new w _ _).alloc _
  have q2 : Blk W (w.heap.size + 1) 34 (cmC ⟨op', id', v', k', p', d'⟩ A' a' B' b') := by
    rw [hW]
    have := Blk.new (w.alloc (.cells (cmC ⟨op, id, v, k, p, d⟩ A a B b).toArray 34)) 34 (cmC ⟨op', id', v', k', p', d'⟩ A' a' B' b')
    simpa using this
  have sv := Lib.hid (hv.below B2)
  have sd := Lib.hid (hd.below B2)
  have sv' := Lib.hid (hv'.below B2)
  have sd' := Lib.hid (hd'.below B2)
  obtain ⟨l0, l1, l2, l3, l4, l5⟩ := load_cm q1
  obtain ⟨m0, m1, m2, m3, m4, m5⟩ := load_cm q2
  replace B2 := Lib.hid B2
  clear hv hd hv' hd' q1 q2
  unfold cmC at hW
  dsimp only at *
  obtain ⟨r0, hr0⟩ : ∃ r, r = decide ((⟨op, id, v, k, p, d⟩ : Cm) = ⟨op', id', v', k', p', d'⟩) := ⟨_, rfl⟩
  rw [← hr0]
  have bad : Hid (¬ ((⟨op, id, v, k, p, d⟩ : Cm) = ⟨op', id', v', k', p', d'⟩) → r0 = false) := Lib.hid fun h => by rw [hr0, decide_eq_false h]
  replace hr0 := Lib.hid hr0
  unfold cmC
  dsimp only
  by_cases hop : op = op'
  case neg =>
    have e1 := bad.out (fun hh => hop (by injection hh))
    subst e1
    have e2 : (op != op') = true := by simpa using hop
    go_enter Try.func29, Try.ntmps29
    go_upto_region 1 with fail
    rw [← hW]
    clear hW
    go_wp2_with fail
    go_ret
    exact ⟨rfl, B2.out⟩
  subst hop
  by_cases hid : id = id'
  case neg =>
    have e1 := bad.out (fun hh => hid (by injection hh))
    subst e1
    have e2 : (id != id') = true := by simpa using hid
    go_enter Try.func29, Try.ntmps29
    go_upto_region 1 with fail
    rw [← hW]
    clear hW
    go_wp2_with fail
    go_ret
    exact ⟨rfl, B2.out⟩
  subst hid
  by_cases hk : k = k'
  case neg =>
    have e1 := bad.out (fun hh => hk (by injection hh))
    subst e1
    have e2 : (k != k') = true := by simpa using hk
    go_enter Try.func29, Try.ntmps29
    go_upto_region 1 with fail
    rw [← hW]
    clear hW
    go_wp2_with fail
    go_ret
    exact ⟨rfl, B2.out⟩
  subst hk
  by_cases hp : p = p'
  case neg =>
    have e1 := bad.out (fun hh => hp (by injection hh))
    subst e1
    have e2 : (p != p') = true := by simpa using hp
    go_enter Try.func29, Try.ntmps29
    go_upto_region 1 with fail
    rw [← hW]
    clear hW
    go_wp2_with fail
    go_ret
    exact ⟨rfl, B2.out⟩
  subst hp
  by_cases hlv : v.length = v'.length
  case neg =>
    have e1 := bad.out (fun hh => hlv (by injection hh with _ _ hh; rw [hh]))
    subst e1
    have e2 : ((v.length : Int) != (v'.length : Int)) = true := by simp; omega
    go_enter Try.func29, Try.ntmps29
    go_upto_region 1 with fail
    rw [← hW]
    clear hW
    go_wp2_with fail
    go_ret
    exact ⟨rfl, B2.out⟩
  by_cases hld : d.length = d'.length
  case neg =>
    have e1 := bad.out (fun hh => hld (by injection hh with _ _ _ _ _ hh; rw [hh]))
    subst e1
    have e3 : ((v.length : Int) != (v'.length : Int)) = false := by simp [hlv]
    have e2 : ((d.length : Int) != (d'.length : Int)) = true := by simp; omega
    clear hlv
    go_enter Try.func29, Try.ntmps29
    go_upto_region 1 with fail
    rw [← hW]
    clear hW
    go_wp2_with fail
    go_ret
    exact ⟨rfl, B2.out⟩
  have hmv := sv.out.len
  have hmd := sd.out.len
  have HLv := Lib.hid hlv
  have HLd := Lib.hid hld
  have hb1 : ((v.length : Int) != (v'.length : Int)) = false := by simp [hlv]
  have hb2 : ((d.length : Int) != (d'.length : Int)) = false := by simp [hld]
  clear hlv hld bad
  go_enter Try.func29, Try.ntmps29
  go_upto_region 1 with fail
  rw [← hW]
  clear hW
  go_wp2_with fail
  go_loopg [5] (v.length + 1) (fun r i w' => ∃ j : Nat, i = .int .i64 (j : Int) ∧ j ≤ v.length ∧ v.length < j + r ∧ Hid (∀ t, t < j → v.getD t 0 = v'.getD t 0) ∧ ∃ n, w' = W.drewN n)
  case atStart => exact ⟨0, rfl, by omega, by omega, fun _ h => absurd h (by omega), 0, rfl⟩
  case round =>
    obtain ⟨j, rfl, hj, hr, HE, n, rfl⟩ := hrel
    by_cases hlt : j < v.length
    · obtain ⟨ad, rfl, hx1⟩ := sv.out.get j hlt
      obtain ⟨bd, rfl, hy1⟩ := sv'.out.get j (by have := HLv.out; omega)
      have hlt2 : j < v'.length := by have := HLv.out; omega
      have i1 : (j : Int) < (v.length : Int) := by omega
      have i2 : (j : Int) < (v'.length : Int) := by omega
      by_cases he : v.getD j 0 = v'.getD j 0
      · have hb2 : (v[j] != v'[j]) = false := by simpa [List.getD_eq_getElem?_getD, hlt, hlt2] using he
        have HE2 := Lib.hid he
        clear he
        go_wp2_with fail
        go_quiet (fail)
        go_wp2_with fail
        go_roundg (gk - 1)
        case measure => omega
        case rel => exact ⟨j + 1, by simp, by omega, by omega, fun t ht => by
          rcases Nat.lt_or_ge t j with h1 | h1
          · exact HE.out t h1
          · obtain rfl : t = j := by omega
            exact HE2.out, _, rfl⟩
      · have hb2 : (v[j] != v'[j]) = true := by simpa [List.getD_eq_getElem?_getD, hlt, hlt2] using he
        have HF := Lib.hid (show v ≠ v' from fun hh => he (by rw [hh]))
        clear he
        go_wp2_with fail
        go_quiet (fail)
        go_wp2_with fail
        go_ret
        exact ⟨ret_bool (by rw [hr0.out, decide_eq_false (fun hh => HF.out (by injection hh))]), below_drewN (below_drewN B2.out _) _⟩
    · have HFv := Lib.hid (show v = v' from List.ext_getElem HLv.out fun t h1 h2 => by
        have := HE.out t (by omega)
        simpa [List.getD_eq_getElem?_getD, h1, h2] using this)
      obtain rfl : j = v.length := by omega
      clear HE hr hj
      obtain ⟨n0, hn0⟩ : ∃ n0, n0 = n := ⟨_, rfl⟩
      subst hn0
      go_wp2_with fail
      go_loopg [6] (d.length + 1) (fun r i w' => ∃ j : Nat, i = .int .i64 (j : Int) ∧ j ≤ d.length ∧ d.length < j + r ∧ Hid (∀ t, t < j → d.getD t 0 = d'.getD t 0) ∧ ∃ n, w' = W.drewN n)
      case atStart => exact ⟨0, rfl, by omega, by omega, fun _ h => absurd h (by omega), n0, rfl⟩
      case round =>
        obtain ⟨j, rfl, hj, hr, HE, n, rfl⟩ := hrel
        by_cases hlt : j < d.length
        · obtain ⟨ad, rfl, hx1⟩ := sd.out.get j hlt
          obtain ⟨bd, rfl, hy1⟩ := sd'.out.get j (by have := HLd.out; omega)
          have hlt2 : j < d'.length := by have := HLd.out; omega
          have i1 : (j : Int) < (d.length : Int) := by omega
          have i2 : (j : Int) < (d'.length : Int) := by omega
          by_cases he : d.getD j 0 = d'.getD j 0
          · have hb2 : (d[j] != d'[j]) = false := by simpa [List.getD_eq_getElem?_getD, hlt, hlt2] using he
            have HE2 := Lib.hid he
            clear he
            go_wp2_with fail
            go_quiet (fail)
            go_wp2_with fail
            go_roundg (gk - 1)
            case measure => omega
            case rel => exact ⟨j + 1, by simp, by omega, by omega, fun t ht => by
              rcases Nat.lt_or_ge t j with h1 | h1
              · exact HE.out t h1
              · obtain rfl : t = j := by omega
                exact HE2.out, _, rfl⟩
          · have hb2 : (d[j] != d'[j]) = true := by simpa [List.getD_eq_getElem?_getD, hlt, hlt2] using he
            have HF := Lib.hid (show d ≠ d' from fun hh => he (by rw [hh]))
            clear he
            go_wp2_with fail
            go_quiet (fail)
            go_wp2_with fail
            go_ret
            exact ⟨ret_bool (by rw [hr0.out, decide_eq_false (fun hh => HF.out (by injection hh))]), below_drewN (below_drewN B2.out _) _⟩
        · have HFd := Lib.hid (show d = d' from List.ext_getElem HLd.out fun t h1 h2 => by
            have := HE.out t (by omega)
            simpa [List.getD_eq_getElem?_getD, h1, h2] using this)
          go_wp2_with fail
          go_ret
          exact ⟨ret_bool (by rw [hr0.out, decide_eq_true (by rw [HFv.out, HFd.out])]), below_drewN B2.out _⟩
end Go.Proofs.Ytjdablkdndmcgaa
