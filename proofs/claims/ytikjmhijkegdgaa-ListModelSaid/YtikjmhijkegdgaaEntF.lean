/- Functions on one entry: own, OwnEntry, the reference's own, dead, Entry, the program's same. -/
import Derived.Test.YtikjmhijkegdgaaMemE
import Derived.Test.YtikjmhijkegdgaaKit
import Derived.Test.YtikjmhijkegdgaaBlk
import Derived.Test.YtikjmhijkegdgaaSlLib
import Derived.Deep.DeepMust
namespace Go.Proofs.Ytikjmhijkegdgaa
set_option linter.unusedVariables false
set_option linter.unusedSimpArgs false
open Go.RowKit
theorem own_far {w : World} {base E size n g i : Nat} {v x : Value} {xs : List Value} (h : w.ownsRow base E size v n xs) (hg : g < base) : (w.setCell ⟨g, i, none⟩ x).ownsRow base E size v n xs := h.kept (grownBy_cell w g i x) (by
  cases hv : v.ownBlock with
  | none => exact .inl rfl
  | some q => right; have := own_base h q hv; simp; omega)
theorem dead_calls (e : En) (A : Option Addr) (c : Nat) (w : World) :
    Calls Try.prog 36 #[aggE e A c] w fun x w' => x = .returned (.bool e.dead) ∧ Below w.heap.size w w' := by
  unfold aggE
  go_enter Try.func36, Try.ntmps36
  go_wp2_with fail
  go_ret
  exact ⟨rfl, below_alloc (Below.refl _ _) _⟩
theorem entry_two (W : World) (e : En) (A : Option Addr) (c : Nat) : Blk ((W.alloc (.cells #[.int .i64 e.id, .slice A e.code.length c, .int .i64 e.rad, .bool e.dead] 33)).alloc (.cells #[.int .i64 0, .slice none 0 0, .int .i64 0, .bool false] 33)) W.heap.size 33 [.int .i64 e.id, .slice A e.code.length c, .int .i64 e.rad, .bool e.dead] ∧ Blk ((W.alloc (.cells #[.int .i64 e.id, .slice A e.code.length c, .int .i64 e.rad, .bool e.dead] 33)).alloc (.cells #[.int .i64 0, .slice none 0 0, .int .i64 0, .bool false] 33)) (W.heap.size + 1) 33 [.int .i64 0, .slice none 0 0, .int .i64 0, .bool false] := by
  refine ⟨(Blk.new W 33 [.int .i64 e.id, .slice A e.code.length c, .int .i64 e.rad, .bool e.dead]).alloc _, ?_⟩
  have k1 := Blk.new (W.alloc (.cells #[.int .i64 e.id, .slice A e.code.length c, .int .i64 e.rad, .bool e.dead] 33)) 33 [.int .i64 0, .slice none 0 0, .int .i64 0, .bool false]
  rwa [World.size_alloc] at k1
theorem own_calls (e : En) (A : Option Addr) (c : Nat) (w : World) (h : SlI w .u8 A c e.code) (hl : e.code.length * 1 ≤ 140737488355328) :
    Calls Try.prog 34 #[aggE e A c] w fun x w' => ∃ A' c', x = .returned (aggE e A' c') ∧ OwnI w' w.heap.size 5 .u8 A' c' e.code ∧ Below w.heap.size w w' := by
  unfold aggE
  have k := entry_two w e A c
  have k0 := k.1
  have k1 := k.2
  clear k
  have b0 := below_alloc (below_alloc (Below.refl w.heap.size w) (.cells #[.int .i64 e.id, .slice A e.code.length c, .int .i64 e.rad, .bool e.dead] 33)) (.cells #[.int .i64 0, .slice none 0 0, .int .i64 0, .bool false] 33)
  go_enter Try.func34, Try.ntmps34
  go_wp2_with fail
  refine (Clone_byte_calls A c e.code _ (h.below b0) hl).mono ?_
  rintro x w1 ⟨A1, c1, rfl, o1, b1⟩
  have b2 := below_trans b0 b1
  replace k0 := k0.below b1
  replace k1 := k1.below b1
  have o2 : OwnI w1 (w.heap.size + 1 + 1) 5 .u8 A1 c1 e.code := by simpa using o1
  have c0 := k0.cell 0
  have c1' := k0.cell 1
  have c2 := k0.cell 2
  have c3 := k0.cell 3
  have f1 := k0.frozen 1
  have d0 := k1.cell 0
  have d1 := k1.cell 1
  have d2 := k1.cell 2
  have d3 := k1.cell 3
  have g0 := k1.frozen 0
  have g1 := k1.frozen 1
  have g2 := k1.frozen 2
  have g3 := k1.frozen 3
  simp only [List.getElem?_cons_zero, List.getElem?_cons_succ] at c0 c1' c2 c3 d0 d1 d2 d3
  go_wp2_with fail
  (try simp only [Exit.inBlock, Exit.then])
  have kk := ((((k1.other (g' := w.heap.size) (i := 1) (by omega) (.slice A1 e.code.length c1)).set 0 (.int .i64 e.id)).set 1 (.slice A1 e.code.length c1)).set 2 (.int .i64 e.rad)).set 3 (.bool e.dead)
  refine ret_blk (cs := [.int .i64 e.id, .slice A1 e.code.length c1, .int .i64 e.rad, .bool e.dead]) rfl rfl kk Try.underlying33 rfl (by kernel_rfl) ?_
  refine ⟨A1, c1, rfl, ?_, ((((b2.setCell (p := ⟨w.heap.size, 1, none⟩) (Nat.le_refl _) _).setCell (p := ⟨w.heap.size + 1, 0, none⟩) (by simp) _).setCell (p := ⟨w.heap.size + 1, 1, none⟩) (by simp) _).setCell (p := ⟨w.heap.size + 1, 2, none⟩) (by simp) _).setCell (p := ⟨w.heap.size + 1, 3, none⟩) (by simp) _⟩
  exact own_mono (own_far (own_far (own_far (own_far (own_far o2 (by omega)) (by omega)) (by omega)) (by omega)) (by omega)) (by omega)
theorem OwnEntry_calls (e : En) (A : Option Addr) (c : Nat) (w : World) (h : SlI w .u8 A c e.code) (hl : e.code.length * 1 ≤ 140737488355328) :
    Calls Try.prog 12 #[aggE e A c] w fun x w' => ∃ A' c', x = .returned (aggE e A' c') ∧ OwnI w' w.heap.size 5 .u8 A' c' e.code ∧ Below w.heap.size w w' := by
  unfold aggE
  have k := entry_two w e A c
  have k0 := k.1
  have k1 := k.2
  clear k
  have b0 := below_alloc (below_alloc (Below.refl w.heap.size w) (.cells #[.int .i64 e.id, .slice A e.code.length c, .int .i64 e.rad, .bool e.dead] 33)) (.cells #[.int .i64 0, .slice none 0 0, .int .i64 0, .bool false] 33)
  go_enter Try.func12, Try.ntmps12
  go_wp2_with fail
  refine (Own_byte_calls A c e.code _ (h.below b0) hl).mono ?_
  rintro x w1 ⟨A1, c1, rfl, o1, b1⟩
  have b2 := below_trans b0 b1
  replace k0 := k0.below b1
  replace k1 := k1.below b1
  have o2 : OwnI w1 (w.heap.size + 1 + 1) 5 .u8 A1 c1 e.code := by simpa using o1
  have c0 := k0.cell 0
  have c1' := k0.cell 1
  have c2 := k0.cell 2
  have c3 := k0.cell 3
  have f1 := k0.frozen 1
  have d0 := k1.cell 0
  have d1 := k1.cell 1
  have d2 := k1.cell 2
  have d3 := k1.cell 3
  have g0 := k1.frozen 0
  have g1 := k1.frozen 1
  have g2 := k1.frozen 2
  have g3 := k1.frozen 3
  simp only [List.getElem?_cons_zero, List.getElem?_cons_succ] at c0 c1' c2 c3 d0 d1 d2 d3
  go_wp2_with fail
  (try simp only [Exit.inBlock, Exit.then])
  have kk := ((((k1.other (g' := w.heap.size) (i := 1) (by omega) (.slice A1 e.code.length c1)).set 0 (.int .i64 e.id)).set 1 (.slice A1 e.code.length c1)).set 2 (.int .i64 e.rad)).set 3 (.bool e.dead)
  refine ret_blk (cs := [.int .i64 e.id, .slice A1 e.code.length c1, .int .i64 e.rad, .bool e.dead]) rfl rfl kk Try.underlying33 rfl (by kernel_rfl) ?_
  refine ⟨A1, c1, rfl, ?_, ((((b2.setCell (p := ⟨w.heap.size, 1, none⟩) (Nat.le_refl _) _).setCell (p := ⟨w.heap.size + 1, 0, none⟩) (by simp) _).setCell (p := ⟨w.heap.size + 1, 1, none⟩) (by simp) _).setCell (p := ⟨w.heap.size + 1, 2, none⟩) (by simp) _).setCell (p := ⟨w.heap.size + 1, 3, none⟩) (by simp) _⟩
  exact own_mono (own_far (own_far (own_far (own_far (own_far o2 (by omega)) (by omega)) (by omega)) (by omega)) (by omega)) (by omega)
theorem below_box0 (w : World) (o : Obj) : Below w.heap.size w (w.alloc o) := below_alloc (Below.refl _ _) _
theorem own_empty' (W : World) (base : Nat) (e : TypeId) (hb : base ≤ W.heap.size) : (W.alloc (.cells #[] e)).ownsRow base e 1 (.slice (some ⟨W.heap.size, 0, none⟩) 0 0) 0 [] := own_empty W base e hb
theorem ROwn_calls (e : En) (A : Option Addr) (c : Nat) (w : World) (h : SlI w .u8 A c e.code) (hl : e.code.length * 1 ≤ 140737488355328) :
    Calls Try.prog 49 #[aggE e A c] w fun x w' => ∃ A' c', x = .returned (aggE e A' c') ∧ OwnI w' w.heap.size 5 .u8 A' c' e.code ∧ Below w.heap.size w w' := by
  unfold aggE
  have k := entry_two w e A c
  have k0 := k.1
  have k1 := k.2
  clear k
  have b0 := below_alloc (below_alloc (Below.refl w.heap.size w) (.cells #[.int .i64 e.id, .slice A e.code.length c, .int .i64 e.rad, .bool e.dead] 33)) (.cells #[.int .i64 0, .slice none 0 0, .int .i64 0, .bool false] 33)
  go_enter Try.func49, Try.ntmps49
  have a0 := k0.cell 0
  have a1 := k0.cell 1
  have a2 := k0.cell 2
  have a3 := k0.cell 3
  simp only [List.getElem?_cons_zero, List.getElem?_cons_succ] at a0 a1 a2 a3
  have oe := own_empty' ((w.alloc (.cells #[.int .i64 e.id, .slice A e.code.length c, .int .i64 e.rad, .bool e.dead] 33)).alloc (.cells #[.int .i64 0, .slice none 0 0, .int .i64 0, .bool false] 33)) (w.heap.size + 1 + 1) 5 (by simp)
  simp only [World.size_alloc] at oe
  have bb := below_box0 ((w.alloc (.cells #[.int .i64 e.id, .slice A e.code.length c, .int .i64 e.rad, .bool e.dead] 33)).alloc (.cells #[.int .i64 0, .slice none 0 0, .int .i64 0, .bool false] 33)) (.cells #[] 5)
  go_wp2_with (at_builtin; go_must (refine app_row (w.heap.size + 1 + 1) rfl _ _ 31 5 .u8 1 rfl Try.underlying31 (by kernel_rfl) (by decide) _ _ [] e.code A c rfl rfl oe ((h.below b0).below bb).rd (by simp) (by simpa using hl) ?_))
  intro A1 c1 w1 o1 hg _ _
  have b1 : Below ((w.alloc (.cells #[.int .i64 e.id, .slice A e.code.length c, .int .i64 e.rad, .bool e.dead] 33)).alloc (.cells #[.int .i64 0, .slice none 0 0, .int .i64 0, .bool false] 33)).heap.size ((w.alloc (.cells #[.int .i64 e.id, .slice A e.code.length c, .int .i64 e.rad, .bool e.dead] 33)).alloc (.cells #[.int .i64 0, .slice none 0 0, .int .i64 0, .bool false] 33)) w1 := below_grown bb hg oe (by simp)
  clear a0 a1 a2 a3
  have b2 := below_trans b0 b1
  replace k0 := k0.below b1
  replace k1 := k1.below b1
  have o2 : OwnI w1 (w.heap.size + 1 + 1) 5 .u8 A1 c1 e.code := by simpa using o1
  have c0 := k0.cell 0
  have c1' := k0.cell 1
  have c2 := k0.cell 2
  have c3 := k0.cell 3
  have f1 := k0.frozen 1
  have d0 := k1.cell 0
  have d1 := k1.cell 1
  have d2 := k1.cell 2
  have d3 := k1.cell 3
  have g0 := k1.frozen 0
  have g1 := k1.frozen 1
  have g2 := k1.frozen 2
  have g3 := k1.frozen 3
  simp only [List.getElem?_cons_zero, List.getElem?_cons_succ] at c0 c1' c2 c3 d0 d1 d2 d3
  go_wp2_with fail
  (try simp only [Exit.inBlock, Exit.then])
  have kk := ((((k1.other (g' := w.heap.size) (i := 1) (by omega) (.slice A1 e.code.length c1)).set 0 (.int .i64 e.id)).set 1 (.slice A1 e.code.length c1)).set 2 (.int .i64 e.rad)).set 3 (.bool e.dead)
  refine ret_blk (cs := [.int .i64 e.id, .slice A1 e.code.length c1, .int .i64 e.rad, .bool e.dead]) rfl rfl kk Try.underlying33 rfl (by kernel_rfl) ?_
  refine ⟨A1, c1, rfl, ?_, ((((b2.setCell (p := ⟨w.heap.size, 1, none⟩) (Nat.le_refl _) _).setCell (p := ⟨w.heap.size + 1, 0, none⟩) (by simp) _).setCell (p := ⟨w.heap.size + 1, 1, none⟩) (by simp) _).setCell (p := ⟨w.heap.size + 1, 2, none⟩) (by simp) _).setCell (p := ⟨w.heap.size + 1, 3, none⟩) (by simp) _⟩
  exact own_mono (own_far (own_far (own_far (own_far (own_far o2 (by omega)) (by omega)) (by omega)) (by omega)) (by omega)) (by omega)
theorem Entry_calls (e e' : En) (A A' : Option Addr) (c c' : Nat) (w : World) (h : SlI w .u8 A c e.code) (h' : SlI w .u8 A' c' e'.code) :
    Calls Try.prog 38 #[aggE e A c, aggE e' A' c'] w fun x w' => x = .returned (.bool (decide (e = e'))) ∧ Below w.heap.size w w' := by
  unfold aggE
  have b0 := below_alloc (below_alloc (Below.refl w.heap.size w) (.cells #[.int .i64 e.id, .slice A e.code.length c, .int .i64 e.rad, .bool e.dead] 33)) (.cells #[.int .i64 e'.id, .slice A' e'.code.length c', .int .i64 e'.rad, .bool e'.dead] 33)
  have k0 := (Blk.new w 33 [.int .i64 e.id, .slice A e.code.length c, .int .i64 e.rad, .bool e.dead]).alloc (.cells #[.int .i64 e'.id, .slice A' e'.code.length c', .int .i64 e'.rad, .bool e'.dead] 33)
  have k1 := Blk.new (w.alloc (.cells #[.int .i64 e.id, .slice A e.code.length c, .int .i64 e.rad, .bool e.dead] 33)) 33 [.int .i64 e'.id, .slice A' e'.code.length c', .int .i64 e'.rad, .bool e'.dead]
  rw [World.size_alloc] at k1
  obtain ⟨i, cd, r, d⟩ := e
  obtain ⟨i', cd', r', d'⟩ := e'
  dsimp only at *
  by_cases hi : i = i'
  · by_cases hr : r = r'
    · by_cases hd : d = d'
      · subst hi hr hd
        have q1 : (i == i) = true := by simp
        have q2 : (r == r) = true := by simp
        have q3 : (d == d) = true := by simp
        have HQ := Lib.hid (show decide (cd = cd') = decide ((⟨i, cd, r, d⟩ : En) = ⟨i, cd', r, d⟩) by simp)
        go_enter Try.func38, Try.ntmps38
        go_wp2_with fail
        refine (Same_byte_b A A' c c' cd cd' _ (h.below b0) (h'.below b0)).mono ?_
        rintro x w1 ⟨rfl, b1⟩
        go_wp2_with fail
        go_ret
        exact ⟨ret_bool HQ.out, below_trans b0 b1⟩
      · subst hi hr
        have q1 : (i == i) = true := by simp
        have q2 : (r == r) = true := by simp
        have q3 : (d == d') = false := by simp [hd]
        have HQ := Lib.hid (show false = decide ((⟨i, cd, r, d⟩ : En) = ⟨i, cd', r, d'⟩) by simp [hd])
        go_enter Try.func38, Try.ntmps38
        go_wp2_with fail
        go_ret
        exact ⟨ret_bool HQ.out, b0⟩
    · subst hi
      have q1 : (i == i) = true := by simp
      have q2 : (r == r') = false := by simp [hr]
      have HQ := Lib.hid (show false = decide ((⟨i, cd, r, d⟩ : En) = ⟨i, cd', r', d'⟩) by simp [hr])
      go_enter Try.func38, Try.ntmps38
      go_wp2_with fail
      go_ret
      exact ⟨ret_bool HQ.out, b0⟩
  · have q1 : (i == i') = false := by simp [hi]
    have HQ := Lib.hid (show false = decide ((⟨i, cd, r, d⟩ : En) = ⟨i', cd', r', d'⟩) by simp [hi])
    go_enter Try.func38, Try.ntmps38
    go_wp2_with fail
    go_ret
    exact ⟨ret_bool HQ.out, b0⟩
theorem Same1_calls (e e' : En) (A A' : Option Addr) (c c' : Nat) (w : World) (h : SlI w .u8 A c e.code) (h' : SlI w .u8 A' c' e'.code) :
    Calls Try.prog 41 #[aggE e A c, aggE e' A' c'] w fun x w' => x = .returned (.bool (decide (e = e'))) ∧ Below w.heap.size w w' := by
  unfold aggE
  have b0 := below_alloc (below_alloc (Below.refl w.heap.size w) (.cells #[.int .i64 e.id, .slice A e.code.length c, .int .i64 e.rad, .bool e.dead] 33)) (.cells #[.int .i64 e'.id, .slice A' e'.code.length c', .int .i64 e'.rad, .bool e'.dead] 33)
  have k0 := (Blk.new w 33 [.int .i64 e.id, .slice A e.code.length c, .int .i64 e.rad, .bool e.dead]).alloc (.cells #[.int .i64 e'.id, .slice A' e'.code.length c', .int .i64 e'.rad, .bool e'.dead] 33)
  have k1 := Blk.new (w.alloc (.cells #[.int .i64 e.id, .slice A e.code.length c, .int .i64 e.rad, .bool e.dead] 33)) 33 [.int .i64 e'.id, .slice A' e'.code.length c', .int .i64 e'.rad, .bool e'.dead]
  rw [World.size_alloc] at k1
  obtain ⟨i, cd, r, d⟩ := e
  obtain ⟨i', cd', r', d'⟩ := e'
  dsimp only at *
  by_cases hi : i = i'
  · by_cases hr : r = r'
    · by_cases hd : d = d'
      · subst hi hr hd
        have q1 : (i == i) = true := by simp
        have q2 : (r == r) = true := by simp
        have q3 : (d == d) = true := by simp
        have HQ := Lib.hid (show decide (cd = cd') = decide ((⟨i, cd, r, d⟩ : En) = ⟨i, cd', r, d⟩) by simp)
        go_enter Try.func41, Try.ntmps41
        go_wp2_with fail
        refine (Equal_byte_calls A A' c c' cd cd' _ (h.below b0) (h'.below b0)).mono ?_
        rintro x w1 ⟨rfl, b1⟩
        go_wp2_with fail
        go_ret
        exact ⟨ret_bool HQ.out, below_trans b0 b1⟩
      · subst hi hr
        have q1 : (i == i) = true := by simp
        have q2 : (r == r) = true := by simp
        have q3 : (d == d') = false := by simp [hd]
        have HQ := Lib.hid (show false = decide ((⟨i, cd, r, d⟩ : En) = ⟨i, cd', r, d'⟩) by simp [hd])
        go_enter Try.func41, Try.ntmps41
        go_wp2_with fail
        go_ret
        exact ⟨ret_bool HQ.out, b0⟩
    · subst hi
      have q1 : (i == i) = true := by simp
      have q2 : (r == r') = false := by simp [hr]
      have HQ := Lib.hid (show false = decide ((⟨i, cd, r, d⟩ : En) = ⟨i, cd', r', d'⟩) by simp [hr])
      go_enter Try.func41, Try.ntmps41
      go_wp2_with fail
      go_ret
      exact ⟨ret_bool HQ.out, b0⟩
  · have q1 : (i == i') = false := by simp [hi]
    have HQ := Lib.hid (show false = decide ((⟨i, cd, r, d⟩ : En) = ⟨i', cd', r', d'⟩) by simp [hi])
    go_enter Try.func41, Try.ntmps41
    go_wp2_with fail
    go_ret
    exact ⟨ret_bool HQ.out, b0⟩
end Go.Proofs.Ytikjmhijkegdgaa
