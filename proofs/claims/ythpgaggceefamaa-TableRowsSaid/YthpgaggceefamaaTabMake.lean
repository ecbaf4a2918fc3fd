/- table.Make. -/
import Derived.Test.YthpgaggceefamaaRow0
import Derived.Test.YthpgaggceefamaaOwnBook
import Derived.Test.YthpgaggceefamaaMemCut
import Derived.Laws.ResultCell
namespace Go.Proofs.Ythpgaggceefamaa
set_option linter.unusedVariables false
set_option linter.unusedSimpArgs false
open Go.RowKit
/-- A cell and a slot as results. -/
theorem ret_box2 {P : Program} {fn : Func} {p u : Tmp} {ty : TypeId} {a : Act} {w : World} {Q : Ending → World → Prop} (h : fn.results = #[.cell p ty, .tmp u]) {g : Nat} {v x : Value} (hp : a.tmps.getD p undef = .pointer (some ⟨g, 0, none⟩)) (hx : a.tmps.getD u undef = x) (hb : Boxed w g ty v)
    {d : TypeDesc} (hu : P.underlying ty = some d) (hd : (match d with | .struct _ | .array _ _ => true | _ => false) = true) (hi : (P.info? ty).map (·.size) = some 1) (hq : Q (.returned (.tuple #[.agg #[v], x])) w) (hdf : a.defers = [] := by rfl) : bodyPost P fn Q .ret a w :=
  bodyPost_ret (v := .tuple #[.agg #[v], x]) (by rw [results_cell_tmp h, hp, hx]; simp [asAddr, run_loadVar_row w g ty ty #[v] (0, 0) d hb hu hd hi, Result.andThen]) hdf hq
def partR (r : List Int) (m p : Nat) : List Int := (r.drop (p * m)).take m
def tabI (b : List (List (List Int))) (r : List Int) : List (List Int) := (List.range b.length).map fun p => rowI (partR r (wdB b) p) (b.getD p [])
def makeT (b : List (List (List Int))) (r : List Int) : List (List Int) × Int := if ckB b ≠ 0 then ([], ckB b) else if ckW r ≠ 0 then ([], ckW r) else if (r.length : Int) ≠ dimB b then ([], 2) else (tabI b r, 0)
theorem tabI_take {b : List (List (List Int))} {r : List Int} {j : Nat} (h : j < b.length) : (tabI b r).take (j + 1) = (tabI b r).take j ++ [rowI (partR r (wdB b) j) (b.getD j [])] := by
  have hl : j < (tabI b r).length := by simp [tabI]; exact h
  rw [List.take_add_one, List.getElem?_eq_getElem hl]
  simp [tabI]
theorem tabI_length (b : List (List (List Int))) (r : List Int) : (tabI b r).length = b.length := by simp [tabI]
theorem partR_length {r : List Int} {m p n : Nat} (hr : r.length = n * m) (hp : p < n) : (partR r m p).length = m := by
  have : p * m + m ≤ n * m := by have := Nat.mul_le_mul_right m (show p + 1 ≤ n by omega); rw [Nat.add_mul, Nat.one_mul] at this; exact this
  simp [partR]; omega
theorem partR_mem {r : List Int} {m p : Nat} {v : Int} (h : v ∈ partR r m p) : v ∈ r := List.mem_of_mem_drop (List.mem_of_mem_take h)
set_option maxHeartbeats 1000000 in
theorem TMake_own (A B : Option Addr) (c d : Nat) (b : List (List (List Int))) (r : List Int) (w : World) (h : SlB w .i32 A c b) (k : SlI w .i32 B d r) :
    Calls Try.prog 13 #[.agg #[.slice A b.length c], .slice B r.length d] w fun e w' => ∃ A' c', e = .returned (.tuple #[.agg #[.slice A' (makeT b r).1.length c'], .int .i64 (makeT b r).2]) ∧ SlK w' .i64 (fun b => w.heap.size ≤ b) A' c' (makeT b r).1 ∧ Below w.heap.size w w' := by
  have hm := h.len
  have km := k.len
  have hmix : Try.prog.follows .mixedOrders = true := by kernel_rfl
  have b0 := below_alloc (Below.refl w.heap.size w) (.cells #[.slice A b.length c] 24)
  have b1 := below_alloc b0 (.cells #[.slice none 0 0] 35)
  have y0 : Boxed ((w.alloc (.cells #[.slice A b.length c] 24)).alloc (.cells #[.slice none 0 0] 35)) w.heap.size 24 (.slice A b.length c) := (Boxed.new w _ _).alloc _
  have y1 : Boxed ((w.alloc (.cells #[.slice A b.length c] 24)).alloc (.cells #[.slice none 0 0] 35)) (w.heap.size + 1) 35 (.slice none 0 0) := by
    have := Boxed.new (w.alloc (.cells #[.slice A b.length c] 24)) 35 (.slice none 0 0)
    rwa [World.size_alloc] at this
  have CB := BCheck_calls A c b _ (h.below b1)
  have hsz : ((w.alloc (.cells #[.slice A b.length c] 24)).alloc (.cells #[.slice none 0 0] 35)).heap.size = w.heap.size + 1 + 1 := by simp
  by_cases h1 : ckB b = 0
  · rw [h1] at CB
    by_cases h2 : ckW r = 0
    · have CW := fun w h => CheckWide_calls B d r w h
      have CD := fun w h => Dim_calls A c b w h
      rw [h2] at CW
      by_cases h3 : (r.length : Int) = dimB b
      · have H := Lib.hid (show makeT b r = (tabI b r, 0) by unfold makeT; rw [if_neg (by rw [h1]; decide), if_neg (by rw [h2]; decide), if_neg (by rw [h3]; simp)])
        obtain ⟨l1, l2, l3, l4, l5, l6, l7, l8⟩ := ckB_ok h1
        have l9 := ckW_ok h2
        have hd : dimB b = ((b.length * wdB b : Nat) : Int) := by unfold dimB; rw [if_neg (by rw [h1]; decide)]
        have hrl : r.length = b.length * wdB b := by rw [hd] at h3; exact Int.ofNat.inj h3
        have i3 : ((r.length : Int) != dimB b) = false := by simp [h3]
        have hq : (r.length : Int).tdiv (b.length : Int) = (wdB b : Int) := by
          rw [hrl, Int.natCast_mul, Int.mul_tdiv_cancel_left _ (by omega)]
        have HRL := Lib.hid hrl
        have L8 := Lib.hid l8
        have L9 := Lib.hid l9
        have HDB := Lib.hid hd
        clear h1 h2 h3 hrl l8 l9 hd
        generalize hDD : dimB b = D at *
        clear hDD
        go_enter Try.func13, Try.ntmps13
        go_wp2_with fail
        refine CB.mono ?_
        rintro e w1 ⟨rfl, b2⟩
        have bw1 := below_trans b1 b2
        have z0 := y0.kept (grown_of_below b2 none) (by simp)
        have z1 := y1.kept (grown_of_below b2 none) (by simp)
        have c0 := z0.cell
        clear b0 b1 b2 y0 y1 CB hsz
        go_wp2_with fail
        refine (CW _ (k.below bw1)).mono ?_
        rintro e w1' ⟨rfl, rfl⟩
        go_wp2_with fail
        refine (CD _ (h.below bw1)).mono ?_
        rintro e w2 ⟨rfl, b2⟩
        have bw2 := below_trans bw1 b2
        have z0 := z0.kept (grown_of_below b2 none) (by simp)
        have z1 := z1.kept (grown_of_below b2 none) (by simp)
        have c0 := z0.cell
        clear b2 bw1
        have bw3 := below_alloc bw2 (.cells #[.slice none 0 0] 35)
        have q0 := z0.alloc (.cells #[.slice none 0 0] 35)
        have q1 := z1.alloc (.cells #[.slice none 0 0] 35)
        have q2 := Boxed.new w2 35 (.slice none 0 0)
        have c0' := q0.cell
        have lz := (Array.getElem?_eq_some_iff.1 z1).1
        have iq : (b.length : Int) ≠ 0 := by omega
        have hs3 : (w2.alloc (.cells #[.slice none 0 0] 35)).heap.size = w2.heap.size + 1 := by simp
        have gsz := bw2.size
        go_wp2_with fail
        generalize hgg : w2.heap.size = g at *
        generalize w2.alloc (.cells #[.slice none 0 0] 35) = w3 at *
        have HTL := Lib.hid (tabI_length b r)
        clear z0 z1 c0 c0' q0 bw2 hq i3 CW CD iq
        go_loopg [10, 11, 39] (b.length + 1) (fun gk u10 u11 i w' => ∃ (j : Nat) (A1 : Option Addr) (c1 : Nat), i = .int .i64 (j : Int) ∧ j ≤ b.length ∧ b.length < j + gk ∧ Boxed w' g 35 (.slice A1 j c1) ∧
            Boxed w' (w.heap.size + 1) 35 (.slice none 0 0) ∧ OwnS w' (g + 1) 55 .i64 A1 c1 ((tabI b r).take j) ∧ Below w.heap.size w w')
        case atStart => exact ⟨0, none, 0, rfl, by omega, by omega, q2, q1, by rw [List.take_zero]; exact OwnS.nil _ _ _ _, bw3⟩
        case round =>
          clear q1 q2 bw3 hs3
          obtain ⟨j, A1, c1, rfl, hj, hg, y2, y1, yo, bw⟩ := hrel
          by_cases hlt : j < b.length
          · have i1 : (j : Int) < (b.length : Int) := by omega
            obtain ⟨ad, E, e, rfl, hx0, hxs0⟩ := h.get j hlt
            have hx := cell_below bw _ _ hx0
            have hxs := hxs0.below bw
            have hw1 := (L8.out j hlt).1
            have hw2 := (L8.out j hlt).2
            have HT := Lib.hid (tabI_take (r := r) hlt)
            have hpl := partR_length (p := j) HRL.out hlt
            have hpm := fun v (hv : v ∈ partR r (wdB b) j) => L9.out.2.2 v (partR_mem hv)
            have hmul : j * wdB b + wdB b ≤ r.length := by rw [HRL.out]; have := Nat.mul_le_mul_right (wdB b) (show j + 1 ≤ b.length by omega); rw [Nat.add_mul, Nat.one_mul] at this; exact this
            have hcm : ((j * wdB b : Nat) : Int) = (j : Int) * (wdB b : Int) := Int.natCast_mul _ _
            have hcm2 : ((j : Int) + 1) * (wdB b : Int) = (j : Int) * (wdB b : Int) + (wdB b : Int) := by rw [Int.add_mul, Int.one_mul]
            obtain ⟨i0, hi0, hz0⟩ : ∃ i : TypeInfo, Try.prog.info? 21 = some i ∧ i.size = 1 := ⟨_, rfl, by kernel_rfl⟩
            have hr1 := L9.out.2.1
            obtain ⟨A5, hcut, hA1, hA2, _⟩ := cut_lhm_i (P := Try.prog) 25 21 .i64 .i64 .i64 Try.underlying25 hi0 hz0 B r.length d (j * wdB b) (j * wdB b + wdB b) (j * wdB b + wdB b) ((j : Int) * (wdB b : Int)) (((j : Int) + 1) * (wdB b : Int)) (((j : Int) + 1) * (wdB b : Int)) (by omega) (by omega) (by omega) (by omega) (by omega) (by omega) (by have := k.le; omega) k.le (wdB b) (wdB b) (by omega) (by omega)
            have hps : SlI wr .i32 A5 (wdB b) (partR r (wdB b) j) := hA1 wr .i32 r rfl (k.below bw)
            have wr1 : IntKind.i64.wrap ((j : Int) * (wdB b : Int)) = (j : Int) * (wdB b : Int) := IntWalk.i64_in _ (by omega)
            have wr2 : IntKind.i64.wrap ((j : Int) + 1) = (j : Int) + 1 := IntWalk.i64_in _ (by omega)
            have wr3 : IntKind.i64.wrap (((j : Int) + 1) * (wdB b : Int)) = ((j : Int) + 1) * (wdB b : Int) := IntWalk.i64_in _ (by omega)
            have RC := fun W h k => row_calls A5 E (wdB b) e (partR r (wdB b) j) (b.getD j []) W h k (by omega) hpm (by omega) (fun i hi => ⟨by have := (hw2 i hi).1; omega, fun v hv => (ckW_ok (hw2 i hi).2).2.2 v hv⟩)
            rw [hpl] at RC
            clear hpm hcm hcm2 hmul hxs0 hA1 hA2 hi0 hz0
            have hpl2 : (rowI (partR r (wdB b) j) (b.getD j [])).length ≤ 256 := by unfold rowI; rw [List.length_map]; omega
            clear hw1 hw2
            obtain ⟨vs, ov, rv⟩ := yo
            have hvl : vs.length = j := by rw [rv.1, List.length_take, HTL.out]; omega
            generalize partR r (wdB b) j = pr at *
            generalize b.getD j [] = p at *
            generalize (tabI b r).take j = tk at *
            generalize rowI pr p = ro at *
            generalize wdB b = m at *
            subst hvl
            generalize hjj : vs.length = j at *
            have bsz := bw.size
            have lsz := (Array.getElem?_eq_some_iff.1 y2).1
            go_wp2_with fail
            refine region_L (oneQ 20 (fun X => Boxed X g 35 (.slice A1 j c1)) (fun _ => True)) hmix ?_
            have hS : oneQ 20 (fun X => Boxed X g 35 (.slice A1 j c1)) (fun _ => True) (Array.replicate 21 false) wr.drew := ⟨fun _ => y2, trivial⟩
            refine anyL_take (fun _ => True) [] (i := 0) (v := ?_) rfl (by kernel_rfl) (by kernel_rfl) (by kernel_rfl) (fun _ _ _ h => h) (by kernel_rfl) (one_ind (i := 0) (by decide)) (fun _ _ _ _ => trivial) (Or.inl ⟨by rfl, ?_⟩) hS ?_
            rotate_left
            · intro X hX
              clear hX
              go_simp
              try with_reducible rfl
            try simp only [List.getElem_toArray, List.getElem_cons_zero, List.getElem_cons_succ]
            simp only [Act.put, List.setIfInBounds_toArray, List.set_cons_zero, List.set_cons_succ]
            replace hS := (one_ind (i := 0) (by decide) _ _).2 hS
            refine anyL_take (fun X => Boxed X g 35 (.slice A1 j c1)) [20] (i := 1) (v := ?_) rfl (by kernel_rfl) (by kernel_rfl) (by kernel_rfl) (fun _ _ _ h => h) (by kernel_rfl) (one_ind (i := 1) (by decide)) (fun L X h1 h2 => h2.1 (h1 20 (by simp))) (Or.inl ⟨by rfl, ?_⟩) hS ?_
            rotate_left
            · intro X hX
              have g0 := Boxed.cell hX
              go_simp
              try with_reducible rfl
            try simp only [List.getElem_toArray, List.getElem_cons_zero, List.getElem_cons_succ]
            simp only [Act.put, List.setIfInBounds_toArray, List.set_cons_zero, List.set_cons_succ]
            replace hS := (one_ind (i := 1) (by decide) _ _).2 hS
            refine anyL_take (fun _ => True) [] (i := 2) (v := ?_) rfl (by kernel_rfl) (by kernel_rfl) (by kernel_rfl) (fun _ _ _ h => h) (by kernel_rfl) (one_ind (i := 2) (by decide)) (fun _ _ _ _ => trivial) (Or.inl ⟨by rfl, ?_⟩) hS ?_
            rotate_left
            · intro X hX
              clear hX
              go_simp
              try with_reducible rfl
            try simp only [List.getElem_toArray, List.getElem_cons_zero, List.getElem_cons_succ]
            simp only [Act.put, List.setIfInBounds_toArray, List.set_cons_zero, List.set_cons_succ]
            replace hS := (one_ind (i := 2) (by decide) _ _).2 hS
            refine anyL_take (fun _ => True) [] (i := 3) (v := ?_) rfl (by kernel_rfl) (by kernel_rfl) (by kernel_rfl) (fun _ _ _ h => h) (by kernel_rfl) (one_ind (i := 3) (by decide)) (fun _ _ _ _ => trivial) (Or.inl ⟨by rfl, ?_⟩) hS ?_
            rotate_left
            · intro X hX
              clear hX
              go_simp
              try with_reducible rfl
            try simp only [List.getElem_toArray, List.getElem_cons_zero, List.getElem_cons_succ]
            simp only [Act.put, List.setIfInBounds_toArray, List.set_cons_zero, List.set_cons_succ]
            replace hS := (one_ind (i := 3) (by decide) _ _).2 hS
            refine anyL_take (fun _ => True) [] (i := 4) (v := ?_) rfl (by kernel_rfl) (by kernel_rfl) (by kernel_rfl) (fun _ _ _ h => h) (by kernel_rfl) (one_ind (i := 4) (by decide)) (fun _ _ _ _ => trivial) (Or.inl ⟨by rfl, ?_⟩) hS ?_
            rotate_left
            · intro X hX
              clear hX
              go_simp
              try with_reducible rfl
            try simp only [List.getElem_toArray, List.getElem_cons_zero, List.getElem_cons_succ]
            simp only [Act.put, List.setIfInBounds_toArray, List.set_cons_zero, List.set_cons_succ]
            replace hS := (one_ind (i := 4) (by decide) _ _).2 hS
            refine anyL_take (fun _ => True) [] (i := 5) (v := ?_) rfl (by kernel_rfl) (by kernel_rfl) (by kernel_rfl) (fun _ _ _ h => h) (by kernel_rfl) (one_ind (i := 5) (by decide)) (fun _ _ _ _ => trivial) (Or.inl ⟨by rfl, ?_⟩) hS ?_
            rotate_left
            · intro X hX
              clear hX
              go_simp
              try with_reducible rfl
            try simp only [List.getElem_toArray, List.getElem_cons_zero, List.getElem_cons_succ]
            simp only [Act.put, List.setIfInBounds_toArray, List.set_cons_zero, List.set_cons_succ]
            replace hS := (one_ind (i := 5) (by decide) _ _).2 hS
            refine anyL_take (fun _ => True) [] (i := 6) (v := ?_) rfl (by kernel_rfl) (by kernel_rfl) (by kernel_rfl) (fun _ _ _ h => h) (by kernel_rfl) (one_ind (i := 6) (by decide)) (fun _ _ _ _ => trivial) (Or.inl ⟨by rfl, ?_⟩) hS ?_
            rotate_left
            · intro X hX
              clear hX
              go_simp
              try with_reducible rfl
            try simp only [List.getElem_toArray, List.getElem_cons_zero, List.getElem_cons_succ]
            simp only [Act.put, List.setIfInBounds_toArray, List.set_cons_zero, List.set_cons_succ]
            replace hS := (one_ind (i := 6) (by decide) _ _).2 hS
            refine anyL_take (fun _ => True) [] (i := 7) (v := ?_) rfl (by kernel_rfl) (by kernel_rfl) (by kernel_rfl) (fun _ _ _ h => h) (by kernel_rfl) (one_ind (i := 7) (by decide)) (fun _ _ _ _ => trivial) (Or.inl ⟨by rfl, ?_⟩) hS ?_
            rotate_left
            · intro X hX
              clear hX
              go_simp
              try with_reducible rfl
            try simp only [List.getElem_toArray, List.getElem_cons_zero, List.getElem_cons_succ]
            simp only [Act.put, List.setIfInBounds_toArray, List.set_cons_zero, List.set_cons_succ]
            replace hS := (one_ind (i := 7) (by decide) _ _).2 hS
            refine anyL_take (fun _ => True) [] (i := 8) (v := ?_) rfl (by kernel_rfl) (by kernel_rfl) (by kernel_rfl) (fun _ _ _ h => h) (by kernel_rfl) (one_ind (i := 8) (by decide)) (fun _ _ _ _ => trivial) (Or.inl ⟨by rfl, ?_⟩) hS ?_
            rotate_left
            · intro X hX
              clear hX
              go_simp
              try with_reducible rfl
            try simp only [List.getElem_toArray, List.getElem_cons_zero, List.getElem_cons_succ]
            simp only [Act.put, List.setIfInBounds_toArray, List.set_cons_zero, List.set_cons_succ]
            replace hS := (one_ind (i := 8) (by decide) _ _).2 hS
            refine anyL_take (fun _ => True) [] (i := 9) (v := ?_) rfl (by kernel_rfl) (by kernel_rfl) (by kernel_rfl) (fun _ _ _ h => h) (by kernel_rfl) (one_ind (i := 9) (by decide)) (fun _ _ _ _ => trivial) (Or.inl ⟨by rfl, ?_⟩) hS ?_
            rotate_left
            · intro X hX
              clear hX
              go_simp
              try with_reducible rfl
            try simp only [List.getElem_toArray, List.getElem_cons_zero, List.getElem_cons_succ]
            simp only [Act.put, List.setIfInBounds_toArray, List.set_cons_zero, List.set_cons_succ]
            replace hS := (one_ind (i := 9) (by decide) _ _).2 hS
            refine anyL_take (fun _ => True) [] (i := 10) (v := ?_) rfl (by kernel_rfl) (by kernel_rfl) (by kernel_rfl) (fun _ _ _ h => h) (by kernel_rfl) (one_ind (i := 10) (by decide)) (fun _ _ _ _ => trivial) (Or.inl ⟨by rfl, ?_⟩) hS ?_
            rotate_left
            · intro X hX
              clear hX
              go_simp
              try with_reducible rfl
            try simp only [List.getElem_toArray, List.getElem_cons_zero, List.getElem_cons_succ]
            simp only [Act.put, List.setIfInBounds_toArray, List.set_cons_zero, List.set_cons_succ]
            replace hS := (one_ind (i := 10) (by decide) _ _).2 hS
            refine anyL_take (fun _ => True) [] (i := 11) (v := ?_) rfl (by kernel_rfl) (by kernel_rfl) (by kernel_rfl) (fun _ _ _ h => h) (by kernel_rfl) (one_ind (i := 11) (by decide)) (fun _ _ _ _ => trivial) (Or.inl ⟨by rfl, ?_⟩) hS ?_
            rotate_left
            · intro X hX
              clear hX
              go_simp
              try with_reducible rfl
            try simp only [List.getElem_toArray, List.getElem_cons_zero, List.getElem_cons_succ]
            simp only [Act.put, List.setIfInBounds_toArray, List.set_cons_zero, List.set_cons_succ]
            replace hS := (one_ind (i := 11) (by decide) _ _).2 hS
            refine anyL_take (fun _ => True) [] (i := 12) (v := ?_) rfl (by kernel_rfl) (by kernel_rfl) (by kernel_rfl) (fun _ _ _ h => h) (by kernel_rfl) (one_ind (i := 12) (by decide)) (fun _ _ _ _ => trivial) (Or.inl ⟨by rfl, ?_⟩) hS ?_
            rotate_left
            · intro X hX
              clear hX
              go_simp
              try with_reducible rfl
            try simp only [List.getElem_toArray, List.getElem_cons_zero, List.getElem_cons_succ]
            simp only [Act.put, List.setIfInBounds_toArray, List.set_cons_zero, List.set_cons_succ]
            replace hS := (one_ind (i := 12) (by decide) _ _).2 hS
            refine anyL_take (fun _ => True) [] (i := 13) (v := ?_) rfl (by kernel_rfl) (by kernel_rfl) (by kernel_rfl) (fun _ _ _ h => h) (by kernel_rfl) (one_ind (i := 13) (by decide)) (fun _ _ _ _ => trivial) (Or.inl ⟨by rfl, ?_⟩) hS ?_
            rotate_left
            · intro X hX
              clear hX
              go_simp
              try with_reducible rfl
            try simp only [List.getElem_toArray, List.getElem_cons_zero, List.getElem_cons_succ]
            simp only [Act.put, List.setIfInBounds_toArray, List.set_cons_zero, List.set_cons_succ]
            replace hS := (one_ind (i := 13) (by decide) _ _).2 hS
            refine anyL_take (fun _ => True) [] (i := 14) (v := ?_) rfl (by kernel_rfl) (by kernel_rfl) (by kernel_rfl) (fun _ _ _ h => h) (by kernel_rfl) (one_ind (i := 14) (by decide)) (fun _ _ _ _ => trivial) (Or.inl ⟨by rfl, ?_⟩) hS ?_
            rotate_left
            · intro X hX
              clear hX
              go_simp
              try with_reducible rfl
            try simp only [List.getElem_toArray, List.getElem_cons_zero, List.getElem_cons_succ]
            simp only [Act.put, List.setIfInBounds_toArray, List.set_cons_zero, List.set_cons_succ]
            replace hS := (one_ind (i := 14) (by decide) _ _).2 hS
            refine anyL_take (fun _ => True) [] (i := 15) (v := ?_) rfl (by kernel_rfl) (by kernel_rfl) (by kernel_rfl) (fun _ _ _ h => h) (by kernel_rfl) (one_ind (i := 15) (by decide)) (fun _ _ _ _ => trivial) (Or.inl ⟨by rfl, ?_⟩) hS ?_
            rotate_left
            · intro X hX
              clear hX
              go_simp
              try with_reducible rfl
            try simp only [List.getElem_toArray, List.getElem_cons_zero, List.getElem_cons_succ]
            simp only [Act.put, List.setIfInBounds_toArray, List.set_cons_zero, List.set_cons_succ]
            replace hS := (one_ind (i := 15) (by decide) _ _).2 hS
            clear wr1 wr2 wr3 hcut
            have bd : Below wr.heap.size wr wr.drew := (Below.refl _ _).drew
            refine anyL_step (i := 16) (by kernel_rfl) rfl (by rfl) (fun K hK => ?_)
            go_simp
            refine (RC _ (hps.below bd) (hxs.below bd)).mono ?_
            rintro e w4 ⟨A2, c2, rfl, o2, b2⟩
            have bw1 := below_trans bd b2
            have z2 : Boxed w4 g 35 (.slice A1 j c1) := y2.kept (grown_of_below bw1 none) (by simp)
            have z1 : Boxed w4 (w.heap.size + 1) 35 (.slice none 0 0) := y1.kept (grown_of_below bw1 none) (by simp)
            have ov1 := own_below ov bw1
            have rv1 := rv.below bw1
            have yb1 := below_trans bw bw1
            have lW1 : wr.heap.size ≤ w4.heap.size := bw1.size
            dsimp only
            refine hK.out _ _ ⟨fun _ => z2, trivial⟩ ?_
            clear hK K hS
            try simp only [Act.put, List.setIfInBounds_toArray, List.set_cons_zero, List.set_cons_succ]
            refine anyL_step (i := 17) (by kernel_rfl) rfl (by rfl) (fun K hK => ?_)
            go_simp
            have yb2 := below_alloc yb1 (.cells #[.slice A2 ro.length c2] 55)
            refine hK.out _ _ ⟨fun _ => z2.alloc _, trivial⟩ ?_
            clear hK K
            try simp only [Act.put, List.setIfInBounds_toArray, List.set_cons_zero, List.set_cons_succ]
            refine anyL_step (i := 18) (by kernel_rfl) rfl (by rfl) (fun K hK => ?_)
            subst hjj
            refine wp_app_vals (g + 1) _ _ 33 55 (.slice none 0 0) 24 rfl Try.underlying33 (by kernel_rfl) (by decide) rfl A1 c1 vs [.slice A2 ro.length c2] ⟨w4.heap.size, 0, none⟩ 1 rfl rfl (ov1.alloc _) (by simp) (World.news_of_block (cs := #[.slice A2 ro.length c2]) (t := 55) (fr := (0, 0)) (heap_alloc_new w4 _)) (by simp [Value.oneCell']) (by simp; omega) (by simp; omega) ?_
            intro B1 d1 w5 o3 hg3 hat
            have nb : ∀ j, j < g + 1 → some j ≠ (Value.slice A1 vs.length c1).ownBlock := fun j hj hh => by have := own_base ov1 j hh.symm; omega
            have q2 : Boxed w5 g 35 (.slice A1 vs.length c1) := (z2.alloc _).kept hg3 (nb _ (by omega))
            have q1 : Boxed w5 (w.heap.size + 1) 35 (.slice none 0 0) := (z1.alloc _).kept hg3 (nb _ (by omega))
            have zS := ownS_app1 rv1 ov1 (show OwnI w4 wr.heap.size 2 .i64 A2 c2 ro from by simpa using o2) (fun k hk => (ov.lt k hk).2) (by omega) o3 hg3 (by simpa using hat) lW1
            have yb3 : Below w.heap.size w w5 := (yb1.alloc (by omega) _).grown hg3 (by simp; omega) (fun j hj => by have := own_base ov1 j hj; omega)
            rw [← HT.out] at zS
            refine hK.out _ _ ⟨fun _ => q2, trivial⟩ ?_
            clear hK K hg3 hat z1 z2 ov1 rv1 o2 b2 bw1 nb yb2 yb1
            try simp only [Act.put, List.setIfInBounds_toArray, List.set_cons_zero, List.set_cons_succ]
            have g2 := q2.cell
            have f2 := q2.frozen
            refine anyL_step (i := 19) (by kernel_rfl) rfl (by rfl) (fun K hK => ?_)
            go_simp
            refine hK.out _ _ ⟨fun _ => q2, trivial⟩ ?_
            clear hK K
            try simp only [Act.put, List.setIfInBounds_toArray, List.set_cons_zero, List.set_cons_succ]
            refine anyL_step (i := 20) (by kernel_rfl) rfl (by rfl) (fun K hK => ?_)
            go_simp
            have r2 := q2.set (.slice B1 (vs.length + 1) d1)
            have r1 : Boxed (w5.setCell ⟨g, 0, none⟩ (.slice B1 (vs.length + 1) d1)) (w.heap.size + 1) 35 (.slice none 0 0) := q1.other (by omega) _
            have zb := yb3.setCell (p := ⟨g, 0, none⟩) (by omega) (.slice B1 (vs.length + 1) d1)
            have zo := zS.kept (grownBy_setCell' w5 g (.slice B1 (vs.length + 1) d1)) (by omega)
            refine hK.out _ _ ⟨fun hh => absurd hh (by decide), trivial⟩ ?_
            clear hK K
            refine anyL_done (by kernel_rfl) ?_ _
            generalize w5.setCell ⟨g, 0, none⟩ (.slice B1 (vs.length + 1) d1) = w6 at *
            go_wp2_with fail
            go_roundg (gk - 1)
            case measure => omega
            case rel => exact ⟨vs.length + 1, B1, d1, by simp, by omega, by omega, r2, r1, zo, zb⟩
          · obtain rfl : j = b.length := by omega
            have i1 : ¬ (b.length : Int) < (b.length : Int) := by omega
            have g1 := y1.cell
            have f1 := y1.frozen
            have g2 := y2.cell
            have htl : (tabI b r).take b.length = tabI b r := List.take_of_length_le (by rw [HTL.out]; exact Nat.le_refl _)
            rw [htl] at yo
            go_wp2_with fail
            (try simp only [Exit.inBlock, Exit.then])
            refine ret_box2 rfl rfl rfl (y1.set (.slice A1 b.length c1)) Try.underlying35 rfl (by kernel_rfl) ?_
            rw [H.out]
            exact ⟨A1, c1, by rw [HTL.out]; rfl, (yo.kept (grownBy_setCell' wr (w.heap.size + 1) (.slice A1 b.length c1)) (by omega)).slK.weaken fun b hb => (by have := hb.1; omega), bw.setCell (p := ⟨w.heap.size + 1, 0, none⟩) (by simp) _⟩
      · have H := Lib.hid (show makeT b r = ([], 2) by unfold makeT; rw [if_neg (by rw [h1]; decide), if_neg (by rw [h2]; decide), if_pos h3])
        have i3 : ((r.length : Int) != dimB b) = true := by simpa using h3
        clear h1 h2 h3
        generalize hDD : dimB b = D at *
        clear hDD
        go_enter Try.func13, Try.ntmps13
        go_wp2_with fail
        refine CB.mono ?_
        rintro e w1 ⟨rfl, b2⟩
        have bw1 := below_trans b1 b2
        have z0 := y0.kept (grown_of_below b2 none) (by simp)
        have z1 := y1.kept (grown_of_below b2 none) (by simp)
        have c0 := z0.cell
        clear b0 b1 b2 y0 y1 CB hsz
        go_wp2_with fail
        refine (CW _ (k.below bw1)).mono ?_
        rintro e w1' ⟨rfl, rfl⟩
        go_wp2_with fail
        refine (CD _ (h.below bw1)).mono ?_
        rintro e w2 ⟨rfl, b2⟩
        have bw2 := below_trans bw1 b2
        have z1 := z1.kept (grown_of_below b2 none) (by simp)
        have g1 := z1.cell
        have f1 := z1.frozen
        go_wp2_with fail
        (try simp only [Exit.inBlock, Exit.then])
        refine ret_box2 rfl rfl rfl (z1.set (.slice none 0 0)) Try.underlying35 rfl (by kernel_rfl) ?_
        rw [H.out]
        exact ⟨none, 0, rfl, SlK.nil _ _ _, bw2.setCell (p := ⟨w.heap.size + 1, 0, none⟩) (by simp) _⟩
    · have CW := fun w h => CheckWide_calls B d r w h
      have H := Lib.hid (show makeT b r = ([], ckW r) by unfold makeT; rw [if_neg (by rw [h1]; decide), if_pos h2])
      generalize ckW r = x at *
      have i2 : (x != 0) = true := by simpa using h2
      clear h1 h2
      go_enter Try.func13, Try.ntmps13
      go_wp2_with fail
      refine CB.mono ?_
      rintro e w1 ⟨rfl, b2⟩
      have bw1 := below_trans b1 b2
      have z1 := y1.kept (grown_of_below b2 none) (by simp)
      clear b0 b1 b2 y0 y1 CB hsz
      go_wp2_with fail
      refine (CW _ (k.below bw1)).mono ?_
      rintro e w1' ⟨rfl, rfl⟩
      have g1 := z1.cell
      have f1 := z1.frozen
      go_wp2_with fail
      (try simp only [Exit.inBlock, Exit.then])
      refine ret_box2 rfl rfl rfl (z1.set (.slice none 0 0)) Try.underlying35 rfl (by kernel_rfl) ?_
      rw [H.out]
      exact ⟨none, 0, rfl, SlK.nil _ _ _, bw1.setCell (p := ⟨w.heap.size + 1, 0, none⟩) (by simp) _⟩
  · have H := Lib.hid (show makeT b r = ([], ckB b) by unfold makeT; rw [if_pos h1])
    generalize ckB b = x at *
    have i2 : (x != 0) = true := by simpa using h1
    clear h1
    go_enter Try.func13, Try.ntmps13
    go_wp2_with fail
    refine CB.mono ?_
    rintro e w1 ⟨rfl, b2⟩
    have bw1 := below_trans b1 b2
    have z1 := y1.kept (grown_of_below b2 none) (by simp)
    clear b0 b1 b2 y0 y1 CB hsz
    have g1 := z1.cell
    have f1 := z1.frozen
    go_wp2_with fail
    (try simp only [Exit.inBlock, Exit.then])
    refine ret_box2 rfl rfl rfl (z1.set (.slice none 0 0)) Try.underlying35 rfl (by kernel_rfl) ?_
    rw [H.out]
    exact ⟨none, 0, rfl, SlK.nil _ _ _, bw1.setCell (p := ⟨w.heap.size + 1, 0, none⟩) (by simp) _⟩
theorem TMake_calls (A B : Option Addr) (c d : Nat) (b : List (List (List Int))) (r : List Int) (w : World) (h : SlB w .i32 A c b) (k : SlI w .i32 B d r) :
    Calls Try.prog 13 #[.agg #[.slice A b.length c], .slice B r.length d] w fun e w' => ∃ A' c', e = .returned (.tuple #[.agg #[.slice A' (makeT b r).1.length c'], .int .i64 (makeT b r).2]) ∧ SlS w' .i64 A' c' (makeT b r).1 ∧ Below w.heap.size w w' :=
  (TMake_own A B c d b r w h k).mono fun _ _ ⟨A', c', h1, h2, h3⟩ => ⟨A', c', h1, h2.sl, h3⟩
end Go.Proofs.Ythpgaggceefamaa
