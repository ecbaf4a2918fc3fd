/- octet.Reader. -/
import Derived.Test.YtjdablkdndmcgaaOctet
import Derived.WalkSpells
namespace Go.Proofs.Ytjdablkdndmcgaa
set_option linter.unusedVariables false
set_option linter.unusedSimpArgs false
open Go.RowKit
/-- The reader at block p has the bytes b and the error e. -/
def Rdr (w : World) (lo p : Nat) (b : List Int) (e : Int) : Prop := ∃ A c, w.cell? ⟨p, 0, none⟩ = some (.slice A b.length c) ∧ w.cell? ⟨p, 1, none⟩ = some (.int .i64 e) ∧
  w.frozen? ⟨p, 0, none⟩ = false ∧ w.frozen? ⟨p, 1, none⟩ = false ∧ SlI w .u8 A c b ∧ ∀ x, A = some x → lo ≤ x.block ∧ x.block < p
theorem Rdr.of {w w' : World} {lo p : Nat} {b : List Int} {e : Int} (h : Rdr w lo p b e) (hc : ∀ a u, w.cell? a = some u → w'.cell? a = some u) (hf : ∀ a, a.block = p → w'.frozen? a = w.frozen? a) : Rdr w' lo p b e := by
  obtain ⟨A, c, h1, h2, h3, h4, h5, h6⟩ := h
  exact ⟨A, c, hc _ _ h1, hc _ _ h2, (hf _ rfl).trans h3, (hf _ rfl).trans h4, h5.of_le hc, h6⟩
theorem Rdr.grown {w w' : World} {lo p q : Nat} {b : List Int} {e : Int} (h : Rdr w lo p b e) (hg : w.grownBy w' (some q)) (hq : q < lo ∨ p < q) (hlo : lo ≤ p) : Rdr w' lo p b e := by
  obtain ⟨A, c, h1, h2, h3, h4, h5, h6⟩ := h
  have hne : some p ≠ some q := by simp; omega
  refine ⟨A, c, hg.cell h1 hne, hg.cell h2 hne, ?_, ?_, ⟨?_, h5.le, h5.cap⟩, h6⟩
  · exact (hg.frozen_far _ (World.block_lt_of_cell? w _ h1) hne).trans h3
  · exact (hg.frozen_far _ (World.block_lt_of_cell? w _ h2) hne).trans h4
  · rcases h5.rd with h | ⟨ad, rfl, hc⟩
    · exact .inl h
    · refine .inr ⟨ad, rfl, fun j u hj => hg.cell (hc j u hj) ?_⟩
      have := h6 ad rfl
      have hb : (ad.add j).block = ad.block := by unfold Addr.add; split <;> rfl
      rw [hb]; simp; omega
theorem Rdr.lt {w : World} {lo p : Nat} {b : List Int} {e : Int} (h : Rdr w lo p b e) : p < w.heap.size := by
  obtain ⟨A, c, h1, _⟩ := h
  exact World.block_lt_of_cell? w _ h1
theorem Rdr.below {w w' : World} {lo p : Nat} {b : List Int} {e : Int} (h : Rdr w lo p b e) (hb : Below w.heap.size w w') : Rdr w' lo p b e :=
  h.of (cell_below hb) fun a ha => hb.frozen (by rw [ha]; exact h.lt)
/-- What take, Number, Signed and Bytes do: what is taken, what is left, the error. -/
def tk (b : List Int) (e n limit : Int) : List Int × List Int × Int :=
  if e ≠ 0 then ([], b, e) else if n < 0 ∨ n > limit then ([], b, 2) else if n > b.length then ([], b, 5) else (b.take n.toNat, b.drop n.toNat, 0)
def TkPost (lo p : Nat) (r : List Int × List Int × Int) (w : World) (e : Ending) (w' : World) : Prop :=
  ∃ A c, e = .returned (.slice A r.1.length c) ∧ SlI w' .u8 A c r.1 ∧ Rdr w' lo p r.2.1 r.2.2 ∧ w.grownBy w' (some p) ∧ ∀ x, A = some x → lo ≤ x.block ∧ x.block < p
theorem cell_set_other {w : World} {p : Nat} {o : Nat} {v u : Value} {a : Addr} (h : w.cell? a = some u) (hne : a ≠ ⟨p, o, none⟩) : (w.setCell ⟨p, o, none⟩ v).cell? a = some u := by
  rw [World.cell?_setCell_other w _ _ _ (Ne.symm hne)]; exact h
theorem grown_set (w : World) (p o : Nat) (v : Value) : w.grownBy (w.setCell ⟨p, o, none⟩ v) (some p) :=
  ⟨rfl, rfl, rfl, by simp, fun k _ hk => heap_setCell_other w ⟨p, o, none⟩ k v (fun e => hk (by simp [e]))⟩
/-- The error is set. -/
theorem Rdr.err {w : World} {lo p : Nat} {b : List Int} {e : Int} (h : Rdr w lo p b e) (e' : Int) : Rdr (w.setCell ⟨p, 1, none⟩ (.int .i64 e')) lo p b e' := by
  obtain ⟨A, c, h1, h2, h3, h4, h5, h6⟩ := h
  refine ⟨A, c, cell_set_other h1 (by simp), World.cell?_setCell_same w _ _ h2, by simpa using h3, by simpa using h4, ⟨?_, h5.le, h5.cap⟩, h6⟩
  rcases h5.rd with h | ⟨ad, rfl, hc⟩
  · exact .inl h
  · refine .inr ⟨ad, rfl, fun j u hj => cell_set_other (hc j u hj) fun hh => Nat.ne_of_lt (h6 ad rfl).2 ?_⟩
    have := congrArg Addr.block hh
    simp [Addr.add] at this
    split at this <;> simpa using this
theorem sl_set {w : World} {p o : Nat} {v : Value} {k : IntKind} {A : Option Addr} {c : Nat} {b : List Int} (h : SlI w k A c b) (hp : ∀ x, A = some x → x.block ≠ p) : SlI (w.setCell ⟨p, o, none⟩ v) k A c b := by
  refine ⟨?_, h.le, h.cap⟩
  rcases h.rd with h | ⟨ad, rfl, hc⟩
  · exact .inl h
  · refine .inr ⟨ad, rfl, fun j u hj => cell_set_other (hc j u hj) fun hh => hp ad rfl ?_⟩
    have := congrArg Addr.block hh
    simp [Addr.add] at this
    split at this <;> simpa using this
set_option maxHeartbeats 400000 in
theorem take_calls (lo p : Nat) (b : List Int) (e n l : Int) (w : World) (h : Rdr w lo p b e) :
    Calls Try.prog 60 #[.pointer (some ⟨p, 0, none⟩), .int .i64 n, .int .i64 l] w fun en w' => TkPost lo p (tk b e n l) w en w' := by
  have h' := h
  obtain ⟨A, c, h1, h2, h3, h4, h5, h6⟩ := h'
  have hm := h5.len
  obtain ⟨i0, hi, _, hz1, _⟩ := info_parts (P := Try.prog) (e := 5) (z := .int .u8 0) (size := 1) (bytes := 1) (by kernel_rfl)
  by_cases he : e = 0
  · subst he
    have HR := Lib.hid h
    clear h
    by_cases hn : n < 0 ∨ n > l
    · have H := Lib.hid (show tk b 0 n l = ([], b, 2) by simp [tk, hn])
      have hd : TkPost lo p ([], b, 2) w (.returned (.slice none 0 0)) (w.setCell ⟨p, 1, none⟩ (.int .i64 2)) := ⟨none, 0, rfl, SlI.nil _ _, HR.out.err 2, grown_set _ _ _ _, fun _ h => by cases h⟩
      have HD := Lib.hid hd
      clear hd
      by_cases hn1 : n < 0
      · go_enter Try.func60, Try.ntmps60
        go_wp2
        go_ret
        rw [H.out]; exact HD.out
      · have hn2 : n > l := hn.resolve_left hn1
        clear hn
        go_enter Try.func60, Try.ntmps60
        go_wp2
        go_ret
        rw [H.out]; exact HD.out
    · have hn1 : ¬ n < 0 := fun x => hn (.inl x)
      have hn2 : ¬ n > l := fun x => hn (.inr x)
      by_cases hn3 : n > (b.length : Int)
      · have H := Lib.hid (show tk b 0 n l = ([], b, 5) by simp [tk, hn, hn3])
        have hd : TkPost lo p ([], b, 5) w (.returned (.slice none 0 0)) (w.setCell ⟨p, 1, none⟩ (.int .i64 5)) := ⟨none, 0, rfl, SlI.nil _ _, HR.out.err 5, grown_set _ _ _ _, fun _ h => by cases h⟩
        have HD := Lib.hid hd
        clear hd hn
        go_enter Try.func60, Try.ntmps60
        go_wp2
        go_ret
        rw [H.out]; exact HD.out
      · obtain ⟨m, rfl⟩ := Int.eq_ofNat_of_zero_le (show 0 ≤ n by omega)
        have hmb : m ≤ b.length := by omega
        have H := Lib.hid (show tk b 0 m l = (b.take m, b.drop m, 0) by simp [tk, hn, hn3])
        obtain ⟨A', hcut, hA1, hA2⟩ := cut_l (P := Try.prog) 25 5 .i64 Try.underlying25 hi hz1 A b.length c m hmb h5.le
        have hs1 := sl_set (o := 0) (v := .slice A' (b.length - m) (c - m)) (h5.take m m (Nat.le_refl _) (by have := h5.le; omega)) (fun x hx => Nat.ne_of_lt (h6 x hx).2)
        have hs2 := sl_set (o := 0) (v := .slice A' (b.length - m) (c - m)) (hA1 w .u8 b rfl h5) (fun x hx => by obtain ⟨y, hy, e⟩ := hA2 x hx; rw [e]; exact Nat.ne_of_lt (h6 y hy).2)
        have hd : TkPost lo p (b.take m, b.drop m, 0) w (.returned (.slice A m m)) (w.setCell ⟨p, 0, none⟩ (.slice A' (b.length - m) (c - m))) :=
          ⟨A, m, by rw [List.length_take, Nat.min_eq_left hmb], hs1, ⟨A', c - m, by rw [List.length_drop]; exact World.cell?_setCell_same w _ _ h1, cell_set_other h2 (by simp), by simpa using h3, by simpa using h4, hs2, fun x hx => by obtain ⟨y, hy, e⟩ := hA2 x hx; rw [e]; exact h6 y hy⟩, grown_set _ _ _ _, h6⟩
        have HD := Lib.hid hd
        clear hd hn hs1 hs2 hA1 hA2
        have hle := h5.le
        go_enter Try.func60, Try.ntmps60
        go_wp2
        go_ret
        rw [H.out]; exact HD.out
  · have H := Lib.hid (show tk b e n l = ([], b, e) by simp [tk, he])
    have hd : TkPost lo p ([], b, e) w (.returned (.slice none 0 0)) w := ⟨none, 0, rfl, SlI.nil _ _, h, World.grownBy.refl _ _, fun _ h => by cases h⟩
    have HD := Lib.hid hd
    have hb : (e != 0) = true := by simpa using he
    clear hd h he
    go_enter Try.func60, Try.ntmps60
    go_wp2
    go_ret
    rw [H.out]; exact HD.out
theorem take_is (lo p : Nat) (b : List Int) (e n l : Int) (w : World) (h : Rdr w lo p b e) (t b' : List Int) (e' : Int) (hr : Hid (tk b e n l = (t, b', e'))) :
    Calls Try.prog 60 #[.pointer (some ⟨p, 0, none⟩), .int .i64 n, .int .i64 l] w fun en w' => ∃ A c, en = .returned (.slice A t.length c) ∧ SlI w' .u8 A c t ∧ Rdr w' lo p b' e' ∧ w.grownBy w' (some p) := by
  have := take_calls lo p b e n l w h
  rw [hr.out] at this; exact this.mono fun _ _ ⟨A, c, h1, h2, h3, h4, _⟩ => ⟨A, c, h1, h2, h3, h4⟩
theorem take_is2 (lo p : Nat) (b : List Int) (e n l : Int) (w : World) (h : Rdr w lo p b e) (t b' : List Int) (e' : Int) (hr : Hid (tk b e n l = (t, b', e'))) :
    Calls Try.prog 60 #[.pointer (some ⟨p, 0, none⟩), .int .i64 n, .int .i64 l] w fun en w' => ∃ A c, en = .returned (.slice A t.length c) ∧ SlI w' .u8 A c t ∧ Rdr w' lo p b' e' ∧ w.grownBy w' (some p) ∧ ∀ x, A = some x → lo ≤ x.block ∧ x.block < p := by
  have := take_calls lo p b e n l w h
  rw [hr.out] at this; exact this
theorem tk_bytes {b t b' : List Int} {e n l e' : Int} (hb : Bytes b) (hr : tk b e n l = (t, b', e')) : Bytes t ∧ Bytes b' := by
  unfold tk at hr
  split at hr
  · obtain ⟨rfl, rfl, rfl⟩ := hr; exact ⟨by simp [Bytes], hb⟩
  · split at hr
    · obtain ⟨rfl, rfl, rfl⟩ := hr; exact ⟨by simp [Bytes], hb⟩
    · split at hr
      · obtain ⟨rfl, rfl, rfl⟩ := hr; exact ⟨by simp [Bytes], hb⟩
      · obtain ⟨rfl, rfl, rfl⟩ := hr; exact ⟨hb.take _, fun x hx => hb x (List.mem_of_mem_drop hx)⟩
theorem Number_calls (lo p : Nat) (b : List Int) (e n : Int) (w : World) (h : Rdr w lo p b e) (hb : Bytes b) (t b' : List Int) (e' : Int) (hr : Hid (tk b e n 8 = (t, b', e'))) (v : Int) (hv : Hid (ofB (t.take 8) = v)) :
    Calls Try.prog 41 #[.pointer (some ⟨p, 0, none⟩), .int .i64 n] w fun en w' => en = .returned (.int .u64 v) ∧ Rdr w' lo p b' e' ∧ w.grownBy w' (some p) := by
  go_enter Try.func41, Try.ntmps41
  go_wp2_with fail
  refine (take_is lo p b e n 8 w h t b' e' hr).mono ?_
  rintro en w1 ⟨A, c, rfl, h1, h2, h3⟩
  go_wp2_with fail
  refine (Of_calls A c t w1 h1 (tk_bytes hb hr.out).1).mono ?_
  rintro en w2 ⟨rfl, rfl⟩
  go_wp2_with fail
  go_ret
  exact ⟨ret_int' hv.out, h2, h3⟩
theorem ofB8 (t : List Int) (ht : Bytes t) : 0 ≤ ofB (t.take 8) ∧ ofB (t.take 8) ≤ 18446744073709551615 := by
  refine ⟨ofB_nonneg _ fun y hy => (ht.take 8 y hy).1, ?_⟩
  have h1 := ofB_lt _ (ht.take 8)
  have h2 : (2 : Nat) ^ (8 * (t.take 8).length) ≤ 2 ^ 64 := Nat.pow_le_pow_right (by decide) (by simp; omega)
  have h3 : (2 : Int) ^ (8 * (t.take 8).length) ≤ 2 ^ 64 := by exact_mod_cast h2
  have h4 : (2 : Int) ^ 64 = 18446744073709551616 := by decide
  omega
theorem RdSigned_calls (lo p : Nat) (b : List Int) (e n : Int) (w : World) (h : Rdr w lo p b e) (hb : Bytes b) (t b' : List Int) (e' : Int) (hr : Hid (tk b e n 8 = (t, b', e'))) (v : Int) (hv : Hid (sgn8 (ofB (t.take 8)) n = v)) :
    Calls Try.prog 73 #[.pointer (some ⟨p, 0, none⟩), .int .i64 n] w fun en w' => en = .returned (.int .i64 v) ∧ Rdr w' lo p b' e' ∧ w.grownBy w' (some p) := by
  go_enter Try.func73, Try.ntmps73
  go_wp2_with fail
  refine (Number_calls lo p b e n w h hb t b' e' hr _ (Lib.hid rfl)).mono ?_
  rintro en w1 ⟨rfl, h2, h3⟩
  obtain ⟨k0, k1⟩ := ofB8 t (tk_bytes hb hr.out).1
  go_wp2_with fail
  refine (Signed_calls _ n w1 k0 k1).mono ?_
  rintro en w2 ⟨rfl, rfl⟩
  go_wp2_with fail
  go_ret
  exact ⟨ret_int' hv.out, h2, h3⟩
theorem Err_calls (lo p : Nat) (b : List Int) (e : Int) (w : World) (h : Rdr w lo p b e) :
    Calls Try.prog 65 #[.pointer (some ⟨p, 0, none⟩)] w fun en w' => en = .returned (.int .i64 e) ∧ w = w' := by
  obtain ⟨A, c, h1, h2, h3, h4, h5, h6⟩ := h
  go_enter Try.func65, Try.ntmps65
  go_wp2
  go_ret
  exact ⟨rfl, rfl⟩
theorem Left_calls (lo p : Nat) (b : List Int) (e : Int) (w : World) (h : Rdr w lo p b e) :
    Calls Try.prog 66 #[.pointer (some ⟨p, 0, none⟩)] w fun en w' => en = .returned (.int .i64 b.length) ∧ w = w' := by
  obtain ⟨A, c, h1, h2, h3, h4, h5, h6⟩ := h
  go_enter Try.func66, Try.ntmps66
  go_wp2
  go_ret
  exact ⟨rfl, rfl⟩
/-- End: the error, or ErrBad where something is left. -/
def endE (b : List Int) (e : Int) : Int := if e ≠ 0 then e else if 0 < b.length then 4 else 0
theorem End_calls (lo p : Nat) (b : List Int) (e : Int) (w : World) (h : Rdr w lo p b e) :
    Calls Try.prog 43 #[.pointer (some ⟨p, 0, none⟩)] w fun en w' => en = .returned (.int .i64 (endE b e)) ∧ w = w' := by
  by_cases he : e = 0
  · subst he
    by_cases hb : 0 < b.length
    · have H := Lib.hid (show endE b 0 = 4 by simp [endE, hb])
      have hb2 : (0 : Int) < (b.length : Int) := by omega
      go_enter Try.func43, Try.ntmps43
      go_wp2_with (first
        | (go_at_call 65; refine (Err_calls lo p b 0 w h).mono ?_; rintro en w' ⟨rfl, rfl⟩)
        | (go_at_call 66; refine (Left_calls lo p b 0 w h).mono ?_; rintro en w' ⟨rfl, rfl⟩))
      go_ret
      exact ⟨ret_int' H.out.symm, rfl⟩
    · have H := Lib.hid (show endE b 0 = 0 by simp [endE, hb])
      have hb2 : ¬ (0 : Int) < (b.length : Int) := by omega
      go_enter Try.func43, Try.ntmps43
      go_wp2_with (first
        | (go_at_call 65; refine (Err_calls lo p b 0 w h).mono ?_; rintro en w' ⟨rfl, rfl⟩)
        | (go_at_call 66; refine (Left_calls lo p b 0 w h).mono ?_; rintro en w' ⟨rfl, rfl⟩))
      go_ret
      exact ⟨ret_int' H.out.symm, rfl⟩
  · have H := Lib.hid (show endE b e = e by simp [endE, he])
    have hb : (e != 0) = true := by simpa using he
    go_enter Try.func43, Try.ntmps43
    go_wp2_with (first
      | (go_at_call 65; refine (Err_calls lo p b e w h).mono ?_; rintro en w' ⟨rfl, rfl⟩)
      | (go_at_call 66; refine (Left_calls lo p b e w h).mono ?_; rintro en w' ⟨rfl, rfl⟩))
    go_ret
    exact ⟨ret_int' H.out.symm, rfl⟩
theorem New_calls (A : Option Addr) (c : Nat) (b : List Int) (w : World) (h : SlI w .u8 A c b) (hl : b.length ≤ 140737488355320) :
    Calls Try.prog 40 #[.slice A b.length c] w fun en w' => ∃ p, en = .returned (.pointer (some ⟨p, 0, none⟩)) ∧ w.heap.size ≤ p ∧ p < w'.heap.size ∧ Rdr w' w.heap.size p b 0 ∧ Below w.heap.size w w' := by
  have hm := h.len
  go_enter Try.func40, Try.ntmps40
  go_wp2_with (at_builtin; refine app_row w.heap.size rfl _ _ 25 5 .u8 1 rfl Try.underlying25 (by kernel_rfl) (by decide) _ _ [] b A c rfl rfl (own_empty _ _ _ (Nat.le_refl _)) (h.below (below_alloc (Below.refl _ _) _)).rd (by simp) (by simp; omega) ?_)
  intro B1 c1 w1 hown hg _ _
  have hB1 := below_grown (below_alloc (Below.refl _ _) _) hg (own_empty _ _ _ (Nat.le_refl _)) (Nat.le_refl _)
  clear hg
  go_wp2
  go_ret
  refine ⟨w1.heap.size, rfl, hB1.size, by simp, ⟨B1, c1, by simp, by simp, by simp, by simp, hown.sl.below (below_alloc (Below.refl _ _) _), fun x hx => ?_⟩, below_alloc hB1 _⟩
  exact hown.lt x.block (by rw [hx]; rfl)
end Go.Proofs.Ytjdablkdndmcgaa
