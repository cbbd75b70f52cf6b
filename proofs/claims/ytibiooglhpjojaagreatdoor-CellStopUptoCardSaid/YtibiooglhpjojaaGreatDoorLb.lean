/- Lb -/
import Derived.Test.YtibiooglhpjojaaGreatDoorLa
set_option linter.unusedSimpArgs false
set_option linter.unusedVariables false
namespace Go.AW.M
open Go.RowKit Go.Proofs
set_option maxRecDepth 100000
theorem loop_same {α : Type} (xs : List α) (ne : α → α → Bool) (h : ∀ a, ne a a = false) (hl : xs.length ≤ 1048576) : loopS (fun s : Int × Unit => if decide (s.1 < ((List.length xs : Nat) : Int)) = true then
    (if 0 ≤ s.1 ∧ s.1 < ((List.length xs : Nat) : Int) then xs[s.1.toNat]? else none).bind fun a => (if 0 ≤ s.1 ∧ s.1 < ((List.length xs : Nat) : Int) then xs[s.1.toNat]? else none).bind fun b =>
    if ne a b = true then some (Sum.inr (false, ())) else some (Sum.inl (IntKind.i64.wrap (s.1 + 1), ())) else some (Sum.inr (true, ()))) ((0 : Int), ()) = some (true, ()) := by
  obtain ⟨r, h1, rfl⟩ := loopS_total (Q := fun r => r = (true, ())) (fun m (v : Int × Unit) => ∃ i : Nat, v.1 = i ∧ i + m = xs.length) (f := fun s : Int × Unit => if decide (s.1 < ((List.length xs : Nat) : Int)) = true then
    (if 0 ≤ s.1 ∧ s.1 < ((List.length xs : Nat) : Int) then xs[s.1.toNat]? else none).bind fun a => (if 0 ≤ s.1 ∧ s.1 < ((List.length xs : Nat) : Int) then xs[s.1.toNat]? else none).bind fun b =>
    if ne a b = true then some (Sum.inr (false, ())) else some (Sum.inl (IntKind.i64.wrap (s.1 + 1), ())) else some (Sum.inr (true, ()))) xs.length ((0 : Int), ()) (by omega) ⟨0, rfl, by omega⟩ (fun m v ⟨i, hi, hm⟩ => by
    obtain ⟨v1, u⟩ := v
    simp only at hi
    subst hi
    by_cases hlt : i < xs.length
    · simp only [dec_lt hlt, if_true]
      rw [idx_some (List.getElem?_eq_getElem hlt)]
      simp only [Option.bind_some, h, Bool.false_eq_true, if_false, wrap_succ hlt (show xs.length < 4611686018427387904 by omega)]
      exact .inr ⟨m - 1, (((i + 1 : Nat) : Int), ()), by omega, rfl, i + 1, rfl, by omega⟩
    · have : i = xs.length := by omega
      subst this
      simp only [dec_nlt, Bool.false_eq_true, if_false]
      exact .inl ⟨_, rfl, rfl⟩)
  exact h1
theorem ne_self (n : Int) : (n != n) = false := by simp
theorem conn_same (x : api_Conn) : api_Conn.same x x = true := by simp [api_Conn.same]
theorem run_same (x : api_Run) : api_Run.same x x = true := by simp [api_Run.same]
theorem pair_same (x : api_Pair) : api_Pair.same x x = true := by simp [api_Pair.same]
theorem rel_same (x : api_Rel) : api_Rel.same x x = true := by simp [api_Rel.same]
theorem ints_same (l : List Int) (h : l.length ≤ 1048576) : matinsref22_SameInts l l = some (true, ()) := by
  unfold matinsref22_SameInts
  simp only [ne_self, Bool.false_eq_true, if_false]
  exact loop_same l (fun a b => a != b) (fun a => by simp) h
theorem ints10_same (l : List Int) (h : l.length ≤ 1048576) : matinsref10_sameInts l l = some (true, ()) := by
  unfold matinsref10_sameInts
  simp only [ne_self, Bool.false_eq_true, if_false]
  exact loop_same l (fun a b => a != b) (fun a => by simp) h
theorem conns_same (l : List api_Conn) (h : l.length ≤ 1048576) : matinsref27_SameConns l l = some (true, ()) := by
  unfold matinsref27_SameConns
  simp only [ne_self, Bool.false_eq_true, if_false]
  exact loop_same l (fun a b => api_Conn.same a b != true) (fun a => by simp [conn_same]) h
theorem strs_same (l : List ByteArray) (h : l.length ≤ 1048576) : matinsref5_Same l l = some (true, ()) := by
  unfold matinsref5_Same
  simp only [ne_self, Bool.false_eq_true, if_false]
  exact loop_same l (fun a b => !((ByteArray.toList a) == (ByteArray.toList b))) (fun a => by simp) h
theorem pairs_same (l : List api_Pair) (h : l.length ≤ 1048576) : matinsref10_samePairs l l = some (true, ()) := by
  unfold matinsref10_samePairs
  simp only [ne_self, Bool.false_eq_true, if_false]
  exact loop_same l (fun a b => api_Pair.same a b != true) (fun a => by simp [pair_same]) h
theorem rels_same (l : List api_Rel) (h : l.length ≤ 1048576) : matinsref10_sameRels l l = some (true, ()) := by
  unfold matinsref10_sameRels
  simp only [ne_self, Bool.false_eq_true, if_false]
  exact loop_same l (fun a b => api_Rel.same a b != true) (fun a => by simp [rel_same]) h
theorem execs_same (l : List api_Exec) (h : l.length ≤ 1048576) (hw : ∀ x ∈ l, x.Words.length ≤ 1048576) : matinsref10_sameExecs l l = some (true, ()) := by
  unfold matinsref10_sameExecs
  simp only [ne_self, Bool.false_eq_true, if_false]
  suffices hs : ∃ r, loopS _ _ = some r ∧ r = (true, ()) by obtain ⟨r, h1, rfl⟩ := hs; exact h1
  refine loopS_total (fun m (v : Int × Unit) => ∃ i : Nat, v.1 = i ∧ i + m = l.length) l.length ((0 : Int), ()) (by omega) ⟨0, rfl, by omega⟩ (fun m v ⟨i, hi, hm⟩ => ?_)
  obtain ⟨v1, u⟩ := v
  simp only at hi
  subst hi
  by_cases hlt : i < l.length
  · simp only [dec_lt hlt, if_true]
    rw [idx_some (List.getElem?_eq_getElem hlt)]
    have hx := hw l[i] (List.getElem_mem hlt)
    generalize l[i] = x at hx
    simp only [gS, gA, gA3, gA', gB, gC, gD, gE, gF, gM, gAnd, gOr, Option.bind_some, strs_same x.Words hx, beq_self_eq_true, Bool.not_true, Bool.not_false, if_true, Bool.false_eq_true, if_false, Bool.or_self, Bool.or_false, wrap_succ hlt (show l.length < 4611686018427387904 by omega)]
    exact .inr ⟨m - 1, (((i + 1 : Nat) : Int), ()), by omega, rfl, i + 1, rfl, by omega⟩
  · have : i = l.length := by omega
    subst this
    simp only [dec_nlt, Bool.false_eq_true, if_false]
    exact .inl ⟨_, rfl, rfl⟩
theorem unit_same (u : api_Unit) (h : u.Fit 1048576) : matinsref10_Same u u = some (true, ()) := by
  obtain ⟨h1, h2, h3, h4, h5, h6, h7, h8, h9, h10, h11, h12, h13, h14, h15, h16, h17, h18⟩ := h
  unfold matinsref10_Same
  simp only [gS, gA, gA3, gA', gB, gC, gD, gE, gF, gM, gAnd, gOr, Option.bind_some, rels_same u.Rels h1, execs_same u.Pre h2.1 h2.2, execs_same u.Start h3.1 h3.2, execs_same u.Post h4.1 h4.2, execs_same u.Stop h5.1 h5.2, execs_same u.Reload h6.1 h6.2,
    ints10_same u.Success h7, pairs_same u.Env h8, strs_same u.Sockets h9, ints10_same u.Ports h10, ints10_same u.Boot h11, ints10_same u.Active h12, ints10_same u.Idle h13, strs_same u.Calendar h14, strs_same u.WantedBy h15, strs_same u.RequiredBy h16, strs_same u.Alias h17, strs_same u.Also h18,
    beq_self_eq_true, Bool.and_self, Bool.true_and, Bool.and_true, if_true]
theorem cell_same (c : api_Cell) (h : c.Fit 1048576) : matinsref27_SameCell c c = some (true, ()) := by
  obtain ⟨h0, h1, h2, h3⟩ := h
  unfold matinsref27_SameCell
  simp only [gS, gA, gA3, gA', gB, gC, gD, gE, gF, gM, gAnd, gOr, Option.bind_some, unit_same c.U h0, ints_same c.Begins h1, conns_same c.Serves h2, conns_same c.Waits h3, run_same, ne_self, bne_self_eq_false, Bool.not_true, Bool.or_self, Bool.false_eq_true, if_false,
    beq_self_eq_true, Bool.and_self, Bool.true_and, Bool.and_true, if_true]
theorem out0_same : matinsref27_SameOut ⟨[], [], [], false, false⟩ ⟨[], [], [], false, false⟩ = some (true, ()) := by
  unfold matinsref27_SameOut
  have hr : matinsref27_SameRows [] [] = some (true, ()) := by
    unfold matinsref27_SameRows
    simp only [ne_self, Bool.false_eq_true, if_false]
    exact loop_same ([] : List api_Row) (fun a b => api_Row.same a b != true) (fun a => by simp [api_Row.same]) (by simp)
  have ha : matinsref22_SameAsks [] [] = some (true, ()) := by
    unfold matinsref22_SameAsks
    simp only [ne_self, Bool.false_eq_true, if_false]
    exact loop_same ([] : List api_Ask) (fun a b => api_Ask.same a b != true) (fun a => by simp [api_Ask.same]) (by simp)
  simp only [gS, gA, gA3, gA', gB, gC, gD, gE, gF, gM, gAnd, gOr, Option.bind_some, hr, ha, conns_same [] (by simp), beq_self_eq_true, Bool.and_self, Bool.true_and, Bool.and_true, if_true]
end Go.AW.M

namespace Go.AW.M
open Go.RowKit Go.Proofs
set_option maxRecDepth 100000
theorem in_forR (st : Int) : ∀ (l : List Int) (i : Nat), forR (S := Unit) (B := Bool × Unit) (fun _ s _ => if (st == s) = true then some (.inr (true, ())) else some (.inl ())) (fun _ => some (false, ())) i l () = some (l.any (fun s => st == s), ())
  | [], i => rfl
  | x :: l, i => by
    simp only [forR, List.any_cons]
    cases h : (st == x) with
    | true => simp
    | false => simp only [Bool.false_eq_true, if_false, Bool.false_or]; exact in_forR st l (i + 1)
theorem in_eq (c : api_Cell) (l : List Int) (h : l.length < 4611686018427387904) : cell_in c l = some (l.any (fun s => c.State == s), ()) := by
  unfold cell_in
  simp only
  rw [loopS_forR (S := Unit) l (fun _ s _ => if (c.State == s) = true then some (.inr (true, ())) else some (.inl ())) (fun _ => some (false, ())) h]
  · exact in_forR c.State l 0
  · intro i x s hi hx
    simp only [dec_lt hi, if_true]
    rw [idx_some hx]
    simp only [Option.bind_some, wrap_succ hi h]
    cases (c.State == x) <;> rfl
  · intro s
    simp only [dec_nlt, Bool.false_eq_true, if_false, Option.bind_some]
theorem rest_eq (c : api_Cell) : cell_Rest c = some (c.State == 0 || c.State == 9, ()) := by
  unfold cell_Rest
  rw [in_eq c _ (by simp)]
  simp
theorem half_eq (c : api_Cell) : cell_Half c = some (c.State == 6 || c.State == 7, ()) := by
  unfold cell_Half
  rw [in_eq c _ (by simp)]
  simp
/-- What a cell is that was told to stop. -/
def Told (c c' : api_Cell) : Prop := c'.U = c.U ∧ c'.Attempt = c.Attempt ∧ (c'.State = 0 ∨ c'.State = 9 ∨ ((c'.State = 6 ∨ c'.State = 7) ∧ c'.Wish = true)) ∧ c'.Fit 1048576
abbrev Out0 : api_Out := ⟨[], [], [], false, false⟩
theorem ends_wish (s : service_course) (hw : s.c.Wish = true) (ho : s.out = Out0) (hf : s.c.Fit 1048576) : ∃ s', service_course_ends s = some (s', ()) ∧ Told s.c s'.c ∧ s'.out.Asks = [] := by
  unfold service_course_ends
  simp only
  split
  · obtain ⟨st, n, b, r, f, h1, h2⟩ := rests_wish { s with c := { s.c with Aux := Run0 } } hw (by simp [ho]) (by simp [ho]) hf.2.2.1
    rw [h2]
    refine ⟨_, rfl, ⟨rfl, rfl, ?_, hf.1, hf.2.1, by simp, hf.2.2.2⟩, by simp [ho]⟩
    rcases h1 with h | h
    · exact .inl h
    · exact .inr (.inl h)
  · simp only [to_eq, Option.bind_some]
    obtain ⟨x, hx, -⟩ := tell_ex s.c.Main s.now
    obtain ⟨y, hy⟩ := sum_ex s.now s.c.U.Down
    simp only [hx, hy, Option.bind_some]
    rw [row_eq _ _ _ (by simp [ho])]
    exact ⟨_, rfl, ⟨rfl, rfl, .inr (.inr ⟨.inr rfl, hw⟩), hf⟩, by simp [ho]⟩
theorem stop_told (s : service_course) (ho : s.out = Out0) (hf : s.c.Fit 1048576) (hs : 0 ≤ s.c.State ∧ s.c.State ≤ 9) : ∃ s', service_course_stop s = some (s', ()) ∧ Told s.c s'.c ∧ s'.out.Asks = [] := by
  have hk : s.c.State = 0 ∨ s.c.State = 1 ∨ s.c.State = 2 ∨ s.c.State = 3 ∨ s.c.State = 4 ∨ s.c.State = 5 ∨ s.c.State = 6 ∨ s.c.State = 7 ∨ s.c.State = 8 ∨ s.c.State = 9 := by omega
  rcases hk with h | h | h | h | h | h | h | h | h | h
  · have e : ∀ j : Int, (s.c.State == j) = ((0 : Int) == j) := fun j => by rw [h]
    have e0 : (s.c.State == 0) = true := by rw [h]; rfl
    have e9 : (s.c.State == 9) = false := by rw [h]; rfl
    have e8 : (s.c.State == 8) = false := by rw [h]; rfl
    have e1 : (s.c.State == 1) = false := by rw [h]; rfl
    have e2 : (s.c.State == 2) = false := by rw [h]; rfl
    have e3 : (s.c.State == 3) = false := by rw [h]; rfl
    have e4 : (s.c.State == 4) = false := by rw [h]; rfl
    have e5 : (s.c.State == 5) = false := by rw [h]; rfl
    unfold service_course_stop
    simp (config := { maxSteps := 4000000 }) only [gS, gA, gA3, gA', gB, gC, gD, gE, gF, gM, gAnd, gOr, Option.bind_some, e0, e9, e8, e1, e2, e3, e4, e5, Bool.or_true, Bool.true_or, Bool.or_self, Bool.not_false, Bool.not_true, Bool.false_eq_true, if_false, if_true]
    exact ⟨s, rfl, ⟨rfl, rfl, .inl h, hf⟩, by simp [ho]⟩
  · have e : ∀ j : Int, (s.c.State == j) = ((1 : Int) == j) := fun j => by rw [h]
    have e0 : (s.c.State == 0) = false := by rw [h]; rfl
    have e9 : (s.c.State == 9) = false := by rw [h]; rfl
    have e8 : (s.c.State == 8) = false := by rw [h]; rfl
    have e1 : (s.c.State == 1) = true := by rw [h]; rfl
    have e2 : (s.c.State == 2) = false := by rw [h]; rfl
    have e3 : (s.c.State == 3) = false := by rw [h]; rfl
    have e4 : (s.c.State == 4) = false := by rw [h]; rfl
    have e5 : (s.c.State == 5) = false := by rw [h]; rfl
    unfold service_course_stop
    simp (config := { maxSteps := 4000000 }) only [gS, gA, gA3, gA', gB, gC, gD, gE, gF, gM, gAnd, gOr, Option.bind_some, e0, e9, e8, e1, e2, e3, e4, e5, Bool.or_true, Bool.true_or, Bool.or_self, Bool.not_false, Bool.not_true, Bool.false_eq_true, if_false, if_true]
    obtain ⟨s', h1, h2, h3⟩ := ends_wish { s with c := { s.c with Wish := true } } rfl ho hf
    rw [h1]; exact ⟨s', rfl, h2, h3⟩
  · have e : ∀ j : Int, (s.c.State == j) = ((2 : Int) == j) := fun j => by rw [h]
    have e0 : (s.c.State == 0) = false := by rw [h]; rfl
    have e9 : (s.c.State == 9) = false := by rw [h]; rfl
    have e8 : (s.c.State == 8) = false := by rw [h]; rfl
    have e1 : (s.c.State == 1) = false := by rw [h]; rfl
    have e2 : (s.c.State == 2) = true := by rw [h]; rfl
    have e3 : (s.c.State == 3) = false := by rw [h]; rfl
    have e4 : (s.c.State == 4) = false := by rw [h]; rfl
    have e5 : (s.c.State == 5) = false := by rw [h]; rfl
    unfold service_course_stop
    simp (config := { maxSteps := 4000000 }) only [gS, gA, gA3, gA', gB, gC, gD, gE, gF, gM, gAnd, gOr, Option.bind_some, e0, e9, e8, e1, e2, e3, e4, e5, Bool.or_true, Bool.true_or, Bool.or_self, Bool.not_false, Bool.not_true, Bool.false_eq_true, if_false, if_true]
    obtain ⟨s', h1, h2, h3⟩ := ends_wish { s with c := { s.c with Wish := true } } rfl ho hf
    rw [h1]; exact ⟨s', rfl, h2, h3⟩
  · have e : ∀ j : Int, (s.c.State == j) = ((3 : Int) == j) := fun j => by rw [h]
    have e0 : (s.c.State == 0) = false := by rw [h]; rfl
    have e9 : (s.c.State == 9) = false := by rw [h]; rfl
    have e8 : (s.c.State == 8) = false := by rw [h]; rfl
    have e1 : (s.c.State == 1) = false := by rw [h]; rfl
    have e2 : (s.c.State == 2) = false := by rw [h]; rfl
    have e3 : (s.c.State == 3) = true := by rw [h]; rfl
    have e4 : (s.c.State == 4) = false := by rw [h]; rfl
    have e5 : (s.c.State == 5) = false := by rw [h]; rfl
    unfold service_course_stop
    simp (config := { maxSteps := 4000000 }) only [gS, gA, gA3, gA', gB, gC, gD, gE, gF, gM, gAnd, gOr, Option.bind_some, e0, e9, e8, e1, e2, e3, e4, e5, Bool.or_true, Bool.true_or, Bool.or_self, Bool.not_false, Bool.not_true, Bool.false_eq_true, if_false, if_true]
    obtain ⟨s', h1, h2, h3⟩ := ends_wish { s with c := { s.c with Wish := true } } rfl ho hf
    rw [h1]; exact ⟨s', rfl, h2, h3⟩
  · have e : ∀ j : Int, (s.c.State == j) = ((4 : Int) == j) := fun j => by rw [h]
    have e0 : (s.c.State == 0) = false := by rw [h]; rfl
    have e9 : (s.c.State == 9) = false := by rw [h]; rfl
    have e8 : (s.c.State == 8) = false := by rw [h]; rfl
    have e1 : (s.c.State == 1) = false := by rw [h]; rfl
    have e2 : (s.c.State == 2) = false := by rw [h]; rfl
    have e3 : (s.c.State == 3) = false := by rw [h]; rfl
    have e4 : (s.c.State == 4) = true := by rw [h]; rfl
    have e5 : (s.c.State == 5) = false := by rw [h]; rfl
    unfold service_course_stop
    simp (config := { maxSteps := 4000000 }) only [gS, gA, gA3, gA', gB, gC, gD, gE, gF, gM, gAnd, gOr, Option.bind_some, e0, e9, e8, e1, e2, e3, e4, e5, Bool.or_true, Bool.true_or, Bool.or_self, Bool.not_false, Bool.not_true, Bool.false_eq_true, if_false, if_true]
    split
    · obtain ⟨s', h1, h2, h3⟩ := ends_wish { s with c := { s.c with Wish := true, Aux := Run0 } } rfl ho hf
      rw [h1]; exact ⟨s', rfl, h2, h3⟩
    · simp only [to_eq, Option.bind_some, run_Begin]
      obtain ⟨y, hy⟩ := sum_ex s.now s.c.U.Down
      simp only [hy, Option.bind_some]
      rw [row_eq _ _ _ (by simp [ho])]
      exact ⟨_, rfl, ⟨rfl, rfl, .inr (.inr ⟨.inl rfl, rfl⟩), hf⟩, by simp [ho]⟩
  · have e : ∀ j : Int, (s.c.State == j) = ((5 : Int) == j) := fun j => by rw [h]
    have e0 : (s.c.State == 0) = false := by rw [h]; rfl
    have e9 : (s.c.State == 9) = false := by rw [h]; rfl
    have e8 : (s.c.State == 8) = false := by rw [h]; rfl
    have e1 : (s.c.State == 1) = false := by rw [h]; rfl
    have e2 : (s.c.State == 2) = false := by rw [h]; rfl
    have e3 : (s.c.State == 3) = false := by rw [h]; rfl
    have e4 : (s.c.State == 4) = false := by rw [h]; rfl
    have e5 : (s.c.State == 5) = true := by rw [h]; rfl
    unfold service_course_stop
    simp (config := { maxSteps := 4000000 }) only [gS, gA, gA3, gA', gB, gC, gD, gE, gF, gM, gAnd, gOr, Option.bind_some, e0, e9, e8, e1, e2, e3, e4, e5, Bool.or_true, Bool.true_or, Bool.or_self, Bool.not_false, Bool.not_true, Bool.false_eq_true, if_false, if_true]
    split
    · obtain ⟨s', h1, h2, h3⟩ := ends_wish { s with c := { s.c with Wish := true, Aux := Run0 } } rfl ho hf
      rw [h1]; exact ⟨s', rfl, h2, h3⟩
    · simp only [to_eq, Option.bind_some, run_Begin]
      obtain ⟨y, hy⟩ := sum_ex s.now s.c.U.Down
      simp only [hy, Option.bind_some]
      rw [row_eq _ _ _ (by simp [ho])]
      exact ⟨_, rfl, ⟨rfl, rfl, .inr (.inr ⟨.inl rfl, rfl⟩), hf⟩, by simp [ho]⟩
  · have e : ∀ j : Int, (s.c.State == j) = ((6 : Int) == j) := fun j => by rw [h]
    have e0 : (s.c.State == 0) = false := by rw [h]; rfl
    have e9 : (s.c.State == 9) = false := by rw [h]; rfl
    have e8 : (s.c.State == 8) = false := by rw [h]; rfl
    have e1 : (s.c.State == 1) = false := by rw [h]; rfl
    have e2 : (s.c.State == 2) = false := by rw [h]; rfl
    have e3 : (s.c.State == 3) = false := by rw [h]; rfl
    have e4 : (s.c.State == 4) = false := by rw [h]; rfl
    have e5 : (s.c.State == 5) = false := by rw [h]; rfl
    unfold service_course_stop
    simp (config := { maxSteps := 4000000 }) only [gS, gA, gA3, gA', gB, gC, gD, gE, gF, gM, gAnd, gOr, Option.bind_some, e0, e9, e8, e1, e2, e3, e4, e5, Bool.or_true, Bool.true_or, Bool.or_self, Bool.not_false, Bool.not_true, Bool.false_eq_true, if_false, if_true]
    exact ⟨_, rfl, ⟨rfl, rfl, .inr (.inr ⟨.inl h, rfl⟩), hf⟩, by simp [ho]⟩
  · have e : ∀ j : Int, (s.c.State == j) = ((7 : Int) == j) := fun j => by rw [h]
    have e0 : (s.c.State == 0) = false := by rw [h]; rfl
    have e9 : (s.c.State == 9) = false := by rw [h]; rfl
    have e8 : (s.c.State == 8) = false := by rw [h]; rfl
    have e1 : (s.c.State == 1) = false := by rw [h]; rfl
    have e2 : (s.c.State == 2) = false := by rw [h]; rfl
    have e3 : (s.c.State == 3) = false := by rw [h]; rfl
    have e4 : (s.c.State == 4) = false := by rw [h]; rfl
    have e5 : (s.c.State == 5) = false := by rw [h]; rfl
    unfold service_course_stop
    simp (config := { maxSteps := 4000000 }) only [gS, gA, gA3, gA', gB, gC, gD, gE, gF, gM, gAnd, gOr, Option.bind_some, e0, e9, e8, e1, e2, e3, e4, e5, Bool.or_true, Bool.true_or, Bool.or_self, Bool.not_false, Bool.not_true, Bool.false_eq_true, if_false, if_true]
    exact ⟨_, rfl, ⟨rfl, rfl, .inr (.inr ⟨.inr h, rfl⟩), hf⟩, by simp [ho]⟩
  · have e : ∀ j : Int, (s.c.State == j) = ((8 : Int) == j) := fun j => by rw [h]
    have e0 : (s.c.State == 0) = false := by rw [h]; rfl
    have e9 : (s.c.State == 9) = false := by rw [h]; rfl
    have e8 : (s.c.State == 8) = true := by rw [h]; rfl
    have e1 : (s.c.State == 1) = false := by rw [h]; rfl
    have e2 : (s.c.State == 2) = false := by rw [h]; rfl
    have e3 : (s.c.State == 3) = false := by rw [h]; rfl
    have e4 : (s.c.State == 4) = false := by rw [h]; rfl
    have e5 : (s.c.State == 5) = false := by rw [h]; rfl
    unfold service_course_stop
    simp (config := { maxSteps := 4000000 }) only [gS, gA, gA3, gA', gB, gC, gD, gE, gF, gM, gAnd, gOr, Option.bind_some, e0, e9, e8, e1, e2, e3, e4, e5, Bool.or_true, Bool.true_or, Bool.or_self, Bool.not_false, Bool.not_true, Bool.false_eq_true, if_false, if_true]
    simp only [to_eq, Option.bind_some]
    rw [row_eq _ _ _ (by simp [ho])]
    exact ⟨_, rfl, ⟨rfl, rfl, .inl rfl, hf⟩, by simp [ho]⟩
  · have e : ∀ j : Int, (s.c.State == j) = ((9 : Int) == j) := fun j => by rw [h]
    have e0 : (s.c.State == 0) = false := by rw [h]; rfl
    have e9 : (s.c.State == 9) = true := by rw [h]; rfl
    have e8 : (s.c.State == 8) = false := by rw [h]; rfl
    have e1 : (s.c.State == 1) = false := by rw [h]; rfl
    have e2 : (s.c.State == 2) = false := by rw [h]; rfl
    have e3 : (s.c.State == 3) = false := by rw [h]; rfl
    have e4 : (s.c.State == 4) = false := by rw [h]; rfl
    have e5 : (s.c.State == 5) = false := by rw [h]; rfl
    unfold service_course_stop
    simp (config := { maxSteps := 4000000 }) only [gS, gA, gA3, gA', gB, gC, gD, gE, gF, gM, gAnd, gOr, Option.bind_some, e0, e9, e8, e1, e2, e3, e4, e5, Bool.or_true, Bool.true_or, Bool.or_self, Bool.not_false, Bool.not_true, Bool.false_eq_true, if_false, if_true]
    exact ⟨s, rfl, ⟨rfl, rfl, .inr (.inl h), hf⟩, by simp [ho]⟩
/-- Told again: nothing. -/
theorem wish_self (s : service_course) (h : s.c.Wish = true) : ({ s with c := { s.c with Wish := true } } : service_course) = s := by
  obtain ⟨w, c, n, o⟩ := s
  obtain ⟨u, a1, a2, a3, a4, a5, a6, a7, a8, wi, r⟩ := c
  simp only at h
  subst h
  rfl
theorem stop_again (s : service_course) (h : s.c.State = 0 ∨ s.c.State = 9 ∨ ((s.c.State = 6 ∨ s.c.State = 7) ∧ s.c.Wish = true)) : service_course_stop s = some (s, ()) := by
  by_cases h0 : s.c.State = 0 ∨ s.c.State = 9
  · unfold service_course_stop
    have e : (s.c.State == 0 || s.c.State == 9) = true := by simpa using h0
    simp only [gS, gA, gA3, gA', gB, gC, gD, gE, gF, gM, gAnd, gOr, Option.bind_some, e, if_true]
  · obtain ⟨h, hw⟩ : (s.c.State = 6 ∨ s.c.State = 7) ∧ s.c.Wish = true := by
      rcases h with h | h | h
      · exact absurd (.inl h) h0
      · exact absurd (.inr h) h0
      · exact h
    unfold service_course_stop
    have e0 : (s.c.State == 0 || s.c.State == 9) = false := by simpa using h0
    have e8 : (s.c.State == 8) = false := by simp; omega
    have e1 : (s.c.State == 1) = false := by simp; omega
    have e2 : (s.c.State == 2) = false := by simp; omega
    have e3 : (s.c.State == 3) = false := by simp; omega
    have e4 : (s.c.State == 4) = false := by simp; omega
    have e5 : (s.c.State == 5) = false := by simp; omega
    simp (config := { maxSteps := 4000000 }) only [gS, gA, gA3, gA', gB, gC, gD, gE, gF, gM, gAnd, gOr, Option.bind_some, e0, e8, e1, e2, e3, e4, e5, Bool.false_eq_true, if_false]
    rw [wish_self s hw]
end Go.AW.M

namespace Go.AW.M
open Go.RowKit Go.Proofs
set_option maxRecDepth 100000
theorem e21 : ((2 : Int) == 1) = false := rfl
theorem e22 : ((2 : Int) == 2) = true := rfl
theorem e23 : ((2 : Int) == 3) = false := rfl
abbrev At0 (w : api_World) (c : api_Cell) (now : Int) : service_course := ⟨w, c, now, Out0⟩
theorem service_begin (w : api_World) (u : api_Unit) (c : api_Cell) (now : Int) (hf : c.Fit 1048576) : ∃ w' : api_World, service_Begin w u c 2 now = (service_course_stop (At0 w' c now)).bind fun r => some (r.1.c, r.1.out, ()) := by
  unfold service_Begin
  simp (config := { maxSteps := 4000000 }) only [gS, gA, gA3, gA', gB, gC, gD, gE, gF, gM, gAnd, gOr, Option.bind_some, basis_CellOf_eq c hf, e21, e22, e23, Bool.false_and, Bool.false_eq_true, if_false, if_true, Bool.true_or, Bool.not_true, Bool.not_false]
  exact ⟨_, rfl⟩
theorem service_stop (w : api_World) (u : api_Unit) (c : api_Cell) (now : Int) (hf : c.Fit 1048576) (hs : 0 ≤ c.State ∧ c.State ≤ 9) : ∃ x o, service_Begin w u c 2 now = some (x, o, ()) ∧ Told c x ∧ o.Asks = [] := by
  obtain ⟨w', hw⟩ := service_begin w u c now hf
  obtain ⟨s', h1, h2, h3⟩ := stop_told (At0 w' c now) rfl hf hs
  rw [hw, h1]
  exact ⟨s'.c, s'.out, rfl, h2, h3⟩
theorem service_stop2 (w : api_World) (u : api_Unit) (c : api_Cell) (now : Int) (hf : c.Fit 1048576) (h : c.State = 0 ∨ c.State = 9 ∨ ((c.State = 6 ∨ c.State = 7) ∧ c.Wish = true)) : service_Begin w u c 2 now = some (c, Out0, ()) := by
  obtain ⟨w', hw⟩ := service_begin w u c now hf
  rw [hw, stop_again (At0 w' c now) h]
  rfl
theorem watch_stop (w : api_World) (u : api_Unit) (c : api_Cell) (now : Int) (hf : c.Fit 1048576) (hs : c.State = 0 ∨ c.State = 4 ∨ c.State = 9) : ∃ x o, watch_Begin w u c 2 now = some (x, o, ()) ∧ Told c x ∧ o.Asks = [] ∧ (x.State = 0 ∨ x.State = 9) := by
  unfold watch_Begin
  simp (config := { maxSteps := 4000000 }) only [gS, gA, gA3, gA', gB, gC, gD, gE, gF, gM, gAnd, gOr, Option.bind_some, basis_CellOf_eq c hf, e21, e22, e23, Bool.false_and, Bool.false_eq_true, if_false, if_true, Bool.true_or, Bool.not_true, Bool.not_false, Bool.true_and]
  split
  · exact ⟨_, _, rfl, ⟨rfl, rfl, .inl rfl, hf⟩, rfl, .inl rfl⟩
  · rename_i h4
    have h4 : ¬ c.State = 4 := by simpa using h4
    have h : c.State = 0 ∨ c.State = 9 := by omega
    exact ⟨_, _, rfl, ⟨rfl, rfl, by omega, hf⟩, rfl, h⟩
theorem watch_stop2 (w : api_World) (u : api_Unit) (c : api_Cell) (now : Int) (hf : c.Fit 1048576) (hs : c.State = 0 ∨ c.State = 9) : watch_Begin w u c 2 now = some (c, Out0, ()) := by
  have e : (c.State == 4) = false := by simp; omega
  unfold watch_Begin
  simp (config := { maxSteps := 4000000 }) only [gS, gA, gA3, gA', gB, gC, gD, gE, gF, gM, gAnd, gOr, Option.bind_some, basis_CellOf_eq c hf, e21, e22, e23, Bool.false_and, Bool.false_eq_true, if_false, if_true, Bool.true_or, Bool.not_true, Bool.not_false, Bool.true_and, e]
theorem target_stop (u : api_Unit) (c : api_Cell) (now : Int) (hf : c.Fit 1048576) (hs : c.State = 0 ∨ c.State = 4 ∨ c.State = 9) : ∃ x o, cell_target u c 2 now = some (x, o, ()) ∧ Told c x ∧ o.Asks = [] ∧ (x.State = 0 ∨ x.State = 9) := by
  unfold cell_target
  simp (config := { maxSteps := 4000000 }) only [gS, gA, gA3, gA', gB, gC, gD, gE, gF, gM, gAnd, gOr, Option.bind_some, basis_CellOf_eq c hf, e21, e22, e23, Bool.false_and, Bool.false_eq_true, if_false, if_true, Bool.true_or, Bool.not_true, Bool.not_false, Bool.true_and]
  split
  · exact ⟨_, _, rfl, ⟨rfl, rfl, .inl rfl, hf⟩, rfl, .inl rfl⟩
  · rename_i h4
    have h4 : ¬ c.State = 4 := by simpa using h4
    have h : c.State = 0 ∨ c.State = 9 := by omega
    exact ⟨_, _, rfl, ⟨rfl, rfl, by omega, hf⟩, rfl, h⟩
theorem target_stop2 (u : api_Unit) (c : api_Cell) (now : Int) (hf : c.Fit 1048576) (hs : c.State = 0 ∨ c.State = 9) : cell_target u c 2 now = some (c, Out0, ()) := by
  have e : (c.State == 4) = false := by simp; omega
  unfold cell_target
  simp (config := { maxSteps := 4000000 }) only [gS, gA, gA3, gA', gB, gC, gD, gE, gF, gM, gAnd, gOr, Option.bind_some, basis_CellOf_eq c hf, e21, e22, e23, Bool.false_and, Bool.false_eq_true, if_false, if_true, Bool.true_or, Bool.not_true, Bool.not_false, Bool.true_and, e]
end Go.AW.M

namespace Go.AW.M
open Go.RowKit Go.Proofs
set_option maxRecDepth 100000
theorem nDigits_le : ∀ (k u : Nat), u < 10 ^ (k + 1) → Lib.nDigits u ≤ k + 1
  | 0, u, h => by rw [Lib.nDigits_small (by simpa using h)]; exact Nat.le_refl _
  | k + 1, u, h => by
    by_cases hu : u < 10
    · rw [Lib.nDigits_small hu]; omega
    · rw [Lib.nDigits_big hu]
      have := nDigits_le k (u / 10) (by rw [Nat.div_lt_iff_lt_mul (by decide)]; rw [Nat.pow_succ] at h; exact h)
      omega
theorem itoa_size (n : Int) (h : I64 n) : (itoaB n).size ≤ 21 := by
  obtain ⟨h1, h2⟩ := h
  have hp : (10 : Nat) ^ 20 = 100000000000000000000 := by decide
  have key : ∀ u : Nat, u ≤ 9223372036854775808 → (Lib.decDigits u).length ≤ 20 := fun u hu => by
    rw [Lib.decDigits_length]
    exact nDigits_le 19 u (by rw [hp]; omega)
  show (Lib.itoa n).toArray.size ≤ 21
  unfold Lib.itoa
  split
  · have := key n.natAbs (by omega)
    simp; omega
  · have := key n.toNat (by omega)
    simp; omega
theorem conn_eq (t : ByteArray) (n : Int) (s : sock_course) (ht : t.size ≤ 100) (hn : I64 n) (hr : s.out.Rows.length ≤ 1000000) :
    ∃ r : api_Row, sock_course_conn t n s = some ({ s with c := { s.c with Rows := IntKind.i64.wrap (s.c.Rows + 1) }, out := { s.out with Rows := s.out.Rows ++ [r] } }, ()) := by
  unfold sock_course_conn
  have h1 : (⟨#[32]⟩ : ByteArray).size = 1 := rfl
  have h2 := itoa_size n hn
  have h3 : (t ++ (⟨#[32]⟩ : ByteArray)).size = t.size + 1 := by rw [ByteArray.size_append, h1]
  rw [if_pos (by omega), Option.bind_some]
  simp only [itoaF, if_pos hn, Option.bind_some]
  rw [if_pos (by omega)]
  simp only [Option.bind_some, List.length_singleton]
  rw [if_pos ⟨by omega, by omega⟩]
  exact ⟨_, rfl⟩
theorem sock_stop (w : api_World) (u : api_Unit) (c : api_Cell) (now : Int) (hf : c.Fit 1048576) (hs : c.State = 0 ∨ c.State = 4 ∨ c.State = 9) (hw : c.Waits.length ≤ 64) (hn : ∀ x ∈ c.Waits, I64 x.Num) :
    ∃ x o, sock_Begin w u c now = some (x, o, ()) ∧ Told c x ∧ o.Asks = [] ∧ (x.State = 0 ∨ x.State = 9) := by
  unfold sock_Begin
  simp only [basis_CellOf_eq c hf, Option.bind_some]
  split
  · have hl : c.Waits.length < 4611686018427387904 := by omega
    suffices h : ∃ r : api_Cell × api_Out × Unit, loopS _ _ = some r ∧ (Told c r.1 ∧ r.2.1.Asks = [] ∧ (r.1.State = 0 ∨ r.1.State = 9)) by
      obtain ⟨⟨x, o, v⟩, h1, h2, h3, h4⟩ := h
      exact ⟨x, o, h1, h2, h3, h4⟩
    refine loopS_total (fun m (v : Int × sock_course × Unit) => ∃ i : Nat, v.1 = i ∧ i + m = c.Waits.length ∧ (∃ n : Int, v.2.1.c = { c with Rows := n }) ∧ v.2.1.out.Rows.length ≤ i ∧ v.2.1.out.Asks = []) c.Waits.length _ (by omega) ⟨0, rfl, by omega, ⟨c.Rows, rfl⟩, by simp, rfl⟩ (fun m v ⟨i, hi, hm, ⟨n, hc⟩, hr, ha⟩ => ?_)
    obtain ⟨v1, s, u'⟩ := v
    simp only at hi hc hr ha
    subst hi
    by_cases hlt : i < c.Waits.length
    · simp only [dec_lt hlt, if_true]
      rw [idx_some (List.getElem?_eq_getElem hlt)]
      obtain ⟨r, h1⟩ := conn_eq (⟨#[100, 114, 111, 112, 112, 101, 100]⟩ : ByteArray) c.Waits[i].Num s (by decide) (hn _ (List.getElem_mem hlt)) (by omega)
      simp only [Option.bind_some, h1, wrap_succ hlt hl]
      exact .inr ⟨m - 1, (((i + 1 : Nat) : Int), _, ()), by omega, rfl, i + 1, rfl, by omega, ⟨IntKind.i64.wrap (s.c.Rows + 1), by rw [hc]⟩, by simp; omega, ha⟩
    · have : i = c.Waits.length := by omega
      subst this
      simp only [dec_nlt, Bool.false_eq_true, if_false]
      unfold sock_Begin_e1
      simp only [List.length_singleton]
      rw [if_pos ⟨by omega, by omega⟩]
      simp only [Option.bind_some]
      refine .inl ⟨_, rfl, ⟨by simp [hc], by simp [hc], .inl rfl, ?_⟩, by simp [ha], .inl rfl⟩
      have e : s.c.Fit 1048576 := by rw [hc]; exact hf
      exact ⟨e.1, e.2.1, e.2.2.1, by simp⟩
  · rename_i h4
    have h4 : ¬ c.State = 4 := by simpa using h4
    have h : c.State = 0 ∨ c.State = 9 := by omega
    exact ⟨_, _, rfl, ⟨rfl, rfl, by omega, hf⟩, rfl, h⟩
theorem sock_stop2 (w : api_World) (u : api_Unit) (c : api_Cell) (now : Int) (hf : c.Fit 1048576) (hs : c.State = 0 ∨ c.State = 9) : sock_Begin w u c now = some (c, Out0, ()) := by
  have e : (c.State == 4) = false := by simp; omega
  unfold sock_Begin
  simp only [basis_CellOf_eq c hf, Option.bind_some, e, Bool.false_eq_true, if_false]
theorem begin_stop (w : api_World) (c : api_Cell) (now : Int) (hf : c.Fit 1048576) (hk : 1 ≤ c.U.Kind ∧ c.U.Kind ≤ 4) (hs : 0 ≤ c.State ∧ c.State ≤ 9) (hp : c.U.Kind ≠ 1 → c.State = 0 ∨ c.State = 4 ∨ c.State = 9) (hw : c.Waits.length ≤ 64) (hn : ∀ x ∈ c.Waits, I64 x.Num) :
    ∃ x o, cell_Begin w c.U c now = some (x, o, ()) ∧ Told c x ∧ o.Asks = [] ∧ cell_Begin w c.U x now = some (x, Out0, ()) := by
  unfold cell_Begin
  simp only
  have hkk : c.U.Kind = 1 ∨ c.U.Kind = 2 ∨ c.U.Kind = 3 ∨ c.U.Kind = 4 := by omega
  rcases hkk with h | h | h | h
  · have e1 : (c.U.Kind == 1) = true := by rw [h]; rfl
    obtain ⟨x, o, h1, h2, h3⟩ := service_stop w c.U c now hf hs
    simp only [e1, if_true, h1, service_stop2 w c.U x now h2.2.2.2 h2.2.2.1, Option.bind_some]
    exact ⟨x, o, rfl, h2, h3, by rw [service_stop2 w c.U x now h2.2.2.2 h2.2.2.1]; rfl⟩
  · have e1 : (c.U.Kind == 1) = false := by rw [h]; rfl
    have e2 : (c.U.Kind == 2) = true := by rw [h]; rfl
    obtain ⟨x, o, h1, h2, h3, h4⟩ := sock_stop w c.U c now hf (hp (by omega)) hw hn
    simp only [e1, e2, if_true, Bool.false_eq_true, if_false, h1, Option.bind_some]
    exact ⟨x, o, rfl, h2, h3, by rw [sock_stop2 w c.U x now h2.2.2.2 h4]; rfl⟩
  · have e1 : (c.U.Kind == 1) = false := by rw [h]; rfl
    have e2 : (c.U.Kind == 2) = false := by rw [h]; rfl
    have e3 : (c.U.Kind == 3) = true := by rw [h]; rfl
    obtain ⟨x, o, h1, h2, h3, h4⟩ := watch_stop w c.U c now hf (hp (by omega))
    simp only [e1, e2, e3, if_true, Bool.false_eq_true, if_false, h1, Option.bind_some]
    exact ⟨x, o, rfl, h2, h3, by rw [watch_stop2 w c.U x now h2.2.2.2 h4]; rfl⟩
  · have e1 : (c.U.Kind == 1) = false := by rw [h]; rfl
    have e2 : (c.U.Kind == 2) = false := by rw [h]; rfl
    have e3 : (c.U.Kind == 3) = false := by rw [h]; rfl
    have e4 : (c.U.Kind == 4) = true := by rw [h]; rfl
    obtain ⟨x, o, h1, h2, h3, h4⟩ := target_stop c.U c now hf (hp (by omega))
    simp only [e1, e2, e3, e4, if_true, Bool.false_eq_true, if_false, h1, Option.bind_some]
    exact ⟨x, o, rfl, h2, h3, by rw [target_stop2 c.U x now h2.2.2.2 h4]; rfl⟩
/-- The law, of typed values. -/
theorem law (w : api_World) (c : api_Cell) (now : Int) (hw : w.Ok 1048576) (hc : c.Ok 1048576) : matinslaw34_CellStop w c now = some (true, ()) := by
  have hf := hc.fit
  obtain ⟨b, hb, hb'⟩ := may_fact w c now hw.fit hf
  have hsh : matinslaw34_shown = some (true, ()) := rfl
  unfold matinslaw34_CellStop
  simp only [gS, gA, gA3, gA', gB, gC, gD, gE, gF, gM, gAnd, gOr, Option.bind_some, hsh, hb, Bool.not_true, Bool.false_eq_true, if_false]
  split
  · rfl
  rename_i h
  simp only [Bool.or_eq_true, Bool.not_eq_true', decide_eq_true_eq, not_or] at h
  obtain ⟨⟨h1, h2⟩, h3⟩ := h
  have hb1 : b = true := by cases b <;> simp_all
  obtain ⟨⟨hs, hp⟩, hwa⟩ := hb' hb1
  have hn : ∀ x ∈ c.Waits, I64 x.Num := by
    obtain ⟨_, _, _, _, _, _, _, _, _, _, _, _, hwt, _⟩ := hc
    exact fun x hx => (hwt.2 x hx).2.1
  obtain ⟨x, o, h4, h5, h6, h7⟩ := begin_stop w c now hf (by omega) hs hp hwa hn
  simp only [h4, Option.bind_some, h7, rest_eq, half_eq, cell_same x h5.2.2.2, out0_same, h6, h5.2.1]
  have hst : (x.State == 0 || x.State == 9 || (x.State == 6 || x.State == 7)) = true := by
    rcases h5.2.2.1 with h | h | ⟨h | h, _⟩ <;> simp [h]
  simp only [gS, gA, gA3, gA', gB, gC, gD, gE, gF, gM, gAnd, gOr, Option.bind_some, hst, beq_self_eq_true, Bool.and_true, Bool.and_self]
  rfl
end Go.AW.M
