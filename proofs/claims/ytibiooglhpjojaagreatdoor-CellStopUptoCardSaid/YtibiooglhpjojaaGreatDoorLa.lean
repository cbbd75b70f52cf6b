/- A cell that is copied is as it was. Printed by copyof.py. -/
import Derived.Test.YtibiooglhpjojaaGreatDoorF4
import Derived.Test.YtibiooglhpjojaaGreatDoorD0
import Derived.Test.YtibiooglhpjojaaGreatDoorPe
import Derived.Test.YtibiooglhpjojaaGreatDoorF7
set_option linter.unusedSimpArgs false
set_option linter.unusedVariables false
namespace Go.AW.M
open Go.RowKit Go.Proofs
set_option maxRecDepth 100000
theorem basis_CellOf_eq (c : api_Cell) (h : c.Fit 1048576) : basis_CellOf c = some (c, ()) := by
  unfold basis_CellOf
  refine Eq.trans (loop_copy c.U.Rels 24 _ (basis_CellOf_e31 c) _ (by have := h.1.1; omega) (by have := h.1.1; omega) (fun _ _ => rfl)) ?_
  unfold basis_CellOf_e31
  refine Eq.trans (loop_copyS c.U.Pre 32 (basis_CellOf_e30 c c.U.Rels) _ (by have := h.1.2.1.1; omega) (by have := h.1.2.1.1; omega) (fun i x acc hi hx => ?_) (fun acc => ?_)) ?_
  · show (if decide ((i : Int) < ((List.length c.U.Pre : Nat) : Int)) = true then _ else _) = _
    simp only [dec_lt hi, if_true]; rw [idx_some hx]; simp only [Option.bind_some]
    show loopS _ _ = _
    refine Eq.trans (loop_copy x.Words 16 _ (basis_CellOf_e1 (i : Int) acc x) _ (by have : x.Words.length ≤ 1048576 := h.1.2.1.2 x (List.mem_of_getElem? hx); omega) (by have : x.Words.length ≤ 1048576 := h.1.2.1.2 x (List.mem_of_getElem? hx); omega) (fun _ _ => rfl)) ?_
    rfl
  · show (if decide (((List.length c.U.Pre : Nat) : Int) < ((List.length c.U.Pre : Nat) : Int)) = true then _ else _) = _
    rw [dec_nlt]; rfl
  unfold basis_CellOf_e30
  refine Eq.trans (loop_copyS c.U.Start 32 (basis_CellOf_e29 c c.U.Rels c.U.Pre) _ (by have := h.1.2.2.1.1; omega) (by have := h.1.2.2.1.1; omega) (fun i x acc hi hx => ?_) (fun acc => ?_)) ?_
  · show (if decide ((i : Int) < ((List.length c.U.Start : Nat) : Int)) = true then _ else _) = _
    simp only [dec_lt hi, if_true]; rw [idx_some hx]; simp only [Option.bind_some]
    show loopS _ _ = _
    refine Eq.trans (loop_copy x.Words 16 _ (basis_CellOf_e3 (i : Int) acc x) _ (by have : x.Words.length ≤ 1048576 := h.1.2.2.1.2 x (List.mem_of_getElem? hx); omega) (by have : x.Words.length ≤ 1048576 := h.1.2.2.1.2 x (List.mem_of_getElem? hx); omega) (fun _ _ => rfl)) ?_
    rfl
  · show (if decide (((List.length c.U.Start : Nat) : Int) < ((List.length c.U.Start : Nat) : Int)) = true then _ else _) = _
    rw [dec_nlt]; rfl
  unfold basis_CellOf_e29
  refine Eq.trans (loop_copyS c.U.Post 32 (basis_CellOf_e28 c c.U.Rels c.U.Pre c.U.Start) _ (by have := h.1.2.2.2.1.1; omega) (by have := h.1.2.2.2.1.1; omega) (fun i x acc hi hx => ?_) (fun acc => ?_)) ?_
  · show (if decide ((i : Int) < ((List.length c.U.Post : Nat) : Int)) = true then _ else _) = _
    simp only [dec_lt hi, if_true]; rw [idx_some hx]; simp only [Option.bind_some]
    show loopS _ _ = _
    refine Eq.trans (loop_copy x.Words 16 _ (basis_CellOf_e5 (i : Int) acc x) _ (by have : x.Words.length ≤ 1048576 := h.1.2.2.2.1.2 x (List.mem_of_getElem? hx); omega) (by have : x.Words.length ≤ 1048576 := h.1.2.2.2.1.2 x (List.mem_of_getElem? hx); omega) (fun _ _ => rfl)) ?_
    rfl
  · show (if decide (((List.length c.U.Post : Nat) : Int) < ((List.length c.U.Post : Nat) : Int)) = true then _ else _) = _
    rw [dec_nlt]; rfl
  unfold basis_CellOf_e28
  refine Eq.trans (loop_copyS c.U.Stop 32 (basis_CellOf_e27 c c.U.Rels c.U.Pre c.U.Start c.U.Post) _ (by have := h.1.2.2.2.2.1.1; omega) (by have := h.1.2.2.2.2.1.1; omega) (fun i x acc hi hx => ?_) (fun acc => ?_)) ?_
  · show (if decide ((i : Int) < ((List.length c.U.Stop : Nat) : Int)) = true then _ else _) = _
    simp only [dec_lt hi, if_true]; rw [idx_some hx]; simp only [Option.bind_some]
    show loopS _ _ = _
    refine Eq.trans (loop_copy x.Words 16 _ (basis_CellOf_e7 (i : Int) acc x) _ (by have : x.Words.length ≤ 1048576 := h.1.2.2.2.2.1.2 x (List.mem_of_getElem? hx); omega) (by have : x.Words.length ≤ 1048576 := h.1.2.2.2.2.1.2 x (List.mem_of_getElem? hx); omega) (fun _ _ => rfl)) ?_
    rfl
  · show (if decide (((List.length c.U.Stop : Nat) : Int) < ((List.length c.U.Stop : Nat) : Int)) = true then _ else _) = _
    rw [dec_nlt]; rfl
  unfold basis_CellOf_e27
  refine Eq.trans (loop_copyS c.U.Reload 32 (basis_CellOf_e26 c c.U.Rels c.U.Pre c.U.Start c.U.Post c.U.Stop) _ (by have := h.1.2.2.2.2.2.1.1; omega) (by have := h.1.2.2.2.2.2.1.1; omega) (fun i x acc hi hx => ?_) (fun acc => ?_)) ?_
  · show (if decide ((i : Int) < ((List.length c.U.Reload : Nat) : Int)) = true then _ else _) = _
    simp only [dec_lt hi, if_true]; rw [idx_some hx]; simp only [Option.bind_some]
    show loopS _ _ = _
    refine Eq.trans (loop_copy x.Words 16 _ (basis_CellOf_e9 (i : Int) acc x) _ (by have : x.Words.length ≤ 1048576 := h.1.2.2.2.2.2.1.2 x (List.mem_of_getElem? hx); omega) (by have : x.Words.length ≤ 1048576 := h.1.2.2.2.2.2.1.2 x (List.mem_of_getElem? hx); omega) (fun _ _ => rfl)) ?_
    rfl
  · show (if decide (((List.length c.U.Reload : Nat) : Int) < ((List.length c.U.Reload : Nat) : Int)) = true then _ else _) = _
    rw [dec_nlt]; rfl
  unfold basis_CellOf_e26
  refine Eq.trans (loop_copy c.U.Success 8 _ (basis_CellOf_e25 c c.U.Rels c.U.Pre c.U.Start c.U.Post c.U.Stop c.U.Reload) _ (by have := h.1.2.2.2.2.2.2.1; omega) (by have := h.1.2.2.2.2.2.2.1; omega) (fun _ _ => rfl)) ?_
  unfold basis_CellOf_e25
  refine Eq.trans (loop_copy c.U.Env 32 _ (basis_CellOf_e24 c c.U.Rels c.U.Pre c.U.Start c.U.Post c.U.Stop c.U.Reload c.U.Success) _ (by have := h.1.2.2.2.2.2.2.2.1; omega) (by have := h.1.2.2.2.2.2.2.2.1; omega) (fun _ _ => rfl)) ?_
  unfold basis_CellOf_e24
  refine Eq.trans (loop_copy c.U.Sockets 16 _ (basis_CellOf_e23 c c.U.Rels c.U.Pre c.U.Start c.U.Post c.U.Stop c.U.Reload c.U.Success c.U.Env) _ (by have := h.1.2.2.2.2.2.2.2.2.1; omega) (by have := h.1.2.2.2.2.2.2.2.2.1; omega) (fun _ _ => rfl)) ?_
  unfold basis_CellOf_e23
  refine Eq.trans (loop_copy c.U.Ports 8 _ (basis_CellOf_e22 c c.U.Rels c.U.Pre c.U.Start c.U.Post c.U.Stop c.U.Reload c.U.Success c.U.Env c.U.Sockets) _ (by have := h.1.2.2.2.2.2.2.2.2.2.1; omega) (by have := h.1.2.2.2.2.2.2.2.2.2.1; omega) (fun _ _ => rfl)) ?_
  unfold basis_CellOf_e22
  refine Eq.trans (loop_copy c.U.Boot 8 _ (basis_CellOf_e21 c c.U.Rels c.U.Pre c.U.Start c.U.Post c.U.Stop c.U.Reload c.U.Success c.U.Env c.U.Sockets c.U.Ports) _ (by have := h.1.2.2.2.2.2.2.2.2.2.2.1; omega) (by have := h.1.2.2.2.2.2.2.2.2.2.2.1; omega) (fun _ _ => rfl)) ?_
  unfold basis_CellOf_e21
  refine Eq.trans (loop_copy c.U.Active 8 _ (basis_CellOf_e20 c c.U.Rels c.U.Pre c.U.Start c.U.Post c.U.Stop c.U.Reload c.U.Success c.U.Env c.U.Sockets c.U.Ports c.U.Boot) _ (by have := h.1.2.2.2.2.2.2.2.2.2.2.2.1; omega) (by have := h.1.2.2.2.2.2.2.2.2.2.2.2.1; omega) (fun _ _ => rfl)) ?_
  unfold basis_CellOf_e20
  refine Eq.trans (loop_copy c.U.Idle 8 _ (basis_CellOf_e19 c c.U.Rels c.U.Pre c.U.Start c.U.Post c.U.Stop c.U.Reload c.U.Success c.U.Env c.U.Sockets c.U.Ports c.U.Boot c.U.Active) _ (by have := h.1.2.2.2.2.2.2.2.2.2.2.2.2.1; omega) (by have := h.1.2.2.2.2.2.2.2.2.2.2.2.2.1; omega) (fun _ _ => rfl)) ?_
  unfold basis_CellOf_e19
  refine Eq.trans (loop_copy c.U.Calendar 16 _ (basis_CellOf_e18 c c.U.Rels c.U.Pre c.U.Start c.U.Post c.U.Stop c.U.Reload c.U.Success c.U.Env c.U.Sockets c.U.Ports c.U.Boot c.U.Active c.U.Idle) _ (by have := h.1.2.2.2.2.2.2.2.2.2.2.2.2.2.1; omega) (by have := h.1.2.2.2.2.2.2.2.2.2.2.2.2.2.1; omega) (fun _ _ => rfl)) ?_
  unfold basis_CellOf_e18
  refine Eq.trans (loop_copy c.U.WantedBy 16 _ (basis_CellOf_e17 c c.U.Rels c.U.Pre c.U.Start c.U.Post c.U.Stop c.U.Reload c.U.Success c.U.Env c.U.Sockets c.U.Ports c.U.Boot c.U.Active c.U.Idle c.U.Calendar) _ (by have := h.1.2.2.2.2.2.2.2.2.2.2.2.2.2.2.1; omega) (by have := h.1.2.2.2.2.2.2.2.2.2.2.2.2.2.2.1; omega) (fun _ _ => rfl)) ?_
  unfold basis_CellOf_e17
  refine Eq.trans (loop_copy c.U.RequiredBy 16 _ (basis_CellOf_e16 c c.U.Rels c.U.Pre c.U.Start c.U.Post c.U.Stop c.U.Reload c.U.Success c.U.Env c.U.Sockets c.U.Ports c.U.Boot c.U.Active c.U.Idle c.U.Calendar c.U.WantedBy) _ (by have := h.1.2.2.2.2.2.2.2.2.2.2.2.2.2.2.2.1; omega) (by have := h.1.2.2.2.2.2.2.2.2.2.2.2.2.2.2.2.1; omega) (fun _ _ => rfl)) ?_
  unfold basis_CellOf_e16
  refine Eq.trans (loop_copy c.U.Alias 16 _ (basis_CellOf_e15 c c.U.Rels c.U.Pre c.U.Start c.U.Post c.U.Stop c.U.Reload c.U.Success c.U.Env c.U.Sockets c.U.Ports c.U.Boot c.U.Active c.U.Idle c.U.Calendar c.U.WantedBy c.U.RequiredBy) _ (by have := h.1.2.2.2.2.2.2.2.2.2.2.2.2.2.2.2.2.1; omega) (by have := h.1.2.2.2.2.2.2.2.2.2.2.2.2.2.2.2.2.1; omega) (fun _ _ => rfl)) ?_
  unfold basis_CellOf_e15
  refine Eq.trans (loop_copy c.U.Also 16 _ (basis_CellOf_e14 c c.U.Rels c.U.Pre c.U.Start c.U.Post c.U.Stop c.U.Reload c.U.Success c.U.Env c.U.Sockets c.U.Ports c.U.Boot c.U.Active c.U.Idle c.U.Calendar c.U.WantedBy c.U.RequiredBy c.U.Alias) _ (by have := h.1.2.2.2.2.2.2.2.2.2.2.2.2.2.2.2.2.2; omega) (by have := h.1.2.2.2.2.2.2.2.2.2.2.2.2.2.2.2.2.2; omega) (fun _ _ => rfl)) ?_
  unfold basis_CellOf_e14
  refine Eq.trans (loop_copy c.Begins 8 _ (basis_CellOf_e13 c c.U.Rels c.U.Pre c.U.Start c.U.Post c.U.Stop c.U.Reload c.U.Success c.U.Env c.U.Sockets c.U.Ports c.U.Boot c.U.Active c.U.Idle c.U.Calendar c.U.WantedBy c.U.RequiredBy c.U.Alias c.U.Also) _ (by have := h.2.1; omega) (by have := h.2.1; omega) (fun _ _ => rfl)) ?_
  unfold basis_CellOf_e13
  refine Eq.trans (loop_copy c.Serves 48 _ (basis_CellOf_e12 c c.U.Rels c.U.Pre c.U.Start c.U.Post c.U.Stop c.U.Reload c.U.Success c.U.Env c.U.Sockets c.U.Ports c.U.Boot c.U.Active c.U.Idle c.U.Calendar c.U.WantedBy c.U.RequiredBy c.U.Alias c.U.Also c.Begins) _ (by have := h.2.2.1; omega) (by have := h.2.2.1; omega) (fun _ _ => rfl)) ?_
  unfold basis_CellOf_e12
  refine Eq.trans (loop_copy c.Waits 48 _ (basis_CellOf_e11 c c.U.Rels c.U.Pre c.U.Start c.U.Post c.U.Stop c.U.Reload c.U.Success c.U.Env c.U.Sockets c.U.Ports c.U.Boot c.U.Active c.U.Idle c.U.Calendar c.U.WantedBy c.U.RequiredBy c.U.Alias c.U.Also c.Begins c.Serves) _ (by have := h.2.2.2; omega) (by have := h.2.2.2; omega) (fun _ _ => rfl)) ?_
  rfl
end Go.AW.M

namespace Go.AW.M
open Go.RowKit Go.Proofs
set_option maxRecDepth 100000
abbrev Run0 : api_Run := ⟨0, 0, 0, 0, 0, false⟩
theorem to_eq (st : Int) (s : service_course) : service_course_to st s = some ({ s with c := { s.c with State := st, Since := s.now } }, ()) := rfl
theorem row_eq (k : Int) (t : ByteArray) (s : service_course) (h : s.out.Rows.length ≤ 1048576) :
    service_course_row k t s = some ({ s with c := { s.c with Rows := IntKind.i64.wrap (s.c.Rows + 1) }, out := { s.out with Rows := s.out.Rows ++ [⟨s.now, s.c.U.Name, IntKind.i64.wrap (s.c.Rows + 1), k, t⟩] } }, ()) := by
  unfold service_course_row
  simp only [List.length_singleton]
  rw [if_pos ⟨by omega, by omega⟩]
  rfl
theorem again_ex (a b : Int) : ∃ r, retry_Again a b = some (r, ()) := by
  unfold retry_Again
  by_cases h2 : b = 2 <;> by_cases h3 : b = 3 <;> by_cases h1 : b = 1 <;> by_cases h0 : b = 0 <;> by_cases g2 : a = 2 <;> by_cases g3 : a = 3 <;> by_cases g4 : a = 4 <;> by_cases g5 : a = 5 <;> simp_all [ite_bind]
theorem held_ex (a : Int) : ∃ r, span_held a = some (r, ()) := by
  unfold span_held
  simp only
  split
  · exact ⟨_, rfl⟩
  · exact ⟨_, rfl⟩
theorem sum_ex (a b : Int) : ∃ r, span_Sum a b = some (r, ()) := by
  unfold span_Sum
  obtain ⟨x, hx⟩ := held_ex a
  obtain ⟨y, hy⟩ := held_ex b
  obtain ⟨z, hz⟩ := held_ex (IntKind.i64.wrap (x + y))
  simp only [hx, hy, hz, Option.bind_some]
  exact ⟨_, rfl⟩
theorem rdue_ex (u : api_Unit) (a b : Int) : ∃ x y, retry_Due u a b = some (x, y, ()) := by
  unfold retry_Due
  obtain ⟨r, hr⟩ := again_ex u.Restart a
  obtain ⟨z, hz⟩ := sum_ex b u.Pause
  simp only [hr, hz, Option.bind_some]
  split
  · exact ⟨_, _, rfl⟩
  · exact ⟨_, _, rfl⟩
theorem tell_ex (r : api_Run) (n : Int) : ∃ x, run_Tell r n = some (x, ()) ∧ (0 < r.Part → 0 < x.Part) := by
  unfold run_Tell
  by_cases h1 : r.Part > 0
  · by_cases h2 : r.Told < 0
    · exact ⟨{ r with Told := n }, by simp [h1, h2], fun h => h⟩
    · exact ⟨r, by simp [h1, h2], fun h => h⟩
  · exact ⟨r, by simp [h1], fun h => h⟩
theorem rests_wish (s : service_course) (hw : s.c.Wish = true) (hB : s.out.Back = []) (hR : s.out.Rows.length ≤ 1000) (hS : s.c.Serves.length ≤ 1048576) :
    ∃ (st n : Int) (b : List api_Conn) (r : api_Row) (f : Bool), (st = 0 ∨ st = 9) ∧ service_course_rests s = some ({ s with c := { s.c with Main := Run0, Aux := Run0, Over := 1099511627776, Serves := [], State := st, Since := s.now, Rows := n }, out := { s.out with Back := b, Rows := s.out.Rows ++ [r], Failed := f } }, ()) := by
  unfold service_course_rests
  simp only
  have hl : s.c.Serves.length < 4611686018427387904 := by omega
  rw [loopS_forR (S := service_course × Unit) s.c.Serves (fun _ x t => (apN 48 t.1.out.Back [{ x with Until := 0 }]).bind fun v => some (.inl ({ t.1 with out := { t.1.out with Back := v } }, ()))) (fun t => service_course_rests_e1 t.1) hl]
  · obtain ⟨t, h1, b, h2, h3⟩ := forR_inv (fin := fun t => service_course_rests_e1 t.1) (stp := fun _ (x : api_Conn) (t : service_course × Unit) => (apN 48 t.1.out.Back [{ x with Until := 0 }]).bind fun v => some (.inl ({ t.1 with out := { t.1.out with Back := v } }, ())))
      (fun i (t : service_course × Unit) => ∃ b : List api_Conn, t.1 = { s with c := { s.c with Main := Run0, Aux := Run0, Over := 1099511627776 }, out := { s.out with Back := b } } ∧ b.length = i) s.c.Serves 0
      ({ s with c := { s.c with Main := Run0, Aux := Run0, Over := 1099511627776 } }, ()) ⟨[], by simp [← hB], rfl⟩ (fun j x t hx ⟨b, h1, h2⟩ => by
        have hj : j < s.c.Serves.length := (List.getElem?_eq_some_iff.1 hx).1
        rw [h1]
        refine ⟨_, by simp only [apN, List.length_singleton]; rw [if_pos ⟨by omega, by omega⟩, Option.bind_some], ?_⟩
        exact ⟨b ++ [{ x with Until := 0 }], rfl, by simp [h2]⟩)
    rw [h1, h2]
    unfold service_course_rests_e1
    obtain ⟨x, y, hd⟩ := rdue_ex s.c.U s.c.Result s.now
    simp only [hd, Option.bind_some, hw, if_true]
    by_cases h3 : s.c.Result = 3
    · have h3' : (s.c.Result == 3) = true := by simp [h3]
      simp only [h3', if_true, Option.bind_some, to_eq]
      rw [row_eq _ _ _ (by simp; omega)]
      simp only [Option.bind_some]
      refine ⟨9, IntKind.i64.wrap (s.c.Rows + 1), b, ⟨s.now, s.c.U.Name, IntKind.i64.wrap (s.c.Rows + 1), 2, ⟨#[102, 97, 105, 108, 101, 100]⟩⟩, true, .inr rfl, ?_⟩
      cases h : s.out.Failed <;> simp
    · have h3' : (s.c.Result == 3) = false := by simp [h3]
      simp only [h3', Bool.false_eq_true, if_false, Option.bind_some, Bool.not_true, to_eq]
      rw [row_eq _ _ _ (by simp; omega)]
      simp only [Option.bind_some]
      refine ⟨0, IntKind.i64.wrap (s.c.Rows + 1), b, ⟨s.now, s.c.U.Name, IntKind.i64.wrap (s.c.Rows + 1), 2, ⟨#[100, 111, 119, 110]⟩⟩, s.out.Failed, .inl rfl, ?_⟩
      cases h : s.out.Failed <;> simp
  · intro i x t hi hx
    obtain ⟨t, u⟩ := t
    simp only [dec_lt hi, if_true]
    rw [idx_some hx]
    simp only [Option.bind_some, apN, wrap_succ hi hl]
    split <;> rfl
  · intro t
    simp only [dec_nlt, Bool.false_eq_true, if_false]
end Go.AW.M

namespace Go.AW.M
open Go.RowKit Go.Proofs
set_option maxRecDepth 100000
theorem runs_eq (r : api_Run) : matinsref39_runs r = some (decide (r.Part > 0), ()) := rfl
theorem time_eq (n : Int) : matinsref22_Time n = some (decide (n ≥ 0) && decide (n < 6311433600), ()) := by
  unfold matinsref22_Time
  simp only [gS, gA, gA', gB, gC, gD, gE, gF, gM, gAnd, gOr, Option.bind_some]
theorem span_eq (n : Int) : matinsref22_Span n = some ((decide (n ≥ 0) && decide (n ≤ 6311433600)) || n == 1099511627776, ()) := by
  unfold matinsref22_Span
  simp only [gS, gA, gA', gB, gC, gD, gE, gF, gM, gAnd, gOr, Option.bind_some]
theorem rest27_eq (c : api_Cell) : ∃ b, matinsref27_Rest c = some (b, ()) := by
  unfold matinsref27_Rest
  simp only [gS, gA, gA', gB, gC, gD, gE, gF, gM, gAnd, gOr, Option.bind_some]
  exact ⟨_, rfl⟩
theorem right_ex (l : List Int) (a b : Int) (h : l.length ≤ 1048576) : ∃ r, matinsref22_right l a b = some (r, ()) := by
  unfold matinsref22_right
  simp only
  have hl : l.length < 4611686018427387904 := by omega
  rw [loopS_forR (S := Unit) l (fun _ x _ => if (decide (x ≥ 0) && decide (x < 6311433600)) = true then some (.inl ()) else some (.inr (false, ()))) (fun _ => matinsref22_right_e1 a b) hl]
  · obtain ⟨r, h1, -⟩ := forR_total (Q := fun _ => True) (fin := fun _ => matinsref22_right_e1 a b) (stp := fun _ (x : Int) (_ : Unit) => if (decide (x ≥ 0) && decide (x < 6311433600)) = true then some (.inl ()) else some (.inr (false, ()))) (fun _ _ => True) l 0 () trivial (fun j x t hx _ => by
        by_cases hc : (decide (x ≥ 0) && decide (x < 6311433600)) = true
        · exact .inl ⟨(), by rw [if_pos hc], trivial⟩
        · exact .inr ⟨_, by rw [if_neg hc], trivial⟩) (fun t _ => by
        unfold matinsref22_right_e1
        simp only [time_eq, span_eq, gS, gA, gA', gB, gC, gD, gE, gF, gM, gAnd, gOr, Option.bind_some]
        exact ⟨_, rfl, trivial⟩)
    exact ⟨r.1, h1⟩
  · intro i x t hi hx
    simp only [dec_lt hi, if_true]
    rw [idx_some hx]
    simp only [Option.bind_some, time_eq, wrap_succ hi hl]
    cases (decide (x ≥ 0) && decide (x < 6311433600)) <;> rfl
  · intro t
    simp only [dec_nlt, Bool.false_eq_true, if_false]
theorem keep_ex (l : List Int) (a b : Int) (h : l.length ≤ 1048576) : ∃ r, matinsref22_Keep l a b = some (r, ()) := by
  unfold matinsref22_Keep
  obtain ⟨r, hr⟩ := right_ex l a b h
  simp only [hr, Option.bind_some]
  split
  · exact ⟨_, rfl⟩
  have hl : l.length < 4611686018427387904 := by omega
  rw [loopS_forR (S := List Int × Unit) l (fun _ x s => if (decide (x ≤ a) && (b == 1099511627776 || decide (IntKind.i64.wrap (a - x) < b))) = true then (apN 8 s.1 [x]).bind fun v => some (.inl (v, ())) else some (.inl s)) (fun s => some (s.1, ())) hl]
  · obtain ⟨s, h1, h2⟩ := forR_inv (fin := fun s => some (s.1, ())) (stp := fun _ (x : Int) (s : List Int × Unit) => if (decide (x ≤ a) && (b == 1099511627776 || decide (IntKind.i64.wrap (a - x) < b))) = true then (apN 8 s.1 [x]).bind fun v => some (.inl (v, ())) else some (.inl s))
      (fun i s => s.1.length ≤ i) l 0 ([], ()) (by simp) (fun j x s hx hs => by
        have hj : j < l.length := (List.getElem?_eq_some_iff.1 hx).1
        split
        · refine ⟨_, by simp only [apN, List.length_singleton]; rw [if_pos ⟨by omega, by omega⟩, Option.bind_some], ?_⟩
          simp; omega
        · exact ⟨s, rfl, by omega⟩)
    exact ⟨_, h1⟩
  · intro i x s hi hx
    obtain ⟨s, u⟩ := s
    simp only [dec_lt hi, if_true]
    rw [idx_some hx]
    simp only [gS, gA, gA', gB, gC, gD, gE, gF, gM, gAnd, gOr, Option.bind_some, apN, wrap_succ hi hl]
    split
    · split <;> rfl
    · rfl
  · intro s
    simp only [dec_nlt, Bool.false_eq_true, if_false, Option.bind_some]
theorem service_ex (c : api_Cell) (h : c.Fit 1048576) : ∃ b, matinsref39_service c = some (b, ()) := by
  unfold matinsref39_service
  obtain ⟨x, hx⟩ := rest27_eq c
  simp only [gS, gA, gA', gB, gC, gD, gE, gF, gM, gAnd, gOr, Option.bind_some, runs_eq, hx]
  generalize (if (c.State == 1) = true then (1 : Int) else if (c.State == 3) = true then 3 else if (c.State == 5) = true then 5 else if (c.State == 6) = true then 4 else 0) = part
  split
  · exact ⟨_, rfl⟩
  split
  · exact ⟨_, rfl⟩
  split
  · exact ⟨_, rfl⟩
  split
  · rename_i hc
    have hp : 0 < c.Begins.length := by
      simp only [Bool.and_eq_true, decide_eq_true_eq] at hc
      have := hc.1; omega
    have hl : c.Begins.length ≤ 1048576 := h.2.1
    have hw : IntKind.i64.wrap (((c.Begins.length : Nat) : Int) - 1) = ((c.Begins.length - 1 : Nat) : Int) := by rw [wrap_in (by omega) (by omega)]; omega
    rw [hw]
    have hlt : c.Begins.length - 1 < c.Begins.length := by omega
    rw [idx_some (List.getElem?_eq_getElem hlt)]
    obtain ⟨r, hr⟩ := keep_ex c.Begins (c.Begins[c.Begins.length - 1]) c.U.Every hl
    simp only [Option.bind_some, hr]
    exact ⟨_, rfl⟩
  · exact ⟨_, rfl⟩
theorem cell_fact (c : api_Cell) (h : c.Fit 1048576) : ∃ b, matinsref39_Cell c = some (b, ()) ∧ (b = true → (0 ≤ c.State ∧ c.State ≤ 9) ∧ (c.U.Kind ≠ 1 → c.State = 0 ∨ c.State = 4 ∨ c.State = 9)) := by
  obtain ⟨x, hx⟩ := service_ex c h
  unfold matinsref39_Cell
  simp only [gS, gA, gA', gB, gC, gD, gE, gF, gM, gAnd, gOr, Option.bind_some, runs_eq, hx]
  split
  · exact ⟨false, rfl, fun h => by cases h⟩
  · rename_i hc
    simp only [Bool.or_eq_true, decide_eq_true_eq, not_or, Int.not_lt] at hc
    have h1 : 0 ≤ c.State ∧ c.State ≤ 9 := by omega
    split
    · rename_i hk
      exact ⟨_, rfl, fun _ => ⟨h1, fun hn => absurd (by simpa using hk) hn⟩⟩
    · refine ⟨_, rfl, fun hb => ⟨h1, fun _ => ?_⟩⟩
      simp only [Bool.and_eq_true, Bool.or_eq_true, beq_iff_eq] at hb
      have := hb.1.1.1.1
      rcases this with (h | h) | h
      · exact .inl h
      · exact .inr (.inl h)
      · exact .inr (.inr h)
theorem sane_ex (c : api_Cell) : ∃ b, matinslaw34_sane c = some (b, ()) := by
  unfold matinslaw34_sane
  simp only [gS, gA, gA', gB, gC, gD, gE, gF, gM, gAnd, gOr, Option.bind_some]
  exact ⟨_, rfl⟩
theorem letter_ex (n : Int) : ∃ b, matinsref1_Letter n = some (b, ()) := by
  unfold matinsref1_Letter
  simp only [gS, gA, gA', gB, gC, gD, gE, gF, gM, gAnd, gOr, Option.bind_some]
  exact ⟨_, rfl⟩
theorem digit_ex (n : Int) : ∃ b, matinsref1_Digit n = some (b, ()) := by
  unfold matinsref1_Digit
  simp only [gS, gA, gA', gB, gC, gD, gE, gF, gM, gAnd, gOr, Option.bind_some]
  exact ⟨_, rfl⟩
theorem nameByte_ex (n : Int) : ∃ b, matinsref1_nameByte n = some (b, ()) := by
  unfold matinsref1_nameByte
  obtain ⟨x, hx⟩ := letter_ex n
  obtain ⟨y, hy⟩ := digit_ex n
  simp only [gS, gA, gA', gB, gC, gD, gE, gF, gM, gAnd, gOr, Option.bind_some, hx, hy]
  exact ⟨_, rfl⟩
theorem suffix_ex (n : Int) : ∃ b, matinsref1_Suffix n = some (b, ()) ∧ b.size ≤ 7 := by
  unfold matinsref1_Suffix
  simp only
  split
  · exact ⟨_, rfl, by decide⟩
  split
  · exact ⟨_, rfl, by decide⟩
  split
  · exact ⟨_, rfl, by decide⟩
  split
  · exact ⟨_, rfl, by decide⟩
  · exact ⟨_, rfl, by decide⟩
theorem sidx_some (s : ByteArray) (i : Nat) (h : i < s.size) : (if 0 ≤ (i : Int) ∧ (i : Int) < ((s.size : Nat) : Int) then some ((((s.data.toList.getD ((i : Int)).toNat 0).toNat : Nat) : Int)) else none) = some (((s.data.toList.getD i 0).toNat : Nat) : Int) := by
  rw [if_pos ⟨by omega, by omega⟩, Int.toNat_natCast]
theorem of1_ex (a : matinsref1_Cut) (b c : ByteArray) : ∃ r, matinsref1_Of_e1 a b c = some (r, ()) := ⟨_, rfl⟩
theorem of2_ex (a : matinsref1_Cut) (b c : ByteArray) (hb : b.size ≤ 60) (hc : c.size ≤ 60) : ∃ r, matinsref1_Of_e2 a b c = some (r, ()) := by
  unfold matinsref1_Of_e2
  simp only
  split
  · exact ⟨_, rfl⟩
  rw [if_pos (by omega), Option.bind_some]
  have hs : (b ++ c).size ≤ 120 := by rw [ByteArray.size_append]; omega
  generalize b ++ c = s at hs
  refine ex_unit (loopS_total (Q := fun _ => True) (fun m (v : Int × Unit) => ∃ i : Nat, v.1 = i ∧ i + m = s.size) s.size ((0 : Int), ()) (by omega) ⟨0, rfl, by omega⟩ (fun m v ⟨i, hi, hm⟩ => ?_))
  · obtain ⟨v1, u⟩ := v
    simp only at hi
    subst hi
    by_cases hlt : i < s.size
    · simp only [dec_lt hlt, if_true]
      rw [sidx_some s i hlt]
      obtain ⟨x, hx⟩ := nameByte_ex (((s.data.toList.getD i 0).toNat : Nat) : Int)
      simp only [Option.bind_some, hx]
      cases x
      · exact .inl ⟨_, rfl, trivial⟩
      · exact .inr ⟨m - 1, (((i + 1 : Nat) : Int), ()), by omega, by simp only [Bool.not_true, Bool.false_eq_true, if_false, wrap_succ hlt (by omega)]; rfl, i + 1, rfl, by omega⟩
    · have : i = s.size := by omega
      subst this
      obtain ⟨r, hr⟩ := of1_ex a b c
      simp only [dec_nlt, Bool.false_eq_true, if_false, hr, Option.bind_some]
      exact .inl ⟨_, rfl, trivial⟩
end Go.AW.M

namespace Go.AW.M
open Go.RowKit Go.Proofs
set_option maxRecDepth 100000
theorem ext_size (s : ByteArray) (a b : Nat) : (s.extract a b).size ≤ s.size := by
  rw [ByteArray.size_extract]; omega
theorem of3_ex (a : ByteArray) (b : matinsref1_Cut) : ∃ r, matinsref1_Of_e3 a b = some (r, ()) := ⟨_, rfl⟩
theorem of4_ex (b : ByteArray) (a : matinsref1_Cut) (hb : b.size ≤ 60) (hc : a.Instance.size ≤ 60) : ∃ r, matinsref1_Of_e4 b a = some (r, ()) := by
  unfold matinsref1_Of_e4
  simp only
  split
  · exact ⟨_, rfl⟩
  rw [if_pos (by omega), Option.bind_some]
  have hs : (b ++ a.Instance).size ≤ 120 := by rw [ByteArray.size_append]; omega
  generalize b ++ a.Instance = s at hs
  refine ex_unit (loopS_total (Q := fun _ => True) (fun m (v : Int × Unit) => ∃ i : Nat, v.1 = i ∧ i + m = s.size) s.size ((0 : Int), ()) (by omega) ⟨0, rfl, by omega⟩ (fun m v ⟨i, hi, hm⟩ => ?_))
  obtain ⟨v1, u⟩ := v
  simp only at hi
  subst hi
  by_cases hlt : i < s.size
  · simp only [dec_lt hlt, if_true]
    rw [sidx_some s i hlt]
    obtain ⟨x, hx⟩ := nameByte_ex (((s.data.toList.getD i 0).toNat : Nat) : Int)
    simp only [Option.bind_some, hx]
    cases x
    · exact .inl ⟨_, rfl, trivial⟩
    · exact .inr ⟨m - 1, (((i + 1 : Nat) : Int), ()), by omega, by simp only [Bool.not_true, Bool.false_eq_true, if_false, wrap_succ hlt (by omega)]; rfl, i + 1, rfl, by omega⟩
  · have : i = s.size := by omega
    subst this
    obtain ⟨r, hr⟩ := of3_ex b a
    simp only [dec_nlt, Bool.false_eq_true, if_false, hr, Option.bind_some]
    exact .inl ⟨_, rfl, trivial⟩
theorem of5_ex (s : ByteArray) (a : matinsref1_Cut) (hb : s.size ≤ 60) (hc : a.Instance.size ≤ 60) : ∃ r, matinsref1_Of_e5 s a = some (r, ()) := by
  unfold matinsref1_Of_e5
  simp only
  split
  · exact ⟨_, rfl⟩
  refine ex_unit (loopS_total (Q := fun _ => True) (fun m (v : Int × Unit) => ∃ i : Nat, v.1 = i ∧ i + m = s.size) s.size ((0 : Int), ()) (by omega) ⟨0, rfl, by omega⟩ (fun m v ⟨i, hi, hm⟩ => ?_))
  obtain ⟨v1, u⟩ := v
  simp only at hi
  subst hi
  by_cases hlt : i < s.size
  · simp only [dec_lt hlt, if_true]
    rw [sidx_some s i hlt]
    simp only [Option.bind_some, wrap_succ hlt (show s.size < 4611686018427387904 by omega)]
    split
    · rw [if_pos ⟨by omega, by omega, by omega⟩, Option.bind_some, if_pos ⟨by omega, by omega, by omega⟩, Option.bind_some]
      obtain ⟨r, hr⟩ := of2_ex a (s.extract (0 : Int).toNat ((i : Nat) : Int).toNat) (s.extract ((i : Int) + 1).toNat ((s.size : Nat) : Int).toNat) (Nat.le_trans (ext_size _ _ _) hb) (Nat.le_trans (ext_size _ _ _) hb)
      rw [hr]
      exact .inl ⟨_, rfl, trivial⟩
    · exact .inr ⟨m - 1, (((i + 1 : Nat) : Int), ()), by omega, rfl, i + 1, rfl, by omega⟩
  · have : i = s.size := by omega
    subst this
    obtain ⟨r, hr⟩ := of4_ex s a hb hc
    simp only [dec_nlt, Bool.false_eq_true, if_false, hr, Option.bind_some]
    exact .inl ⟨_, rfl, trivial⟩
theorem of_ex (s : ByteArray) : ∃ r, matinsref1_Of s = some (r, ()) := by
  unfold matinsref1_Of
  simp only
  split
  · exact ⟨_, rfl⟩
  rename_i hs
  have hs : s.size ≤ 60 := by simp only [decide_eq_true_eq] at hs; omega
  refine ex_unit (loopS_total (Q := fun _ => True) (fun m (v : Int × ByteArray × matinsref1_Cut × Unit) => ∃ i : Nat, v.1 = i ∧ i + m = 5 ∧ v.2.1.size ≤ 60 ∧ v.2.2.1.Instance.size ≤ 60) 4 _ (by omega) ⟨1, rfl, by omega, by decide, by decide⟩ (fun m v ⟨i, hi, hm, hb, hc⟩ => ?_))
  obtain ⟨v1, b, a, u⟩ := v
  simp only at hi hb hc
  subst hi
  simp only [gS, gA, gA', gB, gC, gD, gE, gF, gM, gAnd, gOr, Option.bind_some]
  by_cases hlt : i ≤ 4
  · rw [if_pos (by simp; omega)]
    obtain ⟨x, hx, hx7⟩ := suffix_ex ((i : Nat) : Int)
    simp only [hx, Option.bind_some]
    have h1 : (ByteArray.mk #[46]).size = 1 := rfl
    rw [if_pos (by omega), Option.bind_some]
    have hsz : (ByteArray.mk #[46] ++ x).size = 1 + x.size := by rw [ByteArray.size_append, h1]
    generalize ByteArray.mk #[46] ++ x = d at hsz
    have hw : IntKind.i64.wrap ((i : Int) + 1) = (i : Int) + 1 := wrap_in (by omega) (by omega)
    by_cases hgt : s.size > d.size
    · have hd : decide (((s.size : Nat) : Int) > ((d.size : Nat) : Int)) = true := by simp; omega
      have hwr : IntKind.i64.wrap (((s.size : Nat) : Int) - ((d.size : Nat) : Int)) = ((s.size : Nat) : Int) - ((d.size : Nat) : Int) := wrap_in (by omega) (by omega)
      simp only [hd, hwr, if_true, Bool.true_and, Option.bind_some]
      rw [if_pos ⟨by omega, by omega, by omega⟩]
      simp only [Option.bind_some]
      split
      · rw [if_pos ⟨by omega, by omega, by omega⟩, Option.bind_some, hw]
        exact .inr ⟨m - 1, (((i + 1 : Nat) : Int), _, _, ()), by omega, rfl, i + 1, rfl, by omega, Nat.le_trans (ext_size _ _ _) hs, hc⟩
      · rw [hw]
        exact .inr ⟨m - 1, (((i + 1 : Nat) : Int), b, a, ()), by omega, rfl, i + 1, rfl, by omega, hb, hc⟩
    · have hd : decide (((s.size : Nat) : Int) > ((d.size : Nat) : Int)) = false := by simp; omega
      simp only [hd, Bool.false_eq_true, if_false, Bool.false_and, Option.bind_some, hw]
      exact .inr ⟨m - 1, (((i + 1 : Nat) : Int), b, a, ()), by omega, rfl, i + 1, rfl, by omega, hb, hc⟩
  · rw [if_neg (by simp; omega)]
    obtain ⟨r, hr⟩ := of5_ex b a hb hc
    rw [hr]
    exact .inl ⟨_, rfl, trivial⟩
theorem may1_ex (s : ByteArray) : ∃ r, matinsref1_May s = some (r, ()) := by
  unfold matinsref1_May
  obtain ⟨r, hr⟩ := of_ex s
  simp only [hr, Option.bind_some]
  exact ⟨_, rfl⟩
end Go.AW.M

namespace Go.AW.M
open Go.RowKit Go.Proofs
set_option maxRecDepth 100000
theorem wrap_pred {i : Nat} (h : 0 < i) (hn : i < 4611686018427387904) : IntKind.i64.wrap ((i : Int) - 1) = ((i - 1 : Nat) : Int) := by rw [wrap_in (by omega) (by omega)]; omega
theorem act2_ex (a : api_Act) (i : Nat) (s : api_Said) (hi : i < a.Says.length) (hl : a.Says.length ≤ 4) : ∃ r, matinsref22_mayAct_e2 a (i : Int) s = some r ∧ ((∃ b, r = .inr (b, ())) ∨ r = .inl (((i + 1 : Nat) : Int), ())) := by
  unfold matinsref22_mayAct_e2
  simp only [gS, gA, gA', gB, gC, gD, gE, gF, gM, gAnd, gOr, Option.bind_some, wrap_succ hi (show a.Says.length < 4611686018427387904 by omega)]
  by_cases h0 : 0 < i
  · have hd : decide ((i : Int) > 0) = true := by simp; omega
    simp only [hd, if_true, wrap_pred h0 (show i < 4611686018427387904 by omega)]
    have hlt : i - 1 < a.Says.length := by omega
    rw [idx_some (List.getElem?_eq_getElem hlt)]
    simp only [Option.bind_some]
    split
    · exact ⟨_, rfl, .inl ⟨_, rfl⟩⟩
    · exact ⟨_, rfl, .inr rfl⟩
  · have hd : decide ((i : Int) > 0) = false := by simp; omega
    simp only [hd, Bool.false_eq_true, if_false, Option.bind_some]
    exact ⟨_, rfl, .inr rfl⟩
theorem text_ex (t : ByteArray) (ht : t.size ≤ 100) (a : api_Act) (i : Nat) (s : api_Said) (hi : i < a.Says.length) (hl : a.Says.length ≤ 4) :
    ∃ r, loopS (fun s72 : Int × Unit =>
      if decide (s72.1 < ((t.size : Nat) : Int)) = true then
        (if 0 ≤ s72.1 ∧ s72.1 < ((t.size : Nat) : Int) then some (((t.data.toList.getD s72.1.toNat 0).toNat : Nat) : Int) else none).bind fun v75 =>
          (if (!decide (v75 < 32)) = true then (if 0 ≤ s72.1 ∧ s72.1 < ((t.size : Nat) : Int) then some (((t.data.toList.getD s72.1.toNat 0).toNat : Nat) : Int) else none).bind fun v => some (some v) else some none).bind fun v78 =>
          (if (!decide (v75 < 32)) = true then (v78.bind fun v78o20 => some (decide (v78o20 > 126))).bind fun v => some (some v) else some none).bind fun v79 =>
          (if decide (v75 < 32) = true then some true else v79.bind fun y => some y).bind fun v80 =>
          if v80 = true then matinsref22_mayAct_e1.bind fun r => some (Sum.inr r)
          else some (Sum.inl (IntKind.i64.wrap (s72.1 + 1), ()))
      else (matinsref22_mayAct_e2 a (i : Int) s).bind fun r => some (Sum.inr r)) ((0 : Int), ()) = some r ∧ ((∃ b, r = .inr (b, ())) ∨ r = .inl (((i + 1 : Nat) : Int), ())) := by
  refine loopS_total (fun m (v : Int × Unit) => ∃ j : Nat, v.1 = j ∧ j + m = t.size) t.size ((0 : Int), ()) (by omega) ⟨0, rfl, by omega⟩ (fun m v ⟨j, hj, hm⟩ => ?_)
  obtain ⟨v1, u⟩ := v
  simp only at hj
  subst hj
  by_cases hlt : j < t.size
  · simp only [dec_lt hlt, if_true]
    rw [sidx_some t j hlt]
    simp only [gS, gA, gA', gB, gC, gD, gE, gF, gM, gAnd, gOr, Option.bind_some, wrap_succ hlt (show t.size < 4611686018427387904 by omega)]
    split
    · exact .inl ⟨_, rfl, .inl ⟨_, rfl⟩⟩
    · exact .inr ⟨m - 1, (((j + 1 : Nat) : Int), ()), by omega, rfl, j + 1, rfl, by omega⟩
  · have : j = t.size := by omega
    subst this
    obtain ⟨r, hr, hq⟩ := act2_ex a i s hi hl
    simp only [dec_nlt, Bool.false_eq_true, if_false, hr, Option.bind_some]
    exact .inl ⟨_, rfl, hq⟩
theorem act_ex (a : api_Act) : ∃ r, matinsref22_mayAct a = some (r, ()) := by
  unfold matinsref22_mayAct
  obtain ⟨r, hr⟩ := of_ex a.Unit_
  simp only [gS, gA, gA', gB, gC, gD, gE, gF, gM, gAnd, gOr, Option.bind_some, hr, span_eq]
  split
  · exact ⟨_, rfl⟩
  split
  · exact ⟨_, rfl⟩
  rename_i hc
  have hl : a.Says.length ≤ 4 := by
    simp only [Bool.or_eq_true, decide_eq_true_eq, not_or] at hc
    have := hc.2; omega
  refine ex_unit (loopS_total (Q := fun _ => True) (fun m (v : Int × Unit) => ∃ i : Nat, v.1 = i ∧ i + m = a.Says.length) a.Says.length ((0 : Int), ()) (by omega) ⟨0, rfl, by omega⟩ (fun m v ⟨i, hi, hm⟩ => ?_))
  obtain ⟨v1, u⟩ := v
  simp only at hi
  subst hi
  by_cases hlt : i < a.Says.length
  · simp only [dec_lt hlt, if_true]
    rw [idx_some (List.getElem?_eq_getElem hlt)]
    generalize a.Says[i] = s
    simp only [Option.bind_some]
    generalize (!(decide (s.After ≥ 0) && decide (s.After ≤ 6311433600) || s.After == 1099511627776) || s.After == 1099511627776) = b
    cases b with
    | true => exact .inl ⟨_, rfl, trivial⟩
    | false =>
      simp only [Bool.false_eq_true, if_false, Bool.not_false, if_true, Option.bind_some]
      split
      · exact .inl ⟨_, rfl, trivial⟩
      · rename_i hs
        have hs : s.Text.size ≤ 100 := by simp only [decide_eq_true_eq] at hs; omega
        obtain ⟨r, h1, h2⟩ := text_ex s.Text hs a i s hlt hl
        rw [h1]
        rcases h2 with ⟨b, rfl⟩ | rfl
        · exact .inl ⟨_, rfl, trivial⟩
        · exact .inr ⟨m - 1, _, by omega, rfl, i + 1, rfl, by omega⟩
  · have : i = a.Says.length := by omega
    subst this
    simp only [dec_nlt, Bool.false_eq_true, if_false]
    exact .inl ⟨_, rfl, trivial⟩
end Go.AW.M

namespace Go.AW.M
open Go.RowKit Go.Proofs
set_option maxRecDepth 100000
theorem maye3_ex (w : api_World) (hl : w.Asks.length ≤ 1048576) : ∃ r, matinsref22_May_e3 w = some (r, ()) := by
  unfold matinsref22_May_e3
  simp only
  refine ex_unit (loopS_total (Q := fun _ => True) (fun m (v : Int × Unit) => ∃ i : Nat, v.1 = i ∧ i + m = w.Asks.length) w.Asks.length ((0 : Int), ()) (by omega) ⟨0, rfl, by omega⟩ (fun m v ⟨i, hi, hm⟩ => ?_))
  obtain ⟨v1, u⟩ := v
  simp only at hi
  subst hi
  by_cases hlt : i < w.Asks.length
  · simp only [dec_lt hlt, if_true]
    rw [idx_some (List.getElem?_eq_getElem hlt)]
    generalize w.Asks[i] = s
    obtain ⟨r, hr⟩ := may1_ex s.Unit_
    simp only [gS, gA, gA', gB, gC, gD, gE, gF, gM, gAnd, gOr, Option.bind_some, time_eq, hr, wrap_succ hlt (show w.Asks.length < 4611686018427387904 by omega)]
    generalize (!(decide (s.At ≥ 0) && decide (s.At < 6311433600)) || !r || decide (s.Type_ < 1) || decide (s.Type_ > 4)) = b
    cases b with
    | true => exact .inl ⟨(false, ()), by simp, trivial⟩
    | false =>
      by_cases h0 : 0 < i
      · have hd : decide ((i : Int) > 0) = true := by simp; omega
        have hlt' : i - 1 < w.Asks.length := by omega
        simp only [hd, Bool.not_false, Bool.and_self, if_true, wrap_pred h0 (show i < 4611686018427387904 by omega)]
        rw [idx_some (List.getElem?_eq_getElem hlt')]
        simp only [Option.bind_some, Bool.false_eq_true, if_false]
        split
        · exact .inl ⟨_, rfl, trivial⟩
        · exact .inr ⟨m - 1, (((i + 1 : Nat) : Int), ()), by omega, rfl, i + 1, rfl, by omega⟩
      · have hd : decide ((i : Int) > 0) = false := by simp; omega
        simp only [hd, Bool.and_false, Bool.not_false, Bool.false_eq_true, if_true, if_false, Option.bind_some]
        exact .inr ⟨m - 1, (((i + 1 : Nat) : Int), ()), by omega, rfl, i + 1, rfl, by omega⟩
  · have : i = w.Asks.length := by omega
    subst this
    simp only [dec_nlt, Bool.false_eq_true, if_false]
    exact .inl ⟨_, rfl, trivial⟩
theorem maye4_ex (w : api_World) (hl : w.Calls.length ≤ 1048576) (ha : w.Asks.length ≤ 1048576) : ∃ r, matinsref22_May_e4 w = some (r, ()) := by
  unfold matinsref22_May_e4
  simp only
  refine ex_unit (loopS_total (Q := fun _ => True) (fun m (v : Int × Unit) => ∃ i : Nat, v.1 = i ∧ i + m = w.Calls.length) w.Calls.length ((0 : Int), ()) (by omega) ⟨0, rfl, by omega⟩ (fun m v ⟨i, hi, hm⟩ => ?_))
  obtain ⟨v1, u⟩ := v
  simp only at hi
  subst hi
  by_cases hlt : i < w.Calls.length
  · simp only [dec_lt hlt, if_true]
    rw [idx_some (List.getElem?_eq_getElem hlt)]
    generalize w.Calls[i] = s
    simp only [gS, gA, gA', gB, gC, gD, gE, gF, gM, gAnd, gOr, Option.bind_some, time_eq, span_eq, wrap_succ hlt (show w.Calls.length < 4611686018427387904 by omega)]
    generalize (!(decide (s.At ≥ 0) && decide (s.At < 6311433600)) || decide (s.Port < 1) || decide (s.Port > 65535) || !(decide (s.Takes ≥ 0) && decide (s.Takes ≤ 6311433600) || s.Takes == 1099511627776) || s.Takes == 1099511627776) = b
    cases b with
    | true => exact .inl ⟨(false, ()), by simp, trivial⟩
    | false =>
      by_cases h0 : 0 < i
      · have hd : decide ((i : Int) > 0) = true := by simp; omega
        have hlt' : i - 1 < w.Calls.length := by omega
        simp only [hd, Bool.not_false, Bool.and_self, if_true, wrap_pred h0 (show i < 4611686018427387904 by omega)]
        rw [idx_some (List.getElem?_eq_getElem hlt')]
        simp only [Option.bind_some, Bool.false_eq_true, if_false]
        split
        · exact .inl ⟨_, rfl, trivial⟩
        · exact .inr ⟨m - 1, (((i + 1 : Nat) : Int), ()), by omega, rfl, i + 1, rfl, by omega⟩
      · have hd : decide ((i : Int) > 0) = false := by simp; omega
        simp only [hd, Bool.and_false, Bool.not_false, Bool.false_eq_true, if_true, if_false, Option.bind_some]
        exact .inr ⟨m - 1, (((i + 1 : Nat) : Int), ()), by omega, rfl, i + 1, rfl, by omega⟩
  · have : i = w.Calls.length := by omega
    subst this
    obtain ⟨r, hr⟩ := maye3_ex w ha
    simp only [dec_nlt, Bool.false_eq_true, if_false, hr, Option.bind_some]
    exact .inl ⟨_, rfl, trivial⟩
theorem may22_ex (w : api_World) (hc : w.Calls.length ≤ 1048576) (hk : w.Asks.length ≤ 1048576) (hl : w.Acts.length ≤ 1048576) : ∃ r, matinsref22_May w = some (r, ()) := by
  unfold matinsref22_May
  simp only [gS, gA, gA', gB, gC, gD, gE, gF, gM, gAnd, gOr, Option.bind_some]
  split
  · exact ⟨_, rfl⟩
  refine ex_unit (loopS_total (Q := fun _ => True) (fun m (v : Int × Unit) => ∃ i : Nat, v.1 = i ∧ i + m = w.Acts.length) w.Acts.length ((0 : Int), ()) (by omega) ⟨0, rfl, by omega⟩ (fun m v ⟨i, hi, hm⟩ => ?_))
  obtain ⟨v1, u⟩ := v
  simp only at hi
  subst hi
  by_cases hlt : i < w.Acts.length
  · simp only [dec_lt hlt, if_true]
    rw [idx_some (List.getElem?_eq_getElem hlt)]
    generalize w.Acts[i] = s
    obtain ⟨r, hr⟩ := act_ex s
    simp only [hr, Option.bind_some]
    split
    · exact .inl ⟨_, rfl, trivial⟩
    rw [if_pos ⟨by omega, by omega, by omega⟩, Option.bind_some]
    have hd : (List.drop (0 : Int).toNat (List.take ((i : Nat) : Int).toNat w.Acts)).length ≤ 1048576 := by
      simp; omega
    generalize List.drop (0 : Int).toNat (List.take ((i : Nat) : Int).toNat w.Acts) = l at hd
    refine step_of (loopS_total (fun m (v : Int × Unit) => ∃ j : Nat, v.1 = j ∧ j + m = l.length) l.length ((0 : Int), ()) (by omega) ⟨0, rfl, by omega⟩ (fun m2 v ⟨j, hj, hm2⟩ => ?_))
    obtain ⟨v2, u2⟩ := v
    simp only at hj
    subst hj
    by_cases hlt2 : j < l.length
    · simp only [dec_lt hlt2, if_true]
      rw [idx_some (List.getElem?_eq_getElem hlt2)]
      generalize l[j] = s2
      simp only [gS, gA, gA', gB, gC, gD, gE, gF, gM, gAnd, gOr, Option.bind_some, wrap_succ hlt2 (show l.length < 4611686018427387904 by omega)]
      split
      · exact .inl ⟨_, rfl, .inl ⟨_, rfl, trivial⟩⟩
      · exact .inr ⟨m2 - 1, (((j + 1 : Nat) : Int), ()), by omega, rfl, j + 1, rfl, by omega⟩
    · have : j = l.length := by omega
      subst this
      simp only [dec_nlt, Bool.false_eq_true, if_false]
      unfold matinsref22_May_e2
      simp only [Option.bind_some, wrap_succ hlt (show w.Acts.length < 4611686018427387904 by omega)]
      exact .inl ⟨_, rfl, .inr ⟨m - 1, (((i + 1 : Nat) : Int), ()), by omega, rfl, i + 1, rfl, by omega⟩⟩
  · have : i = w.Acts.length := by omega
    subst this
    obtain ⟨r, hr⟩ := maye4_ex w hc hk
    simp only [dec_nlt, Bool.false_eq_true, if_false, hr, Option.bind_some]
    exact .inl ⟨_, rfl, trivial⟩
theorem may_fact (w : api_World) (c : api_Cell) (now : Int) (hw : w.Fit 1048576) (h : c.Fit 1048576) :
    ∃ b, matinslaw34_may w c now = some (b, ()) ∧ (b = true → ((0 ≤ c.State ∧ c.State ≤ 9) ∧ (c.U.Kind ≠ 1 → c.State = 0 ∨ c.State = 4 ∨ c.State = 9)) ∧ c.Waits.length ≤ 64) := by
  obtain ⟨a, ha⟩ := may22_ex w hw.2.1 hw.2.2 hw.1.1
  obtain ⟨b, hb, hb'⟩ := cell_fact c h
  obtain ⟨s, hs⟩ := sane_ex c
  unfold matinslaw34_may
  simp only [gS, gA, gA', gB, gC, gD, gE, gF, gM, gAnd, gOr, Option.bind_some, time_eq, ha, hb, hs]
  refine ⟨_, rfl, fun hh => ?_⟩
  simp only [Bool.and_eq_true, decide_eq_true_eq] at hh
  obtain ⟨⟨⟨⟨⟨⟨_, h1⟩, _⟩, _⟩, _⟩, _⟩, h2⟩ := hh
  exact ⟨hb' h1, by omega⟩
end Go.AW.M
