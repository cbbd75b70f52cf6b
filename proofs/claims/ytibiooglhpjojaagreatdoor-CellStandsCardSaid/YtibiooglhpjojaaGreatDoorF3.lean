/- basis.nums, ints, texts, commands, Unit, Cell over a book that leaves all as it is. Printed by basis3.py. -/
import Derived.Test.YtibiooglhpjojaaGreatDoorF2
set_option linter.unusedSimpArgs false
set_option linter.unusedVariables false
namespace Go.AW
open Go.RowKit Go.Proofs
set_option maxRecDepth 10000

theorem each_118 (ps : List AV) (st : St) (hl : ps.length ≤ 4611686018427387904) : Ct Tryz.prog 118 [still, .psl 1 (ps.map fun a => [a])] st (fun r s => r = .tup [] ∧ s = st) := by
  refine Ct.of_textR mo Tryz.func118 rfl [] (by kernel_rfl) (by kernel_rfl) Tryz.ntmps118 (Nat.le_of_ble_eq_true rfl) Tryz.results118 ?_
  unfold still at *
  simp -implicitDefEqProofs only [AWB, List.lookup_nil, ↓upd_hit, ↓upd_if, ↓reduceIte, List.nil_append, List.cons_append, List.length_cons, List.length_nil, List.getElem?_cons_zero, List.getElem?_cons_succ, Option.getD_some, Nat.reduceAdd, Nat.reduceLT, Nat.reduceLeDiff, Nat.reduceEqDiff, Nat.reduceBEq, ne_eq, reduceCtorEq, List.all_cons, List.all_nil, implies_true, List.getD_cons_zero, List.getD_cons_succ, List.append_eq, Int.reduceBEq, beq_self_eq_true, nd_118, List.length_map]
  refine loopR_ext (fun n tm s => ∃ i : Nat, i ≤ ps.length ∧ n = ps.length - i ∧ tm 0 = .ifc 111 (.agg []) ∧ tm 6 = .psl 1 (ps.map fun a => [a]) ∧ tm 7 = .d (int ps.length) ∧ tm 8 = .d (int i) ∧ s = st) ps.length
    ⟨0, by omega, by omega, rfl, rfl, rfl, rfl, St.ext_nil st⟩ ?_
  rintro n tm _ ⟨i, hi, hn, t0, t6, t7, t8, rfl⟩
  by_cases hlt : i < ps.length
  · have e1 : decide ((i : Int) < (ps.length : Int)) = true := by simp; omega
    have e3 : (0 : Int) ≤ (i : Int) := by omega
    have e4 : (i : Int) < (ps.length : Int) := by omega
    have e2 : (ps.map fun a => [a]).getD (i : Int).toNat [] = [ps[i]] := by simp [hlt]
    have e5 : IntKind.wrap .i64 ((i : Int) + 1) = ((i + 1 : Nat) : Int) := by rw [wrap_id _ (by omega) (by omega)]; omega
    simp -implicitDefEqProofs only [AWB, List.lookup_nil, ↓upd_hit, ↓upd_if, ↓reduceIte, List.nil_append, List.cons_append, List.length_cons, List.length_nil, List.getElem?_cons_zero, List.getElem?_cons_succ, Option.getD_some, Nat.reduceAdd, Nat.reduceLT, Nat.reduceLeDiff, Nat.reduceEqDiff, Nat.reduceBEq, ne_eq, reduceCtorEq, List.all_cons, List.all_nil, implies_true, List.getD_cons_zero, List.getD_cons_succ, List.append_eq, Int.reduceBEq, beq_self_eq_true, nd_118, t0, t6, t7, t8, e1, e2, e3, e4, List.length_map, sub_get (cells := [ps[i]]) (off := 0) (n := 1) rfl]
    refine Iv_ct me_Int (Int_ct _ _) rfl ?_
    simp -implicitDefEqProofs only [AWB, List.lookup_nil, ↓upd_hit, ↓upd_if, ↓reduceIte, List.nil_append, List.cons_append, List.length_cons, List.length_nil, List.getElem?_cons_zero, List.getElem?_cons_succ, Option.getD_some, Nat.reduceAdd, Nat.reduceLT, Nat.reduceLeDiff, Nat.reduceEqDiff, Nat.reduceBEq, ne_eq, reduceCtorEq, List.all_cons, List.all_nil, implies_true, List.getD_cons_zero, List.getD_cons_succ, List.append_eq, Int.reduceBEq, beq_self_eq_true, nd_118, t0, t6, t7, t8, e5]
    exact LpR.intro (ps.length - (i + 1)) (by omega) ⟨i + 1, by omega, rfl, t0, t6, t7, rfl, St.ext_nil _⟩
  · have e1 : decide ((i : Int) < (ps.length : Int)) = false := by simp; omega
    simp -implicitDefEqProofs only [AWB, List.lookup_nil, ↓upd_hit, ↓upd_if, ↓reduceIte, List.nil_append, List.cons_append, List.length_cons, List.length_nil, List.getElem?_cons_zero, List.getElem?_cons_succ, Option.getD_some, Nat.reduceAdd, Nat.reduceLT, Nat.reduceLeDiff, Nat.reduceEqDiff, Nat.reduceBEq, ne_eq, reduceCtorEq, List.all_cons, List.all_nil, implies_true, List.getD_cons_zero, List.getD_cons_succ, List.append_eq, Int.reduceBEq, beq_self_eq_true, nd_118, t0, t6, t7, t8, e1]
    exact En_pure (Lw.tupL .nil) ⟨rfl, rfl⟩

theorem each_119 (ps : List AV) (st : St) (hl : ps.length ≤ 4611686018427387904) (h : ∀ a ∈ ps, Ct Tryz.prog 165 [still, a, .fn (.methodOf 144 "Int") [] []] st (fun r s => r = .tup [] ∧ s = st)) : Ct Tryz.prog 119 [still, .psl 1 (ps.map fun a => [a])] st (fun r s => r = .tup [] ∧ s = st) := by
  refine Ct.of_textR mo Tryz.func119 rfl [] (by kernel_rfl) (by kernel_rfl) Tryz.ntmps119 (Nat.le_of_ble_eq_true rfl) Tryz.results119 ?_
  unfold still at *
  simp -implicitDefEqProofs only [AWB, List.lookup_nil, ↓upd_hit, ↓upd_if, ↓reduceIte, List.nil_append, List.cons_append, List.length_cons, List.length_nil, List.getElem?_cons_zero, List.getElem?_cons_succ, Option.getD_some, Nat.reduceAdd, Nat.reduceLT, Nat.reduceLeDiff, Nat.reduceEqDiff, Nat.reduceBEq, ne_eq, reduceCtorEq, List.all_cons, List.all_nil, implies_true, List.getD_cons_zero, List.getD_cons_succ, List.append_eq, Int.reduceBEq, beq_self_eq_true, nd_119, List.length_map]
  refine loopR_ext (fun n tm s => ∃ i : Nat, i ≤ ps.length ∧ n = ps.length - i ∧ tm 0 = .ifc 111 (.agg []) ∧ tm 6 = .psl 1 (ps.map fun a => [a]) ∧ tm 7 = .d (int ps.length) ∧ tm 8 = .d (int i) ∧ s = st) ps.length
    ⟨0, by omega, by omega, rfl, rfl, rfl, rfl, St.ext_nil st⟩ ?_
  rintro n tm _ ⟨i, hi, hn, t0, t6, t7, t8, rfl⟩
  by_cases hlt : i < ps.length
  · have e1 : decide ((i : Int) < (ps.length : Int)) = true := by simp; omega
    have e3 : (0 : Int) ≤ (i : Int) := by omega
    have e4 : (i : Int) < (ps.length : Int) := by omega
    have e2 : (ps.map fun a => [a]).getD (i : Int).toNat [] = [ps[i]] := by simp [hlt]
    have e5 : IntKind.wrap .i64 ((i : Int) + 1) = ((i + 1 : Nat) : Int) := by rw [wrap_id _ (by omega) (by omega)]; omega
    simp -implicitDefEqProofs only [AWB, List.lookup_nil, ↓upd_hit, ↓upd_if, ↓reduceIte, List.nil_append, List.cons_append, List.length_cons, List.length_nil, List.getElem?_cons_zero, List.getElem?_cons_succ, Option.getD_some, Nat.reduceAdd, Nat.reduceLT, Nat.reduceLeDiff, Nat.reduceEqDiff, Nat.reduceBEq, ne_eq, reduceCtorEq, List.all_cons, List.all_nil, implies_true, List.getD_cons_zero, List.getD_cons_succ, List.append_eq, Int.reduceBEq, beq_self_eq_true, nd_119, t0, t6, t7, t8, e1, e2, e3, e4, List.length_map, sub_get (cells := [ps[i]]) (off := 0) (n := 1) rfl]
    refine Cl_ct (st' := St.ext _ [] []) (v := .tup []) (by rw [St.ext_nil]; exact h _ (List.getElem_mem hlt)) rfl ?_
    simp -implicitDefEqProofs only [AWB, List.lookup_nil, ↓upd_hit, ↓upd_if, ↓reduceIte, List.nil_append, List.cons_append, List.length_cons, List.length_nil, List.getElem?_cons_zero, List.getElem?_cons_succ, Option.getD_some, Nat.reduceAdd, Nat.reduceLT, Nat.reduceLeDiff, Nat.reduceEqDiff, Nat.reduceBEq, ne_eq, reduceCtorEq, List.all_cons, List.all_nil, implies_true, List.getD_cons_zero, List.getD_cons_succ, List.append_eq, Int.reduceBEq, beq_self_eq_true, nd_119, t0, t6, t7, t8, e5]
    exact LpR.intro (ps.length - (i + 1)) (by omega) ⟨i + 1, by omega, rfl, t0, t6, t7, rfl, St.ext_nil _⟩
  · have e1 : decide ((i : Int) < (ps.length : Int)) = false := by simp; omega
    simp -implicitDefEqProofs only [AWB, List.lookup_nil, ↓upd_hit, ↓upd_if, ↓reduceIte, List.nil_append, List.cons_append, List.length_cons, List.length_nil, List.getElem?_cons_zero, List.getElem?_cons_succ, Option.getD_some, Nat.reduceAdd, Nat.reduceLT, Nat.reduceLeDiff, Nat.reduceEqDiff, Nat.reduceBEq, ne_eq, reduceCtorEq, List.all_cons, List.all_nil, implies_true, List.getD_cons_zero, List.getD_cons_succ, List.append_eq, Int.reduceBEq, beq_self_eq_true, nd_119, t0, t6, t7, t8, e1]
    exact En_pure (Lw.tupL .nil) ⟨rfl, rfl⟩

theorem each_161 (ps : List AV) (st : St) (hl : ps.length ≤ 4611686018427387904) (h : ∀ a ∈ ps, Ct Tryz.prog 194 [still, a, .fn (.methodOf 144 "Text") [] []] st (fun r s => r = .tup [] ∧ s = st)) : Ct Tryz.prog 161 [still, .psl 1 (ps.map fun a => [a])] st (fun r s => r = .tup [] ∧ s = st) := by
  refine Ct.of_textR mo Tryz.func161 rfl [] (by kernel_rfl) (by kernel_rfl) Tryz.ntmps161 (Nat.le_of_ble_eq_true rfl) Tryz.results161 ?_
  unfold still at *
  simp -implicitDefEqProofs only [AWB, List.lookup_nil, ↓upd_hit, ↓upd_if, ↓reduceIte, List.nil_append, List.cons_append, List.length_cons, List.length_nil, List.getElem?_cons_zero, List.getElem?_cons_succ, Option.getD_some, Nat.reduceAdd, Nat.reduceLT, Nat.reduceLeDiff, Nat.reduceEqDiff, Nat.reduceBEq, ne_eq, reduceCtorEq, List.all_cons, List.all_nil, implies_true, List.getD_cons_zero, List.getD_cons_succ, List.append_eq, Int.reduceBEq, beq_self_eq_true, nd_161, List.length_map]
  refine loopR_ext (fun n tm s => ∃ i : Nat, i ≤ ps.length ∧ n = ps.length - i ∧ tm 0 = .ifc 111 (.agg []) ∧ tm 6 = .psl 1 (ps.map fun a => [a]) ∧ tm 7 = .d (int ps.length) ∧ tm 8 = .d (int i) ∧ s = st) ps.length
    ⟨0, by omega, by omega, rfl, rfl, rfl, rfl, St.ext_nil st⟩ ?_
  rintro n tm _ ⟨i, hi, hn, t0, t6, t7, t8, rfl⟩
  by_cases hlt : i < ps.length
  · have e1 : decide ((i : Int) < (ps.length : Int)) = true := by simp; omega
    have e3 : (0 : Int) ≤ (i : Int) := by omega
    have e4 : (i : Int) < (ps.length : Int) := by omega
    have e2 : (ps.map fun a => [a]).getD (i : Int).toNat [] = [ps[i]] := by simp [hlt]
    have e5 : IntKind.wrap .i64 ((i : Int) + 1) = ((i + 1 : Nat) : Int) := by rw [wrap_id _ (by omega) (by omega)]; omega
    simp -implicitDefEqProofs only [AWB, List.lookup_nil, ↓upd_hit, ↓upd_if, ↓reduceIte, List.nil_append, List.cons_append, List.length_cons, List.length_nil, List.getElem?_cons_zero, List.getElem?_cons_succ, Option.getD_some, Nat.reduceAdd, Nat.reduceLT, Nat.reduceLeDiff, Nat.reduceEqDiff, Nat.reduceBEq, ne_eq, reduceCtorEq, List.all_cons, List.all_nil, implies_true, List.getD_cons_zero, List.getD_cons_succ, List.append_eq, Int.reduceBEq, beq_self_eq_true, nd_161, t0, t6, t7, t8, e1, e2, e3, e4, List.length_map, sub_get (cells := [ps[i]]) (off := 0) (n := 1) rfl]
    refine Cl_ct (st' := St.ext _ [] []) (v := .tup []) (by rw [St.ext_nil]; exact h _ (List.getElem_mem hlt)) rfl ?_
    simp -implicitDefEqProofs only [AWB, List.lookup_nil, ↓upd_hit, ↓upd_if, ↓reduceIte, List.nil_append, List.cons_append, List.length_cons, List.length_nil, List.getElem?_cons_zero, List.getElem?_cons_succ, Option.getD_some, Nat.reduceAdd, Nat.reduceLT, Nat.reduceLeDiff, Nat.reduceEqDiff, Nat.reduceBEq, ne_eq, reduceCtorEq, List.all_cons, List.all_nil, implies_true, List.getD_cons_zero, List.getD_cons_succ, List.append_eq, Int.reduceBEq, beq_self_eq_true, nd_161, t0, t6, t7, t8, e5]
    exact LpR.intro (ps.length - (i + 1)) (by omega) ⟨i + 1, by omega, rfl, t0, t6, t7, rfl, St.ext_nil _⟩
  · have e1 : decide ((i : Int) < (ps.length : Int)) = false := by simp; omega
    simp -implicitDefEqProofs only [AWB, List.lookup_nil, ↓upd_hit, ↓upd_if, ↓reduceIte, List.nil_append, List.cons_append, List.length_cons, List.length_nil, List.getElem?_cons_zero, List.getElem?_cons_succ, Option.getD_some, Nat.reduceAdd, Nat.reduceLT, Nat.reduceLeDiff, Nat.reduceEqDiff, Nat.reduceBEq, ne_eq, reduceCtorEq, List.all_cons, List.all_nil, implies_true, List.getD_cons_zero, List.getD_cons_succ, List.append_eq, Int.reduceBEq, beq_self_eq_true, nd_161, t0, t6, t7, t8, e1]
    exact En_pure (Lw.tupL .nil) ⟨rfl, rfl⟩

theorem each_158 (ps : List AV) (st : St) (hl : ps.length ≤ 4611686018427387904) (h : ∀ a ∈ ps, Ct Tryz.prog 192 [still, a, .fn (.func 193) [] []] st (fun r s => r = .tup [] ∧ s = st)) : Ct Tryz.prog 158 [still, .psl 1 (ps.map fun a => [a])] st (fun r s => r = .tup [] ∧ s = st) := by
  refine Ct.of_textR mo Tryz.func158 rfl [] (by kernel_rfl) (by kernel_rfl) Tryz.ntmps158 (Nat.le_of_ble_eq_true rfl) Tryz.results158 ?_
  unfold still at *
  simp -implicitDefEqProofs only [AWB, List.lookup_nil, ↓upd_hit, ↓upd_if, ↓reduceIte, List.nil_append, List.cons_append, List.length_cons, List.length_nil, List.getElem?_cons_zero, List.getElem?_cons_succ, Option.getD_some, Nat.reduceAdd, Nat.reduceLT, Nat.reduceLeDiff, Nat.reduceEqDiff, Nat.reduceBEq, ne_eq, reduceCtorEq, List.all_cons, List.all_nil, implies_true, List.getD_cons_zero, List.getD_cons_succ, List.append_eq, Int.reduceBEq, beq_self_eq_true, nd_158, List.length_map]
  refine loopR_ext (fun n tm s => ∃ i : Nat, i ≤ ps.length ∧ n = ps.length - i ∧ tm 0 = .ifc 111 (.agg []) ∧ tm 6 = .psl 1 (ps.map fun a => [a]) ∧ tm 7 = .d (int ps.length) ∧ tm 8 = .d (int i) ∧ s = st) ps.length
    ⟨0, by omega, by omega, rfl, rfl, rfl, rfl, St.ext_nil st⟩ ?_
  rintro n tm _ ⟨i, hi, hn, t0, t6, t7, t8, rfl⟩
  by_cases hlt : i < ps.length
  · have e1 : decide ((i : Int) < (ps.length : Int)) = true := by simp; omega
    have e3 : (0 : Int) ≤ (i : Int) := by omega
    have e4 : (i : Int) < (ps.length : Int) := by omega
    have e2 : (ps.map fun a => [a]).getD (i : Int).toNat [] = [ps[i]] := by simp [hlt]
    have e5 : IntKind.wrap .i64 ((i : Int) + 1) = ((i + 1 : Nat) : Int) := by rw [wrap_id _ (by omega) (by omega)]; omega
    simp -implicitDefEqProofs only [AWB, List.lookup_nil, ↓upd_hit, ↓upd_if, ↓reduceIte, List.nil_append, List.cons_append, List.length_cons, List.length_nil, List.getElem?_cons_zero, List.getElem?_cons_succ, Option.getD_some, Nat.reduceAdd, Nat.reduceLT, Nat.reduceLeDiff, Nat.reduceEqDiff, Nat.reduceBEq, ne_eq, reduceCtorEq, List.all_cons, List.all_nil, implies_true, List.getD_cons_zero, List.getD_cons_succ, List.append_eq, Int.reduceBEq, beq_self_eq_true, nd_158, t0, t6, t7, t8, e1, e2, e3, e4, List.length_map, sub_get (cells := [ps[i]]) (off := 0) (n := 1) rfl]
    refine Cl_ct (st' := St.ext _ [] []) (v := .tup []) (by rw [St.ext_nil]; exact h _ (List.getElem_mem hlt)) rfl ?_
    simp -implicitDefEqProofs only [AWB, List.lookup_nil, ↓upd_hit, ↓upd_if, ↓reduceIte, List.nil_append, List.cons_append, List.length_cons, List.length_nil, List.getElem?_cons_zero, List.getElem?_cons_succ, Option.getD_some, Nat.reduceAdd, Nat.reduceLT, Nat.reduceLeDiff, Nat.reduceEqDiff, Nat.reduceBEq, ne_eq, reduceCtorEq, List.all_cons, List.all_nil, implies_true, List.getD_cons_zero, List.getD_cons_succ, List.append_eq, Int.reduceBEq, beq_self_eq_true, nd_158, t0, t6, t7, t8, e5]
    exact LpR.intro (ps.length - (i + 1)) (by omega) ⟨i + 1, by omega, rfl, t0, t6, t7, rfl, St.ext_nil _⟩
  · have e1 : decide ((i : Int) < (ps.length : Int)) = false := by simp; omega
    simp -implicitDefEqProofs only [AWB, List.lookup_nil, ↓upd_hit, ↓upd_if, ↓reduceIte, List.nil_append, List.cons_append, List.length_cons, List.length_nil, List.getElem?_cons_zero, List.getElem?_cons_succ, Option.getD_some, Nat.reduceAdd, Nat.reduceLT, Nat.reduceLeDiff, Nat.reduceEqDiff, Nat.reduceBEq, ne_eq, reduceCtorEq, List.all_cons, List.all_nil, implies_true, List.getD_cons_zero, List.getD_cons_succ, List.append_eq, Int.reduceBEq, beq_self_eq_true, nd_158, t0, t6, t7, t8, e1]
    exact En_pure (Lw.tupL .nil) ⟨rfl, rfl⟩

theorem if144 : ∀ (args : List AV) (t : TypeId) (v : AV) (st : St) (name : String) (k : FuncId) (Q : AV → St → Prop), Meth Tryz.prog t name k → Ct Tryz.prog k (v :: args) st Q → callA Tryz.prog (.fn (.methodOf 144 name) [] []) (.ifc t v :: args) st Q := by
  intro args t v st name k Q hm hc
  simp only [callA, Tryz.underlying144]
  exact ⟨k, hm, hc⟩
theorem cellish_list {α : Type} (f : α → List DV) (l : List α) (h : ∀ a, ((f a).map AV.d).all cellish = true) : ∀ x ∈ l.map f, (x.map AV.d).all cellish = true := by
  intro x hx
  obtain ⟨a, -, rfl⟩ := List.mem_map.1 hx
  exact h a
theorem length_list {α : Type} (f : α → List DV) (l : List α) (n : Nat) (h : ∀ a, (f a).length = n) : ∀ x ∈ l.map f, x.length = n := by
  intro x hx
  obtain ⟨a, -, rfl⟩ := List.mem_map.1 hx
  exact h a
/-- A list that is no longer than memory lets it be. -/
def Fits {α : Type} (l : List α) : Prop := l.length ≤ 1048576
theorem ints_ct (id off : Nat) (l : List Int) (st : St) (hid : id < st.n) (hx : (st.obj id).2[off]? = some (.d (ints l))) (hb : Fits l) :
    Ct Tryz.prog 165 [still, .ptr id off, .fn (.methodOf 144 "Int") [] []] st (fun r s => r = .tup [] ∧ s = st) := by
  unfold Fits at hb
  exact list_165 id off _ _ st hid hx (length_list _ _ _ fun _ => rfl) (cellish_list _ _ fun _ => rfl) (by rw [List.length_map]; omega) fun st' j x _ _ _ => if144 _ _ _ _ _ _ _ me_Int ((Int_ct _ _).mono fun _ _ h => h.2)
theorem strs_ct (id off : Nat) (l : List ByteArray) (st : St) (hid : id < st.n) (hx : (st.obj id).2[off]? = some (.d (strs l))) (hb : Fits l) :
    Ct Tryz.prog 194 [still, .ptr id off, .fn (.methodOf 144 "Text") [] []] st (fun r s => r = .tup [] ∧ s = st) := by
  unfold Fits at hb
  exact list_194 id off _ _ st hid hx (length_list _ _ _ fun _ => rfl) (cellish_list _ _ fun _ => rfl) (by rw [List.length_map]; omega) fun st' j x _ _ _ => if144 _ _ _ _ _ _ _ me_Text ((Text_ct _ _).mono fun _ _ h => h.2)
theorem relation_ct (id off : Nat) (st : St) : Ct Tryz.prog 157 [still, .ptr id off] st (fun r s => r = .tup [] ∧ s = st) := by
  refine Ct.of_textR mo Tryz.func157 rfl [] (by kernel_rfl) (by kernel_rfl) Tryz.ntmps157 (Nat.le_of_ble_eq_true rfl) Tryz.results157 ?_
  unfold still
  simp -implicitDefEqProofs only [AWB, List.lookup_nil, ↓upd_hit, ↓upd_if, ↓reduceIte, List.nil_append, List.cons_append, List.length_cons, List.length_nil, List.getElem?_cons_zero, List.getElem?_cons_succ, Option.getD_some, Nat.reduceAdd, Nat.reduceLT, Nat.reduceLeDiff, Nat.reduceEqDiff, Nat.reduceBEq, ne_eq, reduceCtorEq, List.all_cons, List.all_nil, implies_true, List.getD_cons_zero, List.getD_cons_succ, List.append_eq, Int.reduceBEq, beq_self_eq_true, nd_157, nk_Int]
  refine Iv_ct me_Int (Int_ct _ _) rfl ?_
  simp -implicitDefEqProofs only [AWB, List.lookup_nil, ↓upd_hit, ↓upd_if, ↓reduceIte, List.nil_append, List.cons_append, List.length_cons, List.length_nil, List.getElem?_cons_zero, List.getElem?_cons_succ, Option.getD_some, Nat.reduceAdd, Nat.reduceLT, Nat.reduceLeDiff, Nat.reduceEqDiff, Nat.reduceBEq, ne_eq, reduceCtorEq, List.all_cons, List.all_nil, implies_true, List.getD_cons_zero, List.getD_cons_succ, List.append_eq, Int.reduceBEq, beq_self_eq_true, nd_157, nk_Text]
  refine Iv_ct me_Text (Text_ct _ _) rfl ?_
  simp -implicitDefEqProofs only [AWB, List.lookup_nil, ↓upd_hit, ↓upd_if, ↓reduceIte, List.nil_append, List.cons_append, List.length_cons, List.length_nil, List.getElem?_cons_zero, List.getElem?_cons_succ, Option.getD_some, Nat.reduceAdd, Nat.reduceLT, Nat.reduceLeDiff, Nat.reduceEqDiff, Nat.reduceBEq, ne_eq, reduceCtorEq, List.all_cons, List.all_nil, implies_true, List.getD_cons_zero, List.getD_cons_succ, List.append_eq, Int.reduceBEq, beq_self_eq_true, nd_157, nk_Text]
  exact En_pure (Lw.tupL .nil) ⟨rfl, rfl⟩
theorem pair_ct (id off : Nat) (st : St) : Ct Tryz.prog 160 [still, .ptr id off] st (fun r s => r = .tup [] ∧ s = st) := by
  refine Ct.of_textR mo Tryz.func160 rfl [] (by kernel_rfl) (by kernel_rfl) Tryz.ntmps160 (Nat.le_of_ble_eq_true rfl) Tryz.results160 ?_
  unfold still
  simp -implicitDefEqProofs only [AWB, List.lookup_nil, ↓upd_hit, ↓upd_if, ↓reduceIte, List.nil_append, List.cons_append, List.length_cons, List.length_nil, List.getElem?_cons_zero, List.getElem?_cons_succ, Option.getD_some, Nat.reduceAdd, Nat.reduceLT, Nat.reduceLeDiff, Nat.reduceEqDiff, Nat.reduceBEq, ne_eq, reduceCtorEq, List.all_cons, List.all_nil, implies_true, List.getD_cons_zero, List.getD_cons_succ, List.append_eq, Int.reduceBEq, beq_self_eq_true, nd_160, nk_Text]
  refine Iv_ct me_Text (Text_ct _ _) rfl ?_
  simp -implicitDefEqProofs only [AWB, List.lookup_nil, ↓upd_hit, ↓upd_if, ↓reduceIte, List.nil_append, List.cons_append, List.length_cons, List.length_nil, List.getElem?_cons_zero, List.getElem?_cons_succ, Option.getD_some, Nat.reduceAdd, Nat.reduceLT, Nat.reduceLeDiff, Nat.reduceEqDiff, Nat.reduceBEq, ne_eq, reduceCtorEq, List.all_cons, List.all_nil, implies_true, List.getD_cons_zero, List.getD_cons_succ, List.append_eq, Int.reduceBEq, beq_self_eq_true, nd_160, nk_Text]
  refine Iv_ct me_Text (Text_ct _ _) rfl ?_
  simp -implicitDefEqProofs only [AWB, List.lookup_nil, ↓upd_hit, ↓upd_if, ↓reduceIte, List.nil_append, List.cons_append, List.length_cons, List.length_nil, List.getElem?_cons_zero, List.getElem?_cons_succ, Option.getD_some, Nat.reduceAdd, Nat.reduceLT, Nat.reduceLeDiff, Nat.reduceEqDiff, Nat.reduceBEq, ne_eq, reduceCtorEq, List.all_cons, List.all_nil, implies_true, List.getD_cons_zero, List.getD_cons_succ, List.append_eq, Int.reduceBEq, beq_self_eq_true, nd_160, nk_Text]
  exact En_pure (Lw.tupL .nil) ⟨rfl, rfl⟩
theorem rels_ct (id off : Nat) (l : List RelT) (st : St) (hid : id < st.n) (hx : (st.obj id).2[off]? = some (.d (RelT.sl l))) (hb : Fits l) :
    Ct Tryz.prog 156 [still, .ptr id off, .fn (.func 157) [] []] st (fun r s => r = .tup [] ∧ s = st) := by
  unfold Fits at hb
  exact list_156 id off _ _ st hid hx (length_list _ _ _ fun _ => rfl) (cellish_list _ _ fun _ => rfl) (by rw [List.length_map]; omega) fun st' j x _ _ _ => by
    rw [callA_fn]; exact (relation_ct _ _ _).mono fun _ _ h => h.2
theorem pairs_ct (id off : Nat) (l : List PairT) (st : St) (hid : id < st.n) (hx : (st.obj id).2[off]? = some (.d (PairT.sl l))) (hb : Fits l) :
    Ct Tryz.prog 159 [still, .ptr id off, .fn (.func 160) [] []] st (fun r s => r = .tup [] ∧ s = st) := by
  unfold Fits at hb
  exact list_159 id off _ _ st hid hx (length_list _ _ _ fun _ => rfl) (cellish_list _ _ fun _ => rfl) (by rw [List.length_map]; omega) fun st' j x _ _ _ => by
    rw [callA_fn]; exact (pair_ct _ _ _).mono fun _ _ h => h.2
theorem command_ct (id : Nat) (x : ExecT) (st : St) (hid : id < st.n) (hx : (st.obj id).2 = x.row) (hb : Fits x.Words) : Ct Tryz.prog 193 [still, .ptr id 0] st (fun r s => r = .tup [] ∧ s = st) := by
  refine Ct.of_textR mo Tryz.func193 rfl [] (by kernel_rfl) (by kernel_rfl) Tryz.ntmps193 (Nat.le_of_ble_eq_true rfl) Tryz.results193 ?_
  unfold still
  simp -implicitDefEqProofs only [AWB, List.lookup_nil, ↓upd_hit, ↓upd_if, ↓reduceIte, List.nil_append, List.cons_append, List.length_cons, List.length_nil, List.getElem?_cons_zero, List.getElem?_cons_succ, Option.getD_some, Nat.reduceAdd, Nat.reduceLT, Nat.reduceLeDiff, Nat.reduceEqDiff, Nat.reduceBEq, ne_eq, reduceCtorEq, List.all_cons, List.all_nil, implies_true, List.getD_cons_zero, List.getD_cons_succ, List.append_eq, Int.reduceBEq, beq_self_eq_true, nd_193, nk_Bool]
  refine Iv_ct me_Bool (Bool_ct _ _) rfl ?_
  simp -implicitDefEqProofs only [AWB, List.lookup_nil, ↓upd_hit, ↓upd_if, ↓reduceIte, List.nil_append, List.cons_append, List.length_cons, List.length_nil, List.getElem?_cons_zero, List.getElem?_cons_succ, Option.getD_some, Nat.reduceAdd, Nat.reduceLT, Nat.reduceLeDiff, Nat.reduceEqDiff, Nat.reduceBEq, ne_eq, reduceCtorEq, List.all_cons, List.all_nil, implies_true, List.getD_cons_zero, List.getD_cons_succ, List.append_eq, Int.reduceBEq, beq_self_eq_true, nd_193, nk_Text]
  refine Bs_p el_215 rfl zl_191 (by decide) (by decide) rfl rfl rfl rfl rfl ?_
  simp -implicitDefEqProofs only [AWB, List.lookup_nil, ↓upd_hit, ↓upd_if, ↓reduceIte, List.nil_append, List.cons_append, List.length_cons, List.length_nil, List.getElem?_cons_zero, List.getElem?_cons_succ, Option.getD_some, Nat.reduceAdd, Nat.reduceLT, Nat.reduceLeDiff, Nat.reduceEqDiff, Nat.reduceBEq, ne_eq, reduceCtorEq, List.all_cons, List.all_nil, implies_true, List.getD_cons_zero, List.getD_cons_succ, List.append_eq, Int.reduceBEq, beq_self_eq_true, nd_193, nk_Text]
  refine Cl_ct (st' := St.ext _ [] []) (v := .tup []) (each_161 [.ptr id 1] _ (by simp) fun a ha => ?_) rfl ?_
  · simp only [List.mem_singleton] at ha
    rw [ha, St.ext_nil]
    exact strs_ct id 1 x.Words st hid (by rw [hx]; rfl) hb
  simp -implicitDefEqProofs only [AWB, List.lookup_nil, ↓upd_hit, ↓upd_if, ↓reduceIte, List.nil_append, List.cons_append, List.length_cons, List.length_nil, List.getElem?_cons_zero, List.getElem?_cons_succ, Option.getD_some, Nat.reduceAdd, Nat.reduceLT, Nat.reduceLeDiff, Nat.reduceEqDiff, Nat.reduceBEq, ne_eq, reduceCtorEq, List.all_cons, List.all_nil, implies_true, List.getD_cons_zero, List.getD_cons_succ, List.append_eq, Int.reduceBEq, beq_self_eq_true, nd_193, nk_Text]
  exact En_pure (Lw.tupL .nil) ⟨rfl, rfl⟩
theorem execs_ct (id off : Nat) (l : List ExecT) (st : St) (hid : id < st.n) (hx : (st.obj id).2[off]? = some (.d (ExecT.sl l))) (hb : Fits l) (hw : ∀ x ∈ l, Fits x.Words) :
    Ct Tryz.prog 192 [still, .ptr id off, .fn (.func 193) [] []] st (fun r s => r = .tup [] ∧ s = st) := by
  unfold Fits at hb
  refine list_192 id off _ _ st hid hx (length_list _ _ _ fun _ => rfl) (cellish_list _ _ fun _ => rfl) (by rw [List.length_map]; omega) fun st' j x hxm hj hrow => ?_
  obtain ⟨e, he, rfl⟩ := List.mem_map.1 hxm
  rw [callA_fn]
  exact (command_ct j e st' hj hrow (hw e he)).mono fun _ _ h => h.2
theorem course_ct (id off : Nat) (st : St) : Ct Tryz.prog 120 [still, .ptr id off] st (fun r s => r = .tup [] ∧ s = st) := by
  refine Ct.of_textR mo Tryz.func120 rfl [] (by kernel_rfl) (by kernel_rfl) Tryz.ntmps120 (Nat.le_of_ble_eq_true rfl) Tryz.results120 ?_
  unfold still
  simp -implicitDefEqProofs only [AWB, List.lookup_nil, ↓upd_hit, ↓upd_if, ↓reduceIte, List.nil_append, List.cons_append, List.length_cons, List.length_nil, List.getElem?_cons_zero, List.getElem?_cons_succ, Option.getD_some, Nat.reduceAdd, Nat.reduceLT, Nat.reduceLeDiff, Nat.reduceEqDiff, Nat.reduceBEq, ne_eq, reduceCtorEq, List.all_cons, List.all_nil, implies_true, List.getD_cons_zero, List.getD_cons_succ, List.append_eq, Int.reduceBEq, beq_self_eq_true, nd_120, nk_Int]
  refine Bs_p el_194 rfl zl_146 (by decide) (by decide) rfl rfl rfl rfl rfl ?_
  simp -implicitDefEqProofs only [AWB, List.lookup_nil, ↓upd_hit, ↓upd_if, ↓reduceIte, List.nil_append, List.cons_append, List.length_cons, List.length_nil, List.getElem?_cons_zero, List.getElem?_cons_succ, Option.getD_some, Nat.reduceAdd, Nat.reduceLT, Nat.reduceLeDiff, Nat.reduceEqDiff, Nat.reduceBEq, ne_eq, reduceCtorEq, List.all_cons, List.all_nil, implies_true, List.getD_cons_zero, List.getD_cons_succ, List.append_eq, Int.reduceBEq, beq_self_eq_true, nd_120, nk_Int]
  refine Cl_ct (each_118 [_, _, _, _, _] _ (by simp)) rfl ?_
  simp -implicitDefEqProofs only [AWB, List.lookup_nil, ↓upd_hit, ↓upd_if, ↓reduceIte, List.nil_append, List.cons_append, List.length_cons, List.length_nil, List.getElem?_cons_zero, List.getElem?_cons_succ, Option.getD_some, Nat.reduceAdd, Nat.reduceLT, Nat.reduceLeDiff, Nat.reduceEqDiff, Nat.reduceBEq, ne_eq, reduceCtorEq, List.all_cons, List.all_nil, implies_true, List.getD_cons_zero, List.getD_cons_succ, List.append_eq, Int.reduceBEq, beq_self_eq_true, nd_120, nk_Bool]
  refine Iv_ct me_Bool (Bool_ct _ _) rfl ?_
  simp -implicitDefEqProofs only [AWB, List.lookup_nil, ↓upd_hit, ↓upd_if, ↓reduceIte, List.nil_append, List.cons_append, List.length_cons, List.length_nil, List.getElem?_cons_zero, List.getElem?_cons_succ, Option.getD_some, Nat.reduceAdd, Nat.reduceLT, Nat.reduceLeDiff, Nat.reduceEqDiff, Nat.reduceBEq, ne_eq, reduceCtorEq, List.all_cons, List.all_nil, implies_true, List.getD_cons_zero, List.getD_cons_succ, List.append_eq, Int.reduceBEq, beq_self_eq_true, nd_120, nk_Int]
  exact En_pure (Lw.tupL .nil) ⟨rfl, rfl⟩
theorem conn_ct (id off : Nat) (st : St) : Ct Tryz.prog 122 [still, .ptr id off] st (fun r s => r = .tup [] ∧ s = st) := by
  refine Ct.of_textR mo Tryz.func122 rfl [] (by kernel_rfl) (by kernel_rfl) Tryz.ntmps122 (Nat.le_of_ble_eq_true rfl) Tryz.results122 ?_
  unfold still
  simp -implicitDefEqProofs only [AWB, List.lookup_nil, ↓upd_hit, ↓upd_if, ↓reduceIte, List.nil_append, List.cons_append, List.length_cons, List.length_nil, List.getElem?_cons_zero, List.getElem?_cons_succ, Option.getD_some, Nat.reduceAdd, Nat.reduceLT, Nat.reduceLeDiff, Nat.reduceEqDiff, Nat.reduceBEq, ne_eq, reduceCtorEq, List.all_cons, List.all_nil, implies_true, List.getD_cons_zero, List.getD_cons_succ, List.append_eq, Int.reduceBEq, beq_self_eq_true, nd_122, nk_Text]
  refine Iv_ct me_Text (Text_ct _ _) rfl ?_
  simp -implicitDefEqProofs only [AWB, List.lookup_nil, ↓upd_hit, ↓upd_if, ↓reduceIte, List.nil_append, List.cons_append, List.length_cons, List.length_nil, List.getElem?_cons_zero, List.getElem?_cons_succ, Option.getD_some, Nat.reduceAdd, Nat.reduceLT, Nat.reduceLeDiff, Nat.reduceEqDiff, Nat.reduceBEq, ne_eq, reduceCtorEq, List.all_cons, List.all_nil, implies_true, List.getD_cons_zero, List.getD_cons_succ, List.append_eq, Int.reduceBEq, beq_self_eq_true, nd_122, nk_Int]
  refine Bs_p el_194 rfl zl_146 (by decide) (by decide) rfl rfl rfl rfl rfl ?_
  simp -implicitDefEqProofs only [AWB, List.lookup_nil, ↓upd_hit, ↓upd_if, ↓reduceIte, List.nil_append, List.cons_append, List.length_cons, List.length_nil, List.getElem?_cons_zero, List.getElem?_cons_succ, Option.getD_some, Nat.reduceAdd, Nat.reduceLT, Nat.reduceLeDiff, Nat.reduceEqDiff, Nat.reduceBEq, ne_eq, reduceCtorEq, List.all_cons, List.all_nil, implies_true, List.getD_cons_zero, List.getD_cons_succ, List.append_eq, Int.reduceBEq, beq_self_eq_true, nd_122, nk_Int]
  refine Cl_ct (each_118 [_, _, _, _] _ (by simp)) rfl ?_
  simp -implicitDefEqProofs only [AWB, List.lookup_nil, ↓upd_hit, ↓upd_if, ↓reduceIte, List.nil_append, List.cons_append, List.length_cons, List.length_nil, List.getElem?_cons_zero, List.getElem?_cons_succ, Option.getD_some, Nat.reduceAdd, Nat.reduceLT, Nat.reduceLeDiff, Nat.reduceEqDiff, Nat.reduceBEq, ne_eq, reduceCtorEq, List.all_cons, List.all_nil, implies_true, List.getD_cons_zero, List.getD_cons_succ, List.append_eq, Int.reduceBEq, beq_self_eq_true, nd_122, nk_Int]
  exact En_pure (Lw.tupL .nil) ⟨rfl, rfl⟩
theorem conns_ct (id off : Nat) (l : List ConnT) (st : St) (hid : id < st.n) (hx : (st.obj id).2[off]? = some (.d (ConnT.sl l))) (hb : Fits l) :
    Ct Tryz.prog 121 [still, .ptr id off, .fn (.func 122) [] []] st (fun r s => r = .tup [] ∧ s = st) := by
  unfold Fits at hb
  exact list_121 id off _ _ st hid hx (length_list _ _ _ fun _ => rfl) (cellish_list _ _ fun _ => rfl) (by rw [List.length_map]; omega) fun st' j x _ _ _ => by
    rw [callA_fn]; exact (conn_ct _ _ _).mono fun _ _ h => h.2
/-- All its lists are no longer than memory lets them be. -/
structure UnitT.Fit (u : UnitT) : Prop where
  Rels : Fits u.Rels
  Pre : Fits u.Pre
  Start : Fits u.Start
  Post : Fits u.Post
  Stop : Fits u.Stop
  Reload : Fits u.Reload
  PreW : ∀ x ∈ u.Pre, Fits x.Words
  StartW : ∀ x ∈ u.Start, Fits x.Words
  PostW : ∀ x ∈ u.Post, Fits x.Words
  StopW : ∀ x ∈ u.Stop, Fits x.Words
  ReloadW : ∀ x ∈ u.Reload, Fits x.Words
  Success : Fits u.Success
  Env : Fits u.Env
  Sockets : Fits u.Sockets
  Ports : Fits u.Ports
  Boot : Fits u.Boot
  Active : Fits u.Active
  Idle : Fits u.Idle
  Calendar : Fits u.Calendar
  WantedBy : Fits u.WantedBy
  RequiredBy : Fits u.RequiredBy
  Alias : Fits u.Alias
  Also : Fits u.Also
structure CellT.Fit (c : CellT) : Prop where
  U : c.U.Fit
  Begins : Fits c.Begins
  Serves : Fits c.Serves
  Waits : Fits c.Waits
theorem unit_ct (id off : Nat) (u : UnitT) (st : St) (hid : id < st.n) (hx : ∀ j, j < 35 → (st.obj id).2[off + j]? = u.row[j]?) (hf : u.Fit) : Ct Tryz.prog 112 [still, .ptr id off] st (fun r s => r = .tup [] ∧ s = st) := by
  refine Ct.of_textR mo Tryz.func112 rfl [] (by kernel_rfl) (by kernel_rfl) Tryz.ntmps112 (Nat.le_of_ble_eq_true rfl) Tryz.results112 ?_
  unfold still
  simp -implicitDefEqProofs only [AWB, List.lookup_nil, ↓upd_hit, ↓upd_if, ↓reduceIte, List.nil_append, List.cons_append, List.length_cons, List.length_nil, List.getElem?_cons_zero, List.getElem?_cons_succ, Option.getD_some, Nat.reduceAdd, Nat.reduceLT, Nat.reduceLeDiff, Nat.reduceEqDiff, Nat.reduceBEq, ne_eq, reduceCtorEq, List.all_cons, List.all_nil, implies_true, List.getD_cons_zero, List.getD_cons_succ, List.append_eq, Int.reduceBEq, beq_self_eq_true, nd_112, nk_Text, nk_Int, nk_Bool]
  refine Iv_ct me_Text (Text_ct _ _) rfl ?_
  refine LsR_cut2 0 1 fun tm k0 k1 => ?_
  have h0 : tm 0 = .ifc 111 (.agg []) := k0
  have h1 : tm 1 = .ptr id off := k1
  simp -implicitDefEqProofs only [AWB, List.lookup_nil, ↓upd_hit, ↓upd_if, ↓reduceIte, List.nil_append, List.cons_append, List.length_cons, List.length_nil, List.getElem?_cons_zero, List.getElem?_cons_succ, Option.getD_some, Nat.reduceAdd, Nat.reduceLT, Nat.reduceLeDiff, Nat.reduceEqDiff, Nat.reduceBEq, ne_eq, reduceCtorEq, List.all_cons, List.all_nil, implies_true, List.getD_cons_zero, List.getD_cons_succ, List.append_eq, Int.reduceBEq, beq_self_eq_true, nd_112, h0, h1, nk_Text, nk_Int, nk_Bool]
  refine Iv_ct me_Int (Int_ct _ _) rfl ?_
  refine LsR_cut2 0 1 fun tm k0 k1 => ?_
  have h0 : tm 0 = .ifc 111 (.agg []) := k0.trans h0
  have h1 : tm 1 = .ptr id off := k1.trans h1
  simp -implicitDefEqProofs only [AWB, List.lookup_nil, ↓upd_hit, ↓upd_if, ↓reduceIte, List.nil_append, List.cons_append, List.length_cons, List.length_nil, List.getElem?_cons_zero, List.getElem?_cons_succ, Option.getD_some, Nat.reduceAdd, Nat.reduceLT, Nat.reduceLeDiff, Nat.reduceEqDiff, Nat.reduceBEq, ne_eq, reduceCtorEq, List.all_cons, List.all_nil, implies_true, List.getD_cons_zero, List.getD_cons_succ, List.append_eq, Int.reduceBEq, beq_self_eq_true, nd_112, h0, h1, nk_Text, nk_Int, nk_Bool]
  refine Iv_ct me_Text (Text_ct _ _) rfl ?_
  refine LsR_cut2 0 1 fun tm k0 k1 => ?_
  have h0 : tm 0 = .ifc 111 (.agg []) := k0.trans h0
  have h1 : tm 1 = .ptr id off := k1.trans h1
  simp -implicitDefEqProofs only [AWB, List.lookup_nil, ↓upd_hit, ↓upd_if, ↓reduceIte, List.nil_append, List.cons_append, List.length_cons, List.length_nil, List.getElem?_cons_zero, List.getElem?_cons_succ, Option.getD_some, Nat.reduceAdd, Nat.reduceLT, Nat.reduceLeDiff, Nat.reduceEqDiff, Nat.reduceBEq, ne_eq, reduceCtorEq, List.all_cons, List.all_nil, implies_true, List.getD_cons_zero, List.getD_cons_succ, List.append_eq, Int.reduceBEq, beq_self_eq_true, nd_112, h0, h1, nk_Text, nk_Int, nk_Bool]
  refine Iv_ct me_Bool (Bool_ct _ _) rfl ?_
  refine LsR_cut2 0 1 fun tm k0 k1 => ?_
  have h0 : tm 0 = .ifc 111 (.agg []) := k0.trans h0
  have h1 : tm 1 = .ptr id off := k1.trans h1
  simp -implicitDefEqProofs only [AWB, List.lookup_nil, ↓upd_hit, ↓upd_if, ↓reduceIte, List.nil_append, List.cons_append, List.length_cons, List.length_nil, List.getElem?_cons_zero, List.getElem?_cons_succ, Option.getD_some, Nat.reduceAdd, Nat.reduceLT, Nat.reduceLeDiff, Nat.reduceEqDiff, Nat.reduceBEq, ne_eq, reduceCtorEq, List.all_cons, List.all_nil, implies_true, List.getD_cons_zero, List.getD_cons_succ, List.append_eq, Int.reduceBEq, beq_self_eq_true, nd_112, h0, h1, nk_Text, nk_Int, nk_Bool]
  refine Cl_ct (st' := St.ext _ [] []) (v := .tup []) (by rw [St.ext_nil]; exact rels_ct _ _ _ st hid ((hx 4 (by decide)).trans rfl) hf.Rels) rfl ?_
  refine LsR_cut2 0 1 fun tm k0 k1 => ?_
  have h0 : tm 0 = .ifc 111 (.agg []) := k0.trans h0
  have h1 : tm 1 = .ptr id off := k1.trans h1
  simp -implicitDefEqProofs only [AWB, List.lookup_nil, ↓upd_hit, ↓upd_if, ↓reduceIte, List.nil_append, List.cons_append, List.length_cons, List.length_nil, List.getElem?_cons_zero, List.getElem?_cons_succ, Option.getD_some, Nat.reduceAdd, Nat.reduceLT, Nat.reduceLeDiff, Nat.reduceEqDiff, Nat.reduceBEq, ne_eq, reduceCtorEq, List.all_cons, List.all_nil, implies_true, List.getD_cons_zero, List.getD_cons_succ, List.append_eq, Int.reduceBEq, beq_self_eq_true, nd_112, h0, h1, nk_Text, nk_Int, nk_Bool]
  refine Bs_p el_194 rfl zl_146 (by decide) (by decide) rfl rfl rfl rfl rfl ?_
  simp -implicitDefEqProofs only [AWB, List.lookup_nil, ↓upd_hit, ↓upd_if, ↓reduceIte, List.nil_append, List.cons_append, List.length_cons, List.length_nil, List.getElem?_cons_zero, List.getElem?_cons_succ, Option.getD_some, Nat.reduceAdd, Nat.reduceLT, Nat.reduceLeDiff, Nat.reduceEqDiff, Nat.reduceBEq, ne_eq, reduceCtorEq, List.all_cons, List.all_nil, implies_true, List.getD_cons_zero, List.getD_cons_succ, List.append_eq, Int.reduceBEq, beq_self_eq_true, nd_112, h0, h1, nk_Int]
  refine Cl_ct (each_118 [_, _, _] _ (by simp)) rfl ?_
  refine LsR_cut2 0 1 fun tm k0 k1 => ?_
  have h0 : tm 0 = .ifc 111 (.agg []) := k0.trans h0
  have h1 : tm 1 = .ptr id off := k1.trans h1
  simp -implicitDefEqProofs only [AWB, List.lookup_nil, ↓upd_hit, ↓upd_if, ↓reduceIte, List.nil_append, List.cons_append, List.length_cons, List.length_nil, List.getElem?_cons_zero, List.getElem?_cons_succ, Option.getD_some, Nat.reduceAdd, Nat.reduceLT, Nat.reduceLeDiff, Nat.reduceEqDiff, Nat.reduceBEq, ne_eq, reduceCtorEq, List.all_cons, List.all_nil, implies_true, List.getD_cons_zero, List.getD_cons_succ, List.append_eq, Int.reduceBEq, beq_self_eq_true, nd_112, h0, h1, nk_Text, nk_Int, nk_Bool]
  refine Bs_p el_211 rfl zl_186 (by decide) (by decide) rfl rfl rfl rfl rfl ?_
  simp -implicitDefEqProofs only [AWB, List.lookup_nil, ↓upd_hit, ↓upd_if, ↓reduceIte, List.nil_append, List.cons_append, List.length_cons, List.length_nil, List.getElem?_cons_zero, List.getElem?_cons_succ, Option.getD_some, Nat.reduceAdd, Nat.reduceLT, Nat.reduceLeDiff, Nat.reduceEqDiff, Nat.reduceBEq, ne_eq, reduceCtorEq, List.all_cons, List.all_nil, implies_true, List.getD_cons_zero, List.getD_cons_succ, List.append_eq, Int.reduceBEq, beq_self_eq_true, nd_112, h0, h1, nk_Int]
  refine Cl_ct (st' := St.ext _ [] []) (v := .tup []) (each_158 [.ptr id (off + 8), .ptr id (off + 9), .ptr id (off + 10), .ptr id (off + 11), .ptr id (off + 12)] _ (by simp) fun a ha => ?_) rfl ?_
  · rw [St.ext_nil]
    simp only [List.mem_cons, List.mem_nil_iff, or_false] at ha
    rcases ha with rfl | rfl | rfl | rfl | rfl
    · exact execs_ct _ _ _ st hid ((hx 8 (by decide)).trans rfl) hf.Pre hf.PreW
    · exact execs_ct _ _ _ st hid ((hx 9 (by decide)).trans rfl) hf.Start hf.StartW
    · exact execs_ct _ _ _ st hid ((hx 10 (by decide)).trans rfl) hf.Post hf.PostW
    · exact execs_ct _ _ _ st hid ((hx 11 (by decide)).trans rfl) hf.Stop hf.StopW
    · exact execs_ct _ _ _ st hid ((hx 12 (by decide)).trans rfl) hf.Reload hf.ReloadW
  refine LsR_cut2 0 1 fun tm k0 k1 => ?_
  have h0 : tm 0 = .ifc 111 (.agg []) := k0.trans h0
  have h1 : tm 1 = .ptr id off := k1.trans h1
  simp -implicitDefEqProofs only [AWB, List.lookup_nil, ↓upd_hit, ↓upd_if, ↓reduceIte, List.nil_append, List.cons_append, List.length_cons, List.length_nil, List.getElem?_cons_zero, List.getElem?_cons_succ, Option.getD_some, Nat.reduceAdd, Nat.reduceLT, Nat.reduceLeDiff, Nat.reduceEqDiff, Nat.reduceBEq, ne_eq, reduceCtorEq, List.all_cons, List.all_nil, implies_true, List.getD_cons_zero, List.getD_cons_succ, List.append_eq, Int.reduceBEq, beq_self_eq_true, nd_112, h0, h1, nk_Text, nk_Int, nk_Bool]
  refine Iv_ct me_Bool (Bool_ct _ _) rfl ?_
  refine LsR_cut2 0 1 fun tm k0 k1 => ?_
  have h0 : tm 0 = .ifc 111 (.agg []) := k0.trans h0
  have h1 : tm 1 = .ptr id off := k1.trans h1
  simp -implicitDefEqProofs only [AWB, List.lookup_nil, ↓upd_hit, ↓upd_if, ↓reduceIte, List.nil_append, List.cons_append, List.length_cons, List.length_nil, List.getElem?_cons_zero, List.getElem?_cons_succ, Option.getD_some, Nat.reduceAdd, Nat.reduceLT, Nat.reduceLeDiff, Nat.reduceEqDiff, Nat.reduceBEq, ne_eq, reduceCtorEq, List.all_cons, List.all_nil, implies_true, List.getD_cons_zero, List.getD_cons_succ, List.append_eq, Int.reduceBEq, beq_self_eq_true, nd_112, h0, h1, nk_Text, nk_Int, nk_Bool]
  refine Bs_p el_194 rfl zl_146 (by decide) (by decide) rfl rfl rfl rfl rfl ?_
  simp -implicitDefEqProofs only [AWB, List.lookup_nil, ↓upd_hit, ↓upd_if, ↓reduceIte, List.nil_append, List.cons_append, List.length_cons, List.length_nil, List.getElem?_cons_zero, List.getElem?_cons_succ, Option.getD_some, Nat.reduceAdd, Nat.reduceLT, Nat.reduceLeDiff, Nat.reduceEqDiff, Nat.reduceBEq, ne_eq, reduceCtorEq, List.all_cons, List.all_nil, implies_true, List.getD_cons_zero, List.getD_cons_succ, List.append_eq, Int.reduceBEq, beq_self_eq_true, nd_112, h0, h1, nk_Int]
  refine Cl_ct (each_118 [_, _, _, _] _ (by simp)) rfl ?_
  refine LsR_cut2 0 1 fun tm k0 k1 => ?_
  have h0 : tm 0 = .ifc 111 (.agg []) := k0.trans h0
  have h1 : tm 1 = .ptr id off := k1.trans h1
  simp -implicitDefEqProofs only [AWB, List.lookup_nil, ↓upd_hit, ↓upd_if, ↓reduceIte, List.nil_append, List.cons_append, List.length_cons, List.length_nil, List.getElem?_cons_zero, List.getElem?_cons_succ, Option.getD_some, Nat.reduceAdd, Nat.reduceLT, Nat.reduceLeDiff, Nat.reduceEqDiff, Nat.reduceBEq, ne_eq, reduceCtorEq, List.all_cons, List.all_nil, implies_true, List.getD_cons_zero, List.getD_cons_succ, List.append_eq, Int.reduceBEq, beq_self_eq_true, nd_112, h0, h1, nk_Text, nk_Int, nk_Bool]
  refine Bs_p el_195 rfl zl_148 (by decide) (by decide) rfl rfl rfl rfl rfl ?_
  simp -implicitDefEqProofs only [AWB, List.lookup_nil, ↓upd_hit, ↓upd_if, ↓reduceIte, List.nil_append, List.cons_append, List.length_cons, List.length_nil, List.getElem?_cons_zero, List.getElem?_cons_succ, Option.getD_some, Nat.reduceAdd, Nat.reduceLT, Nat.reduceLeDiff, Nat.reduceEqDiff, Nat.reduceBEq, ne_eq, reduceCtorEq, List.all_cons, List.all_nil, implies_true, List.getD_cons_zero, List.getD_cons_succ, List.append_eq, Int.reduceBEq, beq_self_eq_true, nd_112, h0, h1, nk_Int]
  refine Cl_ct (st' := St.ext _ [] []) (v := .tup []) (each_119 [.ptr id (off + 18)] _ (by simp) fun a ha => ?_) rfl ?_
  · rw [St.ext_nil]
    simp only [List.mem_cons, List.mem_nil_iff, or_false] at ha
    subst ha
    exact ints_ct _ _ _ st hid ((hx 18 (by decide)).trans rfl) hf.Success
  refine LsR_cut2 0 1 fun tm k0 k1 => ?_
  have h0 : tm 0 = .ifc 111 (.agg []) := k0.trans h0
  have h1 : tm 1 = .ptr id off := k1.trans h1
  simp -implicitDefEqProofs only [AWB, List.lookup_nil, ↓upd_hit, ↓upd_if, ↓reduceIte, List.nil_append, List.cons_append, List.length_cons, List.length_nil, List.getElem?_cons_zero, List.getElem?_cons_succ, Option.getD_some, Nat.reduceAdd, Nat.reduceLT, Nat.reduceLeDiff, Nat.reduceEqDiff, Nat.reduceBEq, ne_eq, reduceCtorEq, List.all_cons, List.all_nil, implies_true, List.getD_cons_zero, List.getD_cons_succ, List.append_eq, Int.reduceBEq, beq_self_eq_true, nd_112, h0, h1, nk_Text, nk_Int, nk_Bool]
  refine Cl_ct (st' := St.ext _ [] []) (v := .tup []) (by rw [St.ext_nil]; exact pairs_ct _ _ _ st hid ((hx 19 (by decide)).trans rfl) hf.Env) rfl ?_
  refine LsR_cut2 0 1 fun tm k0 k1 => ?_
  have h0 : tm 0 = .ifc 111 (.agg []) := k0.trans h0
  have h1 : tm 1 = .ptr id off := k1.trans h1
  simp -implicitDefEqProofs only [AWB, List.lookup_nil, ↓upd_hit, ↓upd_if, ↓reduceIte, List.nil_append, List.cons_append, List.length_cons, List.length_nil, List.getElem?_cons_zero, List.getElem?_cons_succ, Option.getD_some, Nat.reduceAdd, Nat.reduceLT, Nat.reduceLeDiff, Nat.reduceEqDiff, Nat.reduceBEq, ne_eq, reduceCtorEq, List.all_cons, List.all_nil, implies_true, List.getD_cons_zero, List.getD_cons_succ, List.append_eq, Int.reduceBEq, beq_self_eq_true, nd_112, h0, h1, nk_Text, nk_Int, nk_Bool]
  refine Bs_p el_215 rfl zl_191 (by decide) (by decide) rfl rfl rfl rfl rfl ?_
  simp -implicitDefEqProofs only [AWB, List.lookup_nil, ↓upd_hit, ↓upd_if, ↓reduceIte, List.nil_append, List.cons_append, List.length_cons, List.length_nil, List.getElem?_cons_zero, List.getElem?_cons_succ, Option.getD_some, Nat.reduceAdd, Nat.reduceLT, Nat.reduceLeDiff, Nat.reduceEqDiff, Nat.reduceBEq, ne_eq, reduceCtorEq, List.all_cons, List.all_nil, implies_true, List.getD_cons_zero, List.getD_cons_succ, List.append_eq, Int.reduceBEq, beq_self_eq_true, nd_112, h0, h1, nk_Int]
  refine Cl_ct (st' := St.ext _ [] []) (v := .tup []) (each_161 [.ptr id (off + 20)] _ (by simp) fun a ha => ?_) rfl ?_
  · rw [St.ext_nil]
    simp only [List.mem_cons, List.mem_nil_iff, or_false] at ha
    subst ha
    exact strs_ct _ _ _ st hid ((hx 20 (by decide)).trans rfl) hf.Sockets
  refine LsR_cut2 0 1 fun tm k0 k1 => ?_
  have h0 : tm 0 = .ifc 111 (.agg []) := k0.trans h0
  have h1 : tm 1 = .ptr id off := k1.trans h1
  simp -implicitDefEqProofs only [AWB, List.lookup_nil, ↓upd_hit, ↓upd_if, ↓reduceIte, List.nil_append, List.cons_append, List.length_cons, List.length_nil, List.getElem?_cons_zero, List.getElem?_cons_succ, Option.getD_some, Nat.reduceAdd, Nat.reduceLT, Nat.reduceLeDiff, Nat.reduceEqDiff, Nat.reduceBEq, ne_eq, reduceCtorEq, List.all_cons, List.all_nil, implies_true, List.getD_cons_zero, List.getD_cons_succ, List.append_eq, Int.reduceBEq, beq_self_eq_true, nd_112, h0, h1, nk_Text, nk_Int, nk_Bool]
  refine Bs_p el_195 rfl zl_148 (by decide) (by decide) rfl rfl rfl rfl rfl ?_
  simp -implicitDefEqProofs only [AWB, List.lookup_nil, ↓upd_hit, ↓upd_if, ↓reduceIte, List.nil_append, List.cons_append, List.length_cons, List.length_nil, List.getElem?_cons_zero, List.getElem?_cons_succ, Option.getD_some, Nat.reduceAdd, Nat.reduceLT, Nat.reduceLeDiff, Nat.reduceEqDiff, Nat.reduceBEq, ne_eq, reduceCtorEq, List.all_cons, List.all_nil, implies_true, List.getD_cons_zero, List.getD_cons_succ, List.append_eq, Int.reduceBEq, beq_self_eq_true, nd_112, h0, h1, nk_Int]
  refine Cl_ct (st' := St.ext _ [] []) (v := .tup []) (each_119 [.ptr id (off + 21)] _ (by simp) fun a ha => ?_) rfl ?_
  · rw [St.ext_nil]
    simp only [List.mem_cons, List.mem_nil_iff, or_false] at ha
    subst ha
    exact ints_ct _ _ _ st hid ((hx 21 (by decide)).trans rfl) hf.Ports
  refine LsR_cut2 0 1 fun tm k0 k1 => ?_
  have h0 : tm 0 = .ifc 111 (.agg []) := k0.trans h0
  have h1 : tm 1 = .ptr id off := k1.trans h1
  simp -implicitDefEqProofs only [AWB, List.lookup_nil, ↓upd_hit, ↓upd_if, ↓reduceIte, List.nil_append, List.cons_append, List.length_cons, List.length_nil, List.getElem?_cons_zero, List.getElem?_cons_succ, Option.getD_some, Nat.reduceAdd, Nat.reduceLT, Nat.reduceLeDiff, Nat.reduceEqDiff, Nat.reduceBEq, ne_eq, reduceCtorEq, List.all_cons, List.all_nil, implies_true, List.getD_cons_zero, List.getD_cons_succ, List.append_eq, Int.reduceBEq, beq_self_eq_true, nd_112, h0, h1, nk_Text, nk_Int, nk_Bool]
  refine Iv_ct me_Int (Int_ct _ _) rfl ?_
  refine LsR_cut2 0 1 fun tm k0 k1 => ?_
  have h0 : tm 0 = .ifc 111 (.agg []) := k0.trans h0
  have h1 : tm 1 = .ptr id off := k1.trans h1
  simp -implicitDefEqProofs only [AWB, List.lookup_nil, ↓upd_hit, ↓upd_if, ↓reduceIte, List.nil_append, List.cons_append, List.length_cons, List.length_nil, List.getElem?_cons_zero, List.getElem?_cons_succ, Option.getD_some, Nat.reduceAdd, Nat.reduceLT, Nat.reduceLeDiff, Nat.reduceEqDiff, Nat.reduceBEq, ne_eq, reduceCtorEq, List.all_cons, List.all_nil, implies_true, List.getD_cons_zero, List.getD_cons_succ, List.append_eq, Int.reduceBEq, beq_self_eq_true, nd_112, h0, h1, nk_Text, nk_Int, nk_Bool]
  refine Iv_ct me_Text (Text_ct _ _) rfl ?_
  refine LsR_cut2 0 1 fun tm k0 k1 => ?_
  have h0 : tm 0 = .ifc 111 (.agg []) := k0.trans h0
  have h1 : tm 1 = .ptr id off := k1.trans h1
  simp -implicitDefEqProofs only [AWB, List.lookup_nil, ↓upd_hit, ↓upd_if, ↓reduceIte, List.nil_append, List.cons_append, List.length_cons, List.length_nil, List.getElem?_cons_zero, List.getElem?_cons_succ, Option.getD_some, Nat.reduceAdd, Nat.reduceLT, Nat.reduceLeDiff, Nat.reduceEqDiff, Nat.reduceBEq, ne_eq, reduceCtorEq, List.all_cons, List.all_nil, implies_true, List.getD_cons_zero, List.getD_cons_succ, List.append_eq, Int.reduceBEq, beq_self_eq_true, nd_112, h0, h1, nk_Text, nk_Int, nk_Bool]
  refine Iv_ct me_Text (Text_ct _ _) rfl ?_
  refine LsR_cut2 0 1 fun tm k0 k1 => ?_
  have h0 : tm 0 = .ifc 111 (.agg []) := k0.trans h0
  have h1 : tm 1 = .ptr id off := k1.trans h1
  simp -implicitDefEqProofs only [AWB, List.lookup_nil, ↓upd_hit, ↓upd_if, ↓reduceIte, List.nil_append, List.cons_append, List.length_cons, List.length_nil, List.getElem?_cons_zero, List.getElem?_cons_succ, Option.getD_some, Nat.reduceAdd, Nat.reduceLT, Nat.reduceLeDiff, Nat.reduceEqDiff, Nat.reduceBEq, ne_eq, reduceCtorEq, List.all_cons, List.all_nil, implies_true, List.getD_cons_zero, List.getD_cons_succ, List.append_eq, Int.reduceBEq, beq_self_eq_true, nd_112, h0, h1, nk_Text, nk_Int, nk_Bool]
  refine Bs_p el_195 rfl zl_148 (by decide) (by decide) rfl rfl rfl rfl rfl ?_
  simp -implicitDefEqProofs only [AWB, List.lookup_nil, ↓upd_hit, ↓upd_if, ↓reduceIte, List.nil_append, List.cons_append, List.length_cons, List.length_nil, List.getElem?_cons_zero, List.getElem?_cons_succ, Option.getD_some, Nat.reduceAdd, Nat.reduceLT, Nat.reduceLeDiff, Nat.reduceEqDiff, Nat.reduceBEq, ne_eq, reduceCtorEq, List.all_cons, List.all_nil, implies_true, List.getD_cons_zero, List.getD_cons_succ, List.append_eq, Int.reduceBEq, beq_self_eq_true, nd_112, h0, h1, nk_Int]
  refine Cl_ct (st' := St.ext _ [] []) (v := .tup []) (each_119 [.ptr id (off + 25), .ptr id (off + 26), .ptr id (off + 27)] _ (by simp) fun a ha => ?_) rfl ?_
  · rw [St.ext_nil]
    simp only [List.mem_cons, List.mem_nil_iff, or_false] at ha
    rcases ha with rfl | rfl | rfl
    · exact ints_ct _ _ _ st hid ((hx 25 (by decide)).trans rfl) hf.Boot
    · exact ints_ct _ _ _ st hid ((hx 26 (by decide)).trans rfl) hf.Active
    · exact ints_ct _ _ _ st hid ((hx 27 (by decide)).trans rfl) hf.Idle
  refine LsR_cut2 0 1 fun tm k0 k1 => ?_
  have h0 : tm 0 = .ifc 111 (.agg []) := k0.trans h0
  have h1 : tm 1 = .ptr id off := k1.trans h1
  simp -implicitDefEqProofs only [AWB, List.lookup_nil, ↓upd_hit, ↓upd_if, ↓reduceIte, List.nil_append, List.cons_append, List.length_cons, List.length_nil, List.getElem?_cons_zero, List.getElem?_cons_succ, Option.getD_some, Nat.reduceAdd, Nat.reduceLT, Nat.reduceLeDiff, Nat.reduceEqDiff, Nat.reduceBEq, ne_eq, reduceCtorEq, List.all_cons, List.all_nil, implies_true, List.getD_cons_zero, List.getD_cons_succ, List.append_eq, Int.reduceBEq, beq_self_eq_true, nd_112, h0, h1, nk_Text, nk_Int, nk_Bool]
  refine Bs_p el_215 rfl zl_191 (by decide) (by decide) rfl rfl rfl rfl rfl ?_
  simp -implicitDefEqProofs only [AWB, List.lookup_nil, ↓upd_hit, ↓upd_if, ↓reduceIte, List.nil_append, List.cons_append, List.length_cons, List.length_nil, List.getElem?_cons_zero, List.getElem?_cons_succ, Option.getD_some, Nat.reduceAdd, Nat.reduceLT, Nat.reduceLeDiff, Nat.reduceEqDiff, Nat.reduceBEq, ne_eq, reduceCtorEq, List.all_cons, List.all_nil, implies_true, List.getD_cons_zero, List.getD_cons_succ, List.append_eq, Int.reduceBEq, beq_self_eq_true, nd_112, h0, h1, nk_Int]
  refine Cl_ct (st' := St.ext _ [] []) (v := .tup []) (each_161 [.ptr id (off + 28)] _ (by simp) fun a ha => ?_) rfl ?_
  · rw [St.ext_nil]
    simp only [List.mem_cons, List.mem_nil_iff, or_false] at ha
    subst ha
    exact strs_ct _ _ _ st hid ((hx 28 (by decide)).trans rfl) hf.Calendar
  refine LsR_cut2 0 1 fun tm k0 k1 => ?_
  have h0 : tm 0 = .ifc 111 (.agg []) := k0.trans h0
  have h1 : tm 1 = .ptr id off := k1.trans h1
  simp -implicitDefEqProofs only [AWB, List.lookup_nil, ↓upd_hit, ↓upd_if, ↓reduceIte, List.nil_append, List.cons_append, List.length_cons, List.length_nil, List.getElem?_cons_zero, List.getElem?_cons_succ, Option.getD_some, Nat.reduceAdd, Nat.reduceLT, Nat.reduceLeDiff, Nat.reduceEqDiff, Nat.reduceBEq, ne_eq, reduceCtorEq, List.all_cons, List.all_nil, implies_true, List.getD_cons_zero, List.getD_cons_succ, List.append_eq, Int.reduceBEq, beq_self_eq_true, nd_112, h0, h1, nk_Text, nk_Int, nk_Bool]
  refine Iv_ct me_Bool (Bool_ct _ _) rfl ?_
  refine LsR_cut2 0 1 fun tm k0 k1 => ?_
  have h0 : tm 0 = .ifc 111 (.agg []) := k0.trans h0
  have h1 : tm 1 = .ptr id off := k1.trans h1
  simp -implicitDefEqProofs only [AWB, List.lookup_nil, ↓upd_hit, ↓upd_if, ↓reduceIte, List.nil_append, List.cons_append, List.length_cons, List.length_nil, List.getElem?_cons_zero, List.getElem?_cons_succ, Option.getD_some, Nat.reduceAdd, Nat.reduceLT, Nat.reduceLeDiff, Nat.reduceEqDiff, Nat.reduceBEq, ne_eq, reduceCtorEq, List.all_cons, List.all_nil, implies_true, List.getD_cons_zero, List.getD_cons_succ, List.append_eq, Int.reduceBEq, beq_self_eq_true, nd_112, h0, h1, nk_Text, nk_Int, nk_Bool]
  refine Bs_p el_215 rfl zl_191 (by decide) (by decide) rfl rfl rfl rfl rfl ?_
  simp -implicitDefEqProofs only [AWB, List.lookup_nil, ↓upd_hit, ↓upd_if, ↓reduceIte, List.nil_append, List.cons_append, List.length_cons, List.length_nil, List.getElem?_cons_zero, List.getElem?_cons_succ, Option.getD_some, Nat.reduceAdd, Nat.reduceLT, Nat.reduceLeDiff, Nat.reduceEqDiff, Nat.reduceBEq, ne_eq, reduceCtorEq, List.all_cons, List.all_nil, implies_true, List.getD_cons_zero, List.getD_cons_succ, List.append_eq, Int.reduceBEq, beq_self_eq_true, nd_112, h0, h1, nk_Int]
  refine Cl_ct (st' := St.ext _ [] []) (v := .tup []) (each_161 [.ptr id (off + 30), .ptr id (off + 31), .ptr id (off + 32), .ptr id (off + 33)] _ (by simp) fun a ha => ?_) rfl ?_
  · rw [St.ext_nil]
    simp only [List.mem_cons, List.mem_nil_iff, or_false] at ha
    rcases ha with rfl | rfl | rfl | rfl
    · exact strs_ct _ _ _ st hid ((hx 30 (by decide)).trans rfl) hf.WantedBy
    · exact strs_ct _ _ _ st hid ((hx 31 (by decide)).trans rfl) hf.RequiredBy
    · exact strs_ct _ _ _ st hid ((hx 32 (by decide)).trans rfl) hf.Alias
    · exact strs_ct _ _ _ st hid ((hx 33 (by decide)).trans rfl) hf.Also
  refine LsR_cut2 0 1 fun tm k0 k1 => ?_
  have h0 : tm 0 = .ifc 111 (.agg []) := k0.trans h0
  have h1 : tm 1 = .ptr id off := k1.trans h1
  simp -implicitDefEqProofs only [AWB, List.lookup_nil, ↓upd_hit, ↓upd_if, ↓reduceIte, List.nil_append, List.cons_append, List.length_cons, List.length_nil, List.getElem?_cons_zero, List.getElem?_cons_succ, Option.getD_some, Nat.reduceAdd, Nat.reduceLT, Nat.reduceLeDiff, Nat.reduceEqDiff, Nat.reduceBEq, ne_eq, reduceCtorEq, List.all_cons, List.all_nil, implies_true, List.getD_cons_zero, List.getD_cons_succ, List.append_eq, Int.reduceBEq, beq_self_eq_true, nd_112, h0, h1, nk_Text, nk_Int, nk_Bool]
  refine Iv_ct me_Text (Text_ct _ _) rfl ?_
  refine LsR_cut2 0 1 fun tm k0 k1 => ?_
  have h0 : tm 0 = .ifc 111 (.agg []) := k0.trans h0
  have h1 : tm 1 = .ptr id off := k1.trans h1
  simp -implicitDefEqProofs only [AWB, List.lookup_nil, ↓upd_hit, ↓upd_if, ↓reduceIte, List.nil_append, List.cons_append, List.length_cons, List.length_nil, List.getElem?_cons_zero, List.getElem?_cons_succ, Option.getD_some, Nat.reduceAdd, Nat.reduceLT, Nat.reduceLeDiff, Nat.reduceEqDiff, Nat.reduceBEq, ne_eq, reduceCtorEq, List.all_cons, List.all_nil, implies_true, List.getD_cons_zero, List.getD_cons_succ, List.append_eq, Int.reduceBEq, beq_self_eq_true, nd_112, h0, h1, nk_Text]
  exact En_pure (Lw.tupL .nil) ⟨rfl, rfl⟩
theorem row_U (c : CellT) (j : Nat) (hj : j < 35) : c.row[j]? = c.U.row[j]? := by
  have : c.row = c.U.row ++ (c.row.drop 35) := rfl
  rw [this, List.getElem?_append_left (by rw [show c.U.row.length = 35 from rfl]; exact hj)]
theorem cell_ct (id : Nat) (c : CellT) (st : St) (hid : id < st.n) (hx : (st.obj id).2 = c.row) (hf : c.Fit) : Ct Tryz.prog 76 [still, .ptr id 0] st (fun r s => r = .tup [] ∧ s = st) := by
  refine Ct.of_textR mo Tryz.func76 rfl [] (by kernel_rfl) (by kernel_rfl) Tryz.ntmps76 (Nat.le_of_ble_eq_true rfl) Tryz.results76 ?_
  unfold still
  simp -implicitDefEqProofs only [AWB, List.lookup_nil, ↓upd_hit, ↓upd_if, ↓reduceIte, List.nil_append, List.cons_append, List.length_cons, List.length_nil, List.getElem?_cons_zero, List.getElem?_cons_succ, Option.getD_some, Nat.reduceAdd, Nat.reduceLT, Nat.reduceLeDiff, Nat.reduceEqDiff, Nat.reduceBEq, ne_eq, reduceCtorEq, List.all_cons, List.all_nil, implies_true, List.getD_cons_zero, List.getD_cons_succ, List.append_eq, Int.reduceBEq, beq_self_eq_true, nd_76, nk_Text, nk_Int, nk_Bool]
  refine Cl_ct (st' := St.ext _ [] []) (v := .tup []) (by rw [St.ext_nil]; exact unit_ct id 0 c.U st hid (fun j hj => by rw [Nat.zero_add, hx, row_U c j hj]) hf.U) rfl ?_
  refine LsR_cut2 0 1 fun tm k0 k1 => ?_
  have h0 : tm 0 = .ifc 111 (.agg []) := k0
  have h1 : tm 1 = .ptr id 0 := k1
  simp -implicitDefEqProofs only [AWB, List.lookup_nil, ↓upd_hit, ↓upd_if, ↓reduceIte, List.nil_append, List.cons_append, List.length_cons, List.length_nil, List.getElem?_cons_zero, List.getElem?_cons_succ, Option.getD_some, Nat.reduceAdd, Nat.reduceLT, Nat.reduceLeDiff, Nat.reduceEqDiff, Nat.reduceBEq, ne_eq, reduceCtorEq, List.all_cons, List.all_nil, implies_true, List.getD_cons_zero, List.getD_cons_succ, List.append_eq, Int.reduceBEq, beq_self_eq_true, nd_76, h0, h1, nk_Text, nk_Int, nk_Bool]
  refine Bs_p el_194 rfl zl_146 (by decide) (by decide) rfl rfl rfl rfl rfl ?_
  simp -implicitDefEqProofs only [AWB, List.lookup_nil, ↓upd_hit, ↓upd_if, ↓reduceIte, List.nil_append, List.cons_append, List.length_cons, List.length_nil, List.getElem?_cons_zero, List.getElem?_cons_succ, Option.getD_some, Nat.reduceAdd, Nat.reduceLT, Nat.reduceLeDiff, Nat.reduceEqDiff, Nat.reduceBEq, ne_eq, reduceCtorEq, List.all_cons, List.all_nil, implies_true, List.getD_cons_zero, List.getD_cons_succ, List.append_eq, Int.reduceBEq, beq_self_eq_true, nd_76, h0, h1, nk_Int]
  refine Cl_ct (each_118 [_, _, _] _ (by simp)) rfl ?_
  refine LsR_cut2 0 1 fun tm k0 k1 => ?_
  have h0 : tm 0 = .ifc 111 (.agg []) := k0.trans h0
  have h1 : tm 1 = .ptr id 0 := k1.trans h1
  simp -implicitDefEqProofs only [AWB, List.lookup_nil, ↓upd_hit, ↓upd_if, ↓reduceIte, List.nil_append, List.cons_append, List.length_cons, List.length_nil, List.getElem?_cons_zero, List.getElem?_cons_succ, Option.getD_some, Nat.reduceAdd, Nat.reduceLT, Nat.reduceLeDiff, Nat.reduceEqDiff, Nat.reduceBEq, ne_eq, reduceCtorEq, List.all_cons, List.all_nil, implies_true, List.getD_cons_zero, List.getD_cons_succ, List.append_eq, Int.reduceBEq, beq_self_eq_true, nd_76, h0, h1, nk_Text, nk_Int, nk_Bool]
  refine Bs_p el_195 rfl zl_148 (by decide) (by decide) rfl rfl rfl rfl rfl ?_
  simp -implicitDefEqProofs only [AWB, List.lookup_nil, ↓upd_hit, ↓upd_if, ↓reduceIte, List.nil_append, List.cons_append, List.length_cons, List.length_nil, List.getElem?_cons_zero, List.getElem?_cons_succ, Option.getD_some, Nat.reduceAdd, Nat.reduceLT, Nat.reduceLeDiff, Nat.reduceEqDiff, Nat.reduceBEq, ne_eq, reduceCtorEq, List.all_cons, List.all_nil, implies_true, List.getD_cons_zero, List.getD_cons_succ, List.append_eq, Int.reduceBEq, beq_self_eq_true, nd_76, h0, h1, nk_Int]
  refine Cl_ct (st' := St.ext _ [] []) (v := .tup []) (each_119 [.ptr id (38)] _ (by simp) fun a ha => ?_) rfl ?_
  · rw [St.ext_nil]
    simp only [List.mem_cons, List.mem_nil_iff, or_false] at ha
    subst ha
    exact ints_ct _ _ _ st hid (by rw [hx]; rfl) hf.Begins
  refine LsR_cut2 0 1 fun tm k0 k1 => ?_
  have h0 : tm 0 = .ifc 111 (.agg []) := k0.trans h0
  have h1 : tm 1 = .ptr id 0 := k1.trans h1
  simp -implicitDefEqProofs only [AWB, List.lookup_nil, ↓upd_hit, ↓upd_if, ↓reduceIte, List.nil_append, List.cons_append, List.length_cons, List.length_nil, List.getElem?_cons_zero, List.getElem?_cons_succ, Option.getD_some, Nat.reduceAdd, Nat.reduceLT, Nat.reduceLeDiff, Nat.reduceEqDiff, Nat.reduceBEq, ne_eq, reduceCtorEq, List.all_cons, List.all_nil, implies_true, List.getD_cons_zero, List.getD_cons_succ, List.append_eq, Int.reduceBEq, beq_self_eq_true, nd_76, h0, h1, nk_Text, nk_Int, nk_Bool]
  refine Iv_ct me_Int (Int_ct _ _) rfl ?_
  refine LsR_cut2 0 1 fun tm k0 k1 => ?_
  have h0 : tm 0 = .ifc 111 (.agg []) := k0.trans h0
  have h1 : tm 1 = .ptr id 0 := k1.trans h1
  simp -implicitDefEqProofs only [AWB, List.lookup_nil, ↓upd_hit, ↓upd_if, ↓reduceIte, List.nil_append, List.cons_append, List.length_cons, List.length_nil, List.getElem?_cons_zero, List.getElem?_cons_succ, Option.getD_some, Nat.reduceAdd, Nat.reduceLT, Nat.reduceLeDiff, Nat.reduceEqDiff, Nat.reduceBEq, ne_eq, reduceCtorEq, List.all_cons, List.all_nil, implies_true, List.getD_cons_zero, List.getD_cons_succ, List.append_eq, Int.reduceBEq, beq_self_eq_true, nd_76, h0, h1, nk_Text, nk_Int, nk_Bool]
  refine Cl_ct (st' := St.ext _ [] []) (v := .tup []) (by rw [St.ext_nil]; exact course_ct _ _ _) rfl ?_
  refine LsR_cut2 0 1 fun tm k0 k1 => ?_
  have h0 : tm 0 = .ifc 111 (.agg []) := k0.trans h0
  have h1 : tm 1 = .ptr id 0 := k1.trans h1
  simp -implicitDefEqProofs only [AWB, List.lookup_nil, ↓upd_hit, ↓upd_if, ↓reduceIte, List.nil_append, List.cons_append, List.length_cons, List.length_nil, List.getElem?_cons_zero, List.getElem?_cons_succ, Option.getD_some, Nat.reduceAdd, Nat.reduceLT, Nat.reduceLeDiff, Nat.reduceEqDiff, Nat.reduceBEq, ne_eq, reduceCtorEq, List.all_cons, List.all_nil, implies_true, List.getD_cons_zero, List.getD_cons_succ, List.append_eq, Int.reduceBEq, beq_self_eq_true, nd_76, h0, h1, nk_Text, nk_Int, nk_Bool]
  refine Cl_ct (st' := St.ext _ [] []) (v := .tup []) (by rw [St.ext_nil]; exact course_ct _ _ _) rfl ?_
  refine LsR_cut2 0 1 fun tm k0 k1 => ?_
  have h0 : tm 0 = .ifc 111 (.agg []) := k0.trans h0
  have h1 : tm 1 = .ptr id 0 := k1.trans h1
  simp -implicitDefEqProofs only [AWB, List.lookup_nil, ↓upd_hit, ↓upd_if, ↓reduceIte, List.nil_append, List.cons_append, List.length_cons, List.length_nil, List.getElem?_cons_zero, List.getElem?_cons_succ, Option.getD_some, Nat.reduceAdd, Nat.reduceLT, Nat.reduceLeDiff, Nat.reduceEqDiff, Nat.reduceBEq, ne_eq, reduceCtorEq, List.all_cons, List.all_nil, implies_true, List.getD_cons_zero, List.getD_cons_succ, List.append_eq, Int.reduceBEq, beq_self_eq_true, nd_76, h0, h1, nk_Text, nk_Int, nk_Bool]
  refine Iv_ct me_Int (Int_ct _ _) rfl ?_
  refine LsR_cut2 0 1 fun tm k0 k1 => ?_
  have h0 : tm 0 = .ifc 111 (.agg []) := k0.trans h0
  have h1 : tm 1 = .ptr id 0 := k1.trans h1
  simp -implicitDefEqProofs only [AWB, List.lookup_nil, ↓upd_hit, ↓upd_if, ↓reduceIte, List.nil_append, List.cons_append, List.length_cons, List.length_nil, List.getElem?_cons_zero, List.getElem?_cons_succ, Option.getD_some, Nat.reduceAdd, Nat.reduceLT, Nat.reduceLeDiff, Nat.reduceEqDiff, Nat.reduceBEq, ne_eq, reduceCtorEq, List.all_cons, List.all_nil, implies_true, List.getD_cons_zero, List.getD_cons_succ, List.append_eq, Int.reduceBEq, beq_self_eq_true, nd_76, h0, h1, nk_Text, nk_Int, nk_Bool]
  refine Iv_ct me_Bool (Bool_ct _ _) rfl ?_
  refine LsR_cut2 0 1 fun tm k0 k1 => ?_
  have h0 : tm 0 = .ifc 111 (.agg []) := k0.trans h0
  have h1 : tm 1 = .ptr id 0 := k1.trans h1
  simp -implicitDefEqProofs only [AWB, List.lookup_nil, ↓upd_hit, ↓upd_if, ↓reduceIte, List.nil_append, List.cons_append, List.length_cons, List.length_nil, List.getElem?_cons_zero, List.getElem?_cons_succ, Option.getD_some, Nat.reduceAdd, Nat.reduceLT, Nat.reduceLeDiff, Nat.reduceEqDiff, Nat.reduceBEq, ne_eq, reduceCtorEq, List.all_cons, List.all_nil, implies_true, List.getD_cons_zero, List.getD_cons_succ, List.append_eq, Int.reduceBEq, beq_self_eq_true, nd_76, h0, h1, nk_Text, nk_Int, nk_Bool]
  refine Iv_ct me_Bool (Bool_ct _ _) rfl ?_
  refine LsR_cut2 0 1 fun tm k0 k1 => ?_
  have h0 : tm 0 = .ifc 111 (.agg []) := k0.trans h0
  have h1 : tm 1 = .ptr id 0 := k1.trans h1
  simp -implicitDefEqProofs only [AWB, List.lookup_nil, ↓upd_hit, ↓upd_if, ↓reduceIte, List.nil_append, List.cons_append, List.length_cons, List.length_nil, List.getElem?_cons_zero, List.getElem?_cons_succ, Option.getD_some, Nat.reduceAdd, Nat.reduceLT, Nat.reduceLeDiff, Nat.reduceEqDiff, Nat.reduceBEq, ne_eq, reduceCtorEq, List.all_cons, List.all_nil, implies_true, List.getD_cons_zero, List.getD_cons_succ, List.append_eq, Int.reduceBEq, beq_self_eq_true, nd_76, h0, h1, nk_Text, nk_Int, nk_Bool]
  refine Cl_ct (st' := St.ext _ [] []) (v := .tup []) (by rw [St.ext_nil]; exact conns_ct _ _ _ st hid (by rw [hx]; rfl) hf.Serves) rfl ?_
  refine LsR_cut2 0 1 fun tm k0 k1 => ?_
  have h0 : tm 0 = .ifc 111 (.agg []) := k0.trans h0
  have h1 : tm 1 = .ptr id 0 := k1.trans h1
  simp -implicitDefEqProofs only [AWB, List.lookup_nil, ↓upd_hit, ↓upd_if, ↓reduceIte, List.nil_append, List.cons_append, List.length_cons, List.length_nil, List.getElem?_cons_zero, List.getElem?_cons_succ, Option.getD_some, Nat.reduceAdd, Nat.reduceLT, Nat.reduceLeDiff, Nat.reduceEqDiff, Nat.reduceBEq, ne_eq, reduceCtorEq, List.all_cons, List.all_nil, implies_true, List.getD_cons_zero, List.getD_cons_succ, List.append_eq, Int.reduceBEq, beq_self_eq_true, nd_76, h0, h1, nk_Text, nk_Int, nk_Bool]
  refine Cl_ct (st' := St.ext _ [] []) (v := .tup []) (by rw [St.ext_nil]; exact conns_ct _ _ _ st hid (by rw [hx]; rfl) hf.Waits) rfl ?_
  refine LsR_cut2 0 1 fun tm k0 k1 => ?_
  have h0 : tm 0 = .ifc 111 (.agg []) := k0.trans h0
  have h1 : tm 1 = .ptr id 0 := k1.trans h1
  simp -implicitDefEqProofs only [AWB, List.lookup_nil, ↓upd_hit, ↓upd_if, ↓reduceIte, List.nil_append, List.cons_append, List.length_cons, List.length_nil, List.getElem?_cons_zero, List.getElem?_cons_succ, Option.getD_some, Nat.reduceAdd, Nat.reduceLT, Nat.reduceLeDiff, Nat.reduceEqDiff, Nat.reduceBEq, ne_eq, reduceCtorEq, List.all_cons, List.all_nil, implies_true, List.getD_cons_zero, List.getD_cons_succ, List.append_eq, Int.reduceBEq, beq_self_eq_true, nd_76, h0, h1, nk_Text, nk_Int, nk_Bool]
  refine Bs_p el_194 rfl zl_146 (by decide) (by decide) rfl rfl rfl rfl rfl ?_
  simp -implicitDefEqProofs only [AWB, List.lookup_nil, ↓upd_hit, ↓upd_if, ↓reduceIte, List.nil_append, List.cons_append, List.length_cons, List.length_nil, List.getElem?_cons_zero, List.getElem?_cons_succ, Option.getD_some, Nat.reduceAdd, Nat.reduceLT, Nat.reduceLeDiff, Nat.reduceEqDiff, Nat.reduceBEq, ne_eq, reduceCtorEq, List.all_cons, List.all_nil, implies_true, List.getD_cons_zero, List.getD_cons_succ, List.append_eq, Int.reduceBEq, beq_self_eq_true, nd_76, h0, h1, nk_Int]
  refine Cl_ct (each_118 [_, _, _, _, _] _ (by simp)) rfl ?_
  refine LsR_cut2 0 1 fun tm k0 k1 => ?_
  have h0 : tm 0 = .ifc 111 (.agg []) := k0.trans h0
  have h1 : tm 1 = .ptr id 0 := k1.trans h1
  simp -implicitDefEqProofs only [AWB, List.lookup_nil, ↓upd_hit, ↓upd_if, ↓reduceIte, List.nil_append, List.cons_append, List.length_cons, List.length_nil, List.getElem?_cons_zero, List.getElem?_cons_succ, Option.getD_some, Nat.reduceAdd, Nat.reduceLT, Nat.reduceLeDiff, Nat.reduceEqDiff, Nat.reduceBEq, ne_eq, reduceCtorEq, List.all_cons, List.all_nil, implies_true, List.getD_cons_zero, List.getD_cons_succ, List.append_eq, Int.reduceBEq, beq_self_eq_true, nd_76, h0, h1, nk_Text]
  exact En_pure (Lw.tupL .nil) ⟨rfl, rfl⟩
end Go.AW

