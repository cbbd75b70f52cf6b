/- basis.CellOf, UnitOf, Row, cell.New. -/
import Derived.Test.YtibiooglhpjojaaGreatDoorF3
set_option linter.unusedSimpArgs false
set_option linter.unusedVariables false
namespace Go.AW
open Go.RowKit Go.Proofs
set_option maxRecDepth 10000

theorem CellOf_ct (c : CellT) (st : St) (hf : c.Fit) : Ct Tryz.prog 40 [c.av] st (fun r s => r = c.av ∧ s = st) := by
  refine Ct.of_textR mo Tryz.func40 rfl [] (by kernel_rfl) (by kernel_rfl) Tryz.ntmps40 (Nat.le_of_ble_eq_true rfl) Tryz.results40 ?_
  simp -implicitDefEqProofs only [AWB, List.lookup_nil, ↓upd_hit, ↓upd_if, ↓reduceIte, List.nil_append, List.cons_append, List.length_cons, List.length_nil, List.getElem?_cons_zero, List.getElem?_cons_succ, Option.getD_some, Nat.reduceAdd, Nat.reduceLT, Nat.reduceLeDiff, Nat.reduceEqDiff, Nat.reduceBEq, ne_eq, reduceCtorEq, List.all_cons, List.all_nil, implies_true, List.getD_cons_zero, List.getD_cons_succ, List.append_eq, Int.reduceBEq, beq_self_eq_true, nd_40, CellT.B]
  refine Cl_ct (cell_ct _ c _ (by simp [ext_n]) (by rw [ext_obj_at]; rfl) hf) rfl ?_
  simp -implicitDefEqProofs only [AWB, List.lookup_nil, ↓upd_hit, ↓upd_if, ↓reduceIte, List.nil_append, List.cons_append, List.length_cons, List.length_nil, List.getElem?_cons_zero, List.getElem?_cons_succ, Option.getD_some, Nat.reduceAdd, Nat.reduceLT, Nat.reduceLeDiff, Nat.reduceEqDiff, Nat.reduceBEq, ne_eq, reduceCtorEq, List.all_cons, List.all_nil, implies_true, List.getD_cons_zero, List.getD_cons_succ, List.append_eq, Int.reduceBEq, beq_self_eq_true, nd_40, CellT.B]
  exact En_pure c.lw ⟨rfl, rfl⟩
theorem UnitOf_ct (u : UnitT) (st : St) (hf : u.Fit) : Ct Tryz.prog 71 [u.av] st (fun r s => r = u.av ∧ s = st) := by
  refine Ct.of_textR mo Tryz.func71 rfl [] (by kernel_rfl) (by kernel_rfl) Tryz.ntmps71 (Nat.le_of_ble_eq_true rfl) Tryz.results71 ?_
  simp -implicitDefEqProofs only [AWB, List.lookup_nil, ↓upd_hit, ↓upd_if, ↓reduceIte, List.nil_append, List.cons_append, List.length_cons, List.length_nil, List.getElem?_cons_zero, List.getElem?_cons_succ, Option.getD_some, Nat.reduceAdd, Nat.reduceLT, Nat.reduceLeDiff, Nat.reduceEqDiff, Nat.reduceBEq, ne_eq, reduceCtorEq, List.all_cons, List.all_nil, implies_true, List.getD_cons_zero, List.getD_cons_succ, List.append_eq, Int.reduceBEq, beq_self_eq_true, nd_71, UnitT.B]
  refine Cl_ct (unit_ct _ 0 u _ (by simp [ext_n]) (by rw [ext_obj_at]; intro j hj; rw [Nat.zero_add]; rfl) hf) rfl ?_
  simp -implicitDefEqProofs only [AWB, List.lookup_nil, ↓upd_hit, ↓upd_if, ↓reduceIte, List.nil_append, List.cons_append, List.length_cons, List.length_nil, List.getElem?_cons_zero, List.getElem?_cons_succ, Option.getD_some, Nat.reduceAdd, Nat.reduceLT, Nat.reduceLeDiff, Nat.reduceEqDiff, Nat.reduceBEq, ne_eq, reduceCtorEq, List.all_cons, List.all_nil, implies_true, List.getD_cons_zero, List.getD_cons_succ, List.append_eq, Int.reduceBEq, beq_self_eq_true, nd_71, UnitT.B]
  exact En_pure u.lw ⟨rfl, rfl⟩
end Go.AW
