/- basis.Row, cell.New, cell.target. -/
import Derived.Test.YtibiooglhpjojaaGreatDoorF4
set_option linter.unusedSimpArgs false
set_option linter.unusedVariables false
namespace Go.AW
open Go.RowKit Go.Proofs
set_option maxRecDepth 10000

theorem wrapN (c : CellT) (h : c.Rows < 9223372036854775807) (h0 : -9223372036854775808 ≤ c.Rows) : IntKind.wrap .i64 (c.Rows + 1) = c.Rows + 1 := wrap_id _ (by omega) (by omega)
/-- A row is written: it is the next one of its cell. -/
theorem Row_ct (id : Nat) (c : CellT) (now kind : Int) (text : ByteArray) (st : St) (hid : id < st.n) (hx : (st.obj id).2 = c.row) :
    Ct Tryz.prog 75 [.ptr id 0, .d (int now), .d (int kind), .d (str text)] st
      (fun r s => r = (RowT.mk now c.U.Name (IntKind.wrap .i64 (c.Rows + 1)) kind text).av ∧ s = st.setc id ({ c with Rows := IntKind.wrap .i64 (c.Rows + 1) } : CellT).row) := by
  refine Ct.of_textR mo Tryz.func75 rfl [] (by kernel_rfl) (by kernel_rfl) Tryz.ntmps75 (Nat.le_of_ble_eq_true rfl) Tryz.results75 ?_
  simp -implicitDefEqProofs only [AWB, List.lookup_nil, ↓upd_hit, ↓upd_if, ↓reduceIte, List.nil_append, List.cons_append, List.length_cons, List.length_nil, List.getElem?_cons_zero, List.getElem?_cons_succ, Option.getD_some, Nat.reduceAdd, Nat.reduceLT, Nat.reduceLeDiff, Nat.reduceEqDiff, Nat.reduceBEq, ne_eq, reduceCtorEq, List.all_cons, List.all_nil, implies_true, List.getD_cons_zero, List.getD_cons_succ, List.append_eq, Int.reduceBEq, beq_self_eq_true, nd_75, CellT.B, ext_obj_old _ _ _ _ hid, hx, ext_setc_old _ _ _ _ _ hid, ext_old1 _ _ _ _ _ hid, ext_set1 _ _ _ _ _ _ hid, RowT.B]
  exact En_set1 hid (Lw.ds _) (Lw.aggL (Lw.ds [_, _, _, _, _])) ⟨rfl, rfl⟩
theorem New_ct (u : UnitT) (now : Int) (st : St) (hf : u.Fit) : Ct Tryz.prog 101 [u.av, .d (int now)] st
    (fun r s => r = (CellT.mk u 0 now 0 [] 0 ⟨0, 0, 0, 0, 0, false⟩ ⟨0, 0, 0, 0, 0, false⟩ 1099511627776 false false [] [] 0 0 (-1) 1099511627776 0).av ∧ s = st) := by
  refine Ct.of_textR mo Tryz.func101 rfl [] (by kernel_rfl) (by kernel_rfl) Tryz.ntmps101 (Nat.le_of_ble_eq_true rfl) Tryz.results101 ?_
  simp -implicitDefEqProofs only [AWB, List.lookup_nil, ↓upd_hit, ↓upd_if, ↓reduceIte, List.nil_append, List.cons_append, List.length_cons, List.length_nil, List.getElem?_cons_zero, List.getElem?_cons_succ, Option.getD_some, Nat.reduceAdd, Nat.reduceLT, Nat.reduceLeDiff, Nat.reduceEqDiff, Nat.reduceBEq, ne_eq, reduceCtorEq, List.all_cons, List.all_nil, implies_true, List.getD_cons_zero, List.getD_cons_succ, List.append_eq, Int.reduceBEq, beq_self_eq_true, nd_101, UnitT.B]
  refine Cl_ct (UnitOf_ct u _ hf) rfl ?_
  simp -implicitDefEqProofs only [AWB, List.lookup_nil, ↓upd_hit, ↓upd_if, ↓reduceIte, List.nil_append, List.cons_append, List.length_cons, List.length_nil, List.getElem?_cons_zero, List.getElem?_cons_succ, Option.getD_some, Nat.reduceAdd, Nat.reduceLT, Nat.reduceLeDiff, Nat.reduceEqDiff, Nat.reduceBEq, ne_eq, reduceCtorEq, List.all_cons, List.all_nil, implies_true, List.getD_cons_zero, List.getD_cons_succ, List.append_eq, Int.reduceBEq, beq_self_eq_true, nd_101, UnitT.row, UnitT.cells, List.map_cons, List.map_nil, UnitT.av, ints, strs, RelT.sl, ExecT.sl, PairT.sl]

  refine En_pure (Lw.aggL ?_) ⟨rfl, rfl⟩
  repeat first | exact LwL.nil | refine LwL.cons (by first | exact .d _ | exact .nilD _) ?_
end Go.AW
