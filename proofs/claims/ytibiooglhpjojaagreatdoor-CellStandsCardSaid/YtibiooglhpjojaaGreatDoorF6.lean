/- cell.New, cell.target, cell.Begin and cell.Due of a target. -/
import Derived.Test.YtibiooglhpjojaaGreatDoorF5
set_option linter.unusedSimpArgs false
set_option linter.unusedVariables false
namespace Go.AW
open Go.RowKit Go.Proofs
set_option maxRecDepth 10000

def newOf (u : UnitT) (now : Int) : CellT := CellT.mk u 0 now 0 [] 0 ⟨0, 0, 0, 0, 0, false⟩ ⟨0, 0, 0, 0, 0, false⟩ 1099511627776 false false [] [] 0 0 (-1) 1099511627776 0
theorem cellNew_ct (u : UnitT) (now : Int) (st : St) (hf : u.Fit) : Ct Tryz.prog 64 [u.av, .d (int now)] st (fun r s => r = (newOf u now).av ∧ s = st) := by
  refine Ct.of_textR mo Tryz.func64 rfl [] (by kernel_rfl) (by kernel_rfl) Tryz.ntmps64 (Nat.le_of_ble_eq_true rfl) Tryz.results64 ?_
  simp -implicitDefEqProofs only [AWB, List.lookup_nil, ↓upd_hit, ↓upd_if, ↓reduceIte, List.nil_append, List.cons_append, List.length_cons, List.length_nil, List.getElem?_cons_zero, List.getElem?_cons_succ, Option.getD_some, Nat.reduceAdd, Nat.reduceLT, Nat.reduceLeDiff, Nat.reduceEqDiff, Nat.reduceBEq, ne_eq, reduceCtorEq, List.all_cons, List.all_nil, implies_true, List.getD_cons_zero, List.getD_cons_succ, List.append_eq, Int.reduceBEq, beq_self_eq_true, nd_64, UnitT.B, CellT.B]
  refine Cl_ct (New_ct u now _ hf) rfl ?_
  simp -implicitDefEqProofs only [AWB, List.lookup_nil, ↓upd_hit, ↓upd_if, ↓reduceIte, List.nil_append, List.cons_append, List.length_cons, List.length_nil, List.getElem?_cons_zero, List.getElem?_cons_succ, Option.getD_some, Nat.reduceAdd, Nat.reduceLT, Nat.reduceLeDiff, Nat.reduceEqDiff, Nat.reduceBEq, ne_eq, reduceCtorEq, List.all_cons, List.all_nil, implies_true, List.getD_cons_zero, List.getD_cons_succ, List.append_eq, Int.reduceBEq, beq_self_eq_true, nd_64, UnitT.B, CellT.B]
  exact En_pure (newOf u now).lw ⟨rfl, rfl⟩
theorem OutT.lw {n k : Nat} (c : OutT) : Lw n k c.av c.av := Lw.aggL (Lw.ds _)
def up_ : ByteArray := ⟨#[117, 112]⟩
def down_ : ByteArray := ⟨#[100, 111, 119, 110]⟩
def noOut : OutT := ⟨[], [], [], false, false⟩
def targetOf (u : UnitT) (c : CellT) (typ now : Int) : CellT × OutT :=
  if typ = 1 ∧ isRest c = true then
    ({ c with U := u, Attempt := IntKind.wrap .i64 (c.Attempt + 1), State := 4, Since := now, Rows := IntKind.wrap .i64 (c.Rows + 1) },
      { noOut with Rows := [⟨now, u.Name, IntKind.wrap .i64 (c.Rows + 1), 2, up_⟩] })
  else if (typ = 2 ∨ typ = 3) ∧ c.State = 4 then
    ({ c with State := 0, Since := now, Rows := IntKind.wrap .i64 (c.Rows + 1) }, { noOut with Rows := [⟨now, c.U.Name, IntKind.wrap .i64 (c.Rows + 1), 2, down_⟩] })
  else (c, noOut)
theorem target_ct (u : UnitT) (c : CellT) (typ now : Int) (st : St) (hu : u.Fit) (hc : c.Fit) :
    Ct Tryz.prog 39 [u.av, c.av, .d (int typ), .d (int now)] st (fun r s => r = .tup [(targetOf u c typ now).1.av, (targetOf u c typ now).2.av] ∧ s = st) := by
  refine Ct.of_textR mo Tryz.func39 rfl [(12, [(1, 2), (2, 1)])] (by kernel_rfl) (by kernel_rfl) Tryz.ntmps39 (Nat.le_of_ble_eq_true rfl) Tryz.results39 ?_
  simp -implicitDefEqProofs only [AWB, List.lookup_nil, ↓upd_hit, ↓upd_if, ↓reduceIte, List.nil_append, List.cons_append, List.length_cons, List.length_nil, List.getElem?_cons_zero, List.getElem?_cons_succ, Option.getD_some, Nat.reduceAdd, Nat.reduceLT, Nat.reduceLeDiff, Nat.reduceEqDiff, Nat.reduceBEq, ne_eq, reduceCtorEq, List.all_cons, List.all_nil, implies_true, List.getD_cons_zero, List.getD_cons_succ, List.append_eq, Int.reduceBEq, beq_self_eq_true, nd_39, UnitT.B, CellT.B, OutT.B]
  refine Cl_ct (CellOf_ct c _ hc) rfl ?_
  simp -implicitDefEqProofs only [AWB, List.lookup_nil, ↓upd_hit, ↓upd_if, ↓reduceIte, List.nil_append, List.cons_append, List.length_cons, List.length_nil, List.getElem?_cons_zero, List.getElem?_cons_succ, Option.getD_some, Nat.reduceAdd, Nat.reduceLT, Nat.reduceLeDiff, Nat.reduceEqDiff, Nat.reduceBEq, ne_eq, reduceCtorEq, List.all_cons, List.all_nil, implies_true, List.getD_cons_zero, List.getD_cons_succ, List.append_eq, Int.reduceBEq, beq_self_eq_true, nd_39, UnitT.B, CellT.B, OutT.B]
  repeat' first | (refine Gt_intro (fun h => ?_) (fun h => ?_) <;> simp -implicitDefEqProofs only [AWB, List.lookup_nil, ↓upd_hit, ↓upd_if, ↓reduceIte, List.nil_append, List.cons_append, List.length_cons, List.length_nil, List.getElem?_cons_zero, List.getElem?_cons_succ, Option.getD_some, Nat.reduceAdd, Nat.reduceLT, Nat.reduceLeDiff, Nat.reduceEqDiff, Nat.reduceBEq, ne_eq, reduceCtorEq, List.all_cons, List.all_nil, implies_true, List.getD_cons_zero, List.getD_cons_succ, List.append_eq, Int.reduceBEq, beq_self_eq_true, nd_39, UnitT.B, CellT.B, OutT.B, *]) | (refine Cn_intro (fun h => ?_) (fun h => ?_) <;> simp -implicitDefEqProofs only [AWB, List.lookup_nil, ↓upd_hit, ↓upd_if, ↓reduceIte, List.nil_append, List.cons_append, List.length_cons, List.length_nil, List.getElem?_cons_zero, List.getElem?_cons_succ, Option.getD_some, Nat.reduceAdd, Nat.reduceLT, Nat.reduceLeDiff, Nat.reduceEqDiff, Nat.reduceBEq, ne_eq, reduceCtorEq, List.all_cons, List.all_nil, implies_true, List.getD_cons_zero, List.getD_cons_succ, List.append_eq, Int.reduceBEq, beq_self_eq_true, nd_39, UnitT.B, CellT.B, OutT.B, *]) | (refine Cl_ct (Rest_ct c _) rfl ?_; simp -implicitDefEqProofs only [AWB, List.lookup_nil, ↓upd_hit, ↓upd_if, ↓reduceIte, List.nil_append, List.cons_append, List.length_cons, List.length_nil, List.getElem?_cons_zero, List.getElem?_cons_succ, Option.getD_some, Nat.reduceAdd, Nat.reduceLT, Nat.reduceLeDiff, Nat.reduceEqDiff, Nat.reduceBEq, ne_eq, reduceCtorEq, List.all_cons, List.all_nil, implies_true, List.getD_cons_zero, List.getD_cons_succ, List.append_eq, Int.reduceBEq, beq_self_eq_true, nd_39, UnitT.B, CellT.B, OutT.B, *]) | (refine Cl_ct (UnitOf_ct u _ hu) rfl ?_; simp -implicitDefEqProofs only [AWB, List.lookup_nil, ↓upd_hit, ↓upd_if, ↓reduceIte, List.nil_append, List.cons_append, List.length_cons, List.length_nil, List.getElem?_cons_zero, List.getElem?_cons_succ, Option.getD_some, Nat.reduceAdd, Nat.reduceLT, Nat.reduceLeDiff, Nat.reduceEqDiff, Nat.reduceBEq, ne_eq, reduceCtorEq, List.all_cons, List.all_nil, implies_true, List.getD_cons_zero, List.getD_cons_succ, List.append_eq, Int.reduceBEq, beq_self_eq_true, nd_39, UnitT.B, CellT.B, OutT.B, *])
  all_goals first
    | (refine Cl_ct (Row_ct _ _ _ _ _ _ (by simp [ext_n]) (by rw [ext_obj_at]; rfl)) rfl ?_
       simp -implicitDefEqProofs only [AWB, List.lookup_nil, ↓upd_hit, ↓upd_if, ↓reduceIte, List.nil_append, List.cons_append, List.length_cons, List.length_nil, List.getElem?_cons_zero, List.getElem?_cons_succ, Option.getD_some, Nat.reduceAdd, Nat.reduceLT, Nat.reduceLeDiff, Nat.reduceEqDiff, Nat.reduceBEq, ne_eq, reduceCtorEq, List.all_cons, List.all_nil, implies_true, List.getD_cons_zero, List.getD_cons_succ, List.append_eq, Int.reduceBEq, beq_self_eq_true, nd_39, UnitT.B, CellT.B, OutT.B, RowT.B, *]
       refine Bs_d el_45 (toDss_one rfl) zl_62 (by decide) (by decide) rfl rfl rfl rfl rfl ?_
       simp -implicitDefEqProofs only [AWB, List.lookup_nil, ↓upd_hit, ↓upd_if, ↓reduceIte, List.nil_append, List.cons_append, List.length_cons, List.length_nil, List.getElem?_cons_zero, List.getElem?_cons_succ, Option.getD_some, Nat.reduceAdd, Nat.reduceLT, Nat.reduceLeDiff, Nat.reduceEqDiff, Nat.reduceBEq, ne_eq, reduceCtorEq, List.all_cons, List.all_nil, implies_true, List.getD_cons_zero, List.getD_cons_succ, List.append_eq, Int.reduceBEq, beq_self_eq_true, nd_39, UnitT.B, CellT.B, OutT.B, RowT.B, *]
       refine En_pure (r := AV.tup [(targetOf u c typ now).1.av, (targetOf u c typ now).2.av]) ?_ ⟨rfl, rfl⟩
       have e : ∀ a b : Int, (a = b) = ((a == b) = true) := fun a b => by simp
       simp only [targetOf, e, *]
       exact Lw.tupL (.cons (CellT.lw _) (.cons (Lw.aggL (.cons (.ownD _ _ _) (.cons (.nilD _) (.cons (.nilD _) (.cons (.d _) (.cons (.d _) .nil)))))) .nil)))
    | (refine En_pure (r := AV.tup [(targetOf u c typ now).1.av, (targetOf u c typ now).2.av]) ?_ ⟨rfl, rfl⟩
       have e : ∀ a b : Int, (a = b) = ((a == b) = true) := fun a b => by simp
       simp only [targetOf, e, *]
       exact Lw.tupL (.cons (CellT.lw _) (.cons (Lw.aggL (.cons (.nilD _) (.cons (.nilD _) (.cons (.nilD _) (.cons (.d _) (.cons (.d _) .nil)))))) .nil)))
end Go.AW
