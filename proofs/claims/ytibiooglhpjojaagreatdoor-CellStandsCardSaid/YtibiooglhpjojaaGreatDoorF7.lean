/- The law's target, cell.Begin and cell.Due of a target. -/
import Derived.Test.YtibiooglhpjojaaGreatDoorF6
set_option linter.unusedSimpArgs false
set_option linter.unusedVariables false
namespace Go.AW
open Go.RowKit Go.Proofs
set_option maxRecDepth 10000

def u0 : UnitT := ⟨⟨#[103, 46, 116, 97, 114, 103, 101, 116]⟩, 4, .empty, false, [], 0, 0, 0, [], [], [], [], [], false, 0, 0, 0, 0, [], [], [], [], 0, .empty, .empty, [], [], [], [], false, [], [], [], [], .empty⟩
theorem u0_fit : u0.Fit := by
  constructor <;> simp [u0, Fits]
def u0N : List AV := [.d (str ⟨#[103, 46, 116, 97, 114, 103, 101, 116]⟩), .d (int 4), .d (str .empty), .d (bl false), .nil, .d (int 0), .d (int 0), .d (int 0), .nil, .nil, .nil, .nil, .nil, .d (bl false), .d (int 0), .d (int 0), .d (int 0), .d (int 0), .nil, .nil, .nil, .nil, .d (int 0), .d (str .empty), .d (str .empty), .nil, .nil, .nil, .nil, .d (bl false), .nil, .nil, .nil, .nil, .d (str .empty)]
theorem u0_lw {n k : Nat} : Lw n k (.agg u0N) u0.av := by
  refine Lw.aggL ?_
  unfold u0N
  repeat first | exact LwL.nil | refine LwL.cons (by first | exact .d _ | exact .nilD _) ?_
theorem lawTarget_ct (st : St) : Ct Tryz.prog 31 [] st (fun r s => r = .tup [u0.av, (newOf u0 3).av] ∧ s = st) := by
  refine Ct.of_textR mo Tryz.func31 rfl [(2, [(0, 2), (2, 0)])] (by kernel_rfl) (by kernel_rfl) Tryz.ntmps31 (Nat.le_of_ble_eq_true rfl) Tryz.results31 ?_
  simp -implicitDefEqProofs only [AWB, List.lookup_nil, ↓upd_hit, ↓upd_if, ↓reduceIte, List.nil_append, List.cons_append, List.length_cons, List.length_nil, List.getElem?_cons_zero, List.getElem?_cons_succ, Option.getD_some, Nat.reduceAdd, Nat.reduceLT, Nat.reduceLeDiff, Nat.reduceEqDiff, Nat.reduceBEq, ne_eq, reduceCtorEq, List.all_cons, List.all_nil, implies_true, List.getD_cons_zero, List.getD_cons_succ, List.append_eq, Int.reduceBEq, beq_self_eq_true, nd_31, UnitT.B, CellT.B]
  refine CaG_p (Ct.sub (n := 0) (m := 0) (.cons (b := u0.av) u0_lw (.cons (.d _) .nil)) (cellNew_ct u0 3 _ u0_fit)) rfl ?_
  simp -implicitDefEqProofs only [AWB, List.lookup_nil, ↓upd_hit, ↓upd_if, ↓reduceIte, List.nil_append, List.cons_append, List.length_cons, List.length_nil, List.getElem?_cons_zero, List.getElem?_cons_succ, Option.getD_some, Nat.reduceAdd, Nat.reduceLT, Nat.reduceLeDiff, Nat.reduceEqDiff, Nat.reduceBEq, ne_eq, reduceCtorEq, List.all_cons, List.all_nil, implies_true, List.getD_cons_zero, List.getD_cons_succ, List.append_eq, Int.reduceBEq, beq_self_eq_true, nd_31, UnitT.B, CellT.B]
  exact En_pure (Lw.tupL (.cons u0_lw (.cons (CellT.lw _) .nil))) ⟨rfl, rfl⟩
theorem Begin_target (w : WorldT) (u : UnitT) (c : CellT) (typ now : Int) (st : St) (hu : u.Fit) (hc : c.Fit) (hk : (u.Kind == 4) = true) :
    Ct Tryz.prog 22 [w.av, u.av, c.av, .d (int typ), .d (int now)] st (fun r s => r = .tup [(targetOf u c typ now).1.av, (targetOf u c typ now).2.av] ∧ s = st) := by
  have k1 : (u.Kind == 1) = false := by simp at hk; simp [hk]
  have k2 : (u.Kind == 2) = false := by simp at hk; simp [hk]
  have k3 : (u.Kind == 3) = false := by simp at hk; simp [hk]
  refine Ct.of_textR mo Tryz.func22 rfl [] (by kernel_rfl) (by kernel_rfl) Tryz.ntmps22 (Nat.le_of_ble_eq_true rfl) Tryz.results22 ?_
  simp -implicitDefEqProofs only [AWB, List.lookup_nil, ↓upd_hit, ↓upd_if, ↓reduceIte, List.nil_append, List.cons_append, List.length_cons, List.length_nil, List.getElem?_cons_zero, List.getElem?_cons_succ, Option.getD_some, Nat.reduceAdd, Nat.reduceLT, Nat.reduceLeDiff, Nat.reduceEqDiff, Nat.reduceBEq, ne_eq, reduceCtorEq, List.all_cons, List.all_nil, implies_true, List.getD_cons_zero, List.getD_cons_succ, List.append_eq, Int.reduceBEq, beq_self_eq_true, nd_22, UnitT.B, CellT.B, WorldT.B, OutT.B, k1, k2, k3, hk]
  refine Cl_ct (target_ct u c typ now _ hu hc) rfl ?_
  simp -implicitDefEqProofs only [AWB, List.lookup_nil, ↓upd_hit, ↓upd_if, ↓reduceIte, List.nil_append, List.cons_append, List.length_cons, List.length_nil, List.getElem?_cons_zero, List.getElem?_cons_succ, Option.getD_some, Nat.reduceAdd, Nat.reduceLT, Nat.reduceLeDiff, Nat.reduceEqDiff, Nat.reduceBEq, ne_eq, reduceCtorEq, List.all_cons, List.all_nil, implies_true, List.getD_cons_zero, List.getD_cons_succ, List.append_eq, Int.reduceBEq, beq_self_eq_true, nd_22, UnitT.B, CellT.B, WorldT.B, OutT.B]
  exact En_pure (Lw.tupL (.cons (CellT.lw _) (.cons (OutT.lw _) .nil))) ⟨rfl, rfl⟩
theorem Due_target (w : WorldT) (c : CellT) (st : St) (hk : (c.U.Kind == 4) = true) : Ct Tryz.prog 28 [w.av, c.av] st (fun r s => r = .d (int 1099511627776) ∧ s = st) := by
  have k1 : (c.U.Kind == 1) = false := by simp at hk; simp [hk]
  have k2 : (c.U.Kind == 2) = false := by simp at hk; simp [hk]
  have k3 : (c.U.Kind == 3) = false := by simp at hk; simp [hk]
  refine Ct.of_textR mo Tryz.func28 rfl [] (by kernel_rfl) (by kernel_rfl) Tryz.ntmps28 (Nat.le_of_ble_eq_true rfl) Tryz.results28 ?_
  simp -implicitDefEqProofs only [AWB, List.lookup_nil, ↓upd_hit, ↓upd_if, ↓reduceIte, List.nil_append, List.cons_append, List.length_cons, List.length_nil, List.getElem?_cons_zero, List.getElem?_cons_succ, Option.getD_some, Nat.reduceAdd, Nat.reduceLT, Nat.reduceLeDiff, Nat.reduceEqDiff, Nat.reduceBEq, ne_eq, reduceCtorEq, List.all_cons, List.all_nil, implies_true, List.getD_cons_zero, List.getD_cons_succ, List.append_eq, Int.reduceBEq, beq_self_eq_true, nd_28, UnitT.B, CellT.B, WorldT.B, k1, k2, k3]
  exact En_pure (.d _) ⟨rfl, rfl⟩
def c0 : CellT := newOf u0 3
def w0 : WorldT := ⟨[], [], []⟩
theorem c0_fit : c0.Fit := by
  constructor <;> first | exact u0_fit | simp [c0, newOf, Fits]
def d0 : CellT := (targetOf u0 c0 1 4).1
def o0 : OutT := (targetOf u0 c0 1 4).2
def e0 : CellT := (targetOf u0 d0 2 5).1
def p0 : OutT := (targetOf u0 d0 2 5).2
theorem d0_fit : d0.Fit := by
  constructor <;> first | exact u0_fit | simp [d0, c0, newOf, targetOf, Fits, isRest]
theorem w0_lw {n k : Nat} : Lw n k (.agg [.nil, .nil, .nil]) w0.av := Lw.aggL (.cons (.nilD _) (.cons (.nilD _) (.cons (.nilD _) .nil)))
theorem Begin_0 (u : UnitT) (c : CellT) (typ now : Int) (st : St) (hu : u.Fit) (hc : c.Fit) (hk : (u.Kind == 4) = true) :
    Ct Tryz.prog 22 [.agg [.nil, .nil, .nil], .agg u.row, .agg c.row, .d (int typ), .d (int now)] st (fun r s => r = .tup [(targetOf u c typ now).1.av, (targetOf u c typ now).2.av] ∧ s = st) :=
  Ct.sub (n := 0) (m := 0) (.cons (b := w0.av) w0_lw (.cons (UnitT.lw u) (.cons (CellT.lw c) (.cons (.d _) (.cons (.d _) .nil))))) (Begin_target w0 u c typ now _ hu hc hk)
theorem Due_0 (c : CellT) (st : St) (hk : (c.U.Kind == 4) = true) : Ct Tryz.prog 28 [.agg [.nil, .nil, .nil], .agg c.row] st (fun r s => r = .d (int 1099511627776) ∧ s = st) :=
  Ct.sub (n := 0) (m := 0) (.cons (b := w0.av) w0_lw (.cons (CellT.lw c) .nil)) (Due_target w0 c st hk)
theorem shown_ct (st : St) : Ct Tryz.prog 8 [] st (fun r s => r = .d (bl true) ∧ s = st) := by
  have ro : o0.Rows = [⟨4, u0.Name, 1, 2, up_⟩] := rfl
  have rp : p0.Rows = [⟨5, u0.Name, 2, 2, down_⟩] := rfl
  have f1 : isRest c0 = true := rfl
  have f2 : isUp c0 = false := rfl
  have f3 : isThere d0 = true := rfl
  have f4 : isUp d0 = true := rfl
  have f5 : isCame d0 = true := rfl
  have f6 : isHalf d0 = false := rfl
  have f7 : (d0.Since == 4) = true := rfl
  have f8 : (d0.Attempt == 1) = true := rfl
  have f9 : endsOf d0 1 = 1 := rfl
  have f10 : endsOf d0 2 = 0 := rfl
  have f11 : isRest e0 = true := rfl
  have f12 : endsOf e0 2 = 1 := rfl
  have f13 : (((1 : Nat) : Int) == 1) = true := rfl
  have hix : ∀ (r : RowT) (e b : Nat) (k : IntKind), idxV (some (e, 5, b)) (.d (.sl 5 [r.cells])) (.d (.lit (.int k 0))) = ⟨True, .pp r.row⟩ := fun r e b k => idx_elem (i := 0) (xs := [r.cells]) (Nat.zero_lt_one)
  have f14 : (up_.toList == (⟨#[117, 112]⟩ : ByteArray).toList) = true := beq_self_eq_true _
  have hdr : ∀ (r : RowT) (o n : Nat), sub (r.row.drop o) 0 n false = sub r.row o n false := fun r o n => by simp [sub, List.getD_eq_getElem?_getD]; omega
  have hc0 : newOf u0 3 = c0 := rfl
  have hd0 : (targetOf u0 c0 1 4).1 = d0 := rfl
  have ho0 : (targetOf u0 c0 1 4).2 = o0 := rfl
  have he0 : (targetOf u0 d0 2 5).1 = e0 := rfl
  have hp0 : (targetOf u0 d0 2 5).2 = p0 := rfl
  refine Ct.of_textR mo Tryz.func8 rfl [] (by kernel_rfl) (by kernel_rfl) Tryz.ntmps8 (Nat.le_of_ble_eq_true rfl) Tryz.results8 ?_
  simp -implicitDefEqProofs only [AWB, List.lookup_nil, ↓upd_hit, ↓upd_if, ↓reduceIte, List.nil_append, List.cons_append, List.length_cons, List.length_nil, List.getElem?_cons_zero, List.getElem?_cons_succ, Option.getD_some, Nat.reduceAdd, Nat.reduceLT, Nat.reduceLeDiff, Nat.reduceEqDiff, Nat.reduceBEq, ne_eq, reduceCtorEq, List.all_cons, List.all_nil, implies_true, List.getD_cons_zero, List.getD_cons_succ, List.append_eq, Int.reduceBEq, beq_self_eq_true, nd_8, UnitT.B, CellT.B, WorldT.B, OutT.B]
  refine Cl_ct (lawTarget_ct _) rfl ?_
  simp -implicitDefEqProofs only [AWB, List.lookup_nil, ↓upd_hit, ↓upd_if, ↓reduceIte, List.nil_append, List.cons_append, List.length_cons, List.length_nil, List.getElem?_cons_zero, List.getElem?_cons_succ, Option.getD_some, Nat.reduceAdd, Nat.reduceLT, Nat.reduceLeDiff, Nat.reduceEqDiff, Nat.reduceBEq, ne_eq, reduceCtorEq, List.all_cons, List.all_nil, implies_true, List.getD_cons_zero, List.getD_cons_succ, List.append_eq, Int.reduceBEq, beq_self_eq_true, nd_8, UnitT.B, CellT.B, WorldT.B, OutT.B, hc0]
  refine Cl_ct (Begin_0 u0 c0 1 4 _ u0_fit c0_fit rfl) rfl ?_
  simp -implicitDefEqProofs only [AWB, List.lookup_nil, ↓upd_hit, ↓upd_if, ↓reduceIte, List.nil_append, List.cons_append, List.length_cons, List.length_nil, List.getElem?_cons_zero, List.getElem?_cons_succ, Option.getD_some, Nat.reduceAdd, Nat.reduceLT, Nat.reduceLeDiff, Nat.reduceEqDiff, Nat.reduceBEq, ne_eq, reduceCtorEq, List.all_cons, List.all_nil, implies_true, List.getD_cons_zero, List.getD_cons_succ, List.append_eq, Int.reduceBEq, beq_self_eq_true, nd_8, UnitT.B, CellT.B, WorldT.B, OutT.B, hd0, ho0]
  refine Cl_ct (Begin_0 u0 d0 2 5 _ u0_fit d0_fit rfl) rfl ?_
  simp -implicitDefEqProofs only [AWB, List.lookup_nil, ↓upd_hit, ↓upd_if, ↓reduceIte, List.nil_append, List.cons_append, List.length_cons, List.length_nil, List.getElem?_cons_zero, List.getElem?_cons_succ, Option.getD_some, Nat.reduceAdd, Nat.reduceLT, Nat.reduceLeDiff, Nat.reduceEqDiff, Nat.reduceBEq, ne_eq, reduceCtorEq, List.all_cons, List.all_nil, implies_true, List.getD_cons_zero, List.getD_cons_succ, List.append_eq, Int.reduceBEq, beq_self_eq_true, nd_8, UnitT.B, CellT.B, WorldT.B, OutT.B, he0, hp0]
  refine Cl_ct (Rest_ct c0 _) rfl ?_
  simp -implicitDefEqProofs only [AWB, List.lookup_nil, ↓upd_hit, ↓upd_if, ↓reduceIte, List.nil_append, List.cons_append, List.length_cons, List.length_nil, List.getElem?_cons_zero, List.getElem?_cons_succ, Option.getD_some, Nat.reduceAdd, Nat.reduceLT, Nat.reduceLeDiff, Nat.reduceEqDiff, Nat.reduceBEq, ne_eq, reduceCtorEq, List.all_cons, List.all_nil, implies_true, List.getD_cons_zero, List.getD_cons_succ, List.append_eq, Int.reduceBEq, beq_self_eq_true, nd_8, UnitT.B, CellT.B, WorldT.B, OutT.B, f1]
  refine Cl_ct (Up_ct c0 _) rfl ?_
  simp -implicitDefEqProofs only [AWB, List.lookup_nil, ↓upd_hit, ↓upd_if, ↓reduceIte, List.nil_append, List.cons_append, List.length_cons, List.length_nil, List.getElem?_cons_zero, List.getElem?_cons_succ, Option.getD_some, Nat.reduceAdd, Nat.reduceLT, Nat.reduceLeDiff, Nat.reduceEqDiff, Nat.reduceBEq, ne_eq, reduceCtorEq, List.all_cons, List.all_nil, implies_true, List.getD_cons_zero, List.getD_cons_succ, List.append_eq, Int.reduceBEq, beq_self_eq_true, nd_8, UnitT.B, CellT.B, WorldT.B, OutT.B, f2]
  refine Cl_ct (There_ct d0 _) rfl ?_
  simp -implicitDefEqProofs only [AWB, List.lookup_nil, ↓upd_hit, ↓upd_if, ↓reduceIte, List.nil_append, List.cons_append, List.length_cons, List.length_nil, List.getElem?_cons_zero, List.getElem?_cons_succ, Option.getD_some, Nat.reduceAdd, Nat.reduceLT, Nat.reduceLeDiff, Nat.reduceEqDiff, Nat.reduceBEq, ne_eq, reduceCtorEq, List.all_cons, List.all_nil, implies_true, List.getD_cons_zero, List.getD_cons_succ, List.append_eq, Int.reduceBEq, beq_self_eq_true, nd_8, UnitT.B, CellT.B, WorldT.B, OutT.B, f3]
  refine Cl_ct (Up_ct d0 _) rfl ?_
  simp -implicitDefEqProofs only [AWB, List.lookup_nil, ↓upd_hit, ↓upd_if, ↓reduceIte, List.nil_append, List.cons_append, List.length_cons, List.length_nil, List.getElem?_cons_zero, List.getElem?_cons_succ, Option.getD_some, Nat.reduceAdd, Nat.reduceLT, Nat.reduceLeDiff, Nat.reduceEqDiff, Nat.reduceBEq, ne_eq, reduceCtorEq, List.all_cons, List.all_nil, implies_true, List.getD_cons_zero, List.getD_cons_succ, List.append_eq, Int.reduceBEq, beq_self_eq_true, nd_8, UnitT.B, CellT.B, WorldT.B, OutT.B, f4]
  refine Cl_ct (Came_ct d0 _) rfl ?_
  simp -implicitDefEqProofs only [AWB, List.lookup_nil, ↓upd_hit, ↓upd_if, ↓reduceIte, List.nil_append, List.cons_append, List.length_cons, List.length_nil, List.getElem?_cons_zero, List.getElem?_cons_succ, Option.getD_some, Nat.reduceAdd, Nat.reduceLT, Nat.reduceLeDiff, Nat.reduceEqDiff, Nat.reduceBEq, ne_eq, reduceCtorEq, List.all_cons, List.all_nil, implies_true, List.getD_cons_zero, List.getD_cons_succ, List.append_eq, Int.reduceBEq, beq_self_eq_true, nd_8, UnitT.B, CellT.B, WorldT.B, OutT.B, f5]
  refine Cl_ct (Half_ct d0 _) rfl ?_
  simp -implicitDefEqProofs only [AWB, List.lookup_nil, ↓upd_hit, ↓upd_if, ↓reduceIte, List.nil_append, List.cons_append, List.length_cons, List.length_nil, List.getElem?_cons_zero, List.getElem?_cons_succ, Option.getD_some, Nat.reduceAdd, Nat.reduceLT, Nat.reduceLeDiff, Nat.reduceEqDiff, Nat.reduceBEq, ne_eq, reduceCtorEq, List.all_cons, List.all_nil, implies_true, List.getD_cons_zero, List.getD_cons_succ, List.append_eq, Int.reduceBEq, beq_self_eq_true, nd_8, UnitT.B, CellT.B, WorldT.B, OutT.B, f6, f7, f8, ro, RowT.sl, List.map_cons, List.map_nil, f13, hix, hdr, RowT.B, f14]
  refine Cl_ct (Ends_ct d0 1 _) rfl ?_
  simp -implicitDefEqProofs only [AWB, List.lookup_nil, ↓upd_hit, ↓upd_if, ↓reduceIte, List.nil_append, List.cons_append, List.length_cons, List.length_nil, List.getElem?_cons_zero, List.getElem?_cons_succ, Option.getD_some, Nat.reduceAdd, Nat.reduceLT, Nat.reduceLeDiff, Nat.reduceEqDiff, Nat.reduceBEq, ne_eq, reduceCtorEq, List.all_cons, List.all_nil, implies_true, List.getD_cons_zero, List.getD_cons_succ, List.append_eq, Int.reduceBEq, beq_self_eq_true, nd_8, UnitT.B, CellT.B, WorldT.B, OutT.B, f9]
  refine Cl_ct (Ends_ct d0 2 _) rfl ?_
  simp -implicitDefEqProofs only [AWB, List.lookup_nil, ↓upd_hit, ↓upd_if, ↓reduceIte, List.nil_append, List.cons_append, List.length_cons, List.length_nil, List.getElem?_cons_zero, List.getElem?_cons_succ, Option.getD_some, Nat.reduceAdd, Nat.reduceLT, Nat.reduceLeDiff, Nat.reduceEqDiff, Nat.reduceBEq, ne_eq, reduceCtorEq, List.all_cons, List.all_nil, implies_true, List.getD_cons_zero, List.getD_cons_succ, List.append_eq, Int.reduceBEq, beq_self_eq_true, nd_8, UnitT.B, CellT.B, WorldT.B, OutT.B, f10]
  refine Cl_ct (Rest_ct e0 _) rfl ?_
  simp -implicitDefEqProofs only [AWB, List.lookup_nil, ↓upd_hit, ↓upd_if, ↓reduceIte, List.nil_append, List.cons_append, List.length_cons, List.length_nil, List.getElem?_cons_zero, List.getElem?_cons_succ, Option.getD_some, Nat.reduceAdd, Nat.reduceLT, Nat.reduceLeDiff, Nat.reduceEqDiff, Nat.reduceBEq, ne_eq, reduceCtorEq, List.all_cons, List.all_nil, implies_true, List.getD_cons_zero, List.getD_cons_succ, List.append_eq, Int.reduceBEq, beq_self_eq_true, nd_8, UnitT.B, CellT.B, WorldT.B, OutT.B, f11, rp, RowT.sl, List.map_cons, List.map_nil, f13, hix, hdr, RowT.B]
  refine Cl_ct (Ends_ct e0 2 _) rfl ?_
  simp -implicitDefEqProofs only [AWB, List.lookup_nil, ↓upd_hit, ↓upd_if, ↓reduceIte, List.nil_append, List.cons_append, List.length_cons, List.length_nil, List.getElem?_cons_zero, List.getElem?_cons_succ, Option.getD_some, Nat.reduceAdd, Nat.reduceLT, Nat.reduceLeDiff, Nat.reduceEqDiff, Nat.reduceBEq, ne_eq, reduceCtorEq, List.all_cons, List.all_nil, implies_true, List.getD_cons_zero, List.getD_cons_succ, List.append_eq, Int.reduceBEq, beq_self_eq_true, nd_8, UnitT.B, CellT.B, WorldT.B, OutT.B, f12]
  refine Cl_ct (Due_0 d0 _ rfl) rfl ?_
  simp -implicitDefEqProofs only [AWB, List.lookup_nil, ↓upd_hit, ↓upd_if, ↓reduceIte, List.nil_append, List.cons_append, List.length_cons, List.length_nil, List.getElem?_cons_zero, List.getElem?_cons_succ, Option.getD_some, Nat.reduceAdd, Nat.reduceLT, Nat.reduceLeDiff, Nat.reduceEqDiff, Nat.reduceBEq, ne_eq, reduceCtorEq, List.all_cons, List.all_nil, implies_true, List.getD_cons_zero, List.getD_cons_succ, List.append_eq, Int.reduceBEq, beq_self_eq_true, nd_8, UnitT.B, CellT.B, WorldT.B, OutT.B]
  exact En_pure (.d _) ⟨rfl, rfl⟩
end Go.AW
