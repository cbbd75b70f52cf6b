/- The evaluation of a text, one operation at a time: rules for 'simp only'. -/
import Derived.Test.YtibiooglhpjojaaGreatDoorA16
set_option linter.unusedSimpArgs false
set_option linter.unusedVariables false
namespace Go.AW
open Go.RowKit

/-- The state with so many objects and owned slices more. -/
def St.ext (st : St) (os : List (TypeId × List AV)) (ts : List (Option TypeId)) : St where
  n := st.n + os.length
  obj := fun i => if i < st.n then st.obj i else match os[i - st.n]? with | some x => x | none => st.obj i
  k := st.k + ts.length
  live := fun t => if t < st.k then st.live t else match ts[t - st.k]? with | some x => x | none => st.live t

theorem St.ext_nil (st : St) : st.ext [] [] = st := by
  simp [St.ext]
theorem ext_n (st : St) (os : List (TypeId × List AV)) (ts : List (Option TypeId)) : (st.ext os ts).n = st.n + os.length := rfl
theorem ext_k (st : St) (os : List (TypeId × List AV)) (ts : List (Option TypeId)) : (st.ext os ts).k = st.k + ts.length := rfl
theorem ext_push (st : St) (os : List (TypeId × List AV)) (ts : List (Option TypeId)) (t : TypeId) (cs : List AV) : (st.ext os ts).push t cs = st.ext (os ++ [(t, cs)]) ts := by
  simp only [St.push, St.ext, St.mk.injEq, List.length_append, List.length_singleton, and_true]
  refine ⟨by omega, ?_⟩
  funext i
  simp only [upd]
  by_cases h : i < st.n
  · rw [if_neg (by omega), if_pos h, if_pos h]
  · rw [if_neg h, if_neg h]
    by_cases h2 : i = st.n + os.length
    · rw [if_pos h2]; subst h2; simp
    · rw [if_neg h2]
      by_cases h3 : i - st.n < os.length
      · rw [List.getElem?_append_left h3]
      · rw [List.getElem?_eq_none (by omega), List.getElem?_eq_none (by simp; omega)]
theorem ext_own (st : St) (os : List (TypeId × List AV)) (ts : List (Option TypeId)) (e : TypeId) : (st.ext os ts).own e = st.ext os (ts ++ [some e]) := by
  simp only [St.own, St.ext, St.mk.injEq, List.length_append, List.length_singleton, true_and]
  refine ⟨by omega, ?_⟩
  funext i
  simp only [upd]
  by_cases h : i < st.k
  · rw [if_neg (by omega), if_pos h, if_pos h]
  · rw [if_neg h, if_neg h]
    by_cases h2 : i = st.k + ts.length
    · rw [if_pos h2]; subst h2; simp
    · rw [if_neg h2]
      by_cases h3 : i - st.k < ts.length
      · rw [List.getElem?_append_left h3]
      · rw [List.getElem?_eq_none (by omega), List.getElem?_eq_none (by simp; omega)]
theorem ext_obj_new (st : St) (os : List (TypeId × List AV)) (ts : List (Option TypeId)) (j : Nat) (h : j < os.length) : (st.ext os ts).obj (st.n + j) = os[j] := by
  simp only [St.ext]
  rw [if_neg (by omega), Nat.add_sub_cancel_left, List.getElem?_eq_getElem h]
theorem ext_obj_old (st : St) (os : List (TypeId × List AV)) (ts : List (Option TypeId)) (i : Nat) (h : i < st.n) : (st.ext os ts).obj i = st.obj i := by
  simp [St.ext, h]
theorem ext_live_new (st : St) (os : List (TypeId × List AV)) (ts : List (Option TypeId)) (j : Nat) (h : j < ts.length) : (st.ext os ts).live (st.k + j) = ts[j] := by
  simp only [St.ext]
  rw [if_neg (by omega), Nat.add_sub_cancel_left, List.getElem?_eq_getElem h]
theorem ext_live_old (st : St) (os : List (TypeId × List AV)) (ts : List (Option TypeId)) (i : Nat) (h : i < st.k) : (st.ext os ts).live i = st.live i := by
  simp [St.ext, h]
/-- The row with another content at a place. -/
def setN : List (TypeId × List AV) → Nat → List AV → List (TypeId × List AV)
  | [], _, _ => []
  | x :: l, 0, cs => (x.1, cs) :: l
  | x :: l, j + 1, cs => x :: setN l j cs
theorem setN_length : ∀ (l : List (TypeId × List AV)) (j : Nat) (cs : List AV), (setN l j cs).length = l.length
  | [], _, _ => rfl
  | _ :: _, 0, _ => rfl
  | _ :: l, j + 1, cs => by simp [setN, setN_length l j cs]
theorem setN_get : ∀ (l : List (TypeId × List AV)) (j : Nat) (cs : List AV) (i : Nat), (setN l j cs)[i]? = if i = j then (l[i]?).map (fun x => (x.1, cs)) else l[i]?
  | [], j, cs, i => by simp [setN]
  | x :: l, 0, cs, i => by cases i <;> simp [setN]
  | x :: l, j + 1, cs, i => by
    cases i with
    | zero => simp [setN]
    | succ i => simp [setN, setN_get l j cs i]
theorem setN_zero (x : TypeId × List AV) (l : List (TypeId × List AV)) (cs : List AV) : setN (x :: l) 0 cs = (x.1, cs) :: l := rfl
theorem setN_succ (x : TypeId × List AV) (l : List (TypeId × List AV)) (j : Nat) (cs : List AV) : setN (x :: l) (j + 1) cs = x :: setN l j cs := rfl
theorem ext_setc_new (st : St) (os : List (TypeId × List AV)) (ts : List (Option TypeId)) (j : Nat) (cs : List AV) (h : j < os.length) : (st.ext os ts).setc (st.n + j) cs = st.ext (setN os j cs) ts := by
  simp only [St.setc, St.ext, St.mk.injEq, setN_length, true_and, and_true]
  funext i
  simp only [upd, setN_get]
  by_cases h1 : i < st.n
  · rw [if_neg (by omega), if_pos h1, if_pos h1]
  · rw [if_neg h1, if_neg h1]
    by_cases h2 : i = st.n + j
    · subst h2
      rw [if_pos rfl, if_neg h1, Nat.add_sub_cancel_left, if_pos rfl, List.getElem?_eq_getElem h]
      rfl
    · rw [if_neg h2, if_neg (by omega)]
theorem ext_setc_old (st : St) (os : List (TypeId × List AV)) (ts : List (Option TypeId)) (i : Nat) (cs : List AV) (h : i < st.n) : (st.ext os ts).setc i cs = (st.setc i cs).ext os ts := by
  simp only [St.setc, St.ext, St.mk.injEq, true_and]
  refine ⟨?_, rfl⟩
  funext x
  simp only [upd]
  by_cases h1 : x = i
  · subst h1; simp [h]
  · simp only [h1, if_false]
def setT : List (Option TypeId) → Nat → List (Option TypeId)
  | [], _ => []
  | _ :: l, 0 => none :: l
  | x :: l, j + 1 => x :: setT l j
theorem setT_length : ∀ (l : List (Option TypeId)) (j : Nat), (setT l j).length = l.length
  | [], _ => rfl
  | _ :: _, 0 => rfl
  | _ :: l, j + 1 => by simp [setT, setT_length l j]
theorem setT_get : ∀ (l : List (Option TypeId)) (j : Nat) (i : Nat), (setT l j)[i]? = if i = j then (l[i]?).map (fun _ => none) else l[i]?
  | [], j, i => by simp [setT]
  | x :: l, 0, i => by cases i <;> simp [setT]
  | x :: l, j + 1, i => by
    cases i with
    | zero => simp [setT]
    | succ i => simp [setT, setT_get l j i]
theorem setT_zero (x : Option TypeId) (l : List (Option TypeId)) : setT (x :: l) 0 = none :: l := rfl
theorem setT_succ (x : Option TypeId) (l : List (Option TypeId)) (j : Nat) : setT (x :: l) (j + 1) = x :: setT l j := rfl
theorem ext_eat_new (st : St) (os : List (TypeId × List AV)) (ts : List (Option TypeId)) (j : Nat) (h : j < ts.length) : (st.ext os ts).eat (st.k + j) = st.ext os (setT ts j) := by
  simp only [St.eat, St.ext, St.mk.injEq, setT_length, true_and]
  funext i
  simp only [upd, setT_get]
  by_cases h1 : i < st.k
  · rw [if_neg (by omega), if_pos h1, if_pos h1]
  · rw [if_neg h1, if_neg h1]
    by_cases h2 : i = st.k + j
    · subst h2; simp [h]
    · rw [if_neg h2, if_neg (by omega)]
theorem ext_eat_old (st : St) (os : List (TypeId × List AV)) (ts : List (Option TypeId)) (i : Nat) (h : i < st.k) : (st.ext os ts).eat i = (st.eat i).ext os ts := by
  simp only [St.eat, St.ext, St.mk.injEq, true_and]
  refine ⟨rfl, ?_⟩
  funext x
  simp only [upd]
  by_cases h1 : x = i
  · subst h1; simp [h]
  · simp only [h1, if_false]
theorem ext_ext (st : St) (os os' : List (TypeId × List AV)) (ts ts' : List (Option TypeId)) : (st.ext os ts).ext os' ts' = st.ext (os ++ os') (ts ++ ts') := by
  simp only [St.ext, St.mk.injEq, List.length_append]
  refine ⟨by omega, ?_, by omega, ?_⟩
  · funext i
    by_cases h : i < st.n
    · have h' : i < st.n + os.length := by omega
      simp [h, h']
    · by_cases h2 : i < st.n + os.length
      · simp only [h, h2, if_true, if_false]
        rw [List.getElem?_append_left (by omega)]
      · have : i - (st.n + os.length) = i - st.n - os.length := by omega
        simp only [h, h2, if_false, this]
        rw [List.getElem?_append_right (by omega), List.getElem?_eq_none (l := os) (by omega)]
  · funext i
    by_cases h : i < st.k
    · have h' : i < st.k + ts.length := by omega
      simp [h, h']
    · by_cases h2 : i < st.k + ts.length
      · simp only [h, h2, if_true, if_false]
        rw [List.getElem?_append_left (by omega)]
      · have : i - (st.k + ts.length) = i - st.k - ts.length := by omega
        simp only [h, h2, if_false, this]
        rw [List.getElem?_append_right (by omega), List.getElem?_eq_none (l := ts) (by omega)]
theorem Drop.ext (st : St) (os : List (TypeId × List AV)) (ts : List (Option TypeId)) : Drop st (st.ext os ts) st :=
  Drop.of_eq (by simp [ext_n]) (by simp [ext_k]) (fun i h => ext_obj_old st os ts i h) (fun t h => ext_live_old st os ts t h)
/-- One old object was written. -/
theorem Drop.one {st st' : St} (id : Nat) (cs : List AV) (hn : st.n ≤ st'.n) (hk : st.k ≤ st'.k) (ho : ∀ i, i < st.n → i ≠ id → st'.obj i = st.obj i) (hl : ∀ t, t < st.k → st'.live t = st.live t)
    (ht : (st'.obj id).1 = (st.obj id).1) (hc : (st'.obj id).2.length = cs.length) (h : ∀ (j : Nat) (a b : AV), (st'.obj id).2[j]? = some a → cs[j]? = some b → (a = b ∧ (st.obj id).2[j]? = some a) ∨ Lw st.n st.k a b) : Drop st st' (st.setc id cs) := by
  refine ⟨Nat.le_refl _, Nat.le_refl _, hn, hk, fun i hi => ?_, fun t e h => .inr h, fun t e ht h => by rw [hl t ht]; exact h⟩
  rw [St.setc_n] at hi
  rw [St.setc_obj]
  by_cases e : i = id
  · subst e
    rw [if_pos rfl]
    refine ⟨ht, hc, fun j a b h1 h2 => ?_⟩
    rcases h j a b h1 h2 with ⟨h3, h4⟩ | h3
    · exact .inl ⟨hi, h3, h4⟩
    · exact .inr h3
  · rw [if_neg e, ho i hi e]
    exact ⟨rfl, rfl, fun j a b h1 h2 => by rw [h1] at h2; cases h2; exact .inl ⟨hi, rfl, h1⟩⟩
theorem St.setc_self (st : St) (id : Nat) : st.setc id (st.obj id).2 = st := by
  cases st
  simp only [St.setc, St.mk.injEq, true_and, and_true]
  funext i
  simp only [upd]
  by_cases e : i = id
  · rw [if_pos e, e]
  · rw [if_neg e]

/-- A value, and what is done with it. -/
def Bd (p : PV) (K : AV → Prop) : Prop := p.ok ∧ K p.v
theorem Bd_congr {p p' : PV} (h : p = p') (K : AV → Prop) : Bd p K = Bd p' K := by rw [h]
attribute [congr] Bd_congr
theorem Bd_mk (a : Prop) (v : AV) (K : AV → Prop) : Bd ⟨a, v⟩ K = (a ∧ K v) := rfl
theorem Bd_t (v : AV) (K : AV → Prop) : Bd ⟨True, v⟩ K = K v := by simp [Bd]
structure PS where
  ok : Prop
  st : St
def BdS (p : PS) (K : St → Prop) : Prop := p.ok ∧ K p.st
theorem BdS_congr {p p' : PS} (h : p = p') (K : St → Prop) : BdS p K = BdS p' K := by rw [h]
attribute [congr] BdS_congr
theorem BdS_mk (a : Prop) (s : St) (K : St → Prop) : BdS ⟨a, s⟩ K = (a ∧ K s) := rfl
theorem BdS_t (s : St) (K : St → Prop) : BdS ⟨True, s⟩ K = K s := by simp [BdS]
def BdL : List PV → (List AV → Prop) → Prop
  | [], K => K []
  | p :: ps, K => Bd p fun v => BdL ps fun vs => K (v :: vs)
theorem BdL_eq : ∀ (ps : List PV) (K : List AV → Prop), BdL ps K = (okAll ps ∧ K (ps.map (·.v)))
  | [], K => by simp [BdL, okAll]
  | p :: ps, K => by simp [BdL, okAll, Bd, BdL_eq ps, and_assoc]
theorem BdL_0 (ps : List PV) (K : List AV → Prop) : BdL ps K = BdL ps K := rfl
attribute [congr] BdL_0
theorem BdL_nil (K : List AV → Prop) : BdL [] K = K [] := rfl
theorem BdL_cons (p : PV) (ps : List PV) (K : List AV → Prop) : BdL (p :: ps) K = Bd p fun v => BdL ps fun vs => K (v :: vs) := rfl

/-- An operand. -/
def opv (tm : Tm) (x : Operand) : PV := ⟨opOk x = true, opnd tm x⟩
theorem opv_0 (tm : Tm) (x : Operand) : opv tm x = opv tm x := rfl
theorem upd_0 {α : Type} (f : Nat → α) (d : Nat) (v : α) : upd f d v = upd f d v := rfl
theorem eff_0 (P : Program) (tm : Tm) (st : St) (K : AV → St → Prop) (op : Op) : eff P tm st K op = eff P tm st K op := rfl
theorem wpL_0 (P : Program) (nt : Nat) (ops l : List Oper) (tm : Tm) (st : St) (K : Tm → St → Prop) : wpL P nt ops l tm st K = wpL P nt ops l tm st K := rfl
theorem wpAt_0 (P : Program) (nt : Nat) (ops : List Oper) (o : Oper) (tm : Tm) (st : St) (K : Tm → St → Prop) : wpAt P nt ops o tm st K = wpAt P nt ops o tm st K := rfl
theorem wpC_0 (P : Program) (nt : Nat) (ct : Ctb) (c : Code) (tm : Tm) (st : St) (Q : Exit → Tm → St → Prop) : wpC P nt ct c tm st Q = wpC P nt ct c tm st Q := rfl
theorem loopA_0 (W : Tm → St → (Exit → Tm → St → Prop) → Prop) (tm : Tm) (st : St) (Q : Exit → Tm → St → Prop) : loopA W tm st Q = loopA W tm st Q := rfl
theorem endA_0 (P : Program) (rs : List ResultVar) (st0 : St) (Q : AV → St → Prop) (e : Exit) (tm : Tm) (st : St) : endA P rs st0 Q e tm st = endA P rs st0 Q e tm st := rfl
theorem seqQ_0 (K : Tm → St → Prop) (Q : Exit → Tm → St → Prop) (e : Exit) (tm : Tm) (st : St) : seqQ K Q e tm st = seqQ K Q e tm st := rfl
theorem blockQ_0 (id : Nat) (Q : Exit → Tm → St → Prop) (e : Exit) (tm : Tm) (st : St) : blockQ id Q e tm st = blockQ id Q e tm st := rfl
attribute [congr] opv_0 upd_0 eff_0 wpL_0 wpAt_0 wpC_0 loopA_0 endA_0 seqQ_0 blockQ_0
theorem Ct_congr (P : Program) (k : FuncId) {as as' : List AV} {st st' : St} (h : as = as') (h' : st = st') (Q : AV → St → Prop) : Ct P k as st Q = Ct P k as' st' Q := by rw [h, h']
attribute [congr] Ct_congr
theorem callA_congr (P : Program) {f f' : AV} {as as' : List AV} {st st' : St} (h1 : f = f') (h : as = as') (h' : st = st') (Q : AV → St → Prop) : callA P f as st Q = callA P f' as' st' Q := by rw [h1, h, h']
attribute [congr] callA_congr
theorem invokeA_congr (P : Program) {f f' : AV} (n : String) {as as' : List AV} {st st' : St} (h1 : f = f') (h : as = as') (h' : st = st') (Q : AV → St → Prop) : invokeA P f n as st Q = invokeA P f' n as' st' Q := by rw [h1, h, h']
attribute [congr] invokeA_congr
attribute [congr] Br_congr

theorem opv_tmp (tm : Tm) (i : Nat) : opv tm (.tmp i) = ⟨True, tm i⟩ := by simp [opv, opOk, opnd]
theorem opv_func (tm : Tm) (f : FuncId) : opv tm (.func f) = ⟨True, .fn (.func f) [] []⟩ := by simp [opv, opOk, opnd]
theorem opv_int (tm : Tm) (k : IntKind) (n : Int) : opv tm (.const (.int k n)) = ⟨True, .d (.lit (.int k n))⟩ := by simp [opv, opOk, opnd, constOk, Value.oneCell', constAV, cellAV]
theorem opv_bool (tm : Tm) (b : Bool) : opv tm (.const (.bool b)) = ⟨True, .d (.lit (.bool b))⟩ := by simp [opv, opOk, opnd, constOk, Value.oneCell', constAV, cellAV]
theorem opv_str (tm : Tm) (s : ByteArray) : opv tm (.const (.string s)) = ⟨True, .d (.lit (.string s))⟩ := by simp [opv, opOk, opnd, constOk, Value.oneCell', constAV, cellAV]
theorem opv_nil (tm : Tm) : opv tm (.const (.slice none 0 0)) = ⟨True, .nil⟩ := by simp [opv, opOk, opnd, constOk, Value.oneCell', constAV, cellAV]
theorem upd_hit {α : Type} (f : Nat → α) (d : Nat) (v : α) : upd f d v d = v := upd_same f d v
theorem upd_if {α : Type} (f : Nat → α) (d i : Nat) (v : α) : upd f d v i = if i = d then v else f i := rfl
theorem undefs_at (args : List AV) (i : Nat) : undefs args i = (args[i]?).getD undefAV := rfl

def pickV : AV → AV → AV → PV
  | .d (.lit (.bool b)), x, y => ⟨True, if b then x else y⟩
  | _, _, _ => fails
theorem pickV_t (x y : AV) : pickV (.d (.lit (.bool true))) x y = ⟨True, x⟩ := rfl
theorem pickV_f (x y : AV) : pickV (.d (.lit (.bool false))) x y = ⟨True, y⟩ := rfl
theorem pickV_or (b c : Bool) : pickV (.d (.lit (.bool b))) (.d (.lit (.bool true))) (.d (.lit (.bool c))) = ⟨True, .d (.lit (.bool (b || c)))⟩ := by cases b <;> rfl
theorem pickV_and (b c : Bool) : pickV (.d (.lit (.bool b))) (.d (.lit (.bool c))) (.d (.lit (.bool false))) = ⟨True, .d (.lit (.bool (b && c)))⟩ := by cases b <;> rfl
def binV (P : Program) (op : BinOp) (t : TypeId) : AV → AV → PV
  | .d (.lit (.int k a)), .d (.lit (.int k' b)) => ⟨k = k' ∧ (intRes op k a b).ok, (intRes op k a b).v⟩
  | .d (.lit (.string a)), .d (.lit (.string b)) => strRes op a b
  | .d (.lit (.bool a)), .d (.lit (.bool b)) => boolRes P t op a b
  | _, _ => fails
section
variable (P : Program) (t : TypeId) (k : IntKind) (a b : Int)
theorem binV_add : binV P .add t (.d (.lit (.int k a))) (.d (.lit (.int k b))) = ⟨True, .d (.lit (.int k (k.wrap (a + b))))⟩ := by simp [binV, intRes]
theorem binV_sub : binV P .sub t (.d (.lit (.int k a))) (.d (.lit (.int k b))) = ⟨True, .d (.lit (.int k (k.wrap (a - b))))⟩ := by simp [binV, intRes]
theorem binV_mul : binV P .mul t (.d (.lit (.int k a))) (.d (.lit (.int k b))) = ⟨True, .d (.lit (.int k (k.wrap (a * b))))⟩ := by simp [binV, intRes]
theorem binV_quo : binV P .quo t (.d (.lit (.int k a))) (.d (.lit (.int k b))) = ⟨b ≠ 0, .d (.lit (.int k (k.wrap (a.tdiv b))))⟩ := by simp [binV, intRes]
theorem binV_rem : binV P .rem t (.d (.lit (.int k a))) (.d (.lit (.int k b))) = ⟨b ≠ 0, .d (.lit (.int k (a.tmod b)))⟩ := by simp [binV, intRes]
theorem binV_eql : binV P .eql t (.d (.lit (.int k a))) (.d (.lit (.int k b))) = ⟨True, .d (.lit (.bool (a == b)))⟩ := by simp [binV, intRes]
theorem binV_neq : binV P .neq t (.d (.lit (.int k a))) (.d (.lit (.int k b))) = ⟨True, .d (.lit (.bool (a != b)))⟩ := by simp [binV, intRes]
theorem binV_lss : binV P .lss t (.d (.lit (.int k a))) (.d (.lit (.int k b))) = ⟨True, .d (.lit (.bool (decide (a < b))))⟩ := by simp [binV, intRes]
theorem binV_leq : binV P .leq t (.d (.lit (.int k a))) (.d (.lit (.int k b))) = ⟨True, .d (.lit (.bool (decide (a ≤ b))))⟩ := by simp [binV, intRes]
theorem binV_gtr : binV P .gtr t (.d (.lit (.int k a))) (.d (.lit (.int k b))) = ⟨True, .d (.lit (.bool (decide (a > b))))⟩ := by simp [binV, intRes]
theorem binV_geq : binV P .geq t (.d (.lit (.int k a))) (.d (.lit (.int k b))) = ⟨True, .d (.lit (.bool (decide (a ≥ b))))⟩ := by simp [binV, intRes]
theorem binV_seql (a b : ByteArray) : binV P .eql t (.d (.lit (.string a))) (.d (.lit (.string b))) = ⟨True, .d (.lit (.bool (a.toList == b.toList)))⟩ := rfl
theorem binV_sneq (a b : ByteArray) : binV P .neq t (.d (.lit (.string a))) (.d (.lit (.string b))) = ⟨True, .d (.lit (.bool (!(a.toList == b.toList))))⟩ := rfl
theorem binV_sadd (a b : ByteArray) : binV P .add t (.d (.lit (.string a))) (.d (.lit (.string b))) = ⟨((a.size + b.size : Nat) : Int) ≤ 9223372036854775807, .d (.lit (.string (a ++ b)))⟩ := rfl
theorem binV_slss (a b : ByteArray) : binV P .lss t (.d (.lit (.string a))) (.d (.lit (.string b))) = ⟨True, .d (.lit (.bool (Op.bytesLess a.toList b.toList)))⟩ := rfl
theorem binV_beql (a b : Bool) : binV P .eql t (.d (.lit (.bool a))) (.d (.lit (.bool b))) = ⟨P.underlying t = some .bool, .d (.lit (.bool (a == b)))⟩ := rfl
theorem binV_bneq (a b : Bool) : binV P .neq t (.d (.lit (.bool a))) (.d (.lit (.bool b))) = ⟨P.underlying t = some .bool, .d (.lit (.bool (!(a == b))))⟩ := rfl
end
def notV : AV → PV
  | .d (.lit (.bool b)) => ⟨True, .d (.lit (.bool (!b)))⟩
  | _ => fails
theorem notV_mk (b : Bool) : notV (.d (.lit (.bool b))) = ⟨True, .d (.lit (.bool (!b)))⟩ := rfl
def negV : AV → PV
  | .d (.lit (.int k n)) => ⟨True, .d (.lit (.int k (k.wrap (0 - n))))⟩
  | _ => fails
theorem negV_mk (k : IntKind) (n : Int) : negV (.d (.lit (.int k n))) = ⟨True, .d (.lit (.int k (k.wrap (0 - n))))⟩ := rfl
def faddrV : Option (Nat × Option (Nat × Bool)) → AV → PV
  | some (off, some (n, _)), .ptr id o => ⟨n ≠ 0, .ptr id (o + off)⟩
  | some (off, some (n, _)), .pp cs => ⟨n ≠ 0, .pp (cs.drop off)⟩
  | _, _ => fails
theorem faddrV_ptr (off n : Nat) (ag : Bool) (id o : Nat) : faddrV (some (off, some (n, ag))) (.ptr id o) = ⟨n ≠ 0, .ptr id (o + off)⟩ := rfl
theorem faddrV_pp (off n : Nat) (ag : Bool) (cs : List AV) : faddrV (some (off, some (n, ag))) (.pp cs) = ⟨n ≠ 0, .pp (cs.drop off)⟩ := rfl
def fieldV : Option (Nat × Option (Nat × Bool)) → AV → PV
  | some (off, some (n, a)), .agg cs => sub cs off n a
  | _, _ => fails
theorem fieldV_mk (off n : Nat) (ag : Bool) (cs : List AV) : fieldV (some (off, some (n, ag))) (.agg cs) = sub cs off n ag := rfl
def idxV : Option (TypeId × Nat × Nat) → AV → AV → PV
  | some (_, n, _), x, .d (.lit (.int _ k)) => (match elems x with | some (s, xs) => ⟨n = s ∧ (at_ xs k).ok, (at_ xs k).v⟩ | none => fails)
  | _, _, _ => fails
theorem idxV_mk (e : TypeId) (n b : Nat) (x : AV) (kk : IntKind) (k : Int) : idxV (some (e, n, b)) x (.d (.lit (.int kk k))) = (match elems x with | some (s, xs) => ⟨n = s ∧ (at_ xs k).ok, (at_ xs k).v⟩ | none => fails) := rfl
theorem idxV_sl (e : TypeId) (n b : Nat) (s : Nat) (xs : List (List DV)) (kk : IntKind) (k : Int) : idxV (some (e, n, b)) (.d (.sl s xs)) (.d (.lit (.int kk k))) = ⟨n = s ∧ 0 ≤ k ∧ k < ((xs.map (·.map AV.d)).length : Int), .pp ((xs.map (·.map AV.d)).getD k.toNat [])⟩ := rfl
theorem idxV_own (e : TypeId) (n b : Nat) (t s : Nat) (xs : List (List DV)) (kk : IntKind) (k : Int) : idxV (some (e, n, b)) (.own t s xs) (.d (.lit (.int kk k))) = ⟨n = s ∧ 0 ≤ k ∧ k < ((xs.map (·.map AV.d)).length : Int), .pp ((xs.map (·.map AV.d)).getD k.toNat [])⟩ := rfl
theorem idxV_psl (e : TypeId) (n b : Nat) (s : Nat) (xs : List (List AV)) (kk : IntKind) (k : Int) : idxV (some (e, n, b)) (.psl s xs) (.d (.lit (.int kk k))) = ⟨n = s ∧ 0 ≤ k ∧ k < (xs.length : Int), .pp (xs.getD k.toNat [])⟩ := rfl
def sidxV (P : Program) (t : TypeId) : AV → AV → PV
  | .d (.lit (.string s)), .d (.lit (.int _ k)) => ⟨P.underlying t = some .string ∧ 0 ≤ k ∧ k < s.size, .d (.lit (.int .u8 (((s.data.toList).getD k.toNat 0).toNat)))⟩
  | _, _ => fails
theorem sidxV_mk (P : Program) (t : TypeId) (s : ByteArray) (kk : IntKind) (k : Int) : sidxV P t (.d (.lit (.string s))) (.d (.lit (.int kk k))) = ⟨P.underlying t = some .string ∧ 0 ≤ k ∧ k < s.size, .d (.lit (.int .u8 (((s.data.toList).getD k.toNat 0).toNat)))⟩ := rfl
def extV : AV → Nat → PV
  | .tup vs, i => ⟨i < vs.length, vs.getD i .bad⟩
  | _, _ => fails
theorem extV_mk (vs : List AV) (i : Nat) : extV (.tup vs) i = ⟨i < vs.length, vs.getD i .bad⟩ := rfl
def ifcOk (P : Program) (t : TypeId) : Prop := match P.underlying t with | some (.interface _) => False | some _ => True | none => False
def loadV : Option (Nat × Bool) → St → AV → PV
  | some (n, a), st, .ptr id off => sub (st.obj id).2 off n a
  | some (n, a), _, .pp cs => sub cs 0 n a
  | _, _, _ => fails
theorem loadV_ptr (n : Nat) (a : Bool) (st : St) (id off : Nat) : loadV (some (n, a)) st (.ptr id off) = sub (st.obj id).2 off n a := rfl
theorem loadV_pp (n : Nat) (a : Bool) (st : St) (cs : List AV) : loadV (some (n, a)) st (.pp cs) = sub cs 0 n a := rfl
theorem loadV_congr {t t' : Option (Nat × Bool)} {a a' : AV} (h : t = t') (h' : a = a') (st : St) : loadV t st a = loadV t' st a' := by rw [h, h']
attribute [congr] loadV_congr
def storeV : Option (Nat × Bool) → St → AV → AV → PS
  | some (n, _), st, .ptr id off, v => ⟨(cellsL v).length = n ∧ (cellsL v).all cellish = true ∧ off + n ≤ (st.obj id).2.length, st.setc id (splice (st.obj id).2 off (cellsL v))⟩
  | _, st, _, _ => ⟨False, st⟩
theorem storeV_mk (n : Nat) (a : Bool) (st : St) (id off : Nat) (v : AV) : storeV (some (n, a)) st (.ptr id off) v = ⟨(cellsL v).length = n ∧ (cellsL v).all cellish = true ∧ off + n ≤ (st.obj id).2.length, st.setc id (splice (st.obj id).2 off (cellsL v))⟩ := rfl
def allocV : Option (List AV) → TypeId → St → PS
  | some cs, t, st => ⟨True, st.push t cs⟩
  | none, _, st => ⟨False, st⟩
theorem allocV_mk (cs : List AV) (t : TypeId) (st : St) : allocV (some cs) t st = ⟨True, st.push t cs⟩ := rfl
def lenV (P : Program) (t : TypeId) : AV → PV
  | .d (.sl _ xs) => ⟨lenTy P t false, .d (.lit (.int .i64 xs.length))⟩
  | .own _ _ xs => ⟨lenTy P t false, .d (.lit (.int .i64 xs.length))⟩
  | .psl _ xs => ⟨lenTy P t false, .d (.lit (.int .i64 xs.length))⟩
  | .nil => ⟨lenTy P t false, .d (.lit (.int .i64 0))⟩
  | .d (.lit (.string s)) => ⟨lenTy P t true, .d (.lit (.int .i64 s.size))⟩
  | _ => fails
section
variable (P : Program) (t : TypeId)
theorem lenV_sl (s : Nat) (xs : List (List DV)) : lenV P t (.d (.sl s xs)) = ⟨lenTy P t false, .d (.lit (.int .i64 xs.length))⟩ := rfl
theorem lenV_own (k s : Nat) (xs : List (List DV)) : lenV P t (.own k s xs) = ⟨lenTy P t false, .d (.lit (.int .i64 xs.length))⟩ := rfl
theorem lenV_psl (s : Nat) (xs : List (List AV)) : lenV P t (.psl s xs) = ⟨lenTy P t false, .d (.lit (.int .i64 xs.length))⟩ := rfl
theorem lenV_nil : lenV P t .nil = ⟨lenTy P t false, .d (.lit (.int .i64 0))⟩ := rfl
theorem lenV_str (s : ByteArray) : lenV P t (.d (.lit (.string s))) = ⟨lenTy P t true, .d (.lit (.int .i64 s.size))⟩ := rfl
end

section
variable (P : Program) (tm : Tm) (st : St) (K : AV → St → Prop)
theorem eff_move (x : Operand) : eff P tm st K (.move x) = Bd (opv tm x) fun v => K v st := rfl
theorem eff_assign (x : Operand) : eff P tm st K (.assign x) = Bd (opv tm x) fun v => K v st := rfl
theorem eff_pick (c x y : Operand) : eff P tm st K (.pick c x y) = Bd (opv tm c) fun c => Bd (opv tm x) fun x => Bd (opv tm y) fun y => Bd (pickV c x y) fun v => K v st := by
  simp only [eff, ev, Bd, opv]
  generalize opnd tm c = u
  cases u with
  | d x =>
    cases x with
    | lit v => cases v with
      | bool b => simp only [pickV, eq_iff_iff]; constructor <;> simp (config := {contextual := true})
      | _ => simp [pickV, fails]
    | sl => simp [pickV, fails]
  | _ => simp [pickV, fails]
theorem eff_nilCheck (x : Operand) : eff P tm st K (.nilCheck x) = Bd (opv tm x) fun a => Bd (checked P a) fun v => K v st := by
  simp only [eff, ev, Bd, opv, and_assoc]
theorem eff_binOp (op : BinOp) (t : TypeId) (x y : Operand) (ty : TypeId) : eff P tm st K (.binOp op t x y ty) = Bd (opv tm x) fun a => Bd (opv tm y) fun b => Bd (binV P op t a b) fun v => K v st := by
  simp only [eff, ev, Bd, opv]
  generalize opnd tm x = u
  generalize opnd tm y = u'
  cases u with
  | d x =>
    cases x with
    | lit v => cases v <;> (cases u' with
      | d y => cases y with
        | lit v' => cases v' <;> simp [binV, fails, and_assoc]
        | sl => simp [binV, fails]
      | _ => simp [binV, fails])
    | sl => simp [binV, fails]
  | _ => simp [binV, fails]
theorem eff_not (t : TypeId) (x : Operand) : eff P tm st K (.unOp .not t x) = Bd (opv tm x) fun a => Bd (notV a) fun v => K v st := by
  simp only [eff, ev, Bd, opv]
  generalize opnd tm x = u
  cases u with
  | d x =>
    cases x with
    | lit v => cases v <;> simp [notV, fails]
    | sl => simp [notV, fails]
  | _ => simp [notV, fails]
theorem eff_neg (t : TypeId) (x : Operand) : eff P tm st K (.unOp .neg t x) = Bd (opv tm x) fun a => Bd (negV a) fun v => K v st := by
  simp only [eff, ev, Bd, opv]
  generalize opnd tm x = u
  cases u with
  | d x =>
    cases x with
    | lit v => cases v <;> simp [negV, fails]
    | sl => simp [negV, fails]
  | _ => simp [negV, fails]
theorem eff_fieldAddr (s : TypeId) (x : Operand) (f : Nat) : eff P tm st K (.fieldAddr s x f) = Bd (opv tm x) fun a => Bd (faddrV (flds P s)[f]? a) fun v => K v st := by
  simp only [eff, ev, Bd, opv]
  generalize opnd tm x = u
  generalize (flds P s)[f]? = w
  rcases w with - | ⟨off, - | ⟨n, ag⟩⟩ <;> cases u <;> simp [faddrV, fails, and_assoc]
theorem eff_field (s : TypeId) (x : Operand) (f : Nat) : eff P tm st K (.field s x f) = Bd (opv tm x) fun a => Bd (fieldV (flds P s)[f]? a) fun v => K v st := by
  simp only [eff, ev, Bd, opv]
  generalize opnd tm x = u
  generalize (flds P s)[f]? = w
  rcases w with - | ⟨off, - | ⟨n, ag⟩⟩ <;> cases u <;> simp [fieldV, fails, and_assoc]
theorem eff_indexAddr (t : TypeId) (x i : Operand) : eff P tm st K (.indexAddr t x i) = Bd (opv tm x) fun a => Bd (opv tm i) fun b => Bd (idxV (elT P t) a b) fun v => K v st := by
  simp only [eff, ev, Bd, opv]
  generalize opnd tm x = u
  generalize opnd tm i = w
  generalize elT P t = e
  rcases e with - | ⟨e, n, b⟩
  · simp [idxV, fails]
  · cases w with
    | d y => cases y with
      | lit v => cases v with
        | int kk k =>
          simp only [idxV]
          generalize elems u = el
          rcases el with - | ⟨s, xs⟩ <;> simp [fails, and_assoc]
        | _ => generalize elems u = el; rcases el with - | ⟨s, xs⟩ <;> simp [idxV, fails]
      | sl => generalize elems u = el; rcases el with - | ⟨s, xs⟩ <;> simp [idxV, fails]
    | _ => generalize elems u = el; rcases el with - | ⟨s, xs⟩ <;> simp [idxV, fails]
theorem eff_index (t : TypeId) (x i : Operand) : eff P tm st K (.index t x i) = Bd (opv tm x) fun a => Bd (opv tm i) fun b => Bd (sidxV P t a b) fun v => K v st := by
  simp only [eff, ev, Bd, opv]
  generalize opnd tm x = u
  generalize opnd tm i = u'
  cases u with
  | d x =>
    cases x with
    | lit v => cases v <;> (cases u' with
      | d y => cases y with
        | lit v' => cases v' <;> simp [sidxV, fails, and_assoc]
        | sl => simp [sidxV, fails]
      | _ => simp [sidxV, fails])
    | sl => simp [sidxV, fails]
  | _ => simp [sidxV, fails]
theorem eff_extract (x : Operand) (i : Nat) : eff P tm st K (.extract x i) = Bd (opv tm x) fun a => Bd (extV a i) fun v => K v st := by
  simp only [eff, ev, Bd, opv]
  generalize opnd tm x = u
  cases u <;> simp [extV, fails, and_assoc]
theorem okAll_map (tm : Tm) : ∀ l : List Operand, okAll (l.map (opv tm)) = (l.all opOk = true)
  | [] => by simp [okAll]
  | x :: l => by simp [okAll, okAll_map tm l, opv]
theorem vs_map (tm : Tm) (l : List Operand) : (l.map (opv tm)).map (·.v) = l.map (opnd tm) := by simp [opv]
theorem eff_makeFunc (f : Fn) (fs cs : Array Operand) : eff P tm st K (.makeFunc f fs cs) = BdL (fs.toList.map (opv tm)) fun fs => BdL (cs.toList.map (opv tm)) fun cs => K (.fn f fs cs) st := by
  simp only [BdL_eq, okAll_map, vs_map, eff, ev, and_assoc]
theorem eff_makeInterface (t : TypeId) (x : Operand) : eff P tm st K (.makeInterface t x) = Bd (opv tm x) fun a => ifcOk P t ∧ K (.ifc t a) st := by
  simp only [eff, ev, Bd, opv, ifcOk, and_assoc]
  generalize P.underlying t = u
  rcases u with - | u
  · rfl
  · cases u <;> rfl
theorem eff_load (t : TypeId) (x : Operand) : eff P tm st K (.load t x) = Bd (opv tm x) fun a => Bd (loadV (tsz P t) st a) fun v => K v st := by
  simp only [eff, Bd, opv]
  generalize opnd tm x = u
  generalize tsz P t = w
  rcases w with - | ⟨n, a⟩ <;> cases u <;> simp [loadV, fails]
theorem eff_store (t : TypeId) (x y : Operand) : eff P tm st K (.store t x y) = Bd (opv tm x) fun a => Bd (opv tm y) fun v => BdS (storeV (tsz P t) st a v) fun st' => K undefAV st' := by
  simp only [eff, Bd, BdS, opv]
  generalize opnd tm x = u
  generalize tsz P t = w
  rcases w with - | ⟨n, a⟩ <;> cases u <;> simp [storeV, and_assoc]
theorem eff_alloc (t : TypeId) : eff P tm st K (.alloc t) = BdS (allocV (zeroC P t) t st) fun st' => Bd ⟨True, .ptr st.n 0⟩ fun p => K p st' := by
  simp only [eff, Bd, BdS]
  generalize zeroC P t = w
  cases w <;> simp [allocV]
theorem eff_box (t : TypeId) (x : Operand) : eff P tm st K (.box t x) = Bd (opv tm x) fun v => BdS ⟨(cellsL v).all cellish = true, st.push t (cellsL v)⟩ fun st' => Bd ⟨True, .ptr st.n 0⟩ fun p => K p st' := by
  simp [eff, Bd, BdS, opv]
theorem partsA_ok (ps : Array (Nat × Operand)) : (ps.toList.all fun p => opOk p.2) = (ps.toList.map (·.2)).all opOk := by simp
theorem partsA_zip (ps : Array (Nat × Operand)) : partsA tm ps = (ps.toList.map (·.1)).zip ((ps.toList.map (·.2)).map (opnd tm)) := by
  simp only [partsA]
  generalize ps.toList = l
  induction l with
  | nil => rfl
  | cons x l ih => simp [ih]
theorem eff_build (t : TypeId) (ps : Array (Nat × Operand)) : eff P tm st K (.build t ps) = BdL ((ps.toList.map (·.2)).map (opv tm)) fun vs => Bd (buildA P t ((ps.toList.map (·.1)).zip vs)) fun v => K v st := by
  simp only [BdL_eq, okAll_map, vs_map, eff, Bd, partsA_ok, partsA_zip]
theorem eff_buildSlice (t : TypeId) (len : Nat) (ps : Array (Nat × Operand)) : eff P tm st K (.buildSlice t len ps) = BdL ((ps.toList.map (·.2)).map (opv tm)) fun vs => buildSliceA P t len ((ps.toList.map (·.1)).zip vs) st K := by
  simp only [BdL_eq, okAll_map, vs_map, eff, partsA_ok, partsA_zip]
theorem eff_callV (f : Operand) (args : Array Operand) (tys : Array TypeId) : eff P tm st K (.call ⟨.value f, args, tys⟩) = Bd (opv tm f) fun f => BdL (args.toList.map (opv tm)) fun as => callA P f as st K := by
  simp only [BdL_eq, okAll_map, vs_map, eff, Bd, opv, argsA]
theorem eff_invoke (r : Operand) (name : String) (args : Array Operand) (tys : Array TypeId) : eff P tm st K (.call ⟨.invoke r name, args, tys⟩) = Bd (opv tm r) fun f => BdL (args.toList.map (opv tm)) fun as => invokeA P f name as st K := by
  simp only [BdL_eq, okAll_map, vs_map, eff, Bd, opv, argsA]
theorem eff_len (x : Operand) (t : TypeId) : eff P tm st K (.call ⟨.builtin .len, #[x], #[t]⟩) = Bd (opv tm x) fun a => Bd (lenV P t a) fun v => K v st := by
  simp only [eff, isAppend, evCall, isLenB, Bd, opv]
  generalize opnd tm x = u
  cases u with
  | d x => cases x with
    | lit v => cases v <;> simp [lenOf, lenV, fails, and_assoc]
    | sl => simp [lenOf, lenV, and_assoc]
  | _ => simp [lenOf, lenV, fails, and_assoc]
theorem eff_append (s x : Operand) (t t' : TypeId) : eff P tm st K (.call ⟨.builtin .append, #[s, x], #[t, t']⟩) = Bd (opv tm s) fun s => Bd (opv tm x) fun x => t = t' ∧ appendA P t s x st K := by
  simp only [eff, isAppend, Bd, opv]
end

/-- A branch. -/
def cnd (p : PV) (x y : Prop) : Prop := match p.v with
  | .d (.lit (.bool b)) => p.ok ∧ Br b x y
  | _ => False
theorem cnd_congr {p p' : PV} (h : p = p') (x y : Prop) : cnd p x y = cnd p' x y := by rw [h]
attribute [congr] cnd_congr
theorem cnd_t (b : Bool) (x y : Prop) : cnd ⟨True, .d (.lit (.bool b))⟩ x y = Br b x y := by simp [cnd]
theorem wpC_cnd (P : Program) (nt : Nat) (ct : Ctb) (c : Operand) (a b : Code) (tm : Tm) (st : St) (Q : Exit → Tm → St → Prop) : wpC P nt ct (.cond c a b) tm st Q = cnd (opv tm c) (wpC P nt ct a tm st Q) (wpC P nt ct b tm st Q) := by
  simp only [wpC, condA, cnd, opv]
  generalize opnd tm c = u
  cases u with
  | d x => cases x with
    | lit v => cases v <;> rfl
    | sl => rfl
  | _ => rfl
theorem wpC_loop (P : Program) (nt : Nat) (ct : Ctb) (a : Code) (tm : Tm) (st : St) (Q : Exit → Tm → St → Prop) : wpC P nt ct (.loop a) tm st Q = loopA (fun tm st Q => wpC P nt ct a tm st Q) tm st Q := rfl
/-- A guard. -/
def dstAt : List Oper → Nat → Option Nat
  | [], _ => none
  | o :: _, 0 => o.dst
  | _ :: l, j + 1 => dstAt l j
theorem dstAt_eq : ∀ (l : List Oper) (j : Nat), dstAt l j = (l[j]?).bind (·.dst)
  | [], j => by simp [dstAt]
  | o :: l, 0 => by simp [dstAt]
  | o :: l, j + 1 => by simp [dstAt, dstAt_eq l j]
theorem dstAt_0 (l : List Oper) (j : Nat) : dstAt l j = dstAt l j := rfl
attribute [congr] dstAt_0
theorem dstAt_z (d : Option Nat) (op : Op) (ty : TypeId) (pos : String) (af : Array Edge) (gd : Option (Nat × Bool)) (l : List Oper) : dstAt (⟨d, op, ty, pos, af, gd⟩ :: l) 0 = d := rfl
theorem dstAt_s (o : Oper) (l : List Oper) (j : Nat) : dstAt (o :: l) (j + 1) = dstAt l j := rfl
def gst (v : AV) (want : Bool) (x y : Prop) : Prop := match v with
  | .d (.lit (.bool b)) => Br (b == want) x y
  | .d (.lit (.tuple _)) => y
  | _ => False
theorem gst_congr {v v' : AV} (h : v = v') (w : Bool) (x y : Prop) : gst v w x y = gst v' w x y := by rw [h]
attribute [congr] gst_congr
theorem gst_b (b w : Bool) (x y : Prop) : gst (.d (.lit (.bool b))) w x y = Br (b == w) x y := rfl
theorem gst_u (w : Bool) (x y : Prop) : gst undefAV w x y = y := rfl
def gat (d : Option Nat) (tm : Tm) (want : Bool) (x y : Prop) : Prop := match d with
  | some d => gst (tm d) want x y
  | none => False
theorem gat_congr {d d' : Option Nat} (h : d = d') (tm : Tm) (w : Bool) (x y : Prop) : gat d tm w x y = gat d' tm w x y := by rw [h]
attribute [congr] gat_congr
theorem gat_some (d : Nat) (tm : Tm) (w : Bool) (x y : Prop) : gat (some d) tm w x y = gst (tm d) w x y := rfl
theorem wpAt_gd (P : Program) (nt : Nat) (ops : List Oper) (dst : Option Nat) (op : Op) (ty : TypeId) (pos : String) (af : Array Edge) (j : Nat) (want : Bool) (tm : Tm) (st : St) (K : Tm → St → Prop) :
    wpAt P nt ops ⟨dst, op, ty, pos, af, some (j, want)⟩ tm st K = gat (dstAt ops j) tm want (dstOk nt dst = true ∧ eff P tm st (fun v st' => K (put tm dst v) st') op) (dstOk nt dst = true ∧ K (put tm dst undefAV) st) := by
  simp only [wpAt, gdec, dstAt_eq, wpO]
  generalize (ops[j]?).bind (·.dst) = d
  cases d with
  | none => simp [gat]
  | some d =>
    simp only [gat]
    generalize tm d = u
    cases u with
    | d x => cases x with
      | lit v => cases v <;> simp [gst, Br]
      | sl => simp [gst]
    | _ => simp [gst]
theorem dstOk_some (nt d : Nat) : dstOk nt (some d) = decide (d < nt) := rfl
theorem dstOk_none (nt : Nat) : dstOk nt none = true := rfl

theorem sub_one (cells : List AV) (off n : Nat) : sub cells off n false = ⟨off < cells.length, cells.getD off .bad⟩ := rfl
theorem sub_agg (cells : List AV) (off n : Nat) : sub cells off n true = ⟨off + n ≤ cells.length, .agg ((cells.drop off).take n)⟩ := rfl
theorem checked_ptr (P : Program) (id off : Nat) : checked P (.ptr id off) = ⟨True, .ptr id off⟩ := rfl
theorem checked_pp (P : Program) (cs : List AV) : checked P (.pp cs) = ⟨True, .pp cs⟩ := rfl
theorem checked_ifc (P : Program) (t : TypeId) (v : AV) : checked P (.ifc t v) = ⟨True, .ifc t v⟩ := rfl
theorem checked_meth (P : Program) (t : TypeId) (name : String) : checked P (.fn (.method name) [.ifc t (.agg [])] []) = ⟨NilOk P t (.agg #[]) name, .fn (.method name) [.ifc t (.agg [])] []⟩ := rfl
theorem checked_func (P : Program) (f : FuncId) (fs cs : List AV) : checked P (.fn (.func f) fs cs) = ⟨True, .fn (.func f) fs cs⟩ := rfl
theorem cellsL_agg (cs : List AV) : cellsL (.agg cs) = cs := rfl
theorem cellsL_d (x : DV) : cellsL (.d x) = [.d x] := rfl
theorem cellsL_nil : cellsL .nil = [.nil] := rfl
theorem cellsL_own (t s : Nat) (xs : List (List DV)) : cellsL (.own t s xs) = [.own t s xs] := rfl
theorem cellsL_ptr (id off : Nat) : cellsL (.ptr id off) = [.ptr id off] := rfl
theorem cellish_ds (l : List DV) (h : ∀ x ∈ l, cellish (.d x) = true) : (l.map AV.d).all cellish = true := by
  simp only [List.all_map, List.all_eq_true]; exact fun x hx => h x hx

theorem endA_normal (P : Program) (rs : List ResultVar) (st0 : St) (Q : AV → St → Prop) (tm : Tm) (st : St) : endA P rs st0 Q .normal tm st = Bd (resA P tm st rs) fun v => ∃ r st2, Drop st0 st st2 ∧ Lw st2.n st2.k v r ∧ Q r st2 := rfl
theorem endA_ret (P : Program) (rs : List ResultVar) (st0 : St) (Q : AV → St → Prop) (tm : Tm) (st : St) : endA P rs st0 Q .ret tm st = Bd (resA P tm st rs) fun v => ∃ r st2, Drop st0 st st2 ∧ Lw st2.n st2.k v r ∧ Q r st2 := rfl
theorem resA_tmp (P : Program) (tm : Tm) (st : St) (t : Nat) : resA P tm st [.tmp t] = ⟨True, tm t⟩ := rfl
theorem resA_0 (P : Program) (tm : Tm) (st : St) (rs : List ResultVar) : resA P tm st rs = resA P tm st rs := rfl
attribute [congr] resA_0
theorem resA_nil (P : Program) (tm : Tm) (st : St) : resA P tm st [] = ⟨True, .tup []⟩ := by simp [resA, okAll]

/-- A function by its text, its state told as nothing more than the caller's. -/
theorem Ct.of_text {P : Program} (hm : P.follows .mixedOrders = true) {k : FuncId} {fn : Func} (hf : P.funcs[k]? = some fn) {c : Code} (hb : fn.body = some c) {ct : Ctb} (hd : drawOk ct c = true) (he : enters P k = true) {args : List AV} {nt : Nat} (hn : fn.ntmps = nt) (hl : args.length ≤ nt) {rs : Array ResultVar} (hrs : fn.results = rs) {st : St} {Q : AV → St → Prop}
    (h : wpC P nt ct c (undefs args) (st.ext [] []) (endA P rs.toList st Q)) : Ct P k args st Q := by
  subst hn; subst hrs
  rw [St.ext_nil] at h
  exact Ct.of_body hm hf hb hd he hl h
end Go.AW
