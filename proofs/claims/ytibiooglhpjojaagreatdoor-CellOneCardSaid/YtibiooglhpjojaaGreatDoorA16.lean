/- The rules by which 'simp' goes through a text. -/
import Derived.Test.YtibiooglhpjojaaGreatDoorA15
set_option linter.unusedSimpArgs false
set_option linter.unusedVariables false
namespace Go.AW
open Go.RowKit

theorem upd_eq (f : Nat → AV) (d i : Nat) (v : AV) : upd f d v i = if i = d then v else f i := rfl
theorem put_some (tm : Tm) (d : Nat) (v : AV) : put tm (some d) v = upd tm d v := rfl
theorem put_none (tm : Tm) (v : AV) : put tm none v = tm := rfl
theorem seqQ_normal (K : Tm → St → Prop) (Q : Exit → Tm → St → Prop) (tm : Tm) (st : St) : seqQ K Q .normal tm st = K tm st := rfl
theorem seqQ_exit (K : Tm → St → Prop) (Q : Exit → Tm → St → Prop) (id : Nat) (tm : Tm) (st : St) : seqQ K Q (.exit id) tm st = Q (.exit id) tm st := rfl
theorem seqQ_ret (K : Tm → St → Prop) (Q : Exit → Tm → St → Prop) (tm : Tm) (st : St) : seqQ K Q .ret tm st = Q .ret tm st := rfl
theorem blockQ_normal (id : Nat) (Q : Exit → Tm → St → Prop) (tm : Tm) (st : St) : blockQ id Q .normal tm st = Q .normal tm st := rfl
theorem blockQ_ret (id : Nat) (Q : Exit → Tm → St → Prop) (tm : Tm) (st : St) : blockQ id Q .ret tm st = Q .ret tm st := rfl
theorem blockQ_exit (id id' : Nat) (Q : Exit → Tm → St → Prop) (tm : Tm) (st : St) : blockQ id Q (.exit id') tm st = if id' = id then Q .normal tm st else Q (.exit id') tm st := rfl
theorem wpC_skip (P : Program) (nt : Nat) (ct : Ctb) (tm : Tm) (st : St) (Q : Exit → Tm → St → Prop) : wpC P nt ct .skip tm st Q = Q .normal tm st := rfl
theorem wpC_seq (P : Program) (nt : Nat) (ct : Ctb) (a b : Code) (tm : Tm) (st : St) (Q : Exit → Tm → St → Prop) : wpC P nt ct (.seq a b) tm st Q = wpC P nt ct a tm st (seqQ (fun tm' st' => wpC P nt ct b tm' st' Q) Q) := rfl
theorem wpC_cond (P : Program) (nt : Nat) (ct : Ctb) (c : Operand) (a b : Code) (tm : Tm) (st : St) (Q : Exit → Tm → St → Prop) : wpC P nt ct (.cond c a b) tm st Q = condA tm c (wpC P nt ct a tm st Q) (wpC P nt ct b tm st Q) := rfl
theorem wpC_block (P : Program) (nt : Nat) (ct : Ctb) (id : Nat) (a : Code) (tm : Tm) (st : St) (Q : Exit → Tm → St → Prop) : wpC P nt ct (.block id a) tm st Q = wpC P nt ct a tm st (blockQ id Q) := rfl
theorem wpC_exit (P : Program) (nt : Nat) (ct : Ctb) (id : Nat) (tm : Tm) (st : St) (Q : Exit → Tm → St → Prop) : wpC P nt ct (.exit id) tm st Q = Q (.exit id) tm st := rfl
theorem wpC_ret (P : Program) (nt : Nat) (ct : Ctb) (tm : Tm) (st : St) (Q : Exit → Tm → St → Prop) : wpC P nt ct .ret tm st Q = Q .ret tm st := rfl
theorem wpL_nil (P : Program) (nt : Nat) (ops : List Oper) (tm : Tm) (st : St) (K : Tm → St → Prop) : wpL P nt ops [] tm st K = K tm st := rfl
theorem wpL_cons (P : Program) (nt : Nat) (ops : List Oper) (o : Oper) (l : List Oper) (tm : Tm) (st : St) (K : Tm → St → Prop) : wpL P nt ops (o :: l) tm st K = wpAt P nt ops o tm st (fun tm' st' => wpL P nt ops l tm' st' K) := rfl
theorem wpAt_plain (P : Program) (nt : Nat) (ops : List Oper) (dst : Option Nat) (op : Op) (ty : TypeId) (pos : String) (af : Array Edge) (tm : Tm) (st : St) (K : Tm → St → Prop) :
    wpAt P nt ops ⟨dst, op, ty, pos, af, none⟩ tm st K = (dstOk nt dst = true ∧ eff P tm st (fun v st' => K (put tm dst v) st') op) := by
  simp [wpAt, gdec, Br, wpO]
/-- A guard: what it looks at. -/
def Gd (b : Option Bool) (x y : Prop) : Prop := match b with | some b => Br b x y | none => False
theorem Gd_some (b : Bool) (x y : Prop) : Gd (some b) x y = Br b x y := rfl
theorem wpAt_guard (P : Program) (nt : Nat) (ops : List Oper) (dst : Option Nat) (op : Op) (ty : TypeId) (pos : String) (af : Array Edge) (gd : Nat × Bool) (tm : Tm) (st : St) (K : Tm → St → Prop) :
    wpAt P nt ops ⟨dst, op, ty, pos, af, some gd⟩ tm st K = Gd (gdec ops tm (some gd)) (dstOk nt dst = true ∧ eff P tm st (fun v st' => K (put tm dst v) st') op) (dstOk nt dst = true ∧ K (put tm dst undefAV) st) := rfl
theorem gdec_some (ops : List Oper) (tm : Tm) (j : Nat) (want : Bool) : gdec ops tm (some (j, want)) = match (ops[j]?).bind (·.dst) with
    | some d => (match tm d with
      | .d (.lit (.bool b)) => some (b == want)
      | .d (.lit (.tuple _)) => some false
      | _ => none)
    | none => none := rfl
theorem Br_congr {b b' : Bool} (h : b = b') (x y : Prop) : Br b x y = Br b' x y := by rw [h]

theorem St.push_n (st : St) (t : TypeId) (cs : List AV) : (st.push t cs).n = st.n + 1 := rfl
theorem St.push_k (st : St) (t : TypeId) (cs : List AV) : (st.push t cs).k = st.k := rfl
theorem St.push_live (st : St) (t : TypeId) (cs : List AV) : (st.push t cs).live = st.live := rfl
theorem St.push_obj (st : St) (t : TypeId) (cs : List AV) (i : Nat) : (st.push t cs).obj i = if i = st.n then (t, cs) else st.obj i := rfl
theorem St.setc_n (st : St) (id : Nat) (cs : List AV) : (st.setc id cs).n = st.n := rfl
theorem St.setc_k (st : St) (id : Nat) (cs : List AV) : (st.setc id cs).k = st.k := rfl
theorem St.setc_live (st : St) (id : Nat) (cs : List AV) : (st.setc id cs).live = st.live := rfl
theorem St.setc_obj (st : St) (id : Nat) (cs : List AV) (i : Nat) : (st.setc id cs).obj i = if i = id then ((st.obj id).1, cs) else st.obj i := rfl
theorem St.own_n (st : St) (e : TypeId) : (st.own e).n = st.n := rfl
theorem St.own_k (st : St) (e : TypeId) : (st.own e).k = st.k + 1 := rfl
theorem St.own_obj (st : St) (e : TypeId) : (st.own e).obj = st.obj := rfl
theorem St.own_live (st : St) (e : TypeId) (t : Nat) : (st.own e).live t = if t = st.k then some e else st.live t := rfl
theorem St.eat_n (st : St) (t : Nat) : (st.eat t).n = st.n := rfl
theorem St.eat_k (st : St) (t : Nat) : (st.eat t).k = st.k := rfl
theorem St.eat_obj (st : St) (t : Nat) : (st.eat t).obj = st.obj := rfl
theorem St.eat_live (st : St) (t i : Nat) : (st.eat t).live i = if i = t then none else st.live i := rfl

/-- A call of a function that has a contract. -/
theorem callA_fn (P : Program) (k : FuncId) (args : List AV) (st : St) (Q : AV → St → Prop) : callA P (.fn (.func k) [] []) args st Q = Ct P k args st Q := by
  simp [callA]

theorem Ct.sub {P : Program} {k : FuncId} {args args' : List AV} {st : St} {Q : AV → St → Prop} {n m : Nat} (hs : LwL n m args args') (h : Ct P k args' st Q) : Ct P k args st Q :=
  ⟨h.1, fun w g vals hR hv => h.2 w g vals hR ⟨hs.1 ▸ hv.1, fun i b v hb hv' => by
    have hi : i < args.length := by rw [hs.1]; exact (List.getElem?_eq_some_iff.1 hb).1
    exact (hs.2 i _ b (List.getElem?_eq_getElem hi) hb).same (hv.2 i _ v (List.getElem?_eq_getElem hi) hv')⟩⟩

/-- What a call leaves of the state where it only made things of its own. -/
theorem Drop.of_eq {st st' : St} (hn : st.n ≤ st'.n) (hk : st.k ≤ st'.k) (ho : ∀ i, i < st.n → st'.obj i = st.obj i) (hl : ∀ t, t < st.k → st'.live t = st.live t) : Drop st st' st :=
  ⟨Nat.le_refl _, Nat.le_refl _, hn, hk, fun i hi => ⟨by rw [ho i hi], by rw [ho i hi], fun j a b h1 h2 => by rw [ho i hi] at h1; rw [h1] at h2; cases h2; exact .inl ⟨hi, rfl, h1⟩⟩, fun t e h => .inr h, fun t e ht h => by rw [hl t ht]; exact h⟩
end Go.AW
