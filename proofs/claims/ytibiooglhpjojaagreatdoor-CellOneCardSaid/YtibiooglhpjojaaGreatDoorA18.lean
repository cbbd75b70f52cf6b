/- The same rules in first order: nothing below a binder, so that 'simp only' goes through a text once. -/
import Derived.Test.YtibiooglhpjojaaGreatDoorA17
set_option linter.unusedSimpArgs false
set_option linter.unusedVariables false
namespace Go.AW
open Go.RowKit

structure EV where
  ok : Prop
  v : AV
  st : St
def PV.ev (p : PV) (st : St) : EV := ⟨p.ok, p.v, st⟩
theorem PV.ev_mk (a : Prop) (v : AV) (st : St) : PV.ev ⟨a, v⟩ st = ⟨a, v, st⟩ := rfl
def lift1 (f : AV → PV) (a : PV) : PV := ⟨a.ok ∧ (f a.v).ok, (f a.v).v⟩
theorem lift1_t (f : AV → PV) (a : AV) : lift1 f ⟨True, a⟩ = f a := by simp [lift1]
def lift2 (f : AV → AV → PV) (a b : PV) : PV := ⟨a.ok ∧ b.ok ∧ (f a.v b.v).ok, (f a.v b.v).v⟩
theorem lift2_t (f : AV → AV → PV) (a b : AV) : lift2 f ⟨True, a⟩ ⟨True, b⟩ = f a b := by simp [lift2]
def lift3 (f : AV → AV → AV → PV) (a b c : PV) : PV := ⟨a.ok ∧ b.ok ∧ c.ok ∧ (f a.v b.v c.v).ok, (f a.v b.v c.v).v⟩
theorem lift3_t (f : AV → AV → AV → PV) (a b c : AV) : lift3 f ⟨True, a⟩ ⟨True, b⟩ ⟨True, c⟩ = f a b c := by simp [lift3]

/-- Operands, all of them. -/
structure LV where
  ok : Prop
  vs : List AV
def opvs (tm : Tm) : List Operand → LV
  | [] => ⟨True, []⟩
  | x :: l => ⟨(opv tm x).ok ∧ (opvs tm l).ok, (opv tm x).v :: (opvs tm l).vs⟩
def LV.cons (p : PV) (l : LV) : LV := ⟨p.ok ∧ l.ok, p.v :: l.vs⟩
theorem LV.cons_t (v : AV) (vs : List AV) : LV.cons ⟨True, v⟩ ⟨True, vs⟩ = ⟨True, v :: vs⟩ := by simp [LV.cons]
theorem opvs_nil (tm : Tm) : opvs tm [] = ⟨True, []⟩ := rfl
theorem opvs_cons (tm : Tm) (x : Operand) (l : List Operand) : opvs tm (x :: l) = LV.cons (opv tm x) (opvs tm l) := rfl
theorem opvs_eq (tm : Tm) : ∀ l : List Operand, (opvs tm l).ok = (l.all opOk = true) ∧ (opvs tm l).vs = l.map (opnd tm)
  | [] => by simp [opvs]
  | x :: l => by simp [opvs, opvs_eq tm l, opv]
theorem BdL_opvs (tm : Tm) (l : List Operand) (K : List AV → Prop) : BdL (l.map (opv tm)) K = ((opvs tm l).ok ∧ K (opvs tm l).vs) := by
  rw [BdL_eq, okAll_map, vs_map, (opvs_eq tm l).1, (opvs_eq tm l).2]
/-- The second parts of a literal's pairs, and the first ones. -/
def snds : List (Nat × Operand) → List Operand
  | [] => []
  | p :: l => p.2 :: snds l
theorem snds_nil : snds [] = [] := rfl
theorem snds_cons (i : Nat) (x : Operand) (l : List (Nat × Operand)) : snds ((i, x) :: l) = x :: snds l := rfl
theorem snds_eq : ∀ l : List (Nat × Operand), snds l = l.map (·.2)
  | [] => rfl
  | p :: l => by simp [snds, snds_eq l]
def zipF : List (Nat × Operand) → List AV → List (Nat × AV)
  | p :: l, v :: vs => (p.1, v) :: zipF l vs
  | _, _ => []
theorem zipF_nil (vs : List AV) : zipF [] vs = [] := by cases vs <;> rfl
theorem zipF_cons (i : Nat) (x : Operand) (l : List (Nat × Operand)) (v : AV) (vs : List AV) : zipF ((i, x) :: l) (v :: vs) = (i, v) :: zipF l vs := rfl
theorem zipF_eq : ∀ (l : List (Nat × Operand)) (vs : List AV), zipF l vs = (l.map (·.1)).zip vs
  | [], vs => by cases vs <;> rfl
  | p :: l, [] => rfl
  | p :: l, v :: vs => by simp [zipF, zipF_eq l vs]
/-- A struct's literal: its cells, by the type's places and zero cells. -/
def putIn (fs : List (Nat × Option (Nat × Bool))) (cells : List AV) : List (Nat × AV) → PV
  | [] => ⟨True, .agg cells⟩
  | (i, x) :: l => match plc fs[i]? with
    | some (off, n) => ⟨((cellsL x).length = n ∧ off + n ≤ cells.length ∧ (cellsL x).all cellish = true) ∧ (putIn fs (splice cells off (cellsL x)) l).ok, (putIn fs (splice cells off (cellsL x)) l).v⟩
    | none => fails
theorem putIn_nil (fs : List (Nat × Option (Nat × Bool))) (cells : List AV) : putIn fs cells [] = ⟨True, .agg cells⟩ := rfl
def PV.and (a : Prop) (p : PV) : PV := ⟨a ∧ p.ok, p.v⟩
theorem PV.and_t (p : PV) : PV.and True p = p := by simp [PV.and]
def putOne (pl : Option (Nat × Option (Nat × Bool))) (fs : List (Nat × Option (Nat × Bool))) (cells : List AV) (cs : List AV) (l : List (Nat × AV)) : PV := match plc pl with
  | some (off, n) => PV.and (cs.length = n ∧ off + n ≤ cells.length ∧ cs.all cellish = true) (putIn fs (splice cells off cs) l)
  | none => fails
theorem putIn_cons (fs : List (Nat × Option (Nat × Bool))) (cells : List AV) (i : Nat) (x : AV) (l : List (Nat × AV)) : putIn fs cells ((i, x) :: l) = putOne fs[i]? fs cells (cellsL x) l := rfl
theorem putOne_mk (off n : Nat) (b : Bool) (fs : List (Nat × Option (Nat × Bool))) (cells : List AV) (cs : List AV) (l : List (Nat × AV)) :
    putOne (some (off, some (n, b))) fs cells cs l = PV.and (cs.length = n ∧ off + n ≤ cells.length ∧ cs.all cellish = true) (putIn fs (splice cells off cs) l) := rfl
theorem putIn_ok (fs : List (Nat × Option (Nat × Bool))) : ∀ (l : List (Nat × AV)) (cells : List AV), (putIn fs cells l).ok → ∃ cs, fillA (fun i => plc fs[i]?) cells l = some cs ∧ (putIn fs cells l).v = .agg cs
  | [], cells, _ => ⟨cells, rfl, rfl⟩
  | (i, x) :: l, cells, h => by
    simp only [putIn] at h ⊢
    simp only [fillA]
    cases hp : plc fs[i]? with
    | none => rw [hp] at h; exact h.elim
    | some p =>
      obtain ⟨off, n⟩ := p
      rw [hp] at h
      simp only at h ⊢
      obtain ⟨cs, h1, h2⟩ := putIn_ok fs l _ h.2
      exact ⟨cs, by rw [if_pos h.1]; exact h1, h2⟩
theorem putIn_some (fs : List (Nat × Option (Nat × Bool))) : ∀ (l : List (Nat × AV)) (cells cs : List AV), fillA (fun i => plc fs[i]?) cells l = some cs → (putIn fs cells l).ok ∧ (putIn fs cells l).v = .agg cs
  | [], cells, cs, h => by simp only [fillA, Option.some.injEq] at h; subst h; exact ⟨trivial, rfl⟩
  | (i, x) :: l, cells, cs, h => by
    simp only [putIn] at h ⊢
    simp only [fillA] at h
    cases hp : plc fs[i]? with
    | none => rw [hp] at h; cases h
    | some p =>
      obtain ⟨off, n⟩ := p
      rw [hp] at h
      simp only at h ⊢
      split at h
      · rename_i hc
        obtain ⟨h1, h2⟩ := putIn_some fs l _ cs h
        exact ⟨⟨hc, h1⟩, h2⟩
      · cases h
def buildR (P : Program) (t : TypeId) (parts : List (Nat × AV)) : PV := match zeroC P t, arT P t, (flds P t).all (fun x => x.2.isSome), isStr P t with
  | some zs, none, true, true => putIn (flds P t) zs parts
  | _, _, _, _ => buildA P t parts
theorem buildR_iff (P : Program) (t : TypeId) (parts : List (Nat × AV)) (K : AV → Prop) : Bd (buildA P t parts) K = Bd (buildR P t parts) K := by
  unfold buildR
  split
  · rename_i zs hz ha hf hne
    simp only [Bd, eq_iff_iff]
    unfold buildA
    simp only [hz, ha, hf, hne]
    constructor
    · intro h
      cases hc : fillA (fun i => plc (flds P t)[i]?) zs parts with
      | none => rw [hc] at h; exact h.1.elim
      | some cs =>
        rw [hc] at h
        obtain ⟨h1, h2⟩ := putIn_some _ _ _ _ hc
        exact ⟨h1, by rw [h2]; exact h.2⟩
    · rintro ⟨h1, h2⟩
      obtain ⟨cs, h3, h4⟩ := putIn_ok _ _ _ h1
      rw [h3]
      exact ⟨by simp, by rw [h4] at h2; exact h2⟩
  · rfl
theorem buildR_struct {P : Program} {t : TypeId} {zs : List AV} (hz : zeroC P t = some zs) (ha : arT P t = none) (hf : ((flds P t).all fun x => x.2.isSome) = true) (hne : isStr P t = true) (parts : List (Nat × AV)) : buildR P t parts = putIn (flds P t) zs parts := by
  unfold buildR
  rw [hz, ha, hf, hne]
def buildE (P : Program) (t : TypeId) (ps : List (Nat × Operand)) (l : LV) : PV := ⟨l.ok ∧ (buildR P t (zipF ps l.vs)).ok, (buildR P t (zipF ps l.vs)).v⟩
theorem buildE_t (P : Program) (t : TypeId) (ps : List (Nat × Operand)) (vs : List AV) : buildE P t ps ⟨True, vs⟩ = buildR P t (zipF ps vs) := by simp [buildE]
/-- Stacks of what comes behind. -/
inductive Fr where
  | seq (c : Code)
  | blk (id : Nat)
  | lp (I : Nat → Tm → St → Prop) (n : Nat)
def Un (P : Program) (nt : Nat) (ct : Ctb) (Q : Exit → Tm → St → Prop) : List Fr → Exit → Tm → St → Prop
  | [] => Q
  | .seq c :: fs => seqQ (fun tm st => wpC P nt ct c tm st (Un P nt ct Q fs)) (Un P nt ct Q fs)
  | .blk id :: fs => blockQ id (Un P nt ct Q fs)
  | .lp I n :: fs => seqQ (fun tm st => ∃ n', n' < n ∧ I n' tm st) (Un P nt ct Q fs)
def wpR (P : Program) (nt : Nat) (ct : Ctb) (c : Code) (fs : List Fr) (tm : Tm) (st : St) (Q : Exit → Tm → St → Prop) : Prop := wpC P nt ct c tm st (Un P nt ct Q fs)
def loopR (P : Program) (nt : Nat) (ct : Ctb) (c : Code) (fs : List Fr) (tm : Tm) (st : St) (Q : Exit → Tm → St → Prop) : Prop := wpC P nt ct (.loop c) tm st (Un P nt ct Q fs)
def OpR (P : Program) (nt : Nat) (ct : Ctb) (ops l : List Oper) (fs : List Fr) (Q : Exit → Tm → St → Prop) (tm : Tm) (dst : Option Nat) (st : St) (op : Op) : Prop :=
  dstOk nt dst = true ∧ eff P tm st (fun v st' => wpL P nt ops l (put tm dst v) st' (Un P nt ct Q fs .normal)) op
def LsR (P : Program) (nt : Nat) (ct : Ctb) (ops l : List Oper) (fs : List Fr) (Q : Exit → Tm → St → Prop) (tm : Tm) (st : St) : Prop := wpL P nt ops l tm st (Un P nt ct Q fs .normal)
def Stp (P : Program) (nt : Nat) (ct : Ctb) (ops l : List Oper) (fs : List Fr) (Q : Exit → Tm → St → Prop) (tm : Tm) (dst : Option Nat) (e : EV) : Prop :=
  e.ok ∧ dstOk nt dst = true ∧ LsR P nt ct ops l fs Q (put tm dst e.v) e.st
def Cl (P : Program) (nt : Nat) (ct : Ctb) (ops l : List Oper) (fs : List Fr) (Q : Exit → Tm → St → Prop) (tm : Tm) (dst : Option Nat) (f : PV) (as : LV) (st : St) : Prop :=
  f.ok ∧ as.ok ∧ dstOk nt dst = true ∧ callA P f.v as.vs st fun v st' => LsR P nt ct ops l fs Q (put tm dst v) st'
def Iv (P : Program) (nt : Nat) (ct : Ctb) (ops l : List Oper) (fs : List Fr) (Q : Exit → Tm → St → Prop) (tm : Tm) (dst : Option Nat) (f : PV) (name : String) (as : LV) (st : St) : Prop :=
  f.ok ∧ as.ok ∧ dstOk nt dst = true ∧ invokeA P f.v name as.vs st fun v st' => LsR P nt ct ops l fs Q (put tm dst v) st'
def Ap (P : Program) (nt : Nat) (ct : Ctb) (ops l : List Oper) (fs : List Fr) (Q : Exit → Tm → St → Prop) (tm : Tm) (dst : Option Nat) (t : TypeId) (s x : PV) (st : St) : Prop :=
  s.ok ∧ x.ok ∧ dstOk nt dst = true ∧ appendA P t s.v x.v st fun v st' => LsR P nt ct ops l fs Q (put tm dst v) st'
def Gt (P : Program) (nt : Nat) (ct : Ctb) (ops l : List Oper) (fs : List Fr) (Q : Exit → Tm → St → Prop) (tm : Tm) (dst : Option Nat) (st : St) (op : Op) (want : Bool) (gv : Option AV) : Prop := match gv with
  | some v => gst v want (OpR P nt ct ops l fs Q tm dst st op) (dstOk nt dst = true ∧ LsR P nt ct ops l fs Q (put tm dst undefAV) st)
  | none => False
def Cn (P : Program) (nt : Nat) (ct : Ctb) (a b : Code) (fs : List Fr) (tm : Tm) (st : St) (Q : Exit → Tm → St → Prop) (p : PV) : Prop := cnd p (wpR P nt ct a fs tm st Q) (wpR P nt ct b fs tm st Q)
/-- A loop's round is over. -/
def LpR (I : Nat → Tm → St → Prop) (n : Nat) (tm : Tm) (st : St) : Prop := ∃ n', n' < n ∧ I n' tm st
theorem LpR.intro {I : Nat → Tm → St → Prop} {n : Nat} {tm : Tm} {st : St} (n' : Nat) (h : n' < n) (hi : I n' tm st) : LpR I n tm st := ⟨n', h, hi⟩
def tmAt (tm : Tm) : Option Nat → Option AV
  | some d => some (tm d)
  | none => none
theorem tmAt_some (tm : Tm) (d : Nat) : tmAt tm (some d) = some (tm d) := rfl

section
variable (P : Program) (nt : Nat) (ct : Ctb) (ops l : List Oper) (fs : List Fr) (Q : Exit → Tm → St → Prop) (tm : Tm) (st : St) (dst : Option Nat)
theorem Un_nil (P : Program) (nt : Nat) (ct : Ctb) (Q : Exit → Tm → St → Prop) (tm : Tm) (st : St) (e : Exit) : Un P nt ct Q [] e tm st = Q e tm st := rfl
theorem Un_seq (c : Code) : Un P nt ct Q (.seq c :: fs) .normal tm st = wpR P nt ct c fs tm st Q := rfl
theorem Un_seq_x (c : Code) (id : Nat) : Un P nt ct Q (.seq c :: fs) (.exit id) tm st = Un P nt ct Q fs (.exit id) tm st := rfl
theorem Un_seq_r (c : Code) : Un P nt ct Q (.seq c :: fs) .ret tm st = Un P nt ct Q fs .ret tm st := rfl
theorem Un_blk (id : Nat) : Un P nt ct Q (.blk id :: fs) .normal tm st = Un P nt ct Q fs .normal tm st := rfl
theorem Un_blk_r (id : Nat) : Un P nt ct Q (.blk id :: fs) .ret tm st = Un P nt ct Q fs .ret tm st := rfl
theorem Un_blk_x (id id' : Nat) : Un P nt ct Q (.blk id :: fs) (.exit id') tm st = if id' = id then Un P nt ct Q fs .normal tm st else Un P nt ct Q fs (.exit id') tm st := rfl
theorem Un_lp (I : Nat → Tm → St → Prop) (n : Nat) : Un P nt ct Q (.lp I n :: fs) .normal tm st = LpR I n tm st := rfl
theorem Un_lp_x (I : Nat → Tm → St → Prop) (n id : Nat) : Un P nt ct Q (.lp I n :: fs) (.exit id) tm st = Un P nt ct Q fs (.exit id) tm st := rfl
theorem Un_lp_r (I : Nat → Tm → St → Prop) (n : Nat) : Un P nt ct Q (.lp I n :: fs) .ret tm st = Un P nt ct Q fs .ret tm st := rfl
theorem wpR_seq (a b : Code) : wpR P nt ct (.seq a b) fs tm st Q = wpR P nt ct a (.seq b :: fs) tm st Q := rfl
theorem wpR_block (id : Nat) (a : Code) : wpR P nt ct (.block id a) fs tm st Q = wpR P nt ct a (.blk id :: fs) tm st Q := rfl
theorem wpR_skip : wpR P nt ct .skip fs tm st Q = Un P nt ct Q fs .normal tm st := rfl
theorem wpR_exit (id : Nat) : wpR P nt ct (.exit id) fs tm st Q = Un P nt ct Q fs (.exit id) tm st := rfl
theorem wpR_ret : wpR P nt ct .ret fs tm st Q = Un P nt ct Q fs .ret tm st := rfl
def RgR (P : Program) (nt : Nat) (ct : Ctb) (id : Nat) (o : Array Oper) (fs : List Fr) (tm : Tm) (st : St) (Q : Exit → Tm → St → Prop) : Option (List (Nat × Nat)) → Prop
  | none => LsR P nt ct o.toList o.toList fs Q tm st
  | some crit => wpG P nt o.toList ⟨crit, [], []⟩ (items 0 o.toList) tm st (Un P nt ct Q fs .normal)
theorem RgR_none (id : Nat) (o : Array Oper) : RgR P nt ct id o fs tm st Q none = LsR P nt ct o.toList o.toList fs Q tm st := rfl
theorem wpR_region (id : Nat) (o : Array Oper) (dr : Bool) : wpR P nt ct (.region id o dr) fs tm st Q = RgR P nt ct id o fs tm st Q (ct.lookup id) := by
  simp only [wpR, wpC, RgR]
  cases ct.lookup id <;> rfl
theorem wpR_cond (c : Operand) (a b : Code) : wpR P nt ct (.cond c a b) fs tm st Q = Cn P nt ct a b fs tm st Q (opv tm c) := by
  simp only [wpR, wpC_cnd, Cn]
theorem wpR_loop (c : Code) : wpR P nt ct (.loop c) fs tm st Q = loopR P nt ct c fs tm st Q := rfl
theorem Cn_true (a b : Code) : Cn P nt ct a b fs tm st Q ⟨True, .d (.lit (.bool true))⟩ = wpR P nt ct a fs tm st Q := by simp [Cn, cnd, Br]
theorem Cn_false (a b : Code) : Cn P nt ct a b fs tm st Q ⟨True, .d (.lit (.bool false))⟩ = wpR P nt ct b fs tm st Q := by simp [Cn, cnd, Br]
theorem LsR_nil : LsR P nt ct ops [] fs Q tm st = Un P nt ct Q fs .normal tm st := rfl
theorem LsR_op (op : Op) (ty : TypeId) (pos : String) (af : Array Edge) : LsR P nt ct ops (⟨dst, op, ty, pos, af, none⟩ :: l) fs Q tm st = OpR P nt ct ops l fs Q tm dst st op := by
  simp only [LsR, OpR, wpL_cons, wpAt_plain]
theorem LsR_gd (op : Op) (ty : TypeId) (pos : String) (af : Array Edge) (j : Nat) (want : Bool) : LsR P nt ct ops (⟨dst, op, ty, pos, af, some (j, want)⟩ :: l) fs Q tm st = Gt P nt ct ops l fs Q tm dst st op want (tmAt tm (dstAt ops j)) := by
  simp only [LsR, OpR, wpL_cons, wpAt_gd, Gt]
  cases dstAt ops j <;> simp [tmAt, gat]
theorem Gt_tt (op : Op) : Gt P nt ct ops l fs Q tm dst st op true (some (.d (.lit (.bool true)))) = OpR P nt ct ops l fs Q tm dst st op := by simp [Gt, gst, Br]
theorem Gt_ff (op : Op) : Gt P nt ct ops l fs Q tm dst st op false (some (.d (.lit (.bool false)))) = OpR P nt ct ops l fs Q tm dst st op := by simp [Gt, gst, Br]
theorem Gt_tf (op : Op) (d : Nat) : Gt P nt ct ops l fs Q tm (some d) st op true (some (.d (.lit (.bool false)))) = (decide (d < nt) = true ∧ LsR P nt ct ops l fs Q (upd tm d undefAV) st) := by simp [Gt, gst, Br, dstOk, put]
theorem Gt_ft (op : Op) (d : Nat) : Gt P nt ct ops l fs Q tm (some d) st op false (some (.d (.lit (.bool true)))) = (decide (d < nt) = true ∧ LsR P nt ct ops l fs Q (upd tm d undefAV) st) := by simp [Gt, gst, Br, dstOk, put]
theorem Gt_u (op : Op) (d : Nat) (want : Bool) : Gt P nt ct ops l fs Q tm (some d) st op want (some undefAV) = (decide (d < nt) = true ∧ LsR P nt ct ops l fs Q (upd tm d undefAV) st) := by simp [Gt, gst_u, dstOk, put]
theorem Gt_n (op : Op) (want : Bool) : Gt P nt ct ops l fs Q tm none st op want (some undefAV) = LsR P nt ct ops l fs Q tm st := by simp [Gt, gst_u, dstOk, put]
theorem Stp_t (d : Nat) (v : AV) (st' : St) : Stp P nt ct ops l fs Q tm (some d) ⟨True, v, st'⟩ = (decide (d < nt) = true ∧ LsR P nt ct ops l fs Q (upd tm d v) st') := by simp [Stp, dstOk, put]
theorem Stp_n (v : AV) (st' : St) : Stp P nt ct ops l fs Q tm none ⟨True, v, st'⟩ = LsR P nt ct ops l fs Q tm st' := by simp [Stp, dstOk, put]
theorem Stp_a (a : Prop) (v : AV) (st' : St) : Stp P nt ct ops l fs Q tm dst ⟨a, v, st'⟩ = (a ∧ Stp P nt ct ops l fs Q tm dst ⟨True, v, st'⟩) := by simp [Stp]
theorem OpR_pv {op : Op} {p : PV} (h : ∀ K : AV → St → Prop, eff P tm st K op = Bd p fun v => K v st) : OpR P nt ct ops l fs Q tm dst st op = Stp P nt ct ops l fs Q tm dst (p.ev st) := by
  simp only [OpR, Stp, h, Bd, PV.ev, LsR, eq_iff_iff]
  constructor
  · rintro ⟨a, b, c⟩; exact ⟨b, a, c⟩
  · rintro ⟨a, b, c⟩; exact ⟨b, a, c⟩
theorem OpR_ev {op : Op} {e : EV} (h : ∀ K : AV → St → Prop, eff P tm st K op = (e.ok ∧ K e.v e.st)) : OpR P nt ct ops l fs Q tm dst st op = Stp P nt ct ops l fs Q tm dst e := by
  simp only [OpR, Stp, h, LsR, eq_iff_iff]
  constructor
  · rintro ⟨a, b, c⟩; exact ⟨b, a, c⟩
  · rintro ⟨a, b, c⟩; exact ⟨b, a, c⟩
theorem OpR_move (x : Operand) : OpR P nt ct ops l fs Q tm dst st (.move x) = Stp P nt ct ops l fs Q tm dst ((opv tm x).ev st) := OpR_pv _ _ _ _ _ _ _ _ _ _ fun _ => rfl
theorem OpR_assign (x : Operand) : OpR P nt ct ops l fs Q tm dst st (.assign x) = Stp P nt ct ops l fs Q tm dst ((opv tm x).ev st) := OpR_pv _ _ _ _ _ _ _ _ _ _ fun _ => rfl
theorem OpR_pick (c x y : Operand) : OpR P nt ct ops l fs Q tm dst st (.pick c x y) = Stp P nt ct ops l fs Q tm dst ((lift3 pickV (opv tm c) (opv tm x) (opv tm y)).ev st) := OpR_pv _ _ _ _ _ _ _ _ _ _ fun K => by
  rw [eff_pick]; simp only [Bd, lift3, and_assoc]
theorem OpR_nilCheck (x : Operand) : OpR P nt ct ops l fs Q tm dst st (.nilCheck x) = Stp P nt ct ops l fs Q tm dst ((lift1 (checked P) (opv tm x)).ev st) := OpR_pv _ _ _ _ _ _ _ _ _ _ fun K => by
  rw [eff_nilCheck]; simp only [Bd, lift1, and_assoc]
theorem OpR_binOp (op : BinOp) (t : TypeId) (x y : Operand) (ty : TypeId) : OpR P nt ct ops l fs Q tm dst st (.binOp op t x y ty) = Stp P nt ct ops l fs Q tm dst ((lift2 (binV P op t) (opv tm x) (opv tm y)).ev st) := OpR_pv _ _ _ _ _ _ _ _ _ _ fun K => by
  rw [eff_binOp]; simp only [Bd, lift2, and_assoc]
theorem OpR_not (t : TypeId) (x : Operand) : OpR P nt ct ops l fs Q tm dst st (.unOp .not t x) = Stp P nt ct ops l fs Q tm dst ((lift1 notV (opv tm x)).ev st) := OpR_pv _ _ _ _ _ _ _ _ _ _ fun K => by
  rw [eff_not]; simp only [Bd, lift1, and_assoc]
theorem OpR_neg (t : TypeId) (x : Operand) : OpR P nt ct ops l fs Q tm dst st (.unOp .neg t x) = Stp P nt ct ops l fs Q tm dst ((lift1 negV (opv tm x)).ev st) := OpR_pv _ _ _ _ _ _ _ _ _ _ fun K => by
  rw [eff_neg]; simp only [Bd, lift1, and_assoc]
theorem OpR_fieldAddr (s : TypeId) (x : Operand) (f : Nat) : OpR P nt ct ops l fs Q tm dst st (.fieldAddr s x f) = Stp P nt ct ops l fs Q tm dst ((lift1 (faddrV (flds P s)[f]?) (opv tm x)).ev st) := OpR_pv _ _ _ _ _ _ _ _ _ _ fun K => by
  rw [eff_fieldAddr]; simp only [Bd, lift1, and_assoc]
theorem OpR_field (s : TypeId) (x : Operand) (f : Nat) : OpR P nt ct ops l fs Q tm dst st (.field s x f) = Stp P nt ct ops l fs Q tm dst ((lift1 (fieldV (flds P s)[f]?) (opv tm x)).ev st) := OpR_pv _ _ _ _ _ _ _ _ _ _ fun K => by
  rw [eff_field]; simp only [Bd, lift1, and_assoc]
theorem OpR_indexAddr (t : TypeId) (x i : Operand) : OpR P nt ct ops l fs Q tm dst st (.indexAddr t x i) = Stp P nt ct ops l fs Q tm dst ((lift2 (idxV (elT P t)) (opv tm x) (opv tm i)).ev st) := OpR_pv _ _ _ _ _ _ _ _ _ _ fun K => by
  rw [eff_indexAddr]; simp only [Bd, lift2, and_assoc]
theorem OpR_index (t : TypeId) (x i : Operand) : OpR P nt ct ops l fs Q tm dst st (.index t x i) = Stp P nt ct ops l fs Q tm dst ((lift2 (sidxV P t) (opv tm x) (opv tm i)).ev st) := OpR_pv _ _ _ _ _ _ _ _ _ _ fun K => by
  rw [eff_index]; simp only [Bd, lift2, and_assoc]
def extV' (i : Nat) (v : AV) : PV := extV v i
theorem extV'_mk (vs : List AV) (i : Nat) : extV' i (.tup vs) = ⟨i < vs.length, vs.getD i .bad⟩ := rfl
theorem OpR_extract (x : Operand) (i : Nat) : OpR P nt ct ops l fs Q tm dst st (.extract x i) = Stp P nt ct ops l fs Q tm dst ((lift1 (extV' i) (opv tm x)).ev st) := OpR_pv _ _ _ _ _ _ _ _ _ _ fun K => by
  rw [eff_extract]; simp only [Bd, lift1, extV', and_assoc]
def fnE (f : Fn) (fs cs : LV) : PV := ⟨fs.ok ∧ cs.ok, .fn f fs.vs cs.vs⟩
theorem fnE_t (f : Fn) (fs cs : List AV) : fnE f ⟨True, fs⟩ ⟨True, cs⟩ = ⟨True, .fn f fs cs⟩ := by simp [fnE]
theorem OpR_makeFunc (f : Fn) (x y : Array Operand) : OpR P nt ct ops l fs Q tm dst st (.makeFunc f x y) = Stp P nt ct ops l fs Q tm dst ((fnE f (opvs tm x.toList) (opvs tm y.toList)).ev st) := OpR_pv _ _ _ _ _ _ _ _ _ _ fun K => by
  rw [eff_makeFunc]; simp only [Bd, BdL_opvs, fnE, and_assoc]
def ifcV (P : Program) (t : TypeId) (a : AV) : PV := ⟨ifcOk P t, .ifc t a⟩
theorem ifcV_mk (P : Program) (t : TypeId) (a : AV) : ifcV P t a = ⟨ifcOk P t, .ifc t a⟩ := rfl
theorem OpR_makeInterface (t : TypeId) (x : Operand) : OpR P nt ct ops l fs Q tm dst st (.makeInterface t x) = Stp P nt ct ops l fs Q tm dst ((lift1 (ifcV P t) (opv tm x)).ev st) := OpR_pv _ _ _ _ _ _ _ _ _ _ fun K => by
  rw [eff_makeInterface]; simp only [Bd, lift1, ifcV, and_assoc]
theorem OpR_load (t : TypeId) (x : Operand) : OpR P nt ct ops l fs Q tm dst st (.load t x) = Stp P nt ct ops l fs Q tm dst ((lift1 (loadV (tsz P t) st) (opv tm x)).ev st) := OpR_pv _ _ _ _ _ _ _ _ _ _ fun K => by
  rw [eff_load]; simp only [Bd, lift1, and_assoc]
theorem OpR_len (x : Operand) (t : TypeId) : OpR P nt ct ops l fs Q tm dst st (.call ⟨.builtin .len, #[x], #[t]⟩) = Stp P nt ct ops l fs Q tm dst ((lift1 (lenV P t) (opv tm x)).ev st) := OpR_pv _ _ _ _ _ _ _ _ _ _ fun K => by
  rw [eff_len]; simp only [Bd, lift1, and_assoc]
theorem OpR_build (t : TypeId) (ps : Array (Nat × Operand)) : OpR P nt ct ops l fs Q tm dst st (.build t ps) = Stp P nt ct ops l fs Q tm dst ((buildE P t ps.toList (opvs tm (snds ps.toList))).ev st) := OpR_pv _ _ _ _ _ _ _ _ _ _ fun K => by
  rw [eff_build, BdL_opvs, buildR_iff, ← zipF_eq, snds_eq]; simp only [Bd, buildE, and_assoc]
def storeE (t : Option (Nat × Bool)) (st : St) (x y : PV) : EV := ⟨x.ok ∧ y.ok ∧ (storeV t st x.v y.v).ok, undefAV, (storeV t st x.v y.v).st⟩
def PS.ev (p : PS) (v : AV) : EV := ⟨p.ok, v, p.st⟩
theorem PS.ev_mk (a : Prop) (s : St) (v : AV) : PS.ev ⟨a, s⟩ v = ⟨a, v, s⟩ := rfl
theorem storeE_t (t : Option (Nat × Bool)) (st : St) (x y : AV) : storeE t st ⟨True, x⟩ ⟨True, y⟩ = (storeV t st x y).ev undefAV := by simp [storeE, PS.ev]
theorem OpR_store (t : TypeId) (x y : Operand) : OpR P nt ct ops l fs Q tm dst st (.store t x y) = Stp P nt ct ops l fs Q tm dst (storeE (tsz P t) st (opv tm x) (opv tm y)) := OpR_ev _ _ _ _ _ _ _ _ _ _ fun K => by
  rw [eff_store]; simp only [Bd, BdS, storeE, and_assoc]
theorem OpR_alloc (t : TypeId) : OpR P nt ct ops l fs Q tm dst st (.alloc t) = Stp P nt ct ops l fs Q tm dst ((allocV (zeroC P t) t st).ev (.ptr st.n 0)) := OpR_ev _ _ _ _ _ _ _ _ _ _ fun K => by
  rw [eff_alloc]; simp [Bd, BdS, PS.ev]
def boxE (t : TypeId) (st : St) (x : PV) : EV := ⟨x.ok ∧ (cellsL x.v).all cellish = true, .ptr st.n 0, st.push t (cellsL x.v)⟩
theorem boxE_t (t : TypeId) (st : St) (x : AV) : boxE t st ⟨True, x⟩ = ⟨(cellsL x).all cellish = true, .ptr st.n 0, st.push t (cellsL x)⟩ := by simp [boxE]
theorem OpR_box (t : TypeId) (x : Operand) : OpR P nt ct ops l fs Q tm dst st (.box t x) = Stp P nt ct ops l fs Q tm dst (boxE t st (opv tm x)) := OpR_ev _ _ _ _ _ _ _ _ _ _ fun K => by
  rw [eff_box]; simp [Bd, BdS, boxE, and_assoc]
theorem OpR_callV (f : Operand) (args : Array Operand) (tys : Array TypeId) : OpR P nt ct ops l fs Q tm dst st (.call ⟨.value f, args, tys⟩) = Cl P nt ct ops l fs Q tm dst (opv tm f) (opvs tm args.toList) st := by
  simp only [OpR, Cl, eff_callV, Bd, BdL_opvs, LsR, eq_iff_iff]
  constructor
  · rintro ⟨a, b, c, d⟩; exact ⟨b, c, a, d⟩
  · rintro ⟨b, c, a, d⟩; exact ⟨a, b, c, d⟩
theorem OpR_invoke (r : Operand) (name : String) (args : Array Operand) (tys : Array TypeId) : OpR P nt ct ops l fs Q tm dst st (.call ⟨.invoke r name, args, tys⟩) = Iv P nt ct ops l fs Q tm dst (opv tm r) name (opvs tm args.toList) st := by
  simp only [OpR, Iv, eff_invoke, Bd, BdL_opvs, LsR, eq_iff_iff]
  constructor
  · rintro ⟨a, b, c, d⟩; exact ⟨b, c, a, d⟩
  · rintro ⟨b, c, a, d⟩; exact ⟨a, b, c, d⟩
theorem OpR_append (s x : Operand) (t : TypeId) : OpR P nt ct ops l fs Q tm dst st (.call ⟨.builtin .append, #[s, x], #[t, t]⟩) = Ap P nt ct ops l fs Q tm dst t (opv tm s) (opv tm x) st := by
  simp only [OpR, Ap, eff_append, Bd, LsR, eq_iff_iff, true_and]
  constructor
  · rintro ⟨a, b, c, d⟩; exact ⟨b, c, a, d⟩
  · rintro ⟨b, c, a, d⟩; exact ⟨a, b, c, d⟩
end

theorem Cn_intro {P : Program} {nt : Nat} {ct : Ctb} {fs : List Fr} {Q : Exit → Tm → St → Prop} {tm : Tm} {st : St} {a b : Code} {x : Bool} (h1 : x = true → wpR P nt ct a fs tm st Q) (h2 : x = false → wpR P nt ct b fs tm st Q) : Cn P nt ct a b fs tm st Q ⟨True, .d (.lit (.bool x))⟩ := by
  simp only [Cn, cnd_t]; exact ⟨h1, h2⟩
theorem Gt_intro {P : Program} {nt : Nat} {ct : Ctb} {ops l : List Oper} {fs : List Fr} {Q : Exit → Tm → St → Prop} {tm : Tm} {st : St} {dst : Option Nat} {op : Op} {want b : Bool} (h1 : b = true → Gt P nt ct ops l fs Q tm dst st op want (some (.d (.lit (.bool true))))) (h2 : b = false → Gt P nt ct ops l fs Q tm dst st op want (some (.d (.lit (.bool false))))) : Gt P nt ct ops l fs Q tm dst st op want (some (.d (.lit (.bool b)))) := by
  cases b with
  | true => exact h1 rfl
  | false => exact h2 rfl
theorem Stp_intro {P : Program} {nt : Nat} {ct : Ctb} {ops l : List Oper} {fs : List Fr} {Q : Exit → Tm → St → Prop} {tm : Tm} {dst : Option Nat} {a : Prop} {v : AV} {st' : St} (h : a) (h2 : Stp P nt ct ops l fs Q tm dst ⟨True, v, st'⟩) : Stp P nt ct ops l fs Q tm dst ⟨a, v, st'⟩ := ⟨h, h2.2⟩

/-- A call of a function that has a contract: it gives such a value and leaves such a state. -/
theorem Cl_ct {P : Program} {nt : Nat} {ct : Ctb} {ops l : List Oper} {fs : List Fr} {Q : Exit → Tm → St → Prop} {tm : Tm} {d : Nat} {k : FuncId} {as : List AV} {st st' : St} {v : AV} (h : Ct P k as st fun r s => r = v ∧ s = st')
    (hd : decide (d < nt) = true) (hk : LsR P nt ct ops l fs Q (upd tm d v) st') : Cl P nt ct ops l fs Q tm (some d) ⟨True, .fn (.func k) [] []⟩ ⟨True, as⟩ st :=
  ⟨trivial, trivial, hd, by
    rw [callA_fn]
    exact h.mono fun r s ⟨h1, h2⟩ => by subst h1; subst h2; exact hk⟩
theorem Cl_of {P : Program} {nt : Nat} {ct : Ctb} {ops l : List Oper} {fs : List Fr} {Q : Exit → Tm → St → Prop} {tm : Tm} {d : Nat} {k : FuncId} {as : List AV} {st : St} (R : AV → St → Prop) (h : Ct P k as st R)
    (hd : decide (d < nt) = true) (hk : ∀ v st', R v st' → LsR P nt ct ops l fs Q (upd tm d v) st') : Cl P nt ct ops l fs Q tm (some d) ⟨True, .fn (.func k) [] []⟩ ⟨True, as⟩ st :=
  ⟨trivial, trivial, hd, by
    rw [callA_fn]
    exact h.mono fun r s h1 => hk r s h1⟩
theorem Iv_ct {P : Program} {nt : Nat} {ct : Ctb} {ops l : List Oper} {fs : List Fr} {Q : Exit → Tm → St → Prop} {tm : Tm} {d : Nat} {k : FuncId} {t : TypeId} {a : AV} {name : String} {as : List AV} {st st' : St} {v : AV} (hm : Meth P t name k) (h : Ct P k (a :: as) st fun r s => r = v ∧ s = st')
    (hd : decide (d < nt) = true) (hk : LsR P nt ct ops l fs Q (upd tm d v) st') : Iv P nt ct ops l fs Q tm (some d) ⟨True, .ifc t a⟩ name ⟨True, as⟩ st :=
  ⟨trivial, trivial, hd, k, hm, h.mono fun r s ⟨h1, h2⟩ => by subst h1; subst h2; exact hk⟩
theorem loopR_intro {P : Program} {nt : Nat} {ct : Ctb} {c : Code} {fs : List Fr} {tm : Tm} {st : St} {Q : Exit → Tm → St → Prop} (I : Nat → Tm → St → Prop) (n : Nat) (h0 : I n tm st)
    (h : ∀ n tm st, I n tm st → wpR P nt ct c (.lp I n :: fs) tm st Q) : loopR P nt ct c fs tm st Q :=
  ⟨I, ⟨n, h0⟩, h⟩
theorem loopR_ext {P : Program} {nt : Nat} {ct : Ctb} {c : Code} {fs : List Fr} {tm : Tm} {st : St} {Q : Exit → Tm → St → Prop} (I : Nat → Tm → St → Prop) (n : Nat) (h0 : I n tm st)
    (h : ∀ n tm st, I n tm st → wpR P nt ct c (.lp I n :: fs) tm (st.ext [] []) Q) : loopR P nt ct c fs tm st Q :=
  loopR_intro I n h0 fun n tm st hi => by have := h n tm st hi; rwa [St.ext_nil] at this
/-- From here on of the slots only two are looked at. -/
theorem LsR_cut2 {P : Program} {nt : Nat} {ct : Ctb} {ops l : List Oper} {fs : List Fr} {Q : Exit → Tm → St → Prop} {tm : Tm} {st : St} (i j : Nat) (h : ∀ tm' : Tm, tm' i = tm i → tm' j = tm j → LsR P nt ct ops l fs Q tm' st) : LsR P nt ct ops l fs Q tm st := h tm rfl rfl
theorem LsR_cut {P : Program} {nt : Nat} {ct : Ctb} {ops l : List Oper} {fs : List Fr} {Q : Exit → Tm → St → Prop} {tm : Tm} {st : St} (is : List Nat) (h : ∀ tm' : Tm, (∀ i ∈ is, tm' i = tm i) → LsR P nt ct ops l fs Q tm' st) : LsR P nt ct ops l fs Q tm st := h tm fun _ _ => rfl
/-- A call of a function value of which it is known what it does. -/
theorem Cl_val {P : Program} {nt : Nat} {ct : Ctb} {ops l : List Oper} {fs : List Fr} {Q : Exit → Tm → St → Prop} {tm : Tm} {d : Nat} {f : AV} {as : List AV} {st : St} (R : AV → St → Prop) (h : callA P f as st R)
    (hd : decide (d < nt) = true) (hk : ∀ v st', R v st' → LsR P nt ct ops l fs Q (upd tm d v) st') : Cl P nt ct ops l fs Q tm (some d) ⟨True, f⟩ ⟨True, as⟩ st :=
  ⟨trivial, trivial, hd, callA_mono h fun r s h1 => hk r s h1⟩
theorem Ap_nil {P : Program} {nt : Nat} {ct : Ctb} {ops l : List Oper} {fs : List Fr} {Q : Exit → Tm → St → Prop} {tm : Tm} {d : Nat} {t : TypeId} {x : AV} {st : St} {e : TypeId} {n by_ : Nat} {ys : List (List DV)} (he : elT P t = some (e, n, by_)) (hx : dcont x = some ys) (hn : 0 < n)
    (hz : (zeroC P e).map (·.length) = some n) (hy : ∀ y ∈ ys, y.length = n) (hl : ys.length ≤ 9223372036854775807) (hb : ys.length * by_ ≤ 140737488355328) (hd : decide (d < nt) = true) (hk : LsR P nt ct ops l fs Q (upd tm d (.own st.k n ys)) (st.own e)) :
    Ap P nt ct ops l fs Q tm (some d) t ⟨True, .nil⟩ ⟨True, x⟩ st :=
  ⟨trivial, trivial, hd, by
    unfold appendA
    simp only [he, hx]
    exact ⟨hn, hz, hy, hl, hb, hk⟩⟩
theorem Ap_own {P : Program} {nt : Nat} {ct : Ctb} {ops l : List Oper} {fs : List Fr} {Q : Exit → Tm → St → Prop} {tm : Tm} {d : Nat} {t : TypeId} {x : AV} {st : St} {e : TypeId} {n by_ : Nat} {xs ys : List (List DV)} {tk : Nat} (he : elT P t = some (e, n, by_)) (hx : dcont x = some ys) (hn : 0 < n)
    (hz : (zeroC P e).map (·.length) = some n) (hy : ∀ y ∈ ys, y.length = n) (hlv : st.live tk = some e) (hl : xs.length + ys.length ≤ 9223372036854775807) (hb : (xs.length + ys.length) * by_ ≤ 140737488355328) (hd : decide (d < nt) = true)
    (hk : LsR P nt ct ops l fs Q (upd tm d (.own st.k n (xs ++ ys))) ((st.eat tk).own e)) :
    Ap P nt ct ops l fs Q tm (some d) t ⟨True, .own tk n xs⟩ ⟨True, x⟩ st :=
  ⟨trivial, trivial, hd, by
    unfold appendA
    simp only [he, hx]
    exact ⟨hn, hz, hy, trivial, hlv, hl, hb, hk⟩⟩
/-- A slice's literal. -/
def Bs (P : Program) (nt : Nat) (ct : Ctb) (ops l : List Oper) (fs : List Fr) (Q : Exit → Tm → St → Prop) (tm : Tm) (dst : Option Nat) (st : St) (t : TypeId) (len : Nat) (ps : List (Nat × Operand)) (vs : LV) : Prop :=
  dstOk nt dst = true ∧ vs.ok ∧ buildSliceA P t len (zipF ps vs.vs) st fun v st' => LsR P nt ct ops l fs Q (put tm dst v) st'
theorem OpR_buildSlice (P : Program) (nt : Nat) (ct : Ctb) (ops l : List Oper) (fs : List Fr) (Q : Exit → Tm → St → Prop) (tm : Tm) (st : St) (dst : Option Nat) (t : TypeId) (len : Nat) (ps : Array (Nat × Operand)) :
    OpR P nt ct ops l fs Q tm dst st (.buildSlice t len ps) = Bs P nt ct ops l fs Q tm dst st t len ps.toList (opvs tm (snds ps.toList)) := by
  simp only [OpR, Bs, eff_buildSlice, BdL_opvs, ← snds_eq, ← zipF_eq, LsR]
theorem zipF_all : ∀ (q : List (Nat × Operand)) (us : List AV) (n : Nat), q.length = us.length → (zipF q us).map (fun p => cellsL p.2) = us.map cellsL ∧ (zipF q us).length = us.length ∧ ((zipF q us).all fun p => (cellsL p.2).length == n && (cellsL p.2).all cellish) = us.all fun v => (cellsL v).length == n && (cellsL v).all cellish
  | [], [], n, _ => by simp [zipF]
  | [], _ :: _, n, h => by simp at h
  | _ :: _, [], n, h => by simp at h
  | p :: q, u :: us, n, h => by
    obtain ⟨h1, h2, h3⟩ := zipF_all q us n (by simpa using h)
    simp [zipF, h1, h2, h3]
theorem Bs_d {P : Program} {nt : Nat} {ct : Ctb} {ops l : List Oper} {fs : List Fr} {Q : Exit → Tm → St → Prop} {tm : Tm} {d : Nat} {t : TypeId} {len : Nat} {ps : List (Nat × Operand)} {st : St} {e : TypeId} {n by_ : Nat} {vs : List AV} {xs : List (List DV)} (he : elT P t = some (e, n, by_))
    (hx : toDss (vs.map cellsL) = some xs) (hz : (zeroC P e).map (·.length) = some n) (hn : 0 < n) (hl : len * n ≤ 16777216) (hr : (zipF ps vs).map (·.1) = List.range' 0 len) (hvl : vs.length = len) (hpl : ps.length = len)
    (hc : (vs.all fun v => (cellsL v).length == n && (cellsL v).all cellish) = true) (hd : decide (d < nt) = true) (hk : LsR P nt ct ops l fs Q (upd tm d (.own st.k n xs)) (st.own e)) :
    Bs P nt ct ops l fs Q tm (some d) st t len ps ⟨True, vs⟩ := by
  obtain ⟨z1, z2, z3⟩ := zipF_all ps vs n (by rw [hpl, hvl])
  refine ⟨hd, trivial, ?_⟩
  unfold buildSliceA
  simp only [he, z1, hx]
  exact ⟨hn, hl, hz, hr, by rw [z2, hvl], by rw [z3]; exact hc, hk⟩
theorem Bs_p {P : Program} {nt : Nat} {ct : Ctb} {ops l : List Oper} {fs : List Fr} {Q : Exit → Tm → St → Prop} {tm : Tm} {d : Nat} {t : TypeId} {len : Nat} {ps : List (Nat × Operand)} {st : St} {e : TypeId} {n by_ : Nat} {vs : List AV} (he : elT P t = some (e, n, by_))
    (hx : toDss (vs.map cellsL) = none) (hz : (zeroC P e).map (·.length) = some n) (hn : 0 < n) (hl : len * n ≤ 16777216) (hr : (zipF ps vs).map (·.1) = List.range' 0 len) (hvl : vs.length = len) (hpl : ps.length = len)
    (hc : (vs.all fun v => (cellsL v).length == n && (cellsL v).all cellish) = true) (hd : decide (d < nt) = true) (hk : LsR P nt ct ops l fs Q (upd tm d (.psl n (vs.map cellsL))) st) :
    Bs P nt ct ops l fs Q tm (some d) st t len ps ⟨True, vs⟩ := by
  obtain ⟨z1, z2, z3⟩ := zipF_all ps vs n (by rw [hpl, hvl])
  refine ⟨hd, trivial, ?_⟩
  unfold buildSliceA
  simp only [he, z1, hx]
  exact ⟨hn, hl, hz, hr, by rw [z2, hvl], by rw [z3]; exact hc, hk⟩

theorem Ct.of_textR {P : Program} (hm : P.follows .mixedOrders = true) {k : FuncId} {fn : Func} (hf : P.funcs[k]? = some fn) {c : Code} (hb : fn.body = some c) (ct : Ctb) (hd : drawOk ct c = true) (he : enters P k = true) {args : List AV} {nt : Nat} (hn : fn.ntmps = nt) (hl : args.length ≤ nt) {rs : Array ResultVar} (hrs : fn.results = rs) {st : St} {Q : AV → St → Prop}
    (h : wpR P nt ct c [] (undefs args) (st.ext [] []) (endA P rs.toList st Q)) : Ct P k args st Q := Ct.of_text hm hf hb hd he hn hl hrs h
/-- At the end: the value, and what is left of the state. -/
def En (P : Program) (st0 : St) (Q : AV → St → Prop) (v : PV) (st : St) : Prop := v.ok ∧ ∃ r st2, Drop st0 st st2 ∧ Lw st2.n st2.k v.v r ∧ Q r st2
theorem endA_n (P : Program) (rs : List ResultVar) (st0 : St) (Q : AV → St → Prop) (tm : Tm) (st : St) : endA P rs st0 Q .normal tm st = En P st0 Q (resA P tm st rs) st := rfl
theorem endA_r (P : Program) (rs : List ResultVar) (st0 : St) (Q : AV → St → Prop) (tm : Tm) (st : St) : endA P rs st0 Q .ret tm st = En P st0 Q (resA P tm st rs) st := rfl
theorem En_pure {P : Program} {st0 : St} {Q : AV → St → Prop} {v r : AV} {os : List (TypeId × List AV)} {ts : List (Option TypeId)} (hl : Lw st0.n st0.k v r) (hq : Q r st0) : En P st0 Q ⟨True, v⟩ (st0.ext os ts) :=
  ⟨trivial, r, st0, Drop.ext st0 os ts, hl, hq⟩
def celV (t : Option (Nat × Bool)) (st : St) (v : AV) : PV := match v, t with
  | .ptr id off, some (n, ag) => sub (st.obj id).2 off n ag
  | _, _ => fails
theorem celV_mk (n : Nat) (ag : Bool) (st : St) (id off : Nat) : celV (some (n, ag)) st (.ptr id off) = sub (st.obj id).2 off n ag := rfl
theorem resOne_cel (P : Program) (tm : Tm) (st : St) (a t : Nat) : resOne P tm st (.cell a t) = celV (tsz P t) st (tm a) := by
  simp only [resOne, celV]
  generalize tm a = x
  generalize tsz P t = y
  cases x <;> rcases y with - | ⟨n, ag⟩ <;> rfl
theorem resOne_tmp (P : Program) (tm : Tm) (st : St) (a : Nat) : resOne P tm st (.tmp a) = ⟨True, tm a⟩ := rfl
theorem resA_cel (P : Program) (tm : Tm) (st : St) (a t : Nat) : resA P tm st [.cell a t] = celV (tsz P t) st (tm a) := resOne_cel P tm st a t
/-- Results, two or more. -/
def resL (P : Program) (tm : Tm) (st : St) : List ResultVar → LV
  | [] => ⟨True, []⟩
  | r :: rs => LV.cons (resOne P tm st r) (resL P tm st rs)
theorem resL_nil (P : Program) (tm : Tm) (st : St) : resL P tm st [] = ⟨True, []⟩ := rfl
theorem resL_cons (P : Program) (tm : Tm) (st : St) (r : ResultVar) (rs : List ResultVar) : resL P tm st (r :: rs) = LV.cons (resOne P tm st r) (resL P tm st rs) := rfl
theorem resL_eq (P : Program) (tm : Tm) (st : St) : ∀ rs : List ResultVar, (resL P tm st rs).ok = okAll (rs.map (resOne P tm st)) ∧ (resL P tm st rs).vs = (rs.map (resOne P tm st)).map (·.v)
  | [] => ⟨rfl, rfl⟩
  | r :: rs => by
    obtain ⟨h1, h2⟩ := resL_eq P tm st rs
    exact ⟨by simp only [resL, LV.cons, List.map_cons, okAll, h1], by simp only [resL, LV.cons, List.map_cons, h2]⟩
def LV.tup (l : LV) : PV := ⟨l.ok, .tup l.vs⟩
theorem LV.tup_t (vs : List AV) : LV.tup ⟨True, vs⟩ = ⟨True, .tup vs⟩ := rfl
theorem resA_two (P : Program) (tm : Tm) (st : St) (r r' : ResultVar) (rs : List ResultVar) : resA P tm st (r :: r' :: rs) = LV.tup (resL P tm st (r :: r' :: rs)) := by
  obtain ⟨h1, h2⟩ := resL_eq P tm st (r :: r' :: rs)
  simp only [resA, LV.tup, h1, h2]
theorem splice_all {cells vs : List AV} (h : cells.length = vs.length) : splice cells 0 vs = vs := by
  simp [splice, h]
theorem ext_obj_at (st : St) (os : List (TypeId × List AV)) (ts : List (Option TypeId)) (j : Nat) : ((st.ext os ts).obj (st.n + j)) = (os[j]?).getD (st.obj (st.n + j)) := by
  simp only [St.ext]
  rw [if_neg (by omega), Nat.add_sub_cancel_left]
  cases os[j]? <;> rfl
theorem ext_obj_at1 (st : St) (id : Nat) (c0 : List AV) (os : List (TypeId × List AV)) (ts : List (Option TypeId)) (j : Nat) : (((st.setc id c0).ext os ts).obj (st.n + j)) = (os[j]?).getD ((st.setc id c0).obj (st.n + j)) := ext_obj_at (st.setc id c0) os ts j
theorem ext_setc_new1 (st : St) (id : Nat) (c0 : List AV) (os : List (TypeId × List AV)) (ts : List (Option TypeId)) (j : Nat) (cs : List AV) (h : j < os.length) : ((st.setc id c0).ext os ts).setc (st.n + j) cs = (st.setc id c0).ext (setN os j cs) ts := ext_setc_new (st.setc id c0) os ts j cs h
theorem setc_same (st : St) (id : Nat) (c0 : List AV) : (st.setc id c0).obj id = ((st.obj id).1, c0) := by simp [St.setc_obj]
theorem setc_setc (st : St) (id : Nat) (c0 c1 : List AV) : (st.setc id c0).setc id c1 = st.setc id c1 := by
  simp only [St.setc, St.mk.injEq, true_and, and_true]
  funext i
  simp only [upd]
  by_cases e : i = id <;> simp [e]
theorem ext_old1 (st : St) (id : Nat) (c0 : List AV) (os : List (TypeId × List AV)) (ts : List (Option TypeId)) (h : id < st.n) : ((st.setc id c0).ext os ts).obj id = ((st.obj id).1, c0) := by
  rw [ext_obj_old _ _ _ _ (by rw [St.setc_n]; exact h), setc_same]
theorem ext_set1 (st : St) (id : Nat) (c0 c1 : List AV) (os : List (TypeId × List AV)) (ts : List (Option TypeId)) (h : id < st.n) : ((st.setc id c0).ext os ts).setc id c1 = (st.setc id c1).ext os ts := by
  rw [ext_setc_old _ _ _ _ _ (by rw [St.setc_n]; exact h), setc_setc]
theorem splice_s {α : Type} (a : α) (l : List α) (o : Nat) (vs : List α) : splice (a :: l) (o + 1) vs = a :: splice l o vs := by
  simp only [splice, List.take_succ_cons, List.cons_append]
  rw [show o + 1 + vs.length = (o + vs.length) + 1 from by omega, List.drop_succ_cons]
theorem splice_z {α : Type} (a v : α) (l vs : List α) : splice (a :: l) 0 (v :: vs) = v :: splice l 0 vs := by
  simp [splice]
theorem splice_e {α : Type} (l : List α) : splice l 0 [] = l := by simp [splice]
theorem sub_all {cells : List AV} {n : Nat} (h : cells.length = n) : sub cells 0 n true = ⟨True, .agg cells⟩ := by
  subst h; simp [sub]
/-- At the end: one old object was written, what was made is forgotten. -/
theorem Drop.set1 {st : St} {id : Nat} {cs cs' : List AV} (os : List (TypeId × List AV)) (ts : List (Option TypeId)) (hid : id < st.n) (h : LwL st.n st.k cs cs') : Drop st ((st.setc id cs).ext os ts) (st.setc id cs') :=
  Drop.one id cs' (by simp [ext_n, St.setc_n]) (by simp [ext_k, St.setc_k]) (fun i hi hne => by rw [ext_obj_old _ _ _ _ (by rw [St.setc_n]; exact hi), St.setc_obj, if_neg hne]) (fun t ht => by rw [ext_live_old _ _ _ _ (by rw [St.setc_k]; exact ht)]; rfl)
    (by rw [ext_old1 _ _ _ _ _ hid]) (by rw [ext_old1 _ _ _ _ _ hid]; exact h.1) (fun j a b h1 h2 => by rw [ext_old1 _ _ _ _ _ hid] at h1; exact .inr (h.2 j a b h1 h2))
theorem En_set1 {P : Program} {st : St} {Q : AV → St → Prop} {v r : AV} {id : Nat} {cs cs' : List AV} {os : List (TypeId × List AV)} {ts : List (Option TypeId)} (hid : id < st.n) (h : LwL st.n st.k cs cs') (hl : Lw st.n st.k v r) (hq : Q r (st.setc id cs')) : En P st Q ⟨True, v⟩ ((st.setc id cs).ext os ts) :=
  ⟨trivial, r, _, Drop.set1 os ts hid h, hl, hq⟩
theorem cellish_int (k : IntKind) (n : Int) : cellish (.d (.lit (.int k n))) = true := rfl
theorem cellish_bool (b : Bool) : cellish (.d (.lit (.bool b))) = true := rfl
theorem cellish_str (b : ByteArray) : cellish (.d (.lit (.string b))) = true := rfl
theorem cellish_sl (s : Nat) (xs : List (List DV)) : cellish (.d (.sl s xs)) = true := rfl
theorem cellish_nil : cellish .nil = true := rfl
theorem cellish_own (t s : Nat) (xs : List (List DV)) : cellish (.own t s xs) = true := rfl
theorem cellish_ptr (id off : Nat) : cellish (.ptr id off) = true := rfl
end Go.AW
