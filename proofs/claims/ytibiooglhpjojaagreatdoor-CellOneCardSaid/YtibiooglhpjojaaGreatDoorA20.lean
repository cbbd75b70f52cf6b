/- Rows whose reads are looked at: the rules of A18 once more, each operation with one value and one state. -/
import Derived.Test.YtibiooglhpjojaaGreatDoorA19
set_option linter.unusedSimpArgs false
set_option linter.unusedVariables false
namespace Go.AW
open Go.RowKit

theorem kv_load (P : Program) (tm : Tm) (st : St) (t : TypeId) (x : Operand) : kv P tm st (.load t x) = lift1 (loadV (tsz P t) st) (opv tm x) := by
  simp only [kv, lift1, opv]
  generalize opnd tm x = u
  generalize tsz P t = w
  rcases w with - | ⟨n, a⟩ <;> cases u <;> simp [loadV, fails]

def LsG (P : Program) (nt : Nat) (ct : Ctb) (ops l : List Oper) (n : Nat) (gm : Gm) (fs : List Fr) (Q : Exit → Tm → St → Prop) (tm : Tm) (st : St) : Prop := wpG P nt ops gm (items n l) tm st (Un P nt ct Q fs .normal)
theorem RgR_some (P : Program) (nt : Nat) (ct : Ctb) (id : Nat) (o : Array Oper) (fs : List Fr) (tm : Tm) (st : St) (Q : Exit → Tm → St → Prop) (crit : List (Nat × Nat)) : RgR P nt ct id o fs tm st Q (some crit) = LsG P nt ct o.toList o.toList 0 ⟨crit, [], []⟩ fs Q tm st := rfl

section
variable (P : Program) (nt : Nat) (ct : Ctb) (ops l : List Oper) (n : Nat) (gm : Gm) (fs : List Fr) (Q : Exit → Tm → St → Prop) (tm : Tm) (st : St) (dst : Option Nat)
theorem LsG_nil : LsG P nt ct ops [] n gm fs Q tm st = Un P nt ct Q fs .normal tm st := rfl
/-- One operation that is done. -/
def OpG (op : Op) : Prop := ∃ v st', (∀ J : AV → St → Prop, J v st' → dstOk nt dst = true ∧ eff P tm st J op) ∧ (isLoad op = true → ∀ p ∈ gm.hist, (p.1, n) ∈ gm.crit → kv P tm p.2 op = kv P tm st op) ∧
  (keeps op = false → ∀ q ∈ gm.lds, (q.1, n) ∈ gm.crit → q.2 st' = q.2 st) ∧
  LsG P nt ct ops l (n + 1) (if keeps op = true then (if isLoad op = true then { gm with lds := (n, fun s => kv P tm s op) :: gm.lds } else gm) else { gm with hist := (n, st) :: gm.hist }) fs Q (put tm dst v) st'
theorem LsG_op (op : Op) (ty : TypeId) (pos : String) (af : Array Edge) : LsG P nt ct ops (⟨dst, op, ty, pos, af, none⟩ :: l) n gm fs Q tm st = OpG P nt ct ops l n gm fs Q tm st dst op := by
  simp only [LsG, OpG, items, wpG, Det, F, gdec, Option.some.injEq, exists_eq_left', PreC, AftC, Gm.next]
  simp
/-- Behind an operation that only computes. -/
def SqG (e : PV) : Prop := e.ok ∧ dstOk nt dst = true ∧ LsG P nt ct ops l (n + 1) gm fs Q (put tm dst e.v) st
theorem OpG_quiet {op : Op} {p : PV} (hq : quiet op = true) (h : ∀ K : AV → St → Prop, eff P tm st K op = (p.ok ∧ K p.v st)) : OpG P nt ct ops l n gm fs Q tm st dst op = SqG P nt ct ops l n gm fs Q tm st dst p := by
  have hk : keeps op = true := by simp [keeps, hq]
  have hl := quiet_load hq
  simp only [OpG, SqG, h, hk, hl, if_true, eq_iff_iff]
  constructor
  · rintro ⟨v, st', h1, -, -, h4⟩
    have h2 := h1 (fun u s => u = v ∧ s = st') ⟨rfl, rfl⟩
    obtain ⟨h5, h6, h7, h8⟩ := h2
    subst h7; subst h8
    exact ⟨h6, h5, by simpa using h4⟩
  · rintro ⟨h1, h2, h3⟩
    exact ⟨p.v, st, fun J hJ => ⟨h2, h1, hJ⟩, fun h => by simp at h, fun h => by simp at h, by simpa using h3⟩
def aftL (n : Nat) (crit : List (Nat × Nat)) (st st' : St) : List (Nat × (St → PV)) → Prop
  | [] => True
  | q :: l => (crit.contains (q.1, n) = true → q.2 st' = q.2 st) ∧ aftL n crit st st' l
theorem aftL_iff (n : Nat) (crit : List (Nat × Nat)) (st st' : St) : ∀ l, aftL n crit st st' l ↔ ∀ q ∈ l, (q.1, n) ∈ crit → q.2 st' = q.2 st
  | [] => by simp [aftL]
  | q :: l => by simp [aftL, aftL_iff n crit st st' l]
def preL (P : Program) (n : Nat) (op : Op) (tm : Tm) (v : PV) (crit : List (Nat × Nat)) : List (Nat × St) → Prop
  | [] => True
  | p :: l => (crit.contains (p.1, n) = true → kv P tm p.2 op = v) ∧ preL P n op tm v crit l
theorem preL_iff (P : Program) (n : Nat) (op : Op) (tm : Tm) (v : PV) (crit : List (Nat × Nat)) : ∀ l, preL P n op tm v crit l ↔ ∀ p ∈ l, (p.1, n) ∈ crit → kv P tm p.2 op = v
  | [] => by simp [preL]
  | q :: l => by simp [preL, preL_iff P n op tm v crit l]
/-- Behind an operation that writes or makes memory. -/
def EfG (e : EV) : Prop := e.ok ∧ dstOk nt dst = true ∧ aftL n gm.crit st e.st gm.lds ∧ LsG P nt ct ops l (n + 1) { gm with hist := (n, st) :: gm.hist } fs Q (put tm dst e.v) e.st
theorem OpG_eff {op : Op} {e : EV} (hk : keeps op = false) (h : ∀ K : AV → St → Prop, eff P tm st K op = (e.ok ∧ K e.v e.st)) : OpG P nt ct ops l n gm fs Q tm st dst op = EfG P nt ct ops l n gm fs Q tm st dst e := by
  have hl : isLoad op = false := by
    cases h' : isLoad op with
    | false => rfl
    | true => simp [keeps, h'] at hk
  simp only [OpG, EfG, h, hk, hl, eq_iff_iff, aftL_iff]
  constructor
  · rintro ⟨v, st', h1, -, h3, h4⟩
    obtain ⟨h5, h6, h7, h8⟩ := h1 (fun u s => u = v ∧ s = st') ⟨rfl, rfl⟩
    subst h7; subst h8
    exact ⟨h6, h5, h3 trivial, by simpa using h4⟩
  · rintro ⟨h1, h2, h3, h4⟩
    exact ⟨e.v, e.st, fun J hJ => ⟨h2, h1, hJ⟩, fun h => by simp at h, fun _ => h3, by simpa using h4⟩
/-- Behind a read. -/
def LdG (op : Op) (e : PV) : Prop := e.ok ∧ dstOk nt dst = true ∧ preL P n op tm (kv P tm st op) gm.crit gm.hist ∧ LsG P nt ct ops l (n + 1) { gm with lds := (n, fun s => kv P tm s op) :: gm.lds } fs Q (put tm dst e.v) st
theorem OpG_load (t : TypeId) (x : Operand) : OpG P nt ct ops l n gm fs Q tm st dst (.load t x) = LdG P nt ct ops l n gm fs Q tm st dst (.load t x) (lift1 (loadV (tsz P t) st) (opv tm x)) := by
  have hk : keeps (.load t x) = true := by simp [keeps, isLoad]
  have hl : isLoad (.load t x) = true := rfl
  have h : ∀ K : AV → St → Prop, eff P tm st K (.load t x) = ((kv P tm st (.load t x)).ok ∧ K (kv P tm st (.load t x)).v st) := fun K => propext (eff_kv hk tm st K)
  rw [← kv_load]
  simp only [OpG, LdG, h, hk, hl, if_true, eq_iff_iff, preL_iff]
  constructor
  · rintro ⟨v, st', h1, h2, -, h4⟩
    obtain ⟨h5, h6, h7, h8⟩ := h1 (fun u s => u = v ∧ s = st') ⟨rfl, rfl⟩
    subst h7; subst h8
    exact ⟨h6, h5, h2 trivial, h4⟩
  · rintro ⟨h1, h2, h3, h4⟩
    exact ⟨_, st, fun J hJ => ⟨h2, h1, hJ⟩, fun _ => h3, fun h => by simp at h, h4⟩
theorem OpG_move (x : Operand) : OpG P nt ct ops l n gm fs Q tm st dst (.move x) = SqG P nt ct ops l n gm fs Q tm st dst (opv tm x) := OpG_quiet _ _ _ _ _ _ _ _ _ _ _ _ rfl fun K => by
  rw [eff_move]; rfl
theorem OpG_assign (x : Operand) : OpG P nt ct ops l n gm fs Q tm st dst (.assign x) = SqG P nt ct ops l n gm fs Q tm st dst (opv tm x) := OpG_quiet _ _ _ _ _ _ _ _ _ _ _ _ rfl fun K => by
  rw [eff_assign]; rfl
theorem OpG_pick (c x y : Operand) : OpG P nt ct ops l n gm fs Q tm st dst (.pick c x y) = SqG P nt ct ops l n gm fs Q tm st dst (lift3 pickV (opv tm c) (opv tm x) (opv tm y)) := OpG_quiet _ _ _ _ _ _ _ _ _ _ _ _ rfl fun K => by
  rw [eff_pick]; simp only [Bd, lift3, and_assoc]
theorem OpG_nilCheck (x : Operand) : OpG P nt ct ops l n gm fs Q tm st dst (.nilCheck x) = SqG P nt ct ops l n gm fs Q tm st dst (lift1 (checked P) (opv tm x)) := OpG_quiet _ _ _ _ _ _ _ _ _ _ _ _ rfl fun K => by
  rw [eff_nilCheck]; simp only [Bd, lift1, and_assoc]
theorem OpG_binOp (op : BinOp) (t : TypeId) (x y : Operand) (ty : TypeId) : OpG P nt ct ops l n gm fs Q tm st dst (.binOp op t x y ty) = SqG P nt ct ops l n gm fs Q tm st dst (lift2 (binV P op t) (opv tm x) (opv tm y)) := OpG_quiet _ _ _ _ _ _ _ _ _ _ _ _ rfl fun K => by
  rw [eff_binOp]; simp only [Bd, lift2, and_assoc]
theorem OpG_not (t : TypeId) (x : Operand) : OpG P nt ct ops l n gm fs Q tm st dst (.unOp .not t x) = SqG P nt ct ops l n gm fs Q tm st dst (lift1 notV (opv tm x)) := OpG_quiet _ _ _ _ _ _ _ _ _ _ _ _ rfl fun K => by
  rw [eff_not]; simp only [Bd, lift1, and_assoc]
theorem OpG_fieldAddr (s : TypeId) (x : Operand) (f : Nat) : OpG P nt ct ops l n gm fs Q tm st dst (.fieldAddr s x f) = SqG P nt ct ops l n gm fs Q tm st dst (lift1 (faddrV (flds P s)[f]?) (opv tm x)) := OpG_quiet _ _ _ _ _ _ _ _ _ _ _ _ rfl fun K => by
  rw [eff_fieldAddr]; simp only [Bd, lift1, and_assoc]
theorem OpG_field (s : TypeId) (x : Operand) (f : Nat) : OpG P nt ct ops l n gm fs Q tm st dst (.field s x f) = SqG P nt ct ops l n gm fs Q tm st dst (lift1 (fieldV (flds P s)[f]?) (opv tm x)) := OpG_quiet _ _ _ _ _ _ _ _ _ _ _ _ rfl fun K => by
  rw [eff_field]; simp only [Bd, lift1, and_assoc]
theorem OpG_extract (x : Operand) (i : Nat) : OpG P nt ct ops l n gm fs Q tm st dst (.extract x i) = SqG P nt ct ops l n gm fs Q tm st dst (lift1 (extV' i) (opv tm x)) := OpG_quiet _ _ _ _ _ _ _ _ _ _ _ _ rfl fun K => by
  rw [eff_extract]; simp only [Bd, lift1, extV', and_assoc]
theorem OpG_indexAddr (t : TypeId) (x i : Operand) : OpG P nt ct ops l n gm fs Q tm st dst (.indexAddr t x i) = SqG P nt ct ops l n gm fs Q tm st dst (lift2 (idxV (elT P t)) (opv tm x) (opv tm i)) := OpG_quiet _ _ _ _ _ _ _ _ _ _ _ _ rfl fun K => by
  rw [eff_indexAddr]; simp only [Bd, lift2, and_assoc]
theorem OpG_index (t : TypeId) (x i : Operand) : OpG P nt ct ops l n gm fs Q tm st dst (.index t x i) = SqG P nt ct ops l n gm fs Q tm st dst (lift2 (sidxV P t) (opv tm x) (opv tm i)) := OpG_quiet _ _ _ _ _ _ _ _ _ _ _ _ rfl fun K => by
  rw [eff_index]; simp only [Bd, lift2, and_assoc]
theorem OpG_len (x : Operand) (t : TypeId) : OpG P nt ct ops l n gm fs Q tm st dst (.call ⟨.builtin .len, #[x], #[t]⟩) = SqG P nt ct ops l n gm fs Q tm st dst (lift1 (lenV P t) (opv tm x)) := OpG_quiet _ _ _ _ _ _ _ _ _ _ _ _ rfl fun K => by
  rw [eff_len]; simp only [Bd, lift1, and_assoc]
theorem OpG_makeFunc (f : Fn) (x y : Array Operand) : OpG P nt ct ops l n gm fs Q tm st dst (.makeFunc f x y) = SqG P nt ct ops l n gm fs Q tm st dst (fnE f (opvs tm x.toList) (opvs tm y.toList)) := OpG_quiet _ _ _ _ _ _ _ _ _ _ _ _ rfl fun K => by
  rw [eff_makeFunc]; simp only [BdL_opvs, fnE, and_assoc]
theorem OpG_makeInterface (t : TypeId) (x : Operand) : OpG P nt ct ops l n gm fs Q tm st dst (.makeInterface t x) = SqG P nt ct ops l n gm fs Q tm st dst (lift1 (ifcV P t) (opv tm x)) := OpG_quiet _ _ _ _ _ _ _ _ _ _ _ _ rfl fun K => by
  rw [eff_makeInterface]; simp only [Bd, lift1, ifcV, and_assoc]
theorem OpG_store (t : TypeId) (x y : Operand) : OpG P nt ct ops l n gm fs Q tm st dst (.store t x y) = EfG P nt ct ops l n gm fs Q tm st dst (storeE (tsz P t) st (opv tm x) (opv tm y)) := OpG_eff _ _ _ _ _ _ _ _ _ _ _ _ rfl fun K => by
  rw [eff_store]; simp only [Bd, BdS, storeE, and_assoc]
theorem OpG_alloc (t : TypeId) : OpG P nt ct ops l n gm fs Q tm st dst (.alloc t) = EfG P nt ct ops l n gm fs Q tm st dst ((allocV (zeroC P t) t st).ev (.ptr st.n 0)) := OpG_eff _ _ _ _ _ _ _ _ _ _ _ _ rfl fun K => by
  rw [eff_alloc]; simp [Bd, BdS, PS.ev]
theorem OpG_box (t : TypeId) (x : Operand) : OpG P nt ct ops l n gm fs Q tm st dst (.box t x) = EfG P nt ct ops l n gm fs Q tm st dst (boxE t st (opv tm x)) := OpG_eff _ _ _ _ _ _ _ _ _ _ _ _ rfl fun K => by
  rw [eff_box]; simp [Bd, BdS, boxE, and_assoc]
theorem OpG_build (t : TypeId) (ps : Array (Nat × Operand)) : OpG P nt ct ops l n gm fs Q tm st dst (.build t ps) = OpG P nt ct ops l n gm fs Q tm st dst (.build t ps) := rfl
theorem SqG_t (d : Nat) (v : AV) : SqG P nt ct ops l n gm fs Q tm st (some d) ⟨True, v⟩ = (decide (d < nt) = true ∧ LsG P nt ct ops l (n + 1) gm fs Q (upd tm d v) st) := by simp [SqG, dstOk, put]
theorem EfG_t (d : Nat) (v : AV) (st' : St) : EfG P nt ct ops l n gm fs Q tm st (some d) ⟨True, v, st'⟩ = (decide (d < nt) = true ∧ aftL n gm.crit st st' gm.lds ∧ LsG P nt ct ops l (n + 1) { gm with hist := (n, st) :: gm.hist } fs Q (upd tm d v) st') := by simp [EfG, dstOk, put]
theorem EfG_n (v : AV) (st' : St) : EfG P nt ct ops l n gm fs Q tm st none ⟨True, v, st'⟩ = (aftL n gm.crit st st' gm.lds ∧ LsG P nt ct ops l (n + 1) { gm with hist := (n, st) :: gm.hist } fs Q tm st') := by simp [EfG, dstOk, put]
theorem LdG_t (op : Op) (d : Nat) (v : AV) : LdG P nt ct ops l n gm fs Q tm st (some d) op ⟨True, v⟩ = (decide (d < nt) = true ∧ preL P n op tm (kv P tm st op) gm.crit gm.hist ∧ LsG P nt ct ops l (n + 1) { gm with lds := (n, fun s => kv P tm s op) :: gm.lds } fs Q (upd tm d v) st) := by simp [LdG, dstOk, put]
theorem aftL_nil (crit : List (Nat × Nat)) (st st' : St) : aftL n crit st st' [] = True := rfl
theorem aftL_cons (crit : List (Nat × Nat)) (st st' : St) (k : Nat) (f : St → PV) (l : List (Nat × (St → PV))) : aftL n crit st st' ((k, f) :: l) = ((crit.contains (k, n) = true → f st' = f st) ∧ aftL n crit st st' l) := rfl
theorem preL_nil (op : Op) (v : PV) (crit : List (Nat × Nat)) : preL P n op tm v crit [] = True := rfl
theorem preL_cons (op : Op) (v : PV) (crit : List (Nat × Nat)) (k : Nat) (s : St) (l : List (Nat × St)) : preL P n op tm v crit ((k, s) :: l) = ((crit.contains (k, n) = true → kv P tm s op = v) ∧ preL P n op tm v crit l) := rfl
theorem lookup_hit (i : Nat) (c : List (Nat × Nat)) (t : Ctb) : List.lookup i ((i, c) :: t) = some c := by simp
theorem lookup_miss (i j : Nat) (c : List (Nat × Nat)) (t : Ctb) (h : (i == j) = false) : List.lookup i ((j, c) :: t) = List.lookup i t := by simp [List.lookup, h]
/-- A call. -/
def ClG (op : Op) (f : PV) (as : LV) : Prop := f.ok ∧ as.ok ∧ OpG P nt ct ops l n gm fs Q tm st dst op
end
theorem ClG_ct {P : Program} {nt : Nat} {ct : Ctb} {ops l : List Oper} {n : Nat} {gm : Gm} {fs : List Fr} {Q : Exit → Tm → St → Prop} {tm : Tm} {st st' : St} {d : Nat} {f : Operand} {args : Array Operand} {tys : Array TypeId} {k : FuncId} {as : List AV} {v : AV}
    (hf : opv tm f = ⟨True, .fn (.func k) [] []⟩) (ha : opvs tm args.toList = ⟨True, as⟩) (h : Ct P k as st fun r s => r = v ∧ s = st') (hd : decide (d < nt) = true) (hl : aftL n gm.crit st st' gm.lds)
    (hk : LsG P nt ct ops l (n + 1) { gm with hist := (n, st) :: gm.hist } fs Q (upd tm d v) st') : OpG P nt ct ops l n gm fs Q tm st (some d) (.call ⟨.value f, args, tys⟩) := by
  refine ⟨v, st', fun J hJ => ⟨hd, ?_⟩, (fun h => by cases h), fun _ => (aftL_iff _ _ _ _ _).1 hl, hk⟩
  rw [eff_callV, hf]
  simp only [Bd, true_and]
  rw [BdL_opvs, ha]
  refine ⟨trivial, ?_⟩
  rw [callA_fn]
  exact h.mono fun r s ⟨h1, h2⟩ => by subst h1; subst h2; exact hJ
end Go.AW
