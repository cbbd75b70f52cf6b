/- Rows whose reads are looked at: guards, calls, appends, literals; values under a guard. -/
import Derived.Test.YtibiooglhpjojaaGreatDoorA20
set_option linter.unusedSimpArgs false
set_option linter.unusedVariables false
namespace Go.AW
open Go.RowKit

/-- What a row's operations have done, behind one that is passed over. -/
def Gm.skip (P : Program) (gm : Gm) (n : Nat) (op : Op) (tm : Tm) (st : St) : Gm :=
  if keeps op = true then (if isLoad op = true then { gm with lds := (n, fun s => kv P tm s op) :: gm.lds } else gm) else { gm with hist := (n, st) :: gm.hist }
section
variable (P : Program) (nt : Nat) (ct : Ctb) (ops l : List Oper) (n : Nat) (gm : Gm) (fs : List Fr) (Q : Exit → Tm → St → Prop) (tm : Tm) (st : St) (dst : Option Nat)
/-- An operation that is passed over. -/
def SkG (op : Op) : Prop := dstOk nt dst = true ∧ (isLoad op = true → preL P n op tm (kv P tm st op) gm.crit gm.hist) ∧ LsG P nt ct ops l (n + 1) (gm.skip P n op tm st) fs Q (put tm dst undefAV) st
def GtG (op : Op) (want : Bool) (gv : Option AV) : Prop := match gv with
  | some v => gst v want (OpG P nt ct ops l n gm fs Q tm st dst op) (SkG P nt ct ops l n gm fs Q tm st dst op)
  | none => False
theorem LsG_gd (op : Op) (ty : TypeId) (pos : String) (af : Array Edge) (j : Nat) (want : Bool) : LsG P nt ct ops (⟨dst, op, ty, pos, af, some (j, want)⟩ :: l) n gm fs Q tm st = GtG P nt ct ops l n gm fs Q tm st dst op want (tmAt tm (dstAt ops j)) := by
  simp only [LsG, items, wpG, Det, F, gdec, dstAt_eq, GtG]
  generalize (ops[j]?).bind (·.dst) = d
  have hsk : ∀ (x : Option Bool), x = some false → ((∃ v st', (∀ J : AV → St → Prop, J v st' → ∃ b, x = some b ∧ dstOk nt dst = true ∧ (b = true → eff P tm st J op) ∧ (b = false → J undefAV st)) ∧ PreC P gm n ⟨dst, op, ty, pos, af, some (j, want)⟩ tm st ∧ AftC gm n ⟨dst, op, ty, pos, af, some (j, want)⟩ st st' ∧
      wpG P nt ops (gm.next P n ⟨dst, op, ty, pos, af, some (j, want)⟩ tm st) (items (n + 1) l) (put tm dst v) st' (Un P nt ct Q fs .normal)) ↔ SkG P nt ct ops l n gm fs Q tm st dst op) := by
    rintro x rfl
    simp only [SkG, preL_iff, LsG, Gm.next, Gm.skip, PreC, AftC]
    constructor
    · rintro ⟨v, st', h1, h2, h3, h4⟩
      obtain ⟨b, hb, h5, -, h6⟩ := h1 (fun u s => u = v ∧ s = st') ⟨rfl, rfl⟩
      cases hb
      obtain ⟨rfl, rfl⟩ := h6 rfl
      exact ⟨h5, h2, h4⟩
    · rintro ⟨h1, h2, h3⟩
      exact ⟨undefAV, st, fun J hJ => ⟨false, rfl, h1, (fun h => by cases h), fun _ => hJ⟩, h2, fun _ _ _ _ => rfl, h3⟩
  have hop : ∀ (x : Option Bool), x = some true → ((∃ v st', (∀ J : AV → St → Prop, J v st' → ∃ b, x = some b ∧ dstOk nt dst = true ∧ (b = true → eff P tm st J op) ∧ (b = false → J undefAV st)) ∧ PreC P gm n ⟨dst, op, ty, pos, af, some (j, want)⟩ tm st ∧ AftC gm n ⟨dst, op, ty, pos, af, some (j, want)⟩ st st' ∧
      wpG P nt ops (gm.next P n ⟨dst, op, ty, pos, af, some (j, want)⟩ tm st) (items (n + 1) l) (put tm dst v) st' (Un P nt ct Q fs .normal)) ↔ OpG P nt ct ops l n gm fs Q tm st dst op) := by
    rintro x rfl
    simp only [OpG, LsG, Gm.next, PreC, AftC]
    constructor
    · rintro ⟨v, st', h1, h2, h3, h4⟩
      exact ⟨v, st', fun J hJ => by obtain ⟨b, hb, h5, h6, -⟩ := h1 J hJ; cases hb; exact ⟨h5, h6 rfl⟩, h2, h3, h4⟩
    · rintro ⟨v, st', h1, h2, h3, h4⟩
      exact ⟨v, st', fun J hJ => ⟨true, rfl, (h1 J hJ).1, fun _ => (h1 J hJ).2, (fun h => by cases h)⟩, h2, h3, h4⟩
  have hno : ∀ (x : Option Bool), x = none → ¬ (∃ v st', (∀ J : AV → St → Prop, J v st' → ∃ b, x = some b ∧ dstOk nt dst = true ∧ (b = true → eff P tm st J op) ∧ (b = false → J undefAV st)) ∧ PreC P gm n ⟨dst, op, ty, pos, af, some (j, want)⟩ tm st ∧ AftC gm n ⟨dst, op, ty, pos, af, some (j, want)⟩ st st' ∧
      wpG P nt ops (gm.next P n ⟨dst, op, ty, pos, af, some (j, want)⟩ tm st) (items (n + 1) l) (put tm dst v) st' (Un P nt ct Q fs .normal)) := by
    rintro x rfl ⟨v, st', h1, -⟩
    obtain ⟨b, hb, -⟩ := h1 (fun u s => u = v ∧ s = st') ⟨rfl, rfl⟩
    cases hb
  rw [eq_iff_iff]
  cases d with
  | none => simp only [tmAt, iff_false]; exact hno _ rfl
  | some d =>
    simp only [tmAt]
    generalize hv : tm d = v
    cases v with
    | d x =>
      cases x with
      | lit u =>
        cases u with
        | bool b =>
          simp only [gst_b, Br]
          cases hb : (b == want) with
          | true => simp only [hb]; rw [hop _ rfl]; simp
          | false => simp only [hb]; rw [hsk _ rfl]; simp
        | tuple vs => simp only [gst]; exact hsk _ rfl
        | _ => simp only [gst, iff_false]; exact hno _ rfl
      | sl s xs => simp only [gst, iff_false]; exact hno _ rfl
    | _ => simp only [gst, iff_false]; exact hno _ rfl
theorem GtG_tt (op : Op) : GtG P nt ct ops l n gm fs Q tm st dst op true (some (.d (.lit (.bool true)))) = OpG P nt ct ops l n gm fs Q tm st dst op := by simp [GtG, gst, Br]
theorem GtG_ff (op : Op) : GtG P nt ct ops l n gm fs Q tm st dst op false (some (.d (.lit (.bool false)))) = OpG P nt ct ops l n gm fs Q tm st dst op := by simp [GtG, gst, Br]
theorem GtG_tf (op : Op) : GtG P nt ct ops l n gm fs Q tm st dst op true (some (.d (.lit (.bool false)))) = SkG P nt ct ops l n gm fs Q tm st dst op := by simp [GtG, gst, Br]
theorem GtG_ft (op : Op) : GtG P nt ct ops l n gm fs Q tm st dst op false (some (.d (.lit (.bool true)))) = SkG P nt ct ops l n gm fs Q tm st dst op := by simp [GtG, gst, Br]
theorem GtG_u (op : Op) (want : Bool) : GtG P nt ct ops l n gm fs Q tm st dst op want (some undefAV) = SkG P nt ct ops l n gm fs Q tm st dst op := by simp [GtG, gst_u]
theorem SkG_load (t : TypeId) (x : Operand) (d : Nat) : SkG P nt ct ops l n gm fs Q tm st (some d) (.load t x) = (decide (d < nt) = true ∧ preL P n (.load t x) tm (kv P tm st (.load t x)) gm.crit gm.hist ∧ LsG P nt ct ops l (n + 1) { gm with lds := (n, fun s => kv P tm s (.load t x)) :: gm.lds } fs Q (upd tm d undefAV) st) := by
  simp [SkG, isLoad, Gm.skip, keeps, dstOk, put]
theorem SkG_quiet (op : Op) (hq : quiet op = true) (d : Nat) : SkG P nt ct ops l n gm fs Q tm st (some d) op = (decide (d < nt) = true ∧ LsG P nt ct ops l (n + 1) gm fs Q (upd tm d undefAV) st) := by
  simp [SkG, quiet_load hq, Gm.skip, keeps, hq, dstOk, put]
theorem SkG_eff (op : Op) (hk : keeps op = false) (d : Nat) : SkG P nt ct ops l n gm fs Q tm st (some d) op = (decide (d < nt) = true ∧ LsG P nt ct ops l (n + 1) { gm with hist := (n, st) :: gm.hist } fs Q (upd tm d undefAV) st) := by
  have hl : isLoad op = false := by
    cases h' : isLoad op with
    | false => rfl
    | true => simp [keeps, h'] at hk
  simp [SkG, hl, Gm.skip, hk, dstOk, put]
theorem SkG_move (x : Operand) (d : Nat) : SkG P nt ct ops l n gm fs Q tm st (some d) (.move x) = (decide (d < nt) = true ∧ LsG P nt ct ops l (n + 1) gm fs Q (upd tm d undefAV) st) := SkG_quiet _ _ _ _ _ _ _ _ _ _ _ _ rfl _
theorem SkG_assign (x : Operand) (d : Nat) : SkG P nt ct ops l n gm fs Q tm st (some d) (.assign x) = (decide (d < nt) = true ∧ LsG P nt ct ops l (n + 1) gm fs Q (upd tm d undefAV) st) := SkG_quiet _ _ _ _ _ _ _ _ _ _ _ _ rfl _
theorem SkG_pick (c x y : Operand) (d : Nat) : SkG P nt ct ops l n gm fs Q tm st (some d) (.pick c x y) = (decide (d < nt) = true ∧ LsG P nt ct ops l (n + 1) gm fs Q (upd tm d undefAV) st) := SkG_quiet _ _ _ _ _ _ _ _ _ _ _ _ rfl _
theorem SkG_nilCheck (x : Operand) (d : Nat) : SkG P nt ct ops l n gm fs Q tm st (some d) (.nilCheck x) = (decide (d < nt) = true ∧ LsG P nt ct ops l (n + 1) gm fs Q (upd tm d undefAV) st) := SkG_quiet _ _ _ _ _ _ _ _ _ _ _ _ rfl _
theorem SkG_binOp (op : BinOp) (t : TypeId) (x y : Operand) (ty : TypeId) (d : Nat) : SkG P nt ct ops l n gm fs Q tm st (some d) (.binOp op t x y ty) = (decide (d < nt) = true ∧ LsG P nt ct ops l (n + 1) gm fs Q (upd tm d undefAV) st) := SkG_quiet _ _ _ _ _ _ _ _ _ _ _ _ rfl _
theorem SkG_unOp (op : UnOp) (t : TypeId) (x : Operand) (d : Nat) : SkG P nt ct ops l n gm fs Q tm st (some d) (.unOp op t x) = (decide (d < nt) = true ∧ LsG P nt ct ops l (n + 1) gm fs Q (upd tm d undefAV) st) := SkG_quiet _ _ _ _ _ _ _ _ _ _ _ _ rfl _
theorem SkG_fieldAddr (s : TypeId) (x : Operand) (f : Nat) (d : Nat) : SkG P nt ct ops l n gm fs Q tm st (some d) (.fieldAddr s x f) = (decide (d < nt) = true ∧ LsG P nt ct ops l (n + 1) gm fs Q (upd tm d undefAV) st) := SkG_quiet _ _ _ _ _ _ _ _ _ _ _ _ rfl _
theorem SkG_field (s : TypeId) (x : Operand) (f : Nat) (d : Nat) : SkG P nt ct ops l n gm fs Q tm st (some d) (.field s x f) = (decide (d < nt) = true ∧ LsG P nt ct ops l (n + 1) gm fs Q (upd tm d undefAV) st) := SkG_quiet _ _ _ _ _ _ _ _ _ _ _ _ rfl _
theorem SkG_indexAddr (t : TypeId) (x i : Operand) (d : Nat) : SkG P nt ct ops l n gm fs Q tm st (some d) (.indexAddr t x i) = (decide (d < nt) = true ∧ LsG P nt ct ops l (n + 1) gm fs Q (upd tm d undefAV) st) := SkG_quiet _ _ _ _ _ _ _ _ _ _ _ _ rfl _
theorem SkG_index (t : TypeId) (x i : Operand) (d : Nat) : SkG P nt ct ops l n gm fs Q tm st (some d) (.index t x i) = (decide (d < nt) = true ∧ LsG P nt ct ops l (n + 1) gm fs Q (upd tm d undefAV) st) := SkG_quiet _ _ _ _ _ _ _ _ _ _ _ _ rfl _
theorem SkG_extract (x : Operand) (i : Nat) (d : Nat) : SkG P nt ct ops l n gm fs Q tm st (some d) (.extract x i) = (decide (d < nt) = true ∧ LsG P nt ct ops l (n + 1) gm fs Q (upd tm d undefAV) st) := SkG_quiet _ _ _ _ _ _ _ _ _ _ _ _ rfl _
theorem SkG_makeFunc (f : Fn) (x y : Array Operand) (d : Nat) : SkG P nt ct ops l n gm fs Q tm st (some d) (.makeFunc f x y) = (decide (d < nt) = true ∧ LsG P nt ct ops l (n + 1) gm fs Q (upd tm d undefAV) st) := SkG_quiet _ _ _ _ _ _ _ _ _ _ _ _ rfl _
theorem SkG_makeInterface (t : TypeId) (x : Operand) (d : Nat) : SkG P nt ct ops l n gm fs Q tm st (some d) (.makeInterface t x) = (decide (d < nt) = true ∧ LsG P nt ct ops l (n + 1) gm fs Q (upd tm d undefAV) st) := SkG_quiet _ _ _ _ _ _ _ _ _ _ _ _ rfl _
theorem SkG_build (t : TypeId) (ps : Array (Nat × Operand)) (d : Nat) : SkG P nt ct ops l n gm fs Q tm st (some d) (.build t ps) = (decide (d < nt) = true ∧ LsG P nt ct ops l (n + 1) gm fs Q (upd tm d undefAV) st) := SkG_quiet _ _ _ _ _ _ _ _ _ _ _ _ rfl _
theorem SkG_len (x : Operand) (t : TypeId) (d : Nat) : SkG P nt ct ops l n gm fs Q tm st (some d) (.call ⟨.builtin .len, #[x], #[t]⟩) = (decide (d < nt) = true ∧ LsG P nt ct ops l (n + 1) gm fs Q (upd tm d undefAV) st) := SkG_quiet _ _ _ _ _ _ _ _ _ _ _ _ rfl _
theorem SkG_callV (f : Operand) (args : Array Operand) (tys : Array TypeId) (d : Nat) : SkG P nt ct ops l n gm fs Q tm st (some d) (.call ⟨.value f, args, tys⟩) = (decide (d < nt) = true ∧ LsG P nt ct ops l (n + 1) { gm with hist := (n, st) :: gm.hist } fs Q (upd tm d undefAV) st) := SkG_eff _ _ _ _ _ _ _ _ _ _ _ _ rfl _
theorem SkG_append (args : Array Operand) (tys : Array TypeId) (d : Nat) : SkG P nt ct ops l n gm fs Q tm st (some d) (.call ⟨.builtin .append, args, tys⟩) = (decide (d < nt) = true ∧ LsG P nt ct ops l (n + 1) { gm with hist := (n, st) :: gm.hist } fs Q (upd tm d undefAV) st) := SkG_eff _ _ _ _ _ _ _ _ _ _ _ _ rfl _
theorem SkG_alloc (t : TypeId) (d : Nat) : SkG P nt ct ops l n gm fs Q tm st (some d) (.alloc t) = (decide (d < nt) = true ∧ LsG P nt ct ops l (n + 1) { gm with hist := (n, st) :: gm.hist } fs Q (upd tm d undefAV) st) := SkG_eff _ _ _ _ _ _ _ _ _ _ _ _ rfl _
theorem SkG_box (t : TypeId) (x : Operand) (d : Nat) : SkG P nt ct ops l n gm fs Q tm st (some d) (.box t x) = (decide (d < nt) = true ∧ LsG P nt ct ops l (n + 1) { gm with hist := (n, st) :: gm.hist } fs Q (upd tm d undefAV) st) := SkG_eff _ _ _ _ _ _ _ _ _ _ _ _ rfl _
theorem SkG_buildSlice (t : TypeId) (len : Nat) (ps : Array (Nat × Operand)) (d : Nat) : SkG P nt ct ops l n gm fs Q tm st (some d) (.buildSlice t len ps) = (decide (d < nt) = true ∧ LsG P nt ct ops l (n + 1) { gm with hist := (n, st) :: gm.hist } fs Q (upd tm d undefAV) st) := SkG_eff _ _ _ _ _ _ _ _ _ _ _ _ rfl _
/-- A call. -/
def CaG (f : PV) (as : LV) : Prop := f.ok ∧ as.ok ∧ dstOk nt dst = true ∧ ∃ v st', (∀ J : AV → St → Prop, J v st' → callA P f.v as.vs st J) ∧ aftL n gm.crit st st' gm.lds ∧ LsG P nt ct ops l (n + 1) { gm with hist := (n, st) :: gm.hist } fs Q (put tm dst v) st'
theorem OpG_callV (f : Operand) (args : Array Operand) (tys : Array TypeId) : OpG P nt ct ops l n gm fs Q tm st dst (.call ⟨.value f, args, tys⟩) = CaG P nt ct ops l n gm fs Q tm st dst (opv tm f) (opvs tm args.toList) := by
  have hk : keeps (.call ⟨.value f, args, tys⟩) = false := rfl
  have hl : isLoad (.call ⟨.value f, args, tys⟩) = false := rfl
  simp only [OpG, CaG, eff_callV, Bd, BdL_opvs, hk, hl, eq_iff_iff, aftL_iff, List.contains_iff_mem]
  constructor
  · rintro ⟨v, st', h1, -, h3, h4⟩
    obtain ⟨h5, h6, h7, -⟩ := h1 (fun u s => u = v ∧ s = st') ⟨rfl, rfl⟩
    exact ⟨h6, h7, h5, v, st', fun J hJ => (h1 J hJ).2.2.2, h3 trivial, by simpa using h4⟩
  · rintro ⟨h1, h2, h3, v, st', h4, h5, h6⟩
    exact ⟨v, st', fun J hJ => ⟨h3, h1, h2, h4 J hJ⟩, fun h => by simp at h, fun _ => h5, by simpa using h6⟩
/-- A slice's literal. -/
def BsG (t : TypeId) (len : Nat) (ps : List (Nat × Operand)) (vs : LV) : Prop := dstOk nt dst = true ∧ vs.ok ∧ ∃ v st', (∀ J : AV → St → Prop, J v st' → buildSliceA P t len (zipF ps vs.vs) st J) ∧ aftL n gm.crit st st' gm.lds ∧ LsG P nt ct ops l (n + 1) { gm with hist := (n, st) :: gm.hist } fs Q (put tm dst v) st'
theorem OpG_buildSlice (t : TypeId) (len : Nat) (ps : Array (Nat × Operand)) : OpG P nt ct ops l n gm fs Q tm st dst (.buildSlice t len ps) = BsG P nt ct ops l n gm fs Q tm st dst t len ps.toList (opvs tm (snds ps.toList)) := by
  have hk : keeps (.buildSlice t len ps) = false := rfl
  have hl : isLoad (.buildSlice t len ps) = false := rfl
  simp only [OpG, BsG, eff_buildSlice, BdL_opvs, hk, hl, eq_iff_iff, aftL_iff, List.contains_iff_mem, ← snds_eq, ← zipF_eq]
  constructor
  · rintro ⟨v, st', h1, -, h3, h4⟩
    obtain ⟨h5, h6, -⟩ := h1 (fun u s => u = v ∧ s = st') ⟨rfl, rfl⟩
    exact ⟨h5, h6, v, st', fun J hJ => (h1 J hJ).2.2, h3 trivial, by simpa using h4⟩
  · rintro ⟨h1, h2, v, st', h4, h5, h6⟩
    exact ⟨v, st', fun J hJ => ⟨h1, h2, h4 J hJ⟩, fun h => by simp at h, fun _ => h5, by simpa using h6⟩
theorem OpG_buildR (t : TypeId) (ps : Array (Nat × Operand)) : OpG P nt ct ops l n gm fs Q tm st dst (.build t ps) = SqG P nt ct ops l n gm fs Q tm st dst (buildE P t ps.toList (opvs tm (snds ps.toList))) := OpG_quiet _ _ _ _ _ _ _ _ _ _ _ _ rfl fun K => by
  rw [eff_build, BdL_opvs, buildR_iff, ← zipF_eq, snds_eq]; simp only [Bd, buildE, and_assoc]
end
theorem CaG_ct {P : Program} {nt : Nat} {ct : Ctb} {ops l : List Oper} {n : Nat} {gm : Gm} {fs : List Fr} {Q : Exit → Tm → St → Prop} {tm : Tm} {st st' : St} {d : Nat} {k : FuncId} {as : List AV} {v : AV}
    (h : Ct P k as st fun r s => r = v ∧ s = st') (hd : decide (d < nt) = true) (hl : aftL n gm.crit st st' gm.lds)
    (hk : LsG P nt ct ops l (n + 1) { gm with hist := (n, st) :: gm.hist } fs Q (upd tm d v) st') : CaG P nt ct ops l n gm fs Q tm st (some d) ⟨True, .fn (.func k) [] []⟩ ⟨True, as⟩ := by
  refine ⟨trivial, trivial, hd, v, st', fun J hJ => ?_, hl, hk⟩
  rw [callA_fn]
  exact h.mono fun r s ⟨h1, h2⟩ => by subst h1; subst h2; exact hJ
theorem aftL_refl (n : Nat) (crit : List (Nat × Nat)) (st : St) : ∀ l, aftL n crit st st l
  | [] => trivial
  | _ :: l => ⟨fun _ => rfl, aftL_refl n crit st l⟩
theorem CaG_p {P : Program} {nt : Nat} {ct : Ctb} {ops l : List Oper} {n : Nat} {gm : Gm} {fs : List Fr} {Q : Exit → Tm → St → Prop} {tm : Tm} {st : St} {d : Nat} {k : FuncId} {as : List AV} {v : AV}
    (h : Ct P k as st fun r s => r = v ∧ s = st) (hd : decide (d < nt) = true)
    (hk : LsG P nt ct ops l (n + 1) { gm with hist := (n, st) :: gm.hist } fs Q (upd tm d v) st) : CaG P nt ct ops l n gm fs Q tm st (some d) ⟨True, .fn (.func k) [] []⟩ ⟨True, as⟩ := CaG_ct h hd (aftL_refl _ _ _ _) hk
theorem BsG_d {P : Program} {nt : Nat} {ct : Ctb} {ops l : List Oper} {n : Nat} {gm : Gm} {fs : List Fr} {Q : Exit → Tm → St → Prop} {tm : Tm} {d : Nat} {t : TypeId} {len : Nat} {ps : List (Nat × Operand)} {st : St} {e : TypeId} {m by_ : Nat} {vs : List AV} {xs : List (List DV)} (he : elT P t = some (e, m, by_))
    (hx : toDss (vs.map cellsL) = some xs) (hz : (zeroC P e).map (·.length) = some m) (hn : 0 < m) (hl : len * m ≤ 16777216) (hr : (zipF ps vs).map (·.1) = List.range' 0 len) (hvl : vs.length = len) (hpl : ps.length = len)
    (hc : (vs.all fun v => (cellsL v).length == m && (cellsL v).all cellish) = true) (hd : decide (d < nt) = true) (ha : aftL n gm.crit st (st.own e) gm.lds) (hk : LsG P nt ct ops l (n + 1) { gm with hist := (n, st) :: gm.hist } fs Q (upd tm d (.own st.k m xs)) (st.own e)) :
    BsG P nt ct ops l n gm fs Q tm st (some d) t len ps ⟨True, vs⟩ := by
  obtain ⟨z1, z2, z3⟩ := zipF_all ps vs m (by rw [hpl, hvl])
  refine ⟨hd, trivial, _, _, fun J hJ => ?_, ha, hk⟩
  unfold buildSliceA
  simp only [he, z1, hx]
  exact ⟨hn, hl, hz, hr, by rw [z2, hvl], by rw [z3]; exact hc, hJ⟩
theorem GtG_intro {P : Program} {nt : Nat} {ct : Ctb} {ops l : List Oper} {n : Nat} {gm : Gm} {fs : List Fr} {Q : Exit → Tm → St → Prop} {tm : Tm} {st : St} {dst : Option Nat} {op : Op} {want b : Bool} (h1 : b = true → GtG P nt ct ops l n gm fs Q tm st dst op want (some (.d (.lit (.bool true))))) (h2 : b = false → GtG P nt ct ops l n gm fs Q tm st dst op want (some (.d (.lit (.bool false))))) : GtG P nt ct ops l n gm fs Q tm st dst op want (some (.d (.lit (.bool b)))) := by
  cases b with
  | true => exact h1 rfl
  | false => exact h2 rfl
end Go.AW
