/- A statement whose order Go leaves open: one look at the order of the text serves every order. -/
import Derived.Test.YtibiooglhpjojaaGreatDoorA12
set_option linter.unusedSimpArgs false
set_option linter.unusedVariables false
namespace Go.AW
open Go.RowKit

def quiet : Op → Bool
  | .move _ | .assign _ | .pick .. | .nilCheck _ | .binOp .. | .unOp .. | .fieldAddr .. | .field .. | .indexAddr .. | .index .. | .extract .. | .makeFunc .. | .makeInterface .. | .build .. => true
  | .call c => (match c.callee with | .builtin b => !isAppend b | _ => false)
  | _ => false
def isLoad : Op → Bool
  | .load .. => true
  | _ => false
def keeps (op : Op) : Bool := quiet op || isLoad op

/-- What an operation that keeps the state yields. -/
def kv (P : Program) (tm : Tm) (st : St) : Op → PV
  | .build t ps => ⟨(ps.toList.all fun p => opOk p.2) = true ∧ (buildA P t (partsA tm ps)).ok, (buildA P t (partsA tm ps)).v⟩
  | .load t x => (match opnd tm x with
    | .ptr id off => (match tsz P t with
      | some (n, a) => ⟨opOk x = true ∧ (sub (st.obj id).2 off n a).ok, (sub (st.obj id).2 off n a).v⟩
      | none => fails)
    | .pp cs => (match tsz P t with
      | some (n, a) => ⟨opOk x = true ∧ (sub cs 0 n a).ok, (sub cs 0 n a).v⟩
      | none => fails)
    | _ => fails)
  | op => ev P tm op

section
variable {P : Program}

theorem eff_kv {op : Op} (h : keeps op = true) (tm : Tm) (st : St) (K : AV → St → Prop) : eff P tm st K op ↔ (kv P tm st op).ok ∧ K (kv P tm st op).v st := by
  cases op with
  | load t x =>
    simp only [eff, kv]
    cases opnd tm x with
    | ptr id off =>
      cases tsz P t with
      | none => simp [fails]
      | some p => simp only [and_assoc]
    | pp cs =>
      cases tsz P t with
      | none => simp [fails]
      | some p => simp only [and_assoc]
    | _ => simp [fails]
  | build t ps =>
    simp only [eff, kv]
    exact ⟨fun h => ⟨⟨h.1, h.2.1⟩, h.2.2⟩, fun h => ⟨h.1.1, h.1.2, h.2⟩⟩
  | call c =>
    rcases c with ⟨callee, args, tys⟩
    cases callee with
    | value f => cases h
    | invoke r n => cases h
    | builtin b =>
      have hb : isAppend b = false := by simpa [keeps, quiet, isLoad] using h
      simp only [eff, hb, kv, ev]
  | _ => first | exact Iff.rfl | cases h

theorem kv_st {op : Op} (h : quiet op = true) (tm : Tm) (st st' : St) : kv P tm st op = kv P tm st' op := by
  cases op <;> first | rfl | cases h

theorem opnds_congr {tm tm' : Tm} {xs : Array Operand} (h : ∀ x ∈ xs.toList, opnd tm x = opnd tm' x) : argsA tm xs = argsA tm' xs := List.map_congr_left h
theorem parts_congr {tm tm' : Tm} {ps : Array (Nat × Operand)} (h : ∀ x ∈ ps.toList.map (·.2), opnd tm x = opnd tm' x) : partsA tm ps = partsA tm' ps :=
  List.map_congr_left fun p hp => by rw [h p.2 (List.mem_map.2 ⟨p, hp, rfl⟩)]
theorem evCall_congr {tm tm' : Tm} {c : Callee} {args : List Operand} {tys : List TypeId} (h : ∀ x ∈ args, opnd tm x = opnd tm' x) : evCall P tm c args tys = evCall P tm' c args tys := by
  unfold evCall
  split
  · rw [h _ (by simp)]
  · rfl
theorem ev_congr {tm tm' : Tm} {op : Op} (h : ∀ x ∈ op.operands.toList, opnd tm x = opnd tm' x) : ev P tm op = ev P tm' op := by
  cases op with
  | call c =>
    simp only [ev]
    refine evCall_congr fun x hx => h x ?_
    rcases c with ⟨callee, args, tys⟩
    simp only [Op.operands, Call.operands, Array.toList_append, List.mem_append]
    exact .inr hx
  | makeFunc f fs cs =>
    simp only [ev]
    rw [List.map_congr_left (fun x hx => h x (by simp only [Op.operands, Array.toList_append, List.mem_append]; exact .inl hx)), List.map_congr_left (l := cs.toList) (fun x hx => h x (by simp only [Op.operands, Array.toList_append, List.mem_append]; exact .inr hx))]
  | pick c x y => simp only [ev]; rw [h c (by simp [Op.operands]), h x (by simp [Op.operands]), h y (by simp [Op.operands])]
  | binOp o t x y t' => simp only [ev]; rw [h x (by simp [Op.operands]), h y (by simp [Op.operands])]
  | indexAddr t x y => simp only [ev]; rw [h x (by simp [Op.operands]), h y (by simp [Op.operands])]
  | index t x y => simp only [ev]; rw [h x (by simp [Op.operands]), h y (by simp [Op.operands])]
  | move x => simp only [ev]; rw [h x (by simp [Op.operands])]
  | assign x => simp only [ev]; rw [h x (by simp [Op.operands])]
  | nilCheck x => simp only [ev]; rw [h x (by simp [Op.operands])]
  | unOp o t x => simp only [ev]; rw [h x (by simp [Op.operands])]
  | fieldAddr s x f => simp only [ev]; rw [h x (by simp [Op.operands])]
  | field s x f => simp only [ev]; rw [h x (by simp [Op.operands])]
  | extract x i => simp only [ev]; rw [h x (by simp [Op.operands])]
  | makeInterface t x => simp only [ev]; rw [h x (by simp [Op.operands])]
  | load t x => simp only [ev]; rw [h x (by simp [Op.operands])]
  | _ => rfl
theorem eff_congr {tm tm' : Tm} {st : St} {K : AV → St → Prop} {op : Op} (h : ∀ x ∈ op.operands.toList, opnd tm x = opnd tm' x) : eff P tm st K op = eff P tm' st K op := by
  cases op with
  | load t x => simp only [eff]; rw [h x (by simp [Op.operands])]
  | store t x y => simp only [eff]; rw [h x (by simp [Op.operands]), h y (by simp [Op.operands])]
  | alloc t => rfl
  | box t x => simp only [eff]; rw [h x (by simp [Op.operands])]
  | build t ps =>
    simp only [eff]
    rw [parts_congr (fun x hx => h x (by simpa [Op.operands] using hx))]
  | buildSlice t len ps =>
    simp only [eff]
    rw [parts_congr (fun x hx => h x (by simpa [Op.operands] using hx))]
  | call c =>
    rcases c with ⟨callee, args, tys⟩
    have hargs : ∀ x ∈ args.toList, opnd tm x = opnd tm' x := fun x hx => h x (by simp only [Op.operands, Call.operands, Array.toList_append, List.mem_append]; exact .inr hx)
    cases callee with
    | value f => simp only [eff]; rw [opnds_congr hargs, h f (by simp [Op.operands, Call.operands])]
    | invoke r n => simp only [eff]; rw [opnds_congr hargs, h r (by simp [Op.operands, Call.operands])]
    | builtin b =>
      simp only [eff]
      rw [evCall_congr hargs]
      split
      · rename_i s x t t' hb ha ht
        rw [hargs s (by rw [ha]; simp), hargs x (by rw [ha]; simp)]
      · rfl
  | _ =>
    simp only [eff]
    rw [ev_congr h]
theorem kv_congr {tm tm' : Tm} {st : St} {op : Op} (h : ∀ x ∈ op.operands.toList, opnd tm x = opnd tm' x) : kv P tm st op = kv P tm' st op := by
  cases op with
  | load t x => simp only [kv]; rw [h x (by simp [Op.operands])]
  | build t ps =>
    simp only [kv]
    rw [parts_congr (fun x hx => h x (by simpa [Op.operands] using hx))]
  | _ => exact ev_congr (P := P) h

theorem opnd_put {tm : Tm} {dst : Option Nat} {v : AV} {x : Operand} (h : ∀ d, dst = some d → x ≠ .tmp d) : opnd (put tm dst v) x = opnd tm x := by
  cases dst with
  | none => rfl
  | some d =>
    cases x with
    | tmp t =>
      simp only [opnd, put, upd]
      rw [if_neg (fun e => h d rfl (by rw [e]))]
    | _ => rfl
theorem put_comm (tm : Tm) {x y : Option Nat} (v u : AV) (h : ∀ d, x = some d → y ≠ some d) : put (put tm x v) y u = put (put tm y u) x v := by
  cases x with
  | none => rfl
  | some d =>
    cases y with
    | none => rfl
    | some e =>
      have hne : e ≠ d := fun he => h d rfl (by rw [he])
      funext i
      simp only [put, upd]
      by_cases h1 : i = e
      · by_cases h2 : i = d
        · exact absurd (h1.symm.trans h2) hne
        · rw [if_pos h1, if_neg h2, if_pos h1]
      · by_cases h2 : i = d
        · rw [if_neg h1, if_pos h2, if_pos h2]
        · rw [if_neg h1, if_neg h2, if_neg h2, if_neg h1]

/-- One operation, guard and all: what it yields, and the state behind it. -/
def F (P : Program) (nt : Nat) (ops : List Oper) (o : Oper) (tm : Tm) (st : St) (J : AV → St → Prop) : Prop :=
  ∃ b, gdec ops tm o.guard = some b ∧ dstOk nt o.dst = true ∧ (b = true → eff P tm st J o.op) ∧ (b = false → J undefAV st)
theorem wpAt_F {nt : Nat} {ops : List Oper} {o : Oper} {tm : Tm} {st : St} {K : Tm → St → Prop} : wpAt P nt ops o tm st K ↔ F P nt ops o tm st (fun v st' => K (put tm o.dst v) st') := by
  unfold wpAt F
  cases h : gdec ops tm o.guard with
  | none => simp
  | some b => cases b <;> simp [Br, wpO]
theorem F.mono {nt : Nat} {ops : List Oper} {o : Oper} {tm : Tm} {st : St} {J J' : AV → St → Prop} (h : F P nt ops o tm st J) (hj : ∀ v st', J v st' → J' v st') : F P nt ops o tm st J' := by
  obtain ⟨b, h1, h2, h3, h4⟩ := h
  exact ⟨b, h1, h2, fun e => eff_mono (h3 e) hj, fun e => hj _ _ (h4 e)⟩
/-- Its answer hangs on what it looks at. -/
def Alike (ops : Array Oper) (o : Oper) (tm tm' : Tm) : Prop := (∀ x ∈ o.op.operands.toList, opnd tm x = opnd tm' x) ∧ gdec ops.toList tm o.guard = gdec ops.toList tm' o.guard
theorem F.congr {nt : Nat} {ops : Array Oper} {o : Oper} {tm tm' : Tm} {st : St} {J : AV → St → Prop} (h : Alike ops o tm tm') : F P nt ops.toList o tm st J ↔ F P nt ops.toList o tm' st J := by
  unfold F
  rw [h.2, eff_congr h.1]
def okAt (P : Program) (nt : Nat) (ops : List Oper) (o : Oper) (tm : Tm) (st : St) : Prop := ∃ b, gdec ops tm o.guard = some b ∧ dstOk nt o.dst = true ∧ (b = true → (kv P tm st o.op).ok)
def valAt (P : Program) (ops : List Oper) (o : Oper) (tm : Tm) (st : St) : AV := if gdec ops tm o.guard = some true then (kv P tm st o.op).v else undefAV
theorem F_keep {nt : Nat} {ops : List Oper} {o : Oper} (hk : keeps o.op = true) {tm : Tm} {st : St} {J : AV → St → Prop} : F P nt ops o tm st J ↔ okAt P nt ops o tm st ∧ J (valAt P ops o tm st) st := by
  unfold F okAt valAt
  cases h : gdec ops tm o.guard with
  | none => simp
  | some b =>
    cases b
    · simp
    · simp [eff_kv hk]
      exact ⟨fun h => ⟨⟨h.1, h.2.1⟩, h.2.2⟩, fun h => ⟨h.1.1, h.1.2, h.2⟩⟩
theorem okAt_congr {nt : Nat} {ops : Array Oper} {o : Oper} {tm tm' : Tm} {st : St} (h : Alike ops o tm tm') : okAt P nt ops.toList o tm st = okAt P nt ops.toList o tm' st := by
  unfold okAt
  rw [h.2, kv_congr h.1]
theorem valAt_congr {ops : Array Oper} {o : Oper} {tm tm' : Tm} {st : St} (h : Alike ops o tm tm') : valAt P ops.toList o tm st = valAt P ops.toList o tm' st := by
  unfold valAt
  rw [h.2, kv_congr h.1]
theorem okAt_st {nt : Nat} {ops : List Oper} {o : Oper} (hq : quiet o.op = true) {tm : Tm} (st st' : St) : okAt P nt ops o tm st = okAt P nt ops o tm st' := by
  unfold okAt
  rw [kv_st hq tm st st']
theorem valAt_st {ops : List Oper} {o : Oper} (hq : quiet o.op = true) {tm : Tm} (st st' : St) : valAt P ops o tm st = valAt P ops o tm st' := by
  unfold valAt
  rw [kv_st hq tm st st']

theorem alike_put {ops : Array Oper} {o : Oper} {tm : Tm} {dst : Option Nat} {v : AV} (h : ∀ d, dst = some d → d ∉ o.looksAt ops) : Alike ops o (put tm dst v) tm := by
  refine ⟨fun x hx => opnd_put fun d hd e => h d hd ?_, ?_⟩
  · subst e
    simp only [Oper.looksAt, List.mem_append, List.mem_filterMap]
    exact .inl ⟨_, hx, rfl⟩
  · unfold gdec
    cases hg : o.guard with
    | none => rfl
    | some p =>
      obtain ⟨j, want⟩ := p
      simp only
      cases hd : (ops.toList[j]?).bind (·.dst) with
      | none => rfl
      | some d =>
        simp only
        have hne : put tm dst v d = tm d := by
          cases dst with
          | none => rfl
          | some d' =>
            have := h d' rfl
            simp only [put, upd]
            rw [if_neg]
            intro e
            subst e
            refine this ?_
            simp only [Oper.looksAt, List.mem_append, hg]
            refine .inr ?_
            have hd' : (ops[j]?).bind (·.dst) = some d := by rw [← hd]; simp
            rw [hd']
            simp
        rw [hne]

def comm (ops : Array Oper) (a i : Oper) : Bool := a.apart ops i && (quiet a.op || quiet i.op || (isLoad a.op && isLoad i.op))

/-- Two operations that do not touch: the second one first. -/
theorem swap {nt : Nat} {ops : Array Oper} {a i : Oper} (hc : comm ops a i = true) {tm : Tm} {st : St} {K : Tm → St → Prop} (hok : keeps i.op = true → okAt P nt ops.toList i tm st)
    (h : wpAt P nt ops.toList a tm st (fun tm' st' => wpAt P nt ops.toList i tm' st' K)) : wpAt P nt ops.toList i tm st (fun tm' st' => wpAt P nt ops.toList a tm' st' K) := by
  simp only [comm, Bool.and_eq_true, Bool.or_eq_true] at hc
  obtain ⟨hap, hcl⟩ := hc
  obtain ⟨h1, h2, h3⟩ := Oper.apart_spec hap
  rw [wpAt_F] at h ⊢
  simp only [wpAt_F] at h ⊢
  have ai : ∀ v, Alike ops i (put tm a.dst v) tm := fun v => alike_put h1
  have aa : ∀ v, Alike ops a (put tm i.dst v) tm := fun v => alike_put h3
  simp only [F.congr (ai _)] at h
  simp only [F.congr (aa _)]
  rcases hcl with (hq | hq) | ⟨hl1, hl2⟩
  · have hk : keeps a.op = true := by simp [keeps, hq]
    rw [F_keep hk] at h
    obtain ⟨hoa, h⟩ := h
    refine h.mono fun v st' hv => ?_
    rw [F_keep hk]
    refine ⟨by rw [okAt_st hq st' st]; exact hoa, ?_⟩
    rw [valAt_st hq st' st, ← put_comm _ _ _ h2]
    exact hv
  · have hk : keeps i.op = true := by simp [keeps, hq]
    rw [F_keep hk]
    refine ⟨hok hk, ?_⟩
    refine h.mono fun v st' hv => ?_
    rw [F_keep hk] at hv
    rw [← put_comm _ _ _ h2, valAt_st hq st st']
    exact hv.2
  · have hk1 : keeps a.op = true := by simp [keeps, hl1]
    have hk2 : keeps i.op = true := by simp [keeps, hl2]
    rw [F_keep hk1, F_keep hk2] at h
    rw [F_keep hk2, F_keep hk1]
    obtain ⟨hoa, hoi, hK⟩ := h
    exact ⟨hoi, hoa, by rw [← put_comm _ _ _ h2]; exact hK⟩
end
end Go.AW
