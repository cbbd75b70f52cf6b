/- Operations that only compute: their trees give what the machine's words say. · Operations that only compute: pieces, literals, lengths, picks; all of them. · Picks; all operations that only compute; what is learned of atoms; guards. · Guards; what is learned of atoms. · Operations that make and write memory. · Operations that make, write, or call: their trees. · Appends; calls; all operations. · One operation, guard and all; rows in the order of the text. · Rows whose reads are not ordered against writes. · Loops: what is handed over to a head; names of cells. -/
import Derived.Test.YtibiooglhpjojaaGreatDoorPb
set_option linter.unusedSimpArgs false
set_option linter.unusedVariables false
namespace Go.AW
open Go.RowKit
section
variable {P : Program} {cf : Cf} {C : Ctx} {E : En} {S : SS} {st : St} {sl : List (Nat × SE)} {tm : Tm} {Γ : Den} {r : Rs} {g : Option At} {on : Bool} {K : KV}

theorem isNil_eq {v : Value} (h : isNil v = true) : v = .slice none 0 0 := by
  unfold isNil at h
  split at h
  · rfl
  · cases h
theorem isNil_ne {v : Value} (h : isNil v = false) : cellAV v = .d (.lit v) ∧ cell1 v = .lit v := by
  constructor
  · unfold cellAV
    split
    · simp [isNil] at h
    · rfl
  · unfold cell1
    split
    · simp [isNil] at h
    · rfl
theorem cv_cell1 (v : Value) : cv (cell1 v) = cellAV v := by
  cases h : isNil v with
  | true => rw [isNil_eq h]; rfl
  | false => rw [(isNil_ne h).1, (isNil_ne h).2]; rfl
theorem dvo_cell1 {v : Value} (h : v.oneCell' = true) : dvo (cell1 v) = true := by
  cases hn : isNil v with
  | true => rw [isNil_eq hn]; rfl
  | false => rw [(isNil_ne hn).2]; exact h
theorem cst_ok (hw : E.ω 0 = some .nil) {v : Value} (h : constOk v = true) : RV E (cst v) (constAV v) := by
  by_cases hA : ∃ cs, v = .agg cs
  · obtain ⟨cs, rfl⟩ := hA
    simp only [constOk] at h
    refine RB.agg ⟨_, [], .z (by simp) ?_, AccR.nil E, ?_⟩
    · rw [dvos_all]
      intro x hx
      obtain ⟨v, hv, rfl⟩ := List.mem_map.1 hx
      exact dvo_cell1 (List.all_eq_true.1 h v hv)
    · simp only [foldOv, List.map_map]
      congr 1
      exact List.map_congr_left fun v _ => cv_cell1 v
  · have e1 : cst v = if isNil v = true then .one (.c [.sl 0 []]) (some (.w 0)) else .one (.c [.lit v]) none := by cases v <;> first | rfl | exact absurd ⟨_, rfl⟩ hA
    have e2 : constAV v = cellAV v := by cases v <;> first | rfl | exact absurd ⟨_, rfl⟩ hA
    have hv : v.oneCell' = true := by cases v <;> first | exact h | exact absurd ⟨_, rfl⟩ hA
    rw [e1, e2]
    split
    · rename_i hn
      rw [isNil_eq hn]
      exact .one1 rfl rfl hw rfl
    · rename_i hn
      rw [(isNil_ne (by simpa using hn)).1]
      exact .one0 rfl hv
theorem opd_ok (hm : RM P C E S st) (hs : RTS E sl tm) {x : Operand} (hx : opOk x = true) : opd sl x = ⟨none, .un⟩ ∨ RSE E (opd sl x) (opnd tm x) := by
  cases x with
  | tmp t =>
    simp only [opd, opnd]
    cases h : lk t sl with
    | none => exact .inl rfl
    | some e => exact .inr (hs t e h)
  | const v => exact .inr (.inr (cst_ok hm.w0 hx))
  | global n => simp [opOk] at hx
  | func f => exact .inr (.inr (.fn rfl (by simp) rfl (by simp)))

/-- What a pure operation's tree gives. -/
def PGood (P : Program) (tm : Tm) (st : St) (op : Op) (E : En) (l : List Row) (v : SV) : Prop := (kv P tm st op).ok ∧ RV (E.push l) v (kv P tm st op).v
def PRun (P : Program) (tm : Tm) (st : St) (op : Op) (Γ : Den) (K : KV) (S : SS) (E : En) (on : Bool) (r : Rs) : Prop :=
  ∃ (l : List Row) (v : SV), run Γ (K (bump S l.length) v) (E.ρ ++ l) = some r ∧ (on = true → PGood P tm st op E l v)
theorem PRun.here {op : Op} {v : SV} (h : run Γ (K S v) E.ρ = some r) (hg : on = true → (kv P tm st op).ok ∧ RV E v (kv P tm st op).v) : PRun P tm st op Γ K S E on r :=
  ⟨[], v, by rw [List.append_nil]; exact h, fun ho => ⟨(hg ho).1, (hg ho).2.mono (En.le_push E [])⟩⟩
/-- One row operation, whose result is one cell. -/
theorem PRun.emit1 {op : Op} {f : Fo} {as : List At} (hn : E.ρ.length = S.nv) (hg : gate E.ρ g = some on) (hr : run Γ (emit S g f as fun S r => K S (.one r none)) E.ρ = some r)
    (hv : on = true → ∀ rs x, evs E.ρ as = some rs → evF f rs = some x → (kv P tm st op).ok ∧ ∃ d, x = [d] ∧ dvo d = true ∧ (kv P tm st op).v = .d d) : PRun P tm st op Γ K S E on r := by
  obtain ⟨l, a, h1, h2⟩ := emit_run hr hn hg
  refine ⟨l, _, h1, fun ho => ?_⟩
  obtain ⟨rs, x, h3, h4, h5⟩ := h2 ho
  obtain ⟨h6, d, rfl, h7, h8⟩ := hv ho rs x h3 h4
  refine ⟨h6, ?_⟩
  rw [h8]
  exact .one0 h5 h7

variable (hc : CfOk P cf) (hm : RM P C E S st) (hs : RTS E sl tm) (hg : gate E.ρ g = some on)
include hm hs hg
theorem p_move {x : Operand} {op : Op} (hop : kv P tm st op = ⟨opOk x = true, opnd tm x⟩) (hx : opOk x = true) (hr : run Γ (useV S g (opd sl x) fun v => K S v) E.ρ = some r) : PRun P tm st op Γ K S E on r := by
  obtain ⟨v, h1, h2⟩ := useV_run hm (opd_ok hm hs hx) hg hr
  exact PRun.here h1 fun ho => by rw [hop]; exact ⟨hx, h2 ho⟩
include hc
theorem p_nilCheck {x : Operand} (hx : opOk x = true) (hr : run Γ (sxP cf S g sl (.nilCheck x) K) E.ρ = some r) : PRun P tm st (.nilCheck x) Γ K S E on r := by
  simp only [sxP] at hr
  obtain ⟨v, h1, h2⟩ := useV_run hm (opd_ok hm hs hx) hg hr
  have hk : kv P tm st (.nilCheck x) = ⟨opOk x = true ∧ (checked P (opnd tm x)).ok, (checked P (opnd tm x)).v⟩ := rfl
  split at h1
  · refine PRun.here h1 fun ho => ?_
    rw [hk]
    have := h2 ho
    generalize opnd tm x = av at this ⊢
    cases this with
    | ptr h3 => exact ⟨⟨hx, trivial⟩, .ptr h3⟩
  · refine PRun.here h1 fun ho => ?_
    rw [hk]
    have := h2 ho
    generalize opnd tm x = av at this ⊢
    cases this with
    | pp h3 h4 => exact ⟨⟨hx, trivial⟩, .pp h3 h4⟩
  · refine PRun.here h1 fun ho => ?_
    rw [hk]
    have := h2 ho
    generalize opnd tm x = av at this ⊢
    cases this with
    | pv h3 h4 => exact ⟨⟨hx, trivial⟩, .pv h3 h4⟩
  · refine PRun.here h1 fun ho => ?_
    rw [hk]
    have := h2 ho
    generalize opnd tm x = av at this ⊢
    cases this with
    | ifc h3 => exact ⟨⟨hx, trivial⟩, .ifc h3⟩
  · refine PRun.here h1 fun ho => ?_
    rw [hk]
    have := h2 ho
    generalize opnd tm x = av at this ⊢
    cases this with
    | fn h3 h4 h5 h6 => exact ⟨⟨hx, trivial⟩, .fn h3 h4 h5 h6⟩
  · rename_i nm t
    split at h1
    · rename_i hno
      refine PRun.here h1 fun ho => ?_
      rw [hk]
      have hrv := h2 ho
      have e : opnd tm x = .fn (.method nm) [.ifc t (.agg [])] [] := by
        have hz : RV E (.fn (.method nm) [.ifc t (.agg (.c []) 0 .z [])] []) (.fn (.method nm) [.ifc t (.agg [])] []) := by
          have ha : RV E (.agg (.c []) 0 .z []) (.agg []) := RB.agg ⟨[], [], .z (r := []) rfl rfl, AccR.nil E, rfl⟩
          refine .fn rfl (fun i v a h3 h4 => ?_) rfl (by simp)
          cases i with
          | zero => simp at h3 h4; subst h3; subst h4; exact .ifc ha
          | succ i => simp at h3
        exact hrv.uniq hz
      rw [e] at hrv ⊢
      exact ⟨⟨hx, hc.nilok t nm hno⟩, hrv⟩
    · simp [run] at h1
  · simp [run] at h1
omit hc
omit hm hs hg in
theorem evs2 {a b : At} {x y : Row} {rs : List Row} (ha : a.ev E.ρ = some x) (hb : b.ev E.ρ = some y) (h : evs E.ρ [a, b] = some rs) : rs = [x, y] := by
  simp only [evs, ha, hb, Option.some.injEq] at h; exact h.symm
omit hm hs hg in
theorem evs1 {a : At} {x : Row} {rs : List Row} (ha : a.ev E.ρ = some x) (h : evs E.ρ [a] = some rs) : rs = [x] := by
  simp only [evs, ha, Option.some.injEq] at h; exact h.symm
omit hm hs hg in
theorem evs3 {a b c : At} {x y z : Row} {rs : List Row} (ha : a.ev E.ρ = some x) (hb : b.ev E.ρ = some y) (hc : c.ev E.ρ = some z) (h : evs E.ρ [a, b, c] = some rs) : rs = [x, y, z] := by
  simp only [evs, ha, hb, hc, Option.some.injEq] at h; exact h.symm
omit hm hs hg in
theorem intO_res {op : BinOp} {k : IntKind} {a b : Int} {x : Row} (h : intO op k a b = some x) : (intRes op k a b).ok ∧ ∃ d, x = [d] ∧ dvo d = true ∧ (intRes op k a b).v = .d d := by
  cases op <;> simp only [intO, reduceCtorEq, Option.some.injEq] at h
  case quo =>
    split at h
    · cases h
    · rename_i hb
      cases h
      exact ⟨hb, _, rfl, rfl, rfl⟩
  case rem =>
    split at h
    · cases h
    · rename_i hb
      cases h
      exact ⟨hb, _, rfl, rfl, rfl⟩
  all_goals (subst h; exact ⟨trivial, _, rfl, rfl, rfl⟩)
omit hm hs hg in
theorem strO_res {op : BinOp} {a b : ByteArray} {x : Row} (h : strO op a b = some x) : (strRes op a b).ok ∧ ∃ d, x = [d] ∧ dvo d = true ∧ (strRes op a b).v = .d d := by
  cases op <;> simp only [strO, reduceCtorEq, Option.some.injEq] at h
  case add =>
    split at h
    · rename_i hb
      cases h
      exact ⟨hb, _, rfl, rfl, rfl⟩
    · cases h
  all_goals (subst h; exact ⟨trivial, _, rfl, rfl, rfl⟩)
theorem bin_one {op : BinOp} {t : TypeId} {x y : Operand} {ty : TypeId} {b : Bool} {a a' : At} {o o' : Option GK} (hx : opOk x = true) (hy : opOk y = true) (hb : b = true → P.underlying t = some .bool) (h1 : on = true → RV E (.one a o) (opnd tm x)) (h2 : on = true → RV E (.one a' o') (opnd tm y))
    (hr : run Γ (emit S g (if b = true then .bbin op else .bin op) [kn1 S a, kn1 S a'] fun S r => K S (.one r none)) E.ρ = some r) : PRun P tm st (.binOp op t x y ty) Γ K S E on r := by
  have _ := hs
  refine PRun.emit1 hm.nv hg hr fun ho rs z hrs hz => ?_
  obtain ⟨d1, e1, o1, l1⟩ := (h1 ho).one_toD
  obtain ⟨d2, e2, o2, l2⟩ := (h2 ho).one_toD
  obtain rfl := evs2 (kn1_ev hm e1) (kn1_ev hm e2) hrs
  have hkv : kv P tm st (.binOp op t x y ty) = ev P tm (.binOp op t x y ty) := rfl
  rw [hkv]
  cases b with
  | true =>
    obtain ⟨u, v, e, hz'⟩ := evF_inv (f := .bbin op) hz
    clear hz
    simp only [List.cons.injEq, and_true] at e
    obtain ⟨rfl, rfl⟩ := e
    have ex := (h1 ho).lit e1
    have ey := (h2 ho).lit e2
    simp only [ev, ex, ey]
    cases op <;> simp only [boolO, reduceCtorEq, Option.some.injEq] at hz' <;> subst hz' <;> exact ⟨⟨hx, hy, hb rfl⟩, _, rfl, rfl, rfl⟩
  | false =>
    obtain ⟨u, v, e, hz'⟩ := evF_inv (f := .bin op) hz
    clear hz
    simp only [List.cons.injEq, and_true] at e
    obtain ⟨rfl, rfl⟩ := e
    have ex := (h1 ho).lit e1
    have ey := (h2 ho).lit e2
    unfold binO at hz'
    split at hz'
    · split at hz'
      · rename_i hk
        subst hk
        obtain ⟨h3, d, rfl, h4, h5⟩ := intO_res hz'
        simp only [ev, ex, ey]
        exact ⟨⟨hx, hy, trivial, h3⟩, d, rfl, h4, h5⟩
      · cases hz'
    · obtain ⟨h3, d, rfl, h4, h5⟩ := strO_res hz'
      simp only [ev, ex, ey]
      exact ⟨⟨hx, hy, h3⟩, d, rfl, h4, h5⟩
    · cases hz'
omit hm hs hg in
theorem lits_of {r s : Row} : ∀ {ks : List Nat} {b : Bool}, eqR ks r s = some b → (∀ x ∈ r, ∃ v, x = .lit v) ∧ ∀ x ∈ s, ∃ v, x = .lit v := by
  induction r generalizing s with
  | nil =>
    intro ks b h
    cases s with
    | nil => simp
    | cons _ _ => cases ks <;> simp [eqR] at h
  | cons x xs ih =>
    intro ks b h
    cases s with
    | nil => cases ks <;> simp [eqR] at h
    | cons y ys =>
      cases ks with
      | nil => simp [eqR] at h
      | cons k ks =>
        simp only [eqR] at h
        cases hc : eqC k x y with
        | none => rw [hc] at h; cases h
        | some u =>
          cases hr : eqR ks xs ys with
          | none => rw [hc, hr] at h; cases h
          | some w =>
            obtain ⟨h1, h2⟩ := ih hr
            have h3 : (∃ v, x = .lit v) ∧ ∃ v, y = .lit v := by
              unfold eqC at hc
              split at hc <;> first | exact ⟨⟨_, rfl⟩, _, rfl⟩ | cases hc
            simp only [List.mem_cons, forall_eq_or_imp]
            exact ⟨⟨h3.1, h1⟩, h3.2, h2⟩
omit hm hs hg in
theorem toD_lit {a : AV} {v : Value} (h : toD a = some (.lit v)) : a = .d (.lit v) := by
  cases a <;> simp [toD] at h
  · rw [h]
  · rename_i t s xs; cases xs <;> simp [slv] at h
omit hm hs hg in
theorem toDs_lits {as : List AV} {r : Row} (h : toDs as = some r) (hl : ∀ x ∈ r, ∃ v, x = DV.lit v) : as = r.map .d := by
  rw [toDs_iff] at h
  apply List.ext_getElem?
  intro i
  have hi := congrArg (fun l => l[i]?) h
  simp only [List.getElem?_map] at hi ⊢
  cases ha : as[i]? with
  | none => rw [ha] at hi; cases hr : r[i]? with
    | none => rfl
    | some x => rw [hr] at hi; cases hi
  | some a =>
    rw [ha] at hi
    cases hr : r[i]? with
    | none => rw [hr] at hi; cases hi
    | some x =>
      rw [hr] at hi
      simp only [Option.map_some, Option.some.injEq] at hi ⊢
      obtain ⟨v, rfl⟩ := hl x (List.mem_of_getElem? hr)
      exact toD_lit hi
include hc
theorem p_binOp {op : BinOp} {t : TypeId} {x y : Operand} {ty : TypeId} (hx : opOk x = true) (hy : opOk y = true) (hr : run Γ (sxP cf S g sl (.binOp op t x y ty) K) E.ρ = some r) : PRun P tm st (.binOp op t x y ty) Γ K S E on r := by
  simp only [sxP] at hr
  obtain ⟨v, hr, hv⟩ := useV_run hm (opd_ok hm hs hx) hg hr
  obtain ⟨u, hr, hu⟩ := useV_run hm (opd_ok hm hs hy) hg hr
  split at hr
  · rename_i a o a' o'
    refine bin_one hm hs hg (b := Nat.beq (kindOf cf t) 1) hx hy (fun hb => ?_) hv hu hr
    have hk := nbeq hb
    unfold kindOf at hk
    split at hk
    · rename_i i hi
      exact (hc.ti t i hi).kind1 hk
    · cases hk
  · rename_i a n m ov a' n' m' ov'
    split at hr
    · simp [run] at hr
    · rename_i ks hcm
      obtain ⟨l1, a1, hr1, h1⟩ := mats_run hr hm.nv hg
      have hm1 := hm.push l1
      obtain ⟨l2, a2, hr2, h2⟩ := mats_run (E := E.push l1) hr1 hm1.nv (gate_mono hg)
      have hm2 := hm1.push l2
      have key : ∀ ne : Bool, run Γ (emit (bump (bump S l1.length) l2.length) g (.eqr ne ks) [a1, a2] fun S r => K S (.one r none)) ((E.push l1).push l2).ρ = some r → (op = if ne = true then .neq else .eql) → PRun P tm st (.binOp op t x y ty) Γ K S E on r := by
        intro ne hr3 hop
        obtain ⟨l3, a3, hr4, h3⟩ := emit_run hr3 hm2.nv (gate_mono (gate_mono hg))
        refine ⟨l1 ++ l2 ++ l3, .one a3 none, ?_, fun ho => ?_⟩
        · have e : bump (bump (bump S l1.length) l2.length) l3.length = bump S (l1 ++ l2 ++ l3).length := by simp [bump, Nat.add_assoc]
          rw [← e]
          simpa [En.push, List.append_assoc] using hr4
        · obtain ⟨cs, e1, hb1⟩ := (hv ho).agg_inv
          obtain ⟨cs', e2, hb2⟩ := (hu ho).agg_inv
          obtain ⟨y1, q1, o1, d1⟩ := (h1 ho _ (hv ho)).mono (En.le_push _ l2)
          obtain ⟨y2, q2, o2, d2⟩ := h2 ho _ ((hu ho).mono (En.le_push _ l1))
          rw [e1] at d1
          rw [e2] at d2
          obtain ⟨rs, z, h5, h6, h7⟩ := h3 ho
          obtain rfl := evs2 (E := (E.push l1).push l2) q1 q2 h5
          obtain ⟨ra, rb, b, e, heq, rfl⟩ := evF_inv (f := .eqr ne ks) h6
          simp only [List.cons.injEq, and_true] at e
          obtain ⟨rfl, rfl⟩ := e
          obtain ⟨hl1, hl2⟩ := lits_of heq
          have c1 : cs = y1.map .d := toDs_lits d1 hl1
          have c2 : cs' = y2.map .d := toDs_lits d2 hl2
          unfold cmpT at hcm
          split at hcm
          · rename_i i hi
            split at hcm
            rotate_left
            · cases hcm
            rename_i hsz
            obtain ⟨k1, k2⟩ : y1.length = i.size ∧ y2.length = i.size := by
              simp only [Bool.and_eq_true] at hsz
              rw [← toDs_len d1, ← toDs_len d2, cellsL_agg, cellsL_agg, hb1.len, hb2.len]
              exact ⟨nbeq hsz.1, nbeq hsz.2⟩
            obtain ⟨k3, k4⟩ := (hc.ti t i hi).cmp ks hcm y1 y2 b k1 k2 heq
            have hkv : kv P tm st (.binOp op t x y ty) = ev P tm (.binOp op t x y ty) := rfl
            refine ⟨?_, ?_⟩
            · rw [hkv]
              simp only [ev, e1, e2, c1, c2]
              refine ⟨hx, hy, ?_⟩
              subst hop
              cases ne <;> exact k3
            · rw [hkv]
              simp only [ev, e1, e2, c1, c2]
              subst hop
              cases ne with
              | true =>
                simp only [aggRes, k4]
                refine .one0 (x := .lit (.bool (!b))) ?_ rfl
                rw [← push_push, ← push_push]
                have e : (b != true) = !b := by simp
                rw [e] at h7
                exact h7
              | false =>
                simp only [aggRes, k4]
                refine .one0 (x := .lit (.bool b)) ?_ rfl
                rw [← push_push, ← push_push]
                have e : (b != false) = b := by simp
                rw [e] at h7
                exact h7
          · simp at hcm
      split at hr2
      · exact key false hr2 rfl
      · exact key true hr2 rfl
      · simp [run] at hr2
  · simp [run] at hr
theorem p_unOp {op : UnOp} {t : TypeId} {x : Operand} (hx : opOk x = true) (hr : run Γ (sxP cf S g sl (.unOp op t x) K) E.ρ = some r) : PRun P tm st (.unOp op t x) Γ K S E on r := by
  have _ := hc
  simp only [sxP] at hr
  obtain ⟨a, o, hr, hv⟩ := use1_run hm (opd_ok hm hs hx) hg hr
  have hkv : kv P tm st (.unOp op t x) = ev P tm (.unOp op t x) := rfl
  split at hr
  · refine PRun.emit1 hm.nv hg hr fun ho rs z hrs hz => ?_
    obtain ⟨d1, e1, o1, l1⟩ := (hv ho).one_toD
    obtain rfl := evs1 e1 hrs
    obtain ⟨u, e, rfl⟩ := evF_inv (f := .not) hz
    simp only [List.cons.injEq, and_true] at e
    subst e
    have ex := (hv ho).lit e1
    rw [hkv]
    simp only [ev, ex]
    exact ⟨hx, _, rfl, rfl, rfl⟩
  · refine PRun.emit1 hm.nv hg hr fun ho rs z hrs hz => ?_
    obtain ⟨d1, e1, o1, l1⟩ := (hv ho).one_toD
    obtain rfl := evs1 e1 hrs
    obtain ⟨k, u, e, rfl⟩ := evF_inv (f := .neg) hz
    simp only [List.cons.injEq, and_true] at e
    subst e
    have ex := (hv ho).lit e1
    rw [hkv]
    simp only [ev, ex]
    exact ⟨hx, _, rfl, rfl, rfl⟩
  · simp [run] at hr
theorem p_fieldAddr {s : TypeId} {x : Operand} {f : Nat} (hx : opOk x = true) (hr : run Γ (sxP cf S g sl (.fieldAddr s x f) K) E.ρ = some r) : PRun P tm st (.fieldAddr s x f) Γ K S E on r := by
  simp only [sxP] at hr
  obtain ⟨v, hr, hv⟩ := useV_run hm (opd_ok hm hs hx) hg hr
  have hkv : kv P tm st (.fieldAddr s x f) = ev P tm (.fieldAddr s x f) := rfl
  split at hr
  · rename_i i hi
    have hti := (hc.ti s i hi).flds f
    split at hr
    · rename_i off n ag o d hf
      split at hr
      · simp [run] at hr
      · rename_i hn
        refine PRun.here hr fun ho => ?_
        have := hv ho
        rw [hkv]
        simp only [ev, hti, hf, Option.map_some]
        generalize opnd tm x = av at this ⊢
        cases this with
        | ptr h3 => exact ⟨⟨hx, fun e => hn (by rw [e]; rfl)⟩, .ptr h3⟩
    · rename_i off n ag a d k hf
      split at hr
      · simp [run] at hr
      · rename_i hn
        refine PRun.here hr fun ho => ?_
        have := hv ho
        rw [hkv]
        simp only [ev, hti, hf, Option.map_some]
        generalize opnd tm x = av at this ⊢
        cases this with
        | @pp _ _ _ row h3 h4 =>
          refine ⟨⟨hx, fun e => hn (by rw [e]; rfl)⟩, ?_⟩
          show RV E (.pp a (d + off) k) (.pp ((List.map AV.d (List.drop d row)).drop off))
          rw [← List.map_drop, List.drop_drop]
          exact .pp h3 h4
    · simp [run] at hr
  · simp [run] at hr
omit hc hm hs hg in
theorem piece_sub {v : SV} {cs : List AV} {off k : Nat} {ag : Bool} (hk : ag = false → k = 1) (hl : off + k ≤ cs.length) (h : Piece E ag v ((cs.drop off).take k)) : (sub cs off k ag).ok ∧ RV E v (sub cs off k ag).v := by
  unfold sub
  cases ag with
  | true => exact ⟨hl, h⟩
  | false =>
    obtain rfl := hk rfl
    obtain ⟨c, e, hv⟩ : ∃ c, (cs.drop off).take 1 = [c] ∧ RV E v c := h
    refine ⟨by show off < cs.length; omega, ?_⟩
    have hget : ((cs.drop off).take 1)[0]? = some c := by rw [e]; rfl
    simp only [List.getElem?_take, List.getElem?_drop] at hget
    show RV E v (cs.getD off .bad)
    rw [List.getD_eq_getElem?_getD]
    have : cs[off]? = some c := by simpa using hget
    rw [this]
    exact hv
theorem p_rd {op : Op} {k0 : Nat} {ag : Bool} {off : Nat} {a : At} {n : Nat} {m : BM} {ov : List (Nat × Nat × SV)} {fu o : Nat} (hk : ag = false → k0 = 1) (hr : run Γ (rd S g o k0 ag K fu a n m ov off []) E.ρ = some r)
    (hv : on = true → ∃ cs, RB E a n m ov cs ∧ ((sub cs off k0 ag).ok → (kv P tm st op).ok) ∧ (kv P tm st op).v = (sub cs off k0 ag).v) : PRun P tm st op Γ K S E on r := by
  have _ := hc
  have _ := hs
  obtain ⟨l, v, h1, h2⟩ := rd_run fu hr hm.nv hg
  refine ⟨l, v, h1, fun ho => ?_⟩
  obtain ⟨cs, hb, hok, hval⟩ := hv ho
  obtain ⟨hl, hp⟩ := h2 ho hm.w0 hk cs [] _ hb (AccR.nil E) rfl
  obtain ⟨q1, q2⟩ := piece_sub hk hl hp
  exact ⟨hok q1, by rw [hval]; exact q2⟩
theorem p_field {s : TypeId} {x : Operand} {f : Nat} (hx : opOk x = true) (hr : run Γ (sxP cf S g sl (.field s x f) K) E.ρ = some r) : PRun P tm st (.field s x f) Γ K S E on r := by
  simp only [sxP] at hr
  obtain ⟨v, hr, hv⟩ := useV_run hm (opd_ok hm hs hx) hg hr
  have hkv : kv P tm st (.field s x f) = ev P tm (.field s x f) := rfl
  cases hi : cf.ti s with
  | none => rw [hi] at hr; simp [run] at hr
  | some i =>
    rw [hi] at hr
    have hti := (hc.ti s i hi).flds f
    cases hf : i.flds[f]? with
    | none => simp only [hf] at hr; cases v <;> simp [run] at hr
    | some y =>
      obtain ⟨off, n, ag⟩ := y
      simp only [hf] at hr
      cases v <;> try (simp [run] at hr; done)
      rename_i a k m ov
      refine p_rd hc hm hs hg (off := off) (ag := ag) (fun h => ?_) hr fun ho => ?_
      · subst h; exact (hc.ti s i hi).fone f off n hf
      · obtain ⟨cs, e, hb⟩ := (hv ho).agg_inv
        refine ⟨cs, hb, fun hok => ?_, ?_⟩
        · rw [hkv]
          simp only [ev, hti, hf, Option.map_some, e]
          exact ⟨hx, hok⟩
        · rw [hkv]
          simp only [ev, hti, hf, Option.map_some, e]
theorem p_indexAddr {t : TypeId} {x i : Operand} (hx : opOk x = true) (hi : opOk i = true) (hr : run Γ (sxP cf S g sl (.indexAddr t x i) K) E.ρ = some r) : PRun P tm st (.indexAddr t x i) Γ K S E on r := by
  simp only [sxP] at hr
  obtain ⟨v, hr, hv⟩ := useV_run hm (opd_ok hm hs hx) hg hr
  obtain ⟨j, oj, hr, hj⟩ := use1_run hm (opd_ok hm hs hi) hg hr
  have hkv : kv P tm st (.indexAddr t x i) = ev P tm (.indexAddr t x i) := rfl
  cases hti : cf.ti t with
  | none => rw [hti] at hr; simp [run] at hr
  | some ti =>
    rw [hti] at hr
    rcases he : ti.elem with _ | ⟨e, n, by_⟩
    · cases v <;> simp only [he] at hr <;> simp [run] at hr
    obtain ⟨hel1, -⟩ := (hc.ti t ti hti).elem e n by_ he
    cases v <;> simp only [he] at hr <;> try (simp [run] at hr; done)
    · rename_i a o
      obtain ⟨l, b, h1, h2⟩ := emit_run hr hm.nv hg
      refine ⟨l, _, h1, fun ho => ?_⟩
      obtain ⟨rs, z, h3, h4, h5⟩ := h2 ho
      obtain ⟨d1, e1, o1, l1⟩ := (hv ho).one_toD
      obtain ⟨d2, e2, o2, l2⟩ := (hj ho).one_toD
      obtain rfl := evs2 e1 e2 h3
      have hok := evF_ok h4 (by intro y hy; simp at hy; rcases hy with rfl | rfl <;> simp [dvos, o1, o2])
      obtain ⟨s, xs, k, q, eq, hs', hq0, hq1, rfl⟩ := evF_inv (f := .idx n) h4
      simp only [List.cons.injEq, and_true] at eq
      obtain ⟨rfl, rfl⟩ := eq
      subst hs'
      have ei := (hj ho).lit e2
      have hlt : q.toNat < xs.length := by omega
      have hel : elems (opnd tm x) = some (s, xs.map (·.map .d)) := by
        generalize opnd tm x = av at l1
        cases av <;> simp only [toD, Option.some.injEq, reduceCtorEq] at l1
        · subst l1; rfl
        · simp only [DV.sl.injEq] at l1
          obtain ⟨-, rfl⟩ := l1
          exact absurd hlt (by simp)
        · rename_i tk s' xs'
          cases xs' with
          | nil =>
            simp only [slv, DV.sl.injEq] at l1
            obtain ⟨-, rfl⟩ := l1
            exact absurd hlt (by simp)
          | cons y ys =>
            simp only [slv, DV.sl.injEq] at l1
            obtain ⟨rfl, rfl⟩ := l1
            rfl
      have hget : xs.getD q.toNat [] = xs[q.toNat] := by rw [List.getD_eq_getElem?_getD, List.getElem?_eq_getElem hlt]; rfl
      have hgetm : (xs.map (·.map AV.d)).getD q.toNat [] = xs[q.toNat].map .d := by rw [List.getD_eq_getElem?_getD, List.getElem?_map, List.getElem?_eq_getElem hlt]; rfl
      refine ⟨?_, ?_⟩
      · rw [hkv]
        simp only [ev, hel1, hel, ei]
        refine ⟨hx, hi, trivial, hq0, ?_⟩
        simpa using hq1
      · rw [hkv]
        simp only [ev, hel1, hel, ei, at_]
        rw [hgetm]
        have := RV.pp (E := E.push l) (off := 0) (n := s) h5 hok
        rw [hget, List.drop_zero] at this
        exact this
    · rename_i s rows
      split at hr
      · split at hr
        · rename_i kd k hcond
          split at hr
          · rename_i cs hcs
            refine PRun.here hr fun ho => ?_
            simp only [Bool.and_eq_true, decide_eq_true_eq] at hcond
            obtain ⟨hn, hk0⟩ := hcond
            obtain rfl := nbeq hn
            have ei := (hj ho).lit rfl
            have hx2 := hv ho
            rw [hkv]
            generalize hxe : opnd tm x = av at hx2
            cases hx2 with
            | @psl _ _ ass hl hl2 hvv =>
              obtain ⟨as, has⟩ : ∃ as, ass[k.toNat]? = some as := by
                have := (List.getElem?_eq_some_iff.1 hcs).1
                exact ⟨_, List.getElem?_eq_getElem (by omega)⟩
              have hlt := (List.getElem?_eq_some_iff.1 has).1
              have hgd : ass.getD k.toNat [] = as := by rw [List.getD_eq_getElem?_getD, has]; rfl
              simp only [ev, hel1, hxe, ei, elems, at_]
              rw [hgd]
              exact ⟨⟨hx, hi, trivial, hk0, by omega⟩, .pv (hl2 _ _ _ hcs has) fun j' v' a' h1 h2 => hvv _ j' _ _ v' a' hcs has h1 h2⟩
          · simp [run] at hr
        · simp [run] at hr
      · simp [run] at hr
theorem p_index {t : TypeId} {x i : Operand} (hx : opOk x = true) (hi : opOk i = true) (hr : run Γ (sxP cf S g sl (.index t x i) K) E.ρ = some r) : PRun P tm st (.index t x i) Γ K S E on r := by
  simp only [sxP] at hr
  obtain ⟨v, hr, hv⟩ := useV_run hm (opd_ok hm hs hx) hg hr
  obtain ⟨j, oj, hr, hj⟩ := use1_run hm (opd_ok hm hs hi) hg hr
  have hkv : kv P tm st (.index t x i) = ev P tm (.index t x i) := rfl
  cases v <;> try (simp [run] at hr; done)
  rename_i a o
  simp only at hr
  split at hr
  · rename_i hk
    refine PRun.emit1 hm.nv hg hr fun ho rs z hrs hz => ?_
    obtain ⟨d1, e1, o1, l1⟩ := (hv ho).one_toD
    obtain ⟨d2, e2, o2, l2⟩ := (hj ho).one_toD
    obtain rfl := evs2 e1 e2 hrs
    obtain ⟨s, k, q, eq, hq0, hq1, rfl⟩ := evF_inv (f := .sidx) hz
    simp only [List.cons.injEq, and_true] at eq
    obtain ⟨rfl, rfl⟩ := eq
    have ex := (hv ho).lit e1
    have ei := (hj ho).lit e2
    have hu : P.underlying t = some .string := by
      have hk := nbeq hk
      unfold kindOf at hk
      split at hk
      · rename_i ti hti
        exact (hc.ti t ti hti).kind2 hk
      · cases hk
    rw [hkv]
    simp only [ev, ex, ei]
    exact ⟨⟨hx, hi, hu, hq0, hq1⟩, _, rfl, rfl, rfl⟩
  · simp [run] at hr
omit hc in
theorem p_extract {x : Operand} {i : Nat} (hx : opOk x = true) (hr : run Γ (sxP cf S g sl (.extract x i) K) E.ρ = some r) : PRun P tm st (.extract x i) Γ K S E on r := by
  simp only [sxP] at hr
  obtain ⟨v, hr, hv⟩ := useV_run hm (opd_ok hm hs hx) hg hr
  have hkv : kv P tm st (.extract x i) = ev P tm (.extract x i) := rfl
  cases v <;> try (simp [run] at hr; done)
  rename_i vs
  simp only at hr
  cases hi : vs[i]? with
  | none => simp only [hi] at hr; simp [run] at hr
  | some u =>
    simp only [hi] at hr
    refine PRun.here hr fun ho => ?_
    have h2 := hv ho
    rw [hkv]
    generalize hxe : opnd tm x = av at h2
    cases h2 with
    | @tup _ as hl hvv =>
      have hlt := (List.getElem?_eq_some_iff.1 hi).1
      have ha : as[i]? = some (as.getD i .bad) := by rw [List.getD_eq_getElem?_getD, List.getElem?_eq_getElem (show i < as.length by omega)]; rfl
      simp only [ev, hxe]
      exact ⟨⟨hx, by omega⟩, hvv i u _ hi ha⟩
omit hc in
theorem useAll_run {xs : List Operand} (hx : xs.all opOk = true) : ∀ {K : List SV → Tr}, run Γ (useAll S g (xs.map (opd sl)) K) E.ρ = some r →
    ∃ vs, run Γ (K vs) E.ρ = some r ∧ vs.length = xs.length ∧ (on = true → ∀ (i : Nat) (v : SV) (a : AV), vs[i]? = some v → (xs.map (opnd tm))[i]? = some a → RV E v a) := by
  induction xs with
  | nil => intro K hr; exact ⟨[], hr, rfl, fun _ i v a h => by simp at h⟩
  | cons x xs ih =>
    intro K hr
    simp only [List.all_cons, Bool.and_eq_true] at hx
    simp only [List.map_cons, useAll] at hr
    obtain ⟨v, hr, hv⟩ := useV_run hm (opd_ok hm hs hx.1) hg hr
    obtain ⟨vs, hr, hl, hvs⟩ := ih hx.2 hr
    refine ⟨v :: vs, hr, by simp [hl], fun ho i u a h1 h2 => ?_⟩
    cases i with
    | zero => simp at h1 h2; subst h1; subst h2; exact hv ho
    | succ i => exact hvs ho i u a (by simpa using h1) (by simpa using h2)
omit hc in
theorem p_makeFunc {f : Fn} {fs cs : Array Operand} (hx : fs.toList.all opOk = true) (hx' : cs.toList.all opOk = true) (hr : run Γ (sxP cf S g sl (.makeFunc f fs cs) K) E.ρ = some r) : PRun P tm st (.makeFunc f fs cs) Γ K S E on r := by
  simp only [sxP] at hr
  obtain ⟨vs, hr, hl, hvs⟩ := useAll_run hm hs hg hx hr
  obtain ⟨us, hr, hl', hus⟩ := useAll_run hm hs hg hx' hr
  refine PRun.here hr fun ho => ?_
  exact ⟨⟨hx, hx'⟩, .fn (by simp [hl]) (hvs ho) (by simp [hl']) (hus ho)⟩
theorem p_makeInterface {t : TypeId} {x : Operand} (hx : opOk x = true) (hr : run Γ (sxP cf S g sl (.makeInterface t x) K) E.ρ = some r) : PRun P tm st (.makeInterface t x) Γ K S E on r := by
  simp only [sxP] at hr
  obtain ⟨v, hr, hv⟩ := useV_run hm (opd_ok hm hs hx) hg hr
  split at hr
  · simp [run] at hr
  · rename_i hk
    refine PRun.here hr fun ho => ⟨⟨hx, ?_⟩, .ifc (hv ho)⟩
    simp only [decide_eq_true_eq, not_or] at hk
    unfold kindOf at hk
    cases hi : cf.ti t with
    | none => rw [hi] at hk; exact absurd rfl hk.2
    | some i => rw [hi] at hk; exact (hc.ti t i hi).noif hk.1
theorem p_load {t : TypeId} {x : Operand} (hx : opOk x = true) (hr : run Γ (sxP cf S g sl (.load t x) K) E.ρ = some r) : PRun P tm st (.load t x) Γ K S E on r := by
  simp only [sxP] at hr
  obtain ⟨v, hr, hv⟩ := useV_run hm (opd_ok hm hs hx) hg hr
  cases hi : cf.ti t with
  | none => simp only [hi] at hr; simp [run] at hr
  | some i =>
    have hti := hc.ti t i hi
    cases v <;> simp only [hi] at hr <;> try (simp [run] at hr; done)
    · rename_i o off
      cases hob : objAt S o with
      | none => simp only [hob] at hr; simp [run] at hr
      | some ob =>
        simp only [hob] at hr
        refine p_rd hc hm hs hg (off := off) (ag := i.agg) hti.one hr fun ho => ?_
        have h2 := hv ho
        obtain ⟨id, h3, h4, h5, h6⟩ := hm.ob o ob hob
        generalize hxe : opnd tm x = av at h2
        cases h2 with
        | ptr h7 =>
          rw [h3] at h7
          cases h7
          refine ⟨_, h6, fun hok => ?_, ?_⟩
          · simp only [kv, hxe, hti.sz]
            exact ⟨hx, hok⟩
          · simp only [kv, hxe, hti.sz]
    · rename_i a off n
      split at hr
      · obtain ⟨l, b, h1, h2⟩ := emit_run hr hm.nv hg
        have hgood : on = true → ∃ row : Row, (opnd tm x = .pp ((row.drop off).map .d)) ∧ off + i.size ≤ row.length ∧ b.ev (E.ρ ++ l) = some ((row.drop off).take i.size) ∧ dvos ((row.drop off).take i.size) = true := fun ho => by
          have h3 := hv ho
          obtain ⟨rs, z, h4, h5, h6⟩ := h2 ho
          generalize hxe : opnd tm x = av at h3
          cases h3 with
          | @pp _ _ _ row h7 h8 =>
            obtain rfl := evs1 h7 h4
            obtain ⟨r', e, hle, rfl⟩ := evF_inv (f := .get off i.size) h5
            simp only [List.cons.injEq, and_true] at e
            subst e
            exact ⟨row, rfl, hle, h6, dvos_take (dvos_drop h8 _) _⟩
        cases hag : i.agg with
        | true =>
          simp only [hag, if_true] at h1
          refine ⟨l, _, h1, fun ho => ?_⟩
          obtain ⟨row, h3, h4, h5, h6⟩ := hgood ho
          refine ⟨?_, ?_⟩
          · simp only [kv, h3, hti.sz]
            refine ⟨hx, ?_⟩
            simp [sub, hag]; omega
          · simp only [kv, h3, hti.sz, sub, hag, if_true, List.drop_zero]
            rw [← List.map_take]
            exact RB.agg ⟨_, [], .d h5 (by simp; omega) h6, AccR.nil _, rfl⟩
        | false =>
          simp only [hag, Bool.false_eq_true, if_false] at h1
          refine ⟨l, _, h1, fun ho => ?_⟩
          obtain ⟨row, h3, h4, h5, h6⟩ := hgood ho
          have h1s := hti.one hag
          rw [h1s] at h4 h5 h6
          obtain ⟨x0, hx0⟩ : ∃ x0, (row.drop off).take 1 = [x0] := List.length_eq_one_iff.1 (by simp; omega)
          rw [hx0] at h5 h6
          have hget : row[off]? = some x0 := by
            have : ((row.drop off).take 1)[0]? = some x0 := by rw [hx0]; rfl
            simp only [List.getElem?_take, List.getElem?_drop] at this
            simpa using this
          refine ⟨?_, ?_⟩
          · simp only [kv, h3, hti.sz]
            refine ⟨hx, ?_⟩
            simp [sub, hag]; omega
          · simp only [kv, h3, hti.sz, sub, hag, Bool.false_eq_true, if_false]
            rw [List.getD_eq_getElem?_getD, List.getElem?_map, List.getElem?_drop, Nat.add_zero, hget]
            exact .one0 h5 (by simpa [dvos] using h6)
      · simp [run] at hr
    · rename_i cs
      split at hr
      · simp [run] at hr
      · rename_i hag
        have hag' : i.agg = false := by simpa using hag
        cases cs with
        | nil => simp [run] at hr
        | cons c cs =>
          refine PRun.here hr fun ho => ?_
          have h2 := hv ho
          generalize hxe : opnd tm x = av at h2
          cases h2 with
          | @pv _ as hl hvv =>
            cases as with
            | nil => simp at hl
            | cons a as =>
              refine ⟨?_, ?_⟩
              · simp only [kv, hxe, hti.sz]
                refine ⟨hx, ?_⟩
                simp [sub, hag']
              · simp only [kv, hxe, hti.sz, sub, hag', Bool.false_eq_true, if_false]
                exact hvv 0 c a rfl rfl
end
end Go.AW

namespace Go.AW
open Go.RowKit
section
variable {P : Program} {cf : Cf} {C : Ctx} {E : En} {S : SS} {st : St} {sl : List (Nat × SE)} {tm : Tm} {Γ : Den} {r : Rs} {g : Option At} {on : Bool} {K : KV}
theorem lenI_sl {av : AV} {s : Nat} {xs : List Row} (h : toD av = some (.sl s xs)) : lenI av = (xs.length : Nat) := by
  cases av <;> simp only [toD, Option.some.injEq, reduceCtorEq] at h
  · subst h; rfl
  · simp only [DV.sl.injEq] at h; obtain ⟨-, rfl⟩ := h; rfl
  · rename_i t s' xs'
    cases xs' with
    | nil => simp only [slv, DV.sl.injEq] at h; obtain ⟨-, rfl⟩ := h; rfl
    | cons y ys => simp only [slv, DV.sl.injEq] at h; obtain ⟨-, rfl⟩ := h; rfl
theorem cutV_sl {t : TypeId} {e : TypeId} {n b s : Nat} {xs : List Row} {av : AV} {kl kh : IntKind} {l h : Int} (he : elT P t = some (e, n, b)) (ha : toD av = some (.sl s xs)) (hs : s = n ∨ xs = []) (h0 : 0 ≤ l) (h1 : l ≤ h) (h2 : h ≤ (xs.length : Int)) :
    (cutV P t av (.d (.lit (.int kl l))) (.d (.lit (.int kh h)))).ok ∧ (cutV P t av (.d (.lit (.int kl l))) (.d (.lit (.int kh h)))).v = .d (slv n ((xs.take h.toNat).drop l.toNat)) := by
  cases av <;> simp only [toD, Option.some.injEq, reduceCtorEq] at ha
  · subst ha
    simp only [cutV, he]
    exact ⟨⟨hs.imp Eq.symm id, h0, h1, h2⟩, trivial⟩
  · simp only [DV.sl.injEq] at ha
    obtain ⟨-, rfl⟩ := ha
    simp only [cutV, he]
    simp at h2
    exact ⟨⟨by omega, by omega, rfl⟩, by simp [slv]⟩
  · rename_i tk s' xs'
    cases xs' with
    | nil =>
      simp only [slv, DV.sl.injEq] at ha
      obtain ⟨-, rfl⟩ := ha
      simp only [cutV, he]
      exact ⟨⟨.inr trivial, h0, h1, h2⟩, trivial⟩
    | cons y ys =>
      simp only [slv, DV.sl.injEq] at ha
      obtain ⟨rfl, rfl⟩ := ha
      simp only [cutV, he]
      exact ⟨⟨hs.imp Eq.symm id, h0, h1, h2⟩, trivial⟩
variable (hc : CfOk P cf) (hm : RM P C E S st) (hs : RTS E sl tm) (hg : gate E.ρ g = some on)
include hc hm hs hg
theorem p_slice {t : TypeId} {x : Operand} {lo hi : Option Operand} (hx : opOk x = true) (hlo : ∀ y, lo = some y → opOk y = true) (hhi : ∀ y, hi = some y → opOk y = true) (hr : run Γ (sxP cf S g sl (.slice t x lo hi none) K) E.ρ = some r) : PRun P tm st (.slice t x lo hi none) Γ K S E on r := by
  simp only [sxP] at hr
  obtain ⟨a, o, hr, hv⟩ := use1_run hm (opd_ok hm hs hx) hg hr
  -- the lower bound
  have hl : ∃ la, run Γ ((match hi with
        | some h => (fun K : SS → At → Tr => use1 S g (opd sl h) fun h _ => K S h)
        | none => emit S g (if Nat.beq (kindOf cf t) 2 = true then .slen else .len) [a]) fun S h =>
      (if Nat.beq (kindOf cf t) 2 = true then emit S g .scut [a, la, h] fun S r => K S (.one r none)
       else match cf.ti t with
        | some ti => (match ti.elem with
          | some (_, n, _) => emit S g (.cut n) [a, la, h] fun S r => K S (.one r none)
          | none => .err 25 [])
        | none => .err 25 [])) E.ρ = some r ∧ (on = true → ∃ d, la.ev E.ρ = some [d] ∧ toD (bndV tm 0 lo).v = some d ∧ (bndV tm 0 lo).ok) := by
    cases lo with
    | none => exact ⟨_, hr, fun _ => ⟨_, rfl, rfl, trivial⟩⟩
    | some y =>
      obtain ⟨b, ob, hr, hb⟩ := use1_run hm (opd_ok hm hs (hlo y rfl)) hg hr
      refine ⟨b, hr, fun ho => ?_⟩
      obtain ⟨d, h1, h2, h3⟩ := (hb ho).one_toD
      exact ⟨d, h1, h3, hlo y rfl⟩
  clear hr
  obtain ⟨la, hr, hla⟩ := hl
  -- the upper bound
  have hh : ∃ l ha, run Γ (if Nat.beq (kindOf cf t) 2 = true then emit (bump S l.length) g .scut [a, la, ha] fun S r => K S (.one r none)
       else match cf.ti t with
        | some ti => (match ti.elem with
          | some (_, n, _) => emit (bump S l.length) g (.cut n) [a, la, ha] fun S r => K S (.one r none)
          | none => .err 25 [])
        | none => .err 25 []) (E.ρ ++ l) = some r ∧ (on = true → ∃ d, ha.ev (E.ρ ++ l) = some [d] ∧ toD (bndV tm (lenI (opnd tm x)) hi).v = some d ∧ (bndV tm (lenI (opnd tm x)) hi).ok) := by
    cases hi with
    | none =>
      obtain ⟨l, b, h1, h2⟩ := emit_run hr hm.nv hg
      refine ⟨l, b, h1, fun ho => ?_⟩
      obtain ⟨rs, z, h3, h4, h5⟩ := h2 ho
      obtain ⟨d1, e1, o1, l1⟩ := (hv ho).one_toD
      obtain rfl := evs1 e1 h3
      split at h4
      · obtain ⟨s, e, rfl⟩ := evF_inv (f := .slen) h4
        simp only [List.cons.injEq, and_true] at e
        subst e
        refine ⟨_, h5, ?_, trivial⟩
        rw [toD_lit l1]; rfl
      · obtain ⟨s, xs, e, rfl⟩ := evF_inv (f := .len) h4
        simp only [List.cons.injEq, and_true] at e
        subst e
        refine ⟨_, h5, ?_, trivial⟩
        simp only [bndV, toD, lenI_sl l1]
    | some y =>
      obtain ⟨b, ob, hr, hb⟩ := use1_run hm (opd_ok hm hs (hhi y rfl)) hg hr
      refine ⟨[], b, by rw [List.append_nil]; exact hr, fun ho => ?_⟩
      obtain ⟨d, h1, h2, h3⟩ := (hb ho).one_toD
      exact ⟨d, by rw [List.append_nil]; exact h1, h3, hhi y rfl⟩
  clear hr
  obtain ⟨l, ha, hr, hha⟩ := hh
  have hm' := hm.push l
  have fin : ∀ (f : Fo), run Γ (emit (bump S l.length) g f [a, la, ha] fun S r => K S (.one r none)) (E.ρ ++ l) = some r →
      (on = true → ∀ d1 d2 d3 z, dvo d1 = true → toD (opnd tm x) = some d1 → toD (bndV tm 0 lo).v = some d2 → toD (bndV tm (lenI (opnd tm x)) hi).v = some d3 → evF f [[d1], [d2], [d3]] = some z →
        (cutV P t (opnd tm x) (bndV tm 0 lo).v (bndV tm (lenI (opnd tm x)) hi).v).ok ∧ ∃ d, z = [d] ∧ dvo d = true ∧ (cutV P t (opnd tm x) (bndV tm 0 lo).v (bndV tm (lenI (opnd tm x)) hi).v).v = .d d) → PRun P tm st (.slice t x lo hi none) Γ K S E on r := by
    intro f hr hf
    obtain ⟨l2, b, h1, h2⟩ := emit_run (ρ := (E.push l).ρ) hr hm'.nv (gate_mono hg)
    refine ⟨l ++ l2, .one b none, ?_, fun ho => ?_⟩
    · rw [← List.append_assoc]
      have e : bump (bump S l.length) l2.length = bump S (l ++ l2).length := by simp [bump, Nat.add_assoc]
      rw [← e]; exact h1
    · obtain ⟨rs, z, h3, h4, h5⟩ := h2 ho
      obtain ⟨d1, e1, o1, l1⟩ := (hv ho).one_toD
      obtain ⟨d2, e2, l2', k2⟩ := hla ho
      obtain ⟨d3, e3, l3, k3⟩ := hha ho
      obtain rfl := evs3 (E := E.push l) (At.ev_mono e1 l) (At.ev_mono e2 l) e3 h3
      obtain ⟨h6, d, rfl, hdo, h7⟩ := hf ho d1 d2 d3 z o1 l1 l2' l3 h4
      refine ⟨⟨hx, k2, k3, h6⟩, ?_⟩
      show RV _ _ (cutV P t (opnd tm x) (bndV tm 0 lo).v (bndV tm (lenI (opnd tm x)) hi).v).v
      rw [h7, ← push_push]
      exact .one0 h5 hdo
  split at hr
  · rename_i hk
    refine fin _ hr fun ho d1 d2 d3 z e1 l1 l2 l3 hz => ?_
    obtain ⟨s, kl, lv, kh, hv', e, h0, h1, h2, rfl⟩ := evF_inv (f := .scut) hz
    simp only [List.cons.injEq, and_true] at e
    obtain ⟨rfl, rfl, rfl⟩ := e
    have hu : P.underlying t = some .string := by
      have hk := nbeq hk
      unfold kindOf at hk
      split at hk
      · rename_i ti hti
        exact (hc.ti t ti hti).kind2 hk
      · cases hk
    rw [toD_lit l1, toD_lit l2]
    rw [toD_lit l1] at l3
    rw [toD_lit l3]
    exact ⟨⟨hu, h0, h1, h2⟩, _, rfl, rfl, rfl⟩
  · cases hti : cf.ti t with
    | none => simp only [hti] at hr; simp [run] at hr
    | some ti =>
      rcases he : ti.elem with _ | ⟨e, n, by_⟩
      · simp only [hti, he] at hr; simp [run] at hr
      · simp only [hti, he] at hr
        refine fin _ hr fun ho d1 d2 d3 z e1 l1 l2 l3 hz => ?_
        obtain ⟨s, xs, kl, lv, kh, hv', eq, hs', h0, h1, h2, rfl⟩ := evF_inv (f := .cut n) hz
        simp only [List.cons.injEq, and_true] at eq
        obtain ⟨rfl, rfl, rfl⟩ := eq
        obtain ⟨hel, -⟩ := (hc.ti t ti hti).elem e n by_ he
        rw [toD_lit l2, toD_lit l3]
        obtain ⟨q1, q2⟩ := cutV_sl (kl := kl) (kh := kh) hel l1 hs' h0 h1 h2
        refine ⟨q1, _, rfl, dvo_slv ((dvoss_all _).2 fun y hy => ?_), q2⟩
        simp only [dvo] at e1
        rw [dvoss_all] at e1
        exact e1 y (List.mem_of_mem_take (List.mem_of_mem_drop hy))
omit hc hm hs hg in
theorem fill_ok {pl : Nat → Option (Nat × Nat)} {size : Nat} {a : At} {m : BM} : ∀ (ks : List Nat) {vs : List SV} {as : List AV} {ov ov' : List (Nat × Nat × SV)} {cs : List AV}, ks.length = as.length → fillS pl size ks vs ov = some ov' → vs.length = as.length →
    (∀ (i : Nat) (v : SV) (x : AV), vs[i]? = some v → as[i]? = some x → RV E v x) → RB E a size m ov cs → ∃ cs', fillA pl cs (ks.zip as) = some cs' ∧ RB E a size m ov' cs'
  | [], vs, as, ov, ov', cs, hl, hf, hv, hr, hb => by
    simp only [fillS, Option.some.injEq] at hf
    subst hf
    exact ⟨cs, rfl, hb⟩
  | k :: ks, [], as, ov, ov', cs, hl, hf, hv, hr, hb => by
    simp only [List.length_nil] at hv
    rw [← hv] at hl
    simp at hl
  | k :: ks, v :: vs, [], ov, ov', cs, hl, hf, hv, hr, hb => by simp at hl
  | k :: ks, v :: vs, x :: as, ov, ov', cs, hl, hf, hv, hr, hb => by
    simp only [fillS] at hf
    cases hp : pl k with
    | none => rw [hp] at hf; cases hf
    | some q =>
      obtain ⟨o, n⟩ := q
      rw [hp] at hf
      simp only at hf
      split at hf
      · rename_i hcnd
        simp only [Bool.and_eq_true, decide_eq_true_eq] at hcnd
        obtain ⟨⟨h1, h2⟩, h3⟩ := hcnd
        have hx := hr 0 v x rfl rfl
        have hsz : (cellsL x).length = n := by rw [hx.szV]; exact nbeq h1
        have hlen := hb.len
        obtain ⟨cs', h4, h5⟩ := fill_ok ks (by simpa using hl) hf (by simpa using hv) (fun i v' x' h6 h7 => hr (i + 1) v' x' (by simpa using h6) (by simpa using h7)) (hb.wr hx hsz (hx.cellish h2) (by omega))
        refine ⟨cs', ?_, h5⟩
        simp only [List.zip_cons_cons, fillA, hp]
        rw [if_pos ⟨hsz, by omega, hx.cellish h2⟩]
        exact h4
      · cases hf
omit hm hs hg in
theorem plS_eq {t : TypeId} {i : TI} (hi : cf.ti t = some i) (ha : i.arr = none) (k : Nat) : plS i k = plc (flds P t)[k]? := by
  simp only [plS, ha, (hc.ti t i hi).flds k]
  cases i.flds[k]? with
  | none => rfl
  | some x => rfl
theorem p_build {t : TypeId} {ps : Array (Nat × Operand)} (hx : (ps.toList.all fun p => opOk p.2) = true) (hr : run Γ (sxP cf S g sl (.build t ps) K) E.ρ = some r) : PRun P tm st (.build t ps) Γ K S E on r := by
  simp only [sxP] at hr
  cases hi : cf.ti t with
  | none => simp only [hi] at hr; simp [run] at hr
  | some i =>
    have hti := hc.ti t i hi
    simp only [hi] at hr
    split at hr
    · rename_i hkd
      have hmap : (ps.toList.map fun p => opd sl p.2) = (ps.toList.map (·.2)).map (opd sl) := by simp
      rw [hmap] at hr
      obtain ⟨vs, hr, hl, hvs⟩ := useAll_run hm hs hg (by simpa [List.all_map] using hx) hr
      cases hf : fillS (plS i) i.size (ps.toList.map (·.1)) vs [] with
      | none => simp only [hf] at hr; simp [run] at hr
      | some ov =>
        simp only [hf] at hr
        refine PRun.here hr fun ho => ?_
        have hb0 : RB E (.c i.zero) i.size .z [] (i.zero.map cv) := ⟨_, [], .z hti.zlen hti.zok, AccR.nil E, rfl⟩
        obtain ⟨cs', h1, h2⟩ := fill_ok (ps.toList.map (·.1)) (as := (ps.toList.map (·.2)).map (opnd tm)) (by simp) hf (by simp [hl]) (hvs ho) hb0
        have hz : (ps.toList.map (·.1)).zip ((ps.toList.map (·.2)).map (opnd tm)) = partsA tm ps := by
          simp only [partsA, List.map_map]
          rw [List.zip_map']
          rfl
        rw [hz] at h1
        have hbd : (buildA P t (partsA tm ps)).ok ∧ (buildA P t (partsA tm ps)).v = .agg cs' := by
          unfold buildA
          rw [hti.zero]
          simp only
          cases ha : i.arr with
          | some y =>
            obtain ⟨m, e, n⟩ := y
            have hpl : plS i = fun k => some (k * n, n) := by funext k; simp [plS, ha]
            rw [hti.arr, ha]
            simp only
            rw [hpl] at h1
            rw [h1]
            exact ⟨trivial, rfl⟩
          | none =>
            have hpl : plS i = fun k => plc (flds P t)[k]? := funext fun k => plS_eq hc hi ha k
            rw [hti.arr, ha]
            simp only
            rw [hpl] at h1
            rw [h1]
            refine ⟨⟨?_, ?_⟩, rfl⟩
            · rw [List.all_eq_true]
              intro y hy
              obtain ⟨k, hk⟩ := List.getElem?_of_mem hy
              rw [hti.flds k] at hk
              cases hq : i.flds[k]? with
              | none => rw [hq] at hk; cases hk
              | some q => rw [hq] at hk; cases hk; rfl
            · simp only [ha, Option.isSome_none, Bool.false_or] at hkd
              exact hti.str (nbeq hkd)
        exact ⟨⟨hx, hbd.1⟩, by show RV E _ (buildA P t (partsA tm ps)).v; rw [hbd.2]; exact h2.agg⟩
    · simp [run] at hr
theorem p_len {c : Call} {x : Operand} (hcal : c.callee = .builtin .len) (harg : c.args.toList = [x]) (hx : opOk x = true) (hr : run Γ (sxP cf S g sl (.call c) K) E.ρ = some r) : PRun P tm st (.call c) Γ K S E on r := by
  simp only [sxP, hcal, harg] at hr
  obtain ⟨v, hr, hv⟩ := useV_run hm (opd_ok hm hs hx) hg hr
  have hkv : kv P tm st (.call c) = evCall P tm (.builtin .len) [x] c.argTypes.toList := by simp only [kv, ev, hcal, harg]
  have hty : ∀ k : Nat, lenK cf c.argTypes.toList = k → k ≠ 99 → ∃ t i, c.argTypes.toList = [t] ∧ cf.ti t = some i ∧ i.kind = k := by
    intro k hk hne
    unfold lenK at hk
    split at hk
    · rename_i t ht
      unfold kindOf at hk
      split at hk
      · rename_i i hi; exact ⟨t, i, ht, hi, hk⟩
      · exact absurd hk.symm hne
    · exact absurd hk.symm hne
  cases v <;> try (simp [run] at hr; done)
  · rename_i a o
    simp only at hr
    split at hr
    · rename_i hk
      obtain ⟨t, i, h1, h2, h3⟩ := hty 2 (nbeq hk) (by decide)
      refine PRun.emit1 hm.nv hg hr fun ho rs z hrs hz => ?_
      obtain ⟨d1, e1, o1, l1⟩ := (hv ho).one_toD
      obtain rfl := evs1 e1 hrs
      obtain ⟨s, e, rfl⟩ := evF_inv (f := .slen) hz
      simp only [List.cons.injEq, and_true] at e
      subst e
      rw [hkv, h1]
      have hu := (hc.ti t i h2).kind2 h3
      simp only [evCall, isLenB, (hv ho).lit e1, lenOf, lenTy, hu]
      exact ⟨⟨hx, trivial⟩, _, rfl, rfl, rfl⟩
    · split at hr
      · rename_i hk
        obtain ⟨t, i, h1, h2, h3⟩ := hty 3 (nbeq hk) (by decide)
        refine PRun.emit1 hm.nv hg hr fun ho rs z hrs hz => ?_
        obtain ⟨d1, e1, o1, l1⟩ := (hv ho).one_toD
        obtain rfl := evs1 e1 hrs
        obtain ⟨s, xs, e, rfl⟩ := evF_inv (f := .len) hz
        simp only [List.cons.injEq, and_true] at e
        subst e
        rw [hkv, h1]
        obtain ⟨e', hu⟩ := (hc.ti t i h2).kind3 h3
        have hlo : lenOf (opnd tm x) = some (xs.length, false) := by
          generalize opnd tm x = av at l1
          cases av <;> simp only [toD, Option.some.injEq, reduceCtorEq] at l1
          · subst l1; rfl
          · simp only [DV.sl.injEq] at l1; obtain ⟨-, rfl⟩ := l1; rfl
          · rename_i tk s' xs'
            cases xs' with
            | nil => simp only [slv, DV.sl.injEq] at l1; obtain ⟨-, rfl⟩ := l1; rfl
            | cons y ys => simp only [slv, DV.sl.injEq] at l1; obtain ⟨-, rfl⟩ := l1; rfl
        simp only [evCall, isLenB, hlo, lenTy, hu]
        exact ⟨⟨hx, trivial⟩, _, rfl, rfl, rfl⟩
      · simp [run] at hr
  · rename_i s rows
    simp only at hr
    split at hr
    · rename_i hk
      obtain ⟨t, i, h1, h2, h3⟩ := hty 3 (nbeq hk) (by decide)
      refine PRun.here hr fun ho => ?_
      obtain ⟨e', hu⟩ := (hc.ti t i h2).kind3 h3
      rw [hkv, h1]
      have h4 := hv ho
      generalize hxe : opnd tm x = av at h4
      cases h4 with
      | psl hl hl2 hvv =>
        simp only [evCall, isLenB, hxe, lenOf, lenTy, hu]
        refine ⟨⟨hx, trivial⟩, ?_⟩
        rw [← hl]
        exact .one0 rfl rfl
    · simp [run] at hr
theorem p_mm {c : Call} {x y : Operand} {mx : Bool} (hcal : c.callee = .builtin (if mx = true then .max else .min)) (harg : c.args.toList = [x, y]) (hx : opOk x = true) (hy : opOk y = true) (hr : run Γ (sxP cf S g sl (.call c) K) E.ρ = some r) : PRun P tm st (.call c) Γ K S E on r := by
  have _ := hc
  have hkv : kv P tm st (.call c) = evCall P tm c.callee [x, y] c.argTypes.toList := by simp only [kv, ev, harg]
  have hr' : run Γ (use1 S g (opd sl x) fun a _ => use1 S g (opd sl y) fun b _ => emit S g (.mm mx) [a, b] fun S r => K S (.one r none)) E.ρ = some r := by
    simp only [sxP, hcal, harg] at hr
    cases mx <;> exact hr
  clear hr
  obtain ⟨a, o, hr, hv⟩ := use1_run hm (opd_ok hm hs hx) hg hr'
  obtain ⟨b, o', hr, hu⟩ := use1_run hm (opd_ok hm hs hy) hg hr
  refine PRun.emit1 hm.nv hg hr fun ho rs z hrs hz => ?_
  obtain ⟨d1, e1, o1, l1⟩ := (hv ho).one_toD
  obtain ⟨d2, e2, o2, l2⟩ := (hu ho).one_toD
  obtain rfl := evs2 e1 e2 hrs
  obtain ⟨k, m, n, e, rfl⟩ := evF_inv (f := .mm mx) hz
  simp only [List.cons.injEq, and_true] at e
  obtain ⟨rfl, rfl⟩ := e
  rw [hkv, hcal]
  cases mx <;> simp only [if_true, Bool.false_eq_true, if_false, evCall, mmV, maxMin, (hv ho).lit e1, (hu ho).lit e2] <;> exact ⟨⟨hx, hy, trivial⟩, _, rfl, rfl, rfl⟩
end
end Go.AW

namespace Go.AW
open Go.RowKit
section
variable {P : Program} {cf : Cf} {C : Ctx} {E : En} {S : SS} {st : St} {sl : List (Nat × SE)} {tm : Tm} {Γ : Den} {r : Rs} {g : Option At} {on : Bool} {K : KV}

theorem mem_call {c : Call} {x : Operand} (h : x ∈ c.args.toList) : x ∈ (Op.call c).operands.toList := by
  simp only [Op.operands, Call.operands]
  cases c.callee <;> simp [h]
theorem sxP_run (hc : CfOk P cf) (hm : RM P C E S st) (hs : RTS E sl tm) (hg : gate E.ρ g = some on) {op : Op} (hx : op.operands.toList.all opOk = true) (hr : run Γ (sxP cf S g sl op K) E.ρ = some r) : PRun P tm st op Γ K S E on r := by
  have hmem : ∀ x, x ∈ op.operands.toList → opOk x = true := fun x h => List.all_eq_true.1 hx x h
  cases op <;> try (simp [sxP, run] at hr; done)
  case move x => exact p_move hm hs hg rfl (hmem x (by simp [Op.operands])) hr
  case assign x => exact p_move hm hs hg rfl (hmem x (by simp [Op.operands])) hr
  case nilCheck x => exact p_nilCheck hc hm hs hg (hmem x (by simp [Op.operands])) hr
  case binOp op t x y ty => exact p_binOp hc hm hs hg (hmem x (by simp [Op.operands])) (hmem y (by simp [Op.operands])) hr
  case unOp op t x => exact p_unOp hc hm hs hg (hmem x (by simp [Op.operands])) hr
  case fieldAddr s x f => exact p_fieldAddr hc hm hs hg (hmem x (by simp [Op.operands])) hr
  case field s x f => exact p_field hc hm hs hg (hmem x (by simp [Op.operands])) hr
  case indexAddr t x i => exact p_indexAddr hc hm hs hg (hmem x (by simp [Op.operands])) (hmem i (by simp [Op.operands])) hr
  case index t x i => exact p_index hc hm hs hg (hmem x (by simp [Op.operands])) (hmem i (by simp [Op.operands])) hr
  case extract x i => exact p_extract hm hs hg (hmem x (by simp [Op.operands])) hr
  case makeFunc f fs cs => exact p_makeFunc hm hs hg (List.all_eq_true.2 fun x h => hmem x (by simp [Op.operands]; exact .inl (by simpa using h))) (List.all_eq_true.2 fun x h => hmem x (by simp [Op.operands]; exact .inr (by simpa using h))) hr
  case makeInterface t x => exact p_makeInterface hc hm hs hg (hmem x (by simp [Op.operands])) hr
  case load t x => exact p_load hc hm hs hg (hmem x (by simp [Op.operands])) hr
  case build t ps => exact p_build hc hm hs hg (List.all_eq_true.2 fun x h => hmem x.2 (by simp only [Op.operands]; exact List.mem_map_of_mem h)) hr
  case slice t x lo hi mx =>
    cases mx with
    | some m => simp [sxP, run] at hr
    | none => exact p_slice hc hm hs hg (hmem x (by simp [Op.operands])) (fun y hy => hmem y (by simp [Op.operands, hy])) (fun y hy => hmem y (by simp [Op.operands, hy])) hr
  case call c =>
    have hr0 := hr
    simp only [sxP] at hr
    split at hr
    · rename_i x h1 h2
      exact p_len hc hm hs hg h1 h2 (hmem x (mem_call (by rw [h2]; simp))) hr0
    · rename_i x y h1 h2
      exact p_mm (mx := true) hc hm hs hg h1 h2 (hmem x (mem_call (by rw [h2]; simp))) (hmem y (mem_call (by rw [h2]; simp))) hr0
    · rename_i x y h1 h2
      exact p_mm (mx := false) hc hm hs hg h1 h2 (hmem x (mem_call (by rw [h2]; simp))) (hmem y (mem_call (by rw [h2]; simp))) hr0
    · simp [run] at hr
theorem find_ac (hm : RM P C E S st) {a : At} {w : Bool} {c : Option At} {x : Option At × At × Bool × At}
    (hf : S.ac.find? (fun y => eqA y.2.1 a && (y.2.2.1 == w) && (match y.1, c with | none, none => true | some p, some q => eqA p q | _, _ => false)) = some x) :
    x.1 = c ∧ x.2.1 = a ∧ x.2.2.1 = w ∧ AcOk E.ρ x := by
  obtain ⟨h1, h2⟩ := ac_find hm hf
  obtain ⟨p, a', w', k⟩ := x
  simp only [Bool.and_eq_true] at h2
  refine ⟨?_, eqA_eq h2.1.1, eq_of_beq h2.1.2, h1⟩
  have h3 := h2.2
  cases p with
  | none => cases c with
    | none => rfl
    | some q => cases h3
  | some p => cases c with
    | none => cases h3
    | some q => rw [eqA_eq h3]
theorem sideOk_ok (hm : RM P C E S st) {c : Option At} {a : At} {w : Bool} {x : Option At} (h : sideOk S g c a w x = true) (hg : gate E.ρ g = some true) (hcg : ∀ p, c = some p → p.ev E.ρ = some [.lit (.bool true)]) (ha : a.ev E.ρ = some [.lit (.bool w)]) :
    ∀ p, x = some p → p.ev E.ρ = some [.lit (.bool true)] := by
  simp only [sideOk, Bool.or_eq_true] at h
  rcases h with h | h
  · exact impl_ok hm 50 h hg
  · split at h
    · rename_i p a' w' k hf
      obtain ⟨h1, h2, h3, h4⟩ := find_ac hm hf
      simp only at h1 h2 h3
      subst h1; subst h2; subst h3
      have hk : k.ev E.ρ = some [.lit (.bool true)] := by
        cases p with
        | none =>
          obtain ⟨b, e1, e2⟩ := h4
          rw [ha] at e1
          cases e1
          simpa using e2
        | some p =>
          obtain ⟨d, e1, e2, e3⟩ := h4
          rw [hcg p rfl] at e1
          cases e1
          obtain ⟨b, e4, e5⟩ := e3 rfl
          rw [ha] at e4
          cases e4
          simpa using e5
      exact impl_ok hm 50 h (by simp [gate, hk])
    · cases h
theorem RSE.rv {e : SE} {av : AV} (h : RSE E e av) (hg : ∀ p, e.g = some p → p.ev E.ρ = some [.lit (.bool true)]) : RVd E e.v av := by
  obtain ⟨g, v⟩ := e
  cases g with
  | none => exact h
  | some a =>
    obtain ⟨b, h1, h2, -⟩ := h
    rw [hg a rfl] at h1
    cases h1
    exact h2 rfl
theorem RSE.of_opd (hm : RM P C E S st) (hs : RTS E sl tm) {x : Operand} (hx : opOk x = true) {a : At} {o : Option GK} (h : (opd sl x).v = .one a o) : RSE E (opd sl x) (opnd tm x) := by
  rcases opd_ok hm hs hx with e | e
  · rw [e] at h; cases h
  · exact e
theorem sxPick_run (hm : RM P C E S st) (hs : RTS E sl tm) (hg : gate E.ρ g = some on) {c x y : Operand} (hc : opOk c = true) (hx : opOk x = true) (hy : opOk y = true) (hr : run Γ (sxPick S g (opd sl c) (opd sl x) (opd sl y) K) E.ρ = some r) : PRun P tm st (.pick c x y) Γ K S E on r := by
  unfold sxPick at hr
  have hcu : ∀ (hr : run Γ (use1 S g (opd sl c) fun a _ => match asB a with
      | some true => useV S g (opd sl x) fun v => K S v
      | some false => useV S g (opd sl y) fun v => K S v
      | none => match (opd sl x).v, (opd sl y).v with
        | .one u _, .one v _ => if (sideOk S g (opd sl c).g a true (opd sl x).g && sideOk S g (opd sl c).g a false (opd sl y).g) = true then emit S g .pick [a, kn1 S u, kn1 S v] fun S r => K S (.one r none) else .err 31 []
        | _, _ => .err 32 []) E.ρ = some r), on = true → ∀ p, (opd sl c).g = some p → p.ev E.ρ = some [.lit (.bool true)] := by
    intro hr ho
    unfold use1 useV at hr
    generalize opd sl c = e at hr
    obtain ⟨ge, v⟩ := e
    have : impl S 50 g ge = true := by
      cases v <;> simp only at hr <;> first | (simp [run] at hr; done) | (split at hr <;> first | assumption | (simp [run] at hr; done))
    subst ho
    exact impl_ok hm 50 this hg
  have hcg := hcu hr
  obtain ⟨a, o, hr, hv⟩ := use1_run hm (opd_ok hm hs hc) hg hr
  have hkv : kv P tm st (.pick c x y) = ev P tm (.pick c x y) := rfl
  split at hr
  · rename_i hb
    obtain ⟨v, hr, hu⟩ := useV_run hm (opd_ok hm hs hx) hg hr
    refine PRun.here hr fun ho => ?_
    have ec := (hv ho).lit (asB_ev hb E.ρ)
    rw [hkv]
    simp only [ev, ec, if_true]
    exact ⟨⟨hx, hy, hc⟩, hu ho⟩
  · rename_i hb
    obtain ⟨v, hr, hu⟩ := useV_run hm (opd_ok hm hs hy) hg hr
    refine PRun.here hr fun ho => ?_
    have ec := (hv ho).lit (asB_ev hb E.ρ)
    rw [hkv]
    simp only [ev, ec, Bool.false_eq_true, if_false]
    exact ⟨⟨hx, hy, hc⟩, hu ho⟩
  · split at hr
    · rename_i u ou w ow hxv hyv
      split at hr
      · rename_i hside
        simp only [Bool.and_eq_true] at hside
        obtain ⟨l, b, h1, h2⟩ := emit_run hr hm.nv hg
        refine ⟨l, _, h1, fun ho => ?_⟩
        obtain ⟨rs, z, h3, h4, h5⟩ := h2 ho
        have hgt : gate E.ρ g = some true := by rw [hg, ho]
        obtain ⟨d1, e1, o1, l1⟩ := (hv ho).one_toD
        obtain ⟨bb, y1, y2, v, e, hsel, rfl⟩ := evF_inv (f := .pick) h4
        have hev : a.ev E.ρ = some [.lit (.bool bb)] ∧ (kn1 S u).ev E.ρ = some y1 ∧ (kn1 S w).ev E.ρ = some y2 := by
          subst e
          simp only [evs] at h3
          cases q1 : a.ev E.ρ with
          | none => rw [q1] at h3; cases h3
          | some r1 =>
            cases q2 : (kn1 S u).ev E.ρ with
            | none => rw [q1, q2] at h3; cases h3
            | some r2 =>
              cases q3 : (kn1 S w).ev E.ρ with
              | none => rw [q1, q2, q3] at h3; cases h3
              | some r3 =>
                rw [q1, q2, q3] at h3
                simp only [Option.some.injEq, List.cons.injEq, and_true] at h3
                obtain ⟨rfl, rfl, rfl⟩ := h3
                exact ⟨rfl, rfl, rfl⟩
        obtain ⟨ea, eu, ew⟩ := hev
        have ec := (hv ho).lit ea
        rw [PGood, hkv]
        simp only [ev, ec]
        refine ⟨⟨hx, hy, hc⟩, ?_⟩
        cases bb with
        | true =>
          simp only [if_true] at hsel ⊢
          subst hsel
          have hrs := RSE.of_opd hm hs hx hxv
          have hrv := hrs.rv (sideOk_ok hm hside.1 hgt (hcg ho) ea)
          rw [hxv] at hrv
          have hrv : RV E (.one u ou) (opnd tm x) := by
            rcases hrv with ⟨k, hk⟩ | hrv
            · cases hk
            · exact hrv
          rw [hrv.lit (kn1_back hm eu)]
          have hd : dvo (.lit v) = true := by
            obtain ⟨d, q1, q2, -⟩ := hrv.one_toD
            rw [kn1_back hm eu] at q1
            cases q1; exact q2
          exact .one0 h5 hd
        | false =>
          simp only [Bool.false_eq_true, if_false] at hsel ⊢
          subst hsel
          have hrs := RSE.of_opd hm hs hy hyv
          have hrv := hrs.rv (sideOk_ok hm hside.2 hgt (hcg ho) ea)
          rw [hyv] at hrv
          have hrv : RV E (.one w ow) (opnd tm y) := by
            rcases hrv with ⟨k, hk⟩ | hrv
            · cases hk
            · exact hrv
          rw [hrv.lit (kn1_back hm ew)]
          have hd : dvo (.lit v) = true := by
            obtain ⟨d, q1, q2, -⟩ := hrv.one_toD
            rw [kn1_back hm ew] at q1
            cases q1; exact q2
          exact .one0 h5 hd
      · simp [run] at hr
    · simp [run] at hr
end
end Go.AW

namespace Go.AW
open Go.RowKit
section
variable {P : Program} {C : Ctx} {E : En} {S : SS} {st : St}
theorem RM.addKn (h : RM P C E S st) {i : Nat} {b : Bool} (hi : E.ρ[i]? = some [.lit (.bool b)]) : RM P C E { S with kn := (i, b) :: S.kn } st := by
  refine { h with kn := ?_ }
  intro j c hj
  rcases List.mem_cons.1 hj with e | e
  · cases e; exact hi
  · exact h.kn j c e
theorem RM.addAc (h : RM P C E S st) {x : Option At × At × Bool × At} (hx : AcOk E.ρ x) : RM P C E { S with ac := x :: S.ac } st := by
  refine { h with ac := ?_ }
  intro y hy
  rcases List.mem_cons.1 hy with rfl | e
  · exact hx
  · exact h.ac y e
theorem AcOk_some {ρ : List Row} {p a k : At} {w c : Bool} (h1 : p.ev ρ = some [.lit (.bool c)]) (h2 : c = false → k.ev ρ = some [.lit (.bool false)]) (h3 : c = true → ∃ b, a.ev ρ = some [.lit (.bool b)] ∧ k.ev ρ = some [.lit (.bool (b == w))]) : AcOk ρ (some p, a, w, k) := ⟨c, h1, h2, h3⟩
/-- A state that knows more. -/
structure Kn (S S' : SS) : Prop where
  nv : S'.nv = S.nv
  ob : S'.ob = S.ob
  nw : S'.nw = S.nw
  nb : S'.nb = S.nb
  gr : S'.gr = S.gr
  ac : S'.ac = S.ac
  org : S'.org = S.org
theorem Kn.refl (S : SS) : Kn S S := ⟨rfl, rfl, rfl, rfl, rfl, rfl, rfl⟩
theorem Kn.trans {a b c : SS} (h : Kn a b) (h' : Kn b c) : Kn a c := ⟨h'.nv.trans h.nv, h'.ob.trans h.ob, h'.nw.trans h.nw, h'.nb.trans h.nb, h'.gr.trans h.gr, h'.ac.trans h.ac, h'.org.trans h.org⟩
theorem learn_ok : ∀ (n : Nat) {S : SS} {c : At} {b : Bool}, RM P C E S st → c.ev E.ρ = some [.lit (.bool b)] → RM P C E (learn n S c b) st ∧ Kn S (learn n S c b)
  | 0, S, c, b, h, hc => ⟨h, Kn.refl S⟩
  | n + 1, S, c, b, h, hc => by
    simp only [learn]
    split
    · rename_i i hk
      have hi : E.ρ[i]? = some [.lit (.bool b)] := by
        have := kn1_ev h hc
        rw [hk] at this; exact this
      have h1 := h.addKn hi
      have k1 : Kn S { S with kn := (i, b) :: S.kn } := ⟨rfl, rfl, rfl, rfl, rfl, rfl, rfl⟩
      split
      · rename_i a w k hf
        obtain ⟨hx, hp⟩ := ac_find h1 hf
        split
        · exact ⟨h1, k1⟩
        · obtain ⟨ba, e1, e2⟩ := hx
          have : k = c := eqA_eq hp
          subst this
          rw [hc] at e2
          simp only [Option.some.injEq, List.cons.injEq, DV.lit.injEq, Value.bool.injEq, and_true] at e2
          have hba : ba = if b = true then w else !w := by subst e2; cases ba <;> cases w <;> rfl
          obtain ⟨h2, k2⟩ := learn_ok n h1 (c := a) (b := if b = true then w else !w) (by rw [← hba]; exact e1)
          exact ⟨h2, k1.trans k2⟩
      · rename_i p a w k hf
        obtain ⟨hx, hp⟩ := ac_find h1 hf
        split
        · rename_i hb
          subst hb
          obtain ⟨d, e1, e2, e3⟩ := hx
          have : k = c := eqA_eq hp
          subst this
          have hd : d = true := by
            cases d with
            | true => rfl
            | false => have := e2 rfl; simp only at this; rw [hc] at this; cases this
          subst hd
          obtain ⟨ba, e4, e5⟩ := e3 rfl
          simp only at e5
          rw [hc] at e5
          simp only [Option.some.injEq, List.cons.injEq, DV.lit.injEq, Value.bool.injEq, and_true] at e5
          have hba : ba = w := eq_of_beq e5.symm
          obtain ⟨h2, k2⟩ := learn_ok n h1 e1
          obtain ⟨h3, k3⟩ := learn_ok n h2 (c := a) (b := w) (by rw [← hba]; exact e4)
          exact ⟨h3, k1.trans (k2.trans k3)⟩
        · exact ⟨h1, k1⟩
      · exact ⟨h1, k1⟩
    · exact ⟨h, Kn.refl S⟩
theorem parts_ok (h : RM P C E S st) : ∀ (n : Nat) {c : At} {b : Bool}, c.ev E.ρ = some [.lit (.bool b)] →
    ((∀ x ∈ parts S n c, x.1.ev E.ρ = some [.lit (.bool x.2)]) → b = true) ∧ ((∃ x ∈ parts S n c, x.1.ev E.ρ = some [.lit (.bool (!x.2))]) → b = false)
  | 0, c, b, hc => by
    simp only [parts, List.mem_singleton, forall_eq, exists_eq_left]
    constructor
    · intro h1; rw [hc] at h1; cases h1; rfl
    · intro h1; rw [hc] at h1; cases h1; rfl
  | n + 1, c, b, hc => by
    simp only [parts]
    split
    · rename_i a w k hf
      obtain ⟨hx, hp⟩ := ac_find h hf
      obtain ⟨ba, e1, e2⟩ := hx
      have : k = c := eqA_eq hp
      subst this
      simp only at e1 e2
      rw [hc] at e2
      simp only [Option.some.injEq, List.cons.injEq, DV.lit.injEq, Value.bool.injEq, and_true] at e2
      subst e2
      simp only [List.mem_singleton, forall_eq, exists_eq_left]
      constructor
      · intro h1; rw [e1] at h1; cases h1; simp
      · intro h1; rw [e1] at h1; cases h1; simp
    · rename_i p a w k hf
      obtain ⟨hx, hp⟩ := ac_find h hf
      obtain ⟨d, e1, e2, e3⟩ := hx
      have : k = c := eqA_eq hp
      subst this
      simp only at e1 e2 e3
      obtain ⟨i1, i2⟩ := parts_ok h n e1
      constructor
      · intro h1
        have hd := i1 fun x hx => h1 x (List.mem_append.2 (.inl hx))
        obtain ⟨ba, e4, e5⟩ := e3 hd
        rw [hc] at e5
        simp only [Option.some.injEq, List.cons.injEq, DV.lit.injEq, Value.bool.injEq, and_true] at e5
        have := h1 (a, w) (List.mem_append.2 (.inr (List.mem_singleton.2 rfl)))
        simp only at this
        rw [e4] at this
        cases this
        rw [e5]; simp
      · rintro ⟨x, hx, hxe⟩
        rcases List.mem_append.1 hx with hx | hx
        · have hd := i2 ⟨x, hx, hxe⟩
          have := e2 hd
          rw [hc] at this
          cases this; rfl
        · rw [List.mem_singleton] at hx
          subst hx
          simp only at hxe
          cases d with
          | false => have := e2 rfl; rw [hc] at this; cases this; rfl
          | true =>
            obtain ⟨ba, e4, e5⟩ := e3 rfl
            rw [hc] at e5
            simp only [Option.some.injEq, List.cons.injEq, DV.lit.injEq, Value.bool.injEq, and_true] at e5
            rw [e4] at hxe
            cases hxe
            rw [e5]; simp
    · simp only [List.mem_singleton, forall_eq, exists_eq_left]
      constructor
      · intro h1; rw [hc] at h1; cases h1; rfl
      · intro h1; rw [hc] at h1; cases h1; rfl
theorem ite_run {Γ : Den} {r : Rs} {a : At} {x y : Tr} {ρ : List Row} (hr : run Γ (.ite a x y) ρ = some r) : ∃ b, a.ev ρ = some [.lit (.bool b)] ∧ (b = true → run Γ x ρ = some r) ∧ (b = false → run Γ y ρ = some r) := by
  simp only [run] at hr
  split at hr
  · rename_i b e
    refine ⟨b, e, fun hb => ?_, fun hb => ?_⟩
    · rw [if_pos hb] at hr; exact hr
    · rw [if_neg (by rw [hb]; decide)] at hr; exact hr
  · cases hr
theorem splitC_run {Γ : Den} {r : Rs} {yes no : SS → Tr} : ∀ (l : List (At × Bool)) {S : SS}, RM P C E S st → run Γ (splitC yes no l S) E.ρ = some r →
    ∃ S', RM P C E S' st ∧ Kn S S' ∧ ((run Γ (yes S') E.ρ = some r ∧ ∀ x ∈ l, x.1.ev E.ρ = some [.lit (.bool x.2)]) ∨ (run Γ (no S') E.ρ = some r ∧ ∃ x ∈ l, x.1.ev E.ρ = some [.lit (.bool (!x.2))]))
  | [], S, h, hr => ⟨S, h, Kn.refl S, .inl ⟨hr, by simp⟩⟩
  | (c, w) :: l, S, h, hr => by
    simp only [splitC] at hr
    have yesC : ∀ {S1 : SS}, RM P C E S1 st → Kn S S1 → c.ev E.ρ = some [.lit (.bool w)] → run Γ (splitC yes no l S1) E.ρ = some r →
        ∃ S', RM P C E S' st ∧ Kn S S' ∧ ((run Γ (yes S') E.ρ = some r ∧ ∀ x ∈ (c, w) :: l, x.1.ev E.ρ = some [.lit (.bool x.2)]) ∨ (run Γ (no S') E.ρ = some r ∧ ∃ x ∈ (c, w) :: l, x.1.ev E.ρ = some [.lit (.bool (!x.2))])) := by
      intro S1 h1 k1 hcw hr1
      obtain ⟨S', h2, k2, h3⟩ := splitC_run l h1 hr1
      refine ⟨S', h2, k1.trans k2, h3.imp (fun ⟨q1, q2⟩ => ⟨q1, fun x hx => ?_⟩) (fun ⟨q1, x, hx, q2⟩ => ⟨q1, x, List.mem_cons_of_mem _ hx, q2⟩)⟩
      rcases List.mem_cons.1 hx with rfl | hx
      · exact hcw
      · exact q2 x hx
    have noC : ∀ {S1 : SS}, RM P C E S1 st → Kn S S1 → c.ev E.ρ = some [.lit (.bool (!w))] → run Γ (no S1) E.ρ = some r →
        ∃ S', RM P C E S' st ∧ Kn S S' ∧ ((run Γ (yes S') E.ρ = some r ∧ ∀ x ∈ (c, w) :: l, x.1.ev E.ρ = some [.lit (.bool x.2)]) ∨ (run Γ (no S') E.ρ = some r ∧ ∃ x ∈ (c, w) :: l, x.1.ev E.ρ = some [.lit (.bool (!x.2))])) := by
      intro S1 h1 k1 hcw hr1
      exact ⟨S1, h1, k1, .inr ⟨hr1, (c, w), List.mem_cons_self .., hcw⟩⟩
    split at hr
    · rename_i i hk
      split at hr
      · rename_i hw
        obtain ⟨b, e, h1, h2⟩ := ite_run hr
        have hcb := kn1_back h (by rw [hk]; exact e)
        cases b with
        | true =>
          obtain ⟨h3, k3⟩ := learn_ok 20 h hcb
          exact yesC h3 k3 (by rw [hw]; exact hcb) (h1 rfl)
        | false =>
          obtain ⟨h3, k3⟩ := learn_ok 20 h hcb
          exact noC h3 k3 (by rw [hw]; exact hcb) (h2 rfl)
      · rename_i hw
        have hw' : w = false := by simpa using hw
        obtain ⟨b, e, h1, h2⟩ := ite_run hr
        have hcb := kn1_back h (by rw [hk]; exact e)
        cases b with
        | true =>
          obtain ⟨h3, k3⟩ := learn_ok 20 h hcb
          exact noC h3 k3 (by rw [hw']; exact hcb) (h1 rfl)
        | false =>
          obtain ⟨h3, k3⟩ := learn_ok 20 h hcb
          exact yesC h3 k3 (by rw [hw']; exact hcb) (h2 rfl)
    · split at hr
      · rename_i b hb
        have hcb := kn1_back h (asB_ev hb E.ρ)
        split at hr
        · rename_i hbw
          exact yesC h (Kn.refl S) (by rw [← eq_of_beq hbw]; exact hcb) hr
        · rename_i hbw
          have : b = !w := by cases b <;> cases w <;> simp_all
          exact noC h (Kn.refl S) (by rw [← this]; exact hcb) hr
      · simp [run] at hr
-- guards
/-- What a guard has come to. -/
def GdOk (ρ : List Row) (v : Option Bool) : Gd → Prop
  | .yes => v = some true
  | .no => v = some false
  | .at a => ∃ b, a.ev ρ = some [.lit (.bool b)] ∧ v = some b
/-- States that differ in what is known of guards alone. -/
structure Kg (S S' : SS) (k : Nat) : Prop where
  nv : S'.nv = S.nv + k
  ob : S'.ob = S.ob
  nw : S'.nw = S.nw
  nb : S'.nb = S.nb
  gr : S'.gr = S.gr
theorem act_run {Γ : Den} {r : Rs} {g : Option At} {a : At} {want : Bool} {K : SS → Gd → Tr} {v : Option Bool} (h : RM P C E S st)
    (hv : match g with
      | none => ∀ b, a.ev E.ρ = some [.lit (.bool b)] → v = some (b == want)
      | some p => ∃ c, p.ev E.ρ = some [.lit (.bool c)] ∧ (c = false → v = some false) ∧ (c = true → ∀ b, a.ev E.ρ = some [.lit (.bool b)] → v = some (b == want)))
    (hr : run Γ (sxG.act S g a want K) E.ρ = some r) : ∃ l S' gd, run Γ (K S' gd) (E.ρ ++ l) = some r ∧ RM P C (E.push l) S' st ∧ Kg S S' l.length ∧ GdOk (E.ρ ++ l) v gd := by
  have here : ∀ {gd : Gd}, run Γ (K S gd) E.ρ = some r → GdOk E.ρ v gd → ∃ l S' gd, run Γ (K S' gd) (E.ρ ++ l) = some r ∧ RM P C (E.push l) S' st ∧ Kg S S' l.length ∧ GdOk (E.ρ ++ l) v gd := by
    intro gd h1 h2
    exact ⟨[], S, gd, by rw [List.append_nil]; exact h1, h.push [], ⟨rfl, rfl, rfl, rfl, rfl⟩, by rw [List.append_nil]; exact h2⟩
  unfold sxG.act at hr
  cases hb : asB a with
  | some b =>
    rw [hb] at hr
    have ha := asB_ev hb E.ρ
    simp only at hr
    split at hr
    · rename_i hbw
      cases g with
      | none => exact here hr (by simp only [GdOk]; rw [hv b ha, hbw])
      | some p =>
        obtain ⟨c, h1, h2, h3⟩ := hv
        refine here hr ⟨c, h1, ?_⟩
        cases c with
        | true => rw [h3 rfl b ha, hbw]
        | false => exact h2 rfl
    · rename_i hbw
      have hbw' : (b == want) = false := by simpa using hbw
      cases g with
      | none => exact here hr (by simp only [GdOk]; rw [hv b ha, hbw'])
      | some p =>
        obtain ⟨c, h1, h2, h3⟩ := hv
        refine here hr ?_
        simp only [GdOk]
        cases c with
        | true => rw [h3 rfl b ha, hbw']
        | false => exact h2 rfl
  | none =>
    rw [hb] at hr
    simp only at hr
    split at hr
    · rename_i p' a' w' k hf
      obtain ⟨e1, e2, e3, hx⟩ := find_ac h hf
      simp only at e1 e2 e3
      subst e1; subst e2; subst e3
      have hk : ∃ b, k.ev E.ρ = some [.lit (.bool b)] ∧ v = some b := by
        cases p' with
        | none =>
          obtain ⟨b, q1, q2⟩ := hx
          exact ⟨_, q2, hv b q1⟩
        | some p =>
          obtain ⟨c, q1, q2, q3⟩ := hv
          obtain ⟨d, q4, q5, q6⟩ := hx
          simp only at q4 q5 q6
          rw [q1] at q4
          cases q4
          cases c with
          | false => exact ⟨false, q5 rfl, q2 rfl⟩
          | true =>
            obtain ⟨b, q7, q8⟩ := q6 rfl
            exact ⟨_, q8, q3 rfl b q7⟩
      obtain ⟨b, hk1, hk2⟩ := hk
      split at hr
      · rename_i hkb
        have := asB_ev hkb E.ρ
        rw [kn1_ev h hk1] at this
        cases this
        exact here hr hk2
      · rename_i hkb
        have := asB_ev hkb E.ρ
        rw [kn1_ev h hk1] at this
        cases this
        exact here hr hk2
      · exact here hr ⟨b, hk1, hk2⟩
    · have fin : ∀ (f : Fo) (as : List At), run Γ (emit S none f as fun S r => K { S with ac := (g, a, want, r) :: S.ac } (.at r)) E.ρ = some r →
          (∀ rs x, evs E.ρ as = some rs → evF f rs = some x → ∃ b, x = [.lit (.bool b)] ∧ v = some b ∧ ∀ (ρ' : List Row) (k : At), (∃ l, ρ' = E.ρ ++ l) → k.ev ρ' = some x → AcOk ρ' (g, a, want, k)) →
          ∃ l S' gd, run Γ (K S' gd) (E.ρ ++ l) = some r ∧ RM P C (E.push l) S' st ∧ Kg S S' l.length ∧ GdOk (E.ρ ++ l) v gd := by
        intro f as hr hf
        obtain ⟨l, k, h1, h2⟩ := emit_run hr h.nv rfl
        obtain ⟨rs, x, h3, h4, h5⟩ := h2 rfl
        obtain ⟨b, rfl, h6, h7⟩ := hf rs x h3 h4
        exact ⟨l, _, _, h1, (h.push l).addAc (h7 _ k ⟨l, rfl⟩ h5), ⟨rfl, rfl, rfl, rfl, rfl⟩, b, h5, h6⟩
      cases g with
      | none =>
        cases want with
        | true =>
          refine fin _ _ hr fun rs x h1 h2 => ?_
          obtain ⟨b, e, rfl⟩ := evF_inv (f := .asb) h2
          subst e
          have ha : a.ev E.ρ = some [.lit (.bool b)] := by
            simp only [evs] at h1
            cases q : a.ev E.ρ with
            | none => rw [q] at h1; cases h1
            | some y => rw [q] at h1; simp only [Option.some.injEq, List.cons.injEq, and_true] at h1; rw [h1]
          refine ⟨b, rfl, by rw [hv b ha]; simp, fun ρ' k ⟨l, hl⟩ hk => ⟨b, by rw [hl]; exact At.ev_mono ha l, by simpa using hk⟩⟩
        | false =>
          refine fin _ _ hr fun rs x h1 h2 => ?_
          obtain ⟨b, e, rfl⟩ := evF_inv (f := .not) h2
          subst e
          have ha : a.ev E.ρ = some [.lit (.bool b)] := by
            simp only [evs] at h1
            cases q : a.ev E.ρ with
            | none => rw [q] at h1; cases h1
            | some y => rw [q] at h1; simp only [Option.some.injEq, List.cons.injEq, and_true] at h1; rw [h1]
          refine ⟨!b, rfl, by rw [hv b ha]; simp, fun ρ' k ⟨l, hl⟩ hk => ⟨b, by rw [hl]; exact At.ev_mono ha l, by simpa using hk⟩⟩
      | some p =>
        obtain ⟨c, hp, hv1, hv2⟩ := hv
        have hpa : ∀ rs, evs E.ρ [p, a] = some rs → ∃ y, a.ev E.ρ = some y ∧ rs = [[.lit (.bool c)], y] := by
          intro rs h1
          simp only [evs, hp] at h1
          cases q : a.ev E.ρ with
          | none => rw [q] at h1; cases h1
          | some y => rw [q] at h1; simp only [Option.some.injEq] at h1; exact ⟨y, rfl, h1.symm⟩
        cases want with
        | true =>
          refine fin _ _ hr fun rs x h1 h2 => ?_
          obtain ⟨y, hy, rfl⟩ := hpa rs h1
          obtain ⟨gb, ry, e, h3⟩ := evF_inv (f := .and) h2
          simp only [List.cons.injEq, DV.lit.injEq, Value.bool.injEq, and_true] at e
          obtain ⟨rfl, rfl⟩ := e
          rcases h3 with ⟨rfl, rfl⟩ | ⟨rfl, b, rfl, rfl⟩
          · exact ⟨false, rfl, hv1 rfl, fun ρ' k ⟨l, hl⟩ hk => AcOk_some (c := false) (by rw [hl]; exact At.ev_mono hp l) (fun _ => hk) (fun e => by cases e)⟩
          · exact ⟨b, rfl, by rw [hv2 rfl b hy]; simp, fun ρ' k ⟨l, hl⟩ hk => AcOk_some (c := true) (by rw [hl]; exact At.ev_mono hp l) (fun e => by cases e) (fun _ => ⟨b, by rw [hl]; exact At.ev_mono hy l, by simpa using hk⟩)⟩
        | false =>
          refine fin _ _ hr fun rs x h1 h2 => ?_
          obtain ⟨y, hy, rfl⟩ := hpa rs h1
          obtain ⟨gb, ry, e, h3⟩ := evF_inv (f := .andn) h2
          simp only [List.cons.injEq, DV.lit.injEq, Value.bool.injEq, and_true] at e
          obtain ⟨rfl, rfl⟩ := e
          rcases h3 with ⟨rfl, rfl⟩ | ⟨rfl, b, rfl, rfl⟩
          · exact ⟨false, rfl, hv1 rfl, fun ρ' k ⟨l, hl⟩ hk => AcOk_some (c := false) (by rw [hl]; exact At.ev_mono hp l) (fun _ => hk) (fun e => by cases e)⟩
          · exact ⟨!b, rfl, by rw [hv2 rfl b hy]; simp, fun ρ' k ⟨l, hl⟩ hk => AcOk_some (c := true) (by rw [hl]; exact At.ev_mono hp l) (fun e => by cases e) (fun _ => ⟨b, by rw [hl]; exact At.ev_mono hy l, by simpa using hk⟩)⟩
theorem gdec_at {ops : List Oper} {tm : Tm} {j : Nat} {want : Bool} {o : Oper} {d : Nat} (h1 : ops[j]? = some o) (h2 : o.dst = some d) : gdec ops tm (some (j, want)) = match tm d with
      | .d (.lit (.bool b)) => some (b == want)
      | .d (.lit (.tuple _)) => some false
      | _ => none := by
  simp only [gdec, h1, Option.bind_some, h2]
  rfl
theorem RV.un_inv {E : En} {av : AV} (h : RV E .un av) : av = undefAV := by cases h; rfl
theorem sxG_run {Γ : Den} {r : Rs} {ops : List Oper} {sl : List (Nat × SE)} {tm : Tm} {gd : Option (Nat × Bool)} {K : SS → Gd → Tr} (h : RM P C E S st) (hs : RTS E sl tm) (hr : run Γ (sxG S ops sl gd K) E.ρ = some r) :
    ∃ l S' q, run Γ (K S' q) (E.ρ ++ l) = some r ∧ RM P C (E.push l) S' st ∧ Kg S S' l.length ∧ GdOk (E.ρ ++ l) (gdec ops tm gd) q := by
  have here : ∀ {q : Gd}, run Γ (K S q) E.ρ = some r → GdOk E.ρ (gdec ops tm gd) q → ∃ l S' q, run Γ (K S' q) (E.ρ ++ l) = some r ∧ RM P C (E.push l) S' st ∧ Kg S S' l.length ∧ GdOk (E.ρ ++ l) (gdec ops tm gd) q := by
    intro gd h1 h2
    exact ⟨[], S, gd, by rw [List.append_nil]; exact h1, h.push [], ⟨rfl, rfl, rfl, rfl, rfl⟩, by rw [List.append_nil]; exact h2⟩
  cases gd with
  | none => exact here hr rfl
  | some p =>
    obtain ⟨j, want⟩ := p
    simp only [sxG] at hr
    cases hj : ops[j]? with
    | none => simp only [hj] at hr; simp [run] at hr
    | some o =>
      cases hd : o.dst with
      | none => simp only [hj, hd] at hr; simp [run] at hr
      | some d =>
        cases hl : lk d sl with
        | none => simp only [hj, hd, hl] at hr; simp [run] at hr
        | some e =>
          simp only [hj, hd, hl] at hr
          have he := hs d e hl
          have hgd := gdec_at (tm := tm) (want := want) hj hd
          obtain ⟨ge, v⟩ := e
          cases v <;> simp only at hr <;> try (simp [run] at hr; done)
          · rename_i a oa
            have hval : RVd E (.one a oa) (tm d) → ∀ b, (kn1 S a).ev E.ρ = some [.lit (.bool b)] → gdec ops tm (some (j, want)) = some (b == want) := by
              intro hv b hb
              rcases hv with ⟨k, e⟩ | hv
              · cases e
              · rw [hgd, hv.lit (kn1_back h hb)]
            cases ge with
            | none => exact act_run h (fun b hb => hval he b hb) hr
            | some p =>
              obtain ⟨c, h1, h2, h3⟩ := he
              have h1' := kn1_ev h h1
              have hund : c = false → gdec ops tm (some (j, want)) = some false := fun hc => by
                rw [hgd, h3 hc]; rfl
              simp only [Option.bind_some] at hr
              split at hr
              · rename_i hb
                have := asB_ev hb E.ρ
                rw [h1'] at this
                cases this
                exact here hr (hund rfl)
              · rename_i hb
                have := asB_ev hb E.ρ
                rw [h1'] at this
                cases this
                exact act_run h (fun b hb => hval (h2 rfl) b hb) hr
              · exact act_run (g := some (kn1 S p)) (a := kn1 S a) (want := want) h ⟨c, h1', hund, fun hc b hb => hval (h2 hc) b hb⟩ hr
          · have hu : tm d = undefAV := by
              cases ge with
              | none =>
                rcases he with ⟨k, e⟩ | he
                · cases e
                · exact he.un_inv
              | some p =>
                obtain ⟨c, h1, h2, h3⟩ := he
                cases c with
                | false => exact h3 rfl
                | true =>
                  rcases h2 rfl with ⟨k, e⟩ | he
                  · cases e
                  · exact he.un_inv
            exact here hr (by simp only [GdOk]; rw [hgd, hu]; rfl)
end
end Go.AW

namespace Go.AW
open Go.RowKit
section
variable {P : Program} {C : Ctx} {E : En} {S : SS} {st : St}
theorem setAt_get {α : Type} : ∀ (l : List α) (n : Nat) (y : α) (i : Nat), (setAt l n y)[i]? = if i = n ∧ n < l.length then some y else l[i]?
  | [], n, y, i => by simp [setAt]
  | x :: l, 0, y, i => by
    cases i with
    | zero => simp [setAt]
    | succ i => simp [setAt]
  | x :: l, n + 1, y, i => by
    cases i with
    | zero => simp [setAt]
    | succ i =>
      simp only [setAt, List.getElem?_cons_succ, setAt_get l n y i, List.length_cons]
      by_cases h : i = n <;> by_cases h2 : n < l.length <;> simp [h, h2]
theorem setAt_len {α : Type} : ∀ (l : List α) (n : Nat) (y : α), (setAt l n y).length = l.length
  | [], _, _ => rfl
  | _ :: _, 0, _ => rfl
  | _ :: l, n + 1, y => by simp [setAt, setAt_len l n y]
/-- An object is written. -/
theorem RM.setOb (h : RM P C E S st) {o id : Nat} {ob ob' : Ob} {cs : List AV} (ho : S.ob[o]? = some ob) (hi : E.ι o = some id) (ht : ob'.t = ob.t) (hb : RB E ob'.a ob'.n ob'.m ob'.ov cs) : RM P C E { S with ob := setAt S.ob o ob' } (st.setc id cs) := by
  have hlt : o < S.ob.length := (List.getElem?_eq_some_iff.1 ho).1
  obtain ⟨id', h1, h2, h3, h4⟩ := h.ob o ob ho
  rw [hi] at h1
  cases h1
  have hobj : ∀ i, (st.setc id cs).obj i = if i = id then ((st.obj id).1, cs) else st.obj i := fun i => rfl
  refine { h with on := ?_, ob := ?_, wf := h.wf, fr := ?_ }
  · intro j hj
    rw [setAt_len] at hj
    exact h.on j hj
  · intro j q hj
    rw [setAt_get] at hj
    split at hj
    · rename_i hc
      cases hj
      obtain ⟨rfl, -⟩ := hc
      refine ⟨id, hi, h2, ?_, ?_⟩
      · rw [hobj, if_pos rfl, ht]; exact h3
      · rw [hobj, if_pos rfl]; exact hb
    · rename_i hc
      obtain ⟨idj, q1, q2, q3, q4⟩ := h.ob j q hj
      have hne : idj ≠ id := by
        rintro rfl
        exact hc ⟨h.inj j o _ q1 hi, hlt⟩
      exact ⟨idj, q1, q2, by rw [hobj, if_neg hne]; exact q3, by rw [hobj, if_neg hne]; exact q4⟩
  · refine { n := h.fr.n, k := h.fr.k, obj := ?_, live := h.fr.live }
    intro i hi0 hA
    have hne : i ≠ id := by
      rintro rfl
      rcases h.oA o i hi with q | q
      · exact hA q
      · omega
    rw [hobj, if_neg hne]
    exact h.fr.obj i hi0 hA
/-- A new object. -/
theorem RM.addOb (h : RM P C E S st) {ob : Ob} {cs : List AV} (hb : RB E ob.a ob.n ob.m ob.ov cs) :
    ∃ E', E.le E' ∧ E'.ρ = E.ρ ∧ RM P C E' { S with ob := S.ob ++ [ob] } (st.push ob.t cs) ∧ E'.ι S.ob.length = some st.n := by
  have hι : E.ι S.ob.length = none := h.on _ (Nat.le_refl _)
  let E' : En := { E with ι := fun j => if j = S.ob.length then some st.n else E.ι j }
  have hle : E.le E' := by
    refine ⟨⟨[], by simp [E']⟩, fun n x hx => ?_, fun _ _ hx => hx, fun _ _ hx => hx⟩
    have : n ≠ S.ob.length := by rintro rfl; rw [hι] at hx; cases hx
    simp only [E', if_neg this]; exact hx
  have hobj : ∀ i, (st.push ob.t cs).obj i = if i = st.n then (ob.t, cs) else st.obj i := fun i => rfl
  have hn : (st.push ob.t cs).n = st.n + 1 := rfl
  have hlt : ∀ j id, E.ι j = some id → j < S.ob.length ∧ id < st.n := by
    intro j id hj
    have hj2 : j < S.ob.length := by
      refine Classical.byContradiction fun hge => ?_
      rw [h.on j (by omega)] at hj; cases hj
    obtain ⟨id', q1, q2, -, -⟩ := h.ob j _ (List.getElem?_eq_getElem hj2)
    rw [hj] at q1; cases q1
    exact ⟨hj2, q2⟩
  refine ⟨E', hle, rfl, ?_, by simp [E']⟩
  refine { nv := h.nv, w0 := h.w0, wn := h.wn, bn := h.bn, on := ?_, ob := ?_, inj := ?_, gr := ?_, gd := ?_, wf := h.wf, wf0 := h.wf0, kn := h.kn, ac := h.ac, fr := ?_, oA := ?_, gT := ?_ }
  · intro j hj
    simp only [List.length_append, List.length_cons, List.length_nil] at hj
    simp only [E']
    rw [if_neg (by omega)]
    exact h.on j (by omega)
  · intro j q hj
    rw [List.getElem?_append] at hj
    split at hj
    · rename_i hjl
      obtain ⟨id, q1, q2, q3, q4⟩ := h.ob j q hj
      refine ⟨id, hle.ι _ _ q1, by rw [hn]; omega, ?_, ?_⟩
      · rw [hobj, if_neg (by omega)]; exact q3
      · rw [hobj, if_neg (by omega)]; exact q4.mono hle
    · rename_i hjl
      have hj0 : j = S.ob.length := by
        have := (List.getElem?_eq_some_iff.1 hj).1
        simp at this; omega
      subst hj0
      simp only [Nat.sub_self, List.getElem?_cons_zero, Option.some.injEq] at hj
      subst hj
      refine ⟨st.n, by simp [E'], by rw [hn]; omega, ?_, ?_⟩
      · rw [hobj, if_pos rfl]
      · rw [hobj, if_pos rfl]; exact hb.mono hle
  · intro i j id hi hj
    simp only [E'] at hi hj
    by_cases e1 : i = S.ob.length <;> by_cases e2 : j = S.ob.length
    · omega
    · rw [if_pos e1] at hi; rw [if_neg e2] at hj
      cases hi
      exact absurd (hlt j _ hj).2 (by omega)
    · rw [if_neg e1] at hi; rw [if_pos e2] at hj
      cases hj
      exact absurd (hlt i _ hi).2 (by omega)
    · rw [if_neg e1] at hi; rw [if_neg e2] at hj
      exact h.inj i j id hi hj
  · intro g e hge
    obtain ⟨av, q1, q2⟩ := h.gr g e hge
    exact ⟨av, gav_le hle q1, q2⟩
  · intro g e g' e' h1 h2 hne t s xs s' xs' h3 h4
    obtain ⟨a1, b1, c1⟩ := h.gr g e h1
    obtain ⟨a2, b2, c2⟩ := h.gr g' e' h2
    rw [gav_le hle b1] at h3
    rw [gav_le hle b2] at h4
    cases h3; cases h4
    exact h.gd g e g' e' h1 h2 hne t s xs s' xs' b1 b2
  · refine { n := by rw [hn]; have := h.fr.n; omega, k := h.fr.k, obj := ?_, live := h.fr.live }
    intro i hi0 hA
    rw [hobj, if_neg (by have := h.fr.n; omega)]
    exact h.fr.obj i hi0 hA
  · intro j id hj
    simp only [E'] at hj
    split at hj
    · cases hj; exact .inr h.fr.n
    · exact h.oA j id hj
  · intro g e t s xs h1 h2
    obtain ⟨a1, b1, c1⟩ := h.gr g e h1
    rw [gav_le hle b1] at h2
    cases h2
    exact h.gT g e t s xs h1 b1
/-- Fewer that grow. -/
theorem RM.lessGr (h : RM P C E S st) {gr : List (GK × TypeId)} (hg : ∀ x ∈ gr, x ∈ S.gr) : RM P C E { S with gr := gr } st :=
  { nv := h.nv, w0 := h.w0, wn := h.wn, bn := h.bn, on := h.on, ob := h.ob, inj := h.inj, wf := h.wf, wf0 := h.wf0, kn := h.kn, ac := h.ac, fr := h.fr, oA := h.oA
    gr := fun g e hx => h.gr g e (hg _ hx), gd := fun g e g' e' h1 h2 => h.gd g e g' e' (hg _ h1) (hg _ h2), gT := fun g e t s xs hx => h.gT g e t s xs (hg _ hx) }
/-- A token is used up. -/
theorem RM.eat (h : RM P C E S st) {tk : Nat} (hu : ∀ g e s xs, (g, e) ∈ S.gr → gav E g = some (.own tk s xs) → False) (hT : C.Tk tk ∨ C.st0.k ≤ tk) : RM P C E S (st.eat tk) := by
  have hl : ∀ t, (st.eat tk).live t = if t = tk then none else st.live t := fun t => rfl
  refine { h with ob := h.ob, gr := ?_, wf := ?_, fr := ?_ }
  · intro g e hx
    obtain ⟨av, h1, h2⟩ := h.gr g e hx
    refine ⟨av, h1, h2.imp id ?_⟩
    rintro ⟨t, s, xs, rfl, h3, h4⟩
    have hne : t ≠ tk := by rintro rfl; exact hu g e s xs hx h1
    exact ⟨t, s, xs, rfl, by rw [hl, if_neg hne]; exact h3, h4⟩
  · intro t e he
    rw [hl] at he
    split at he
    · cases he
    · exact h.wf t e he
  · refine { n := h.fr.n, k := h.fr.k, obj := h.fr.obj, live := ?_ }
    intro t e h0 hN
    have hne : t ≠ tk := by
      rintro rfl
      rcases hT with q | q
      · exact hN q
      · have := h.wf0 t e h0; omega
    rw [hl, if_neg hne]
    exact h.fr.live t e h0 hN
/-- A new slice that may grow. -/
theorem RM.own (h : RM P C E S st) {e : TypeId} {s : Nat} {xs : List Row} (he : esz P e = some s) :
    ∃ E', E.le E' ∧ E'.ρ = E.ρ ∧ RM P C E' { S with nw := S.nw + 1, gr := (.w S.nw, e) :: S.gr } (st.own e) ∧ E'.ω S.nw = some (.own st.k s xs) := by
  have hω : E.ω S.nw = none := h.wn _ (Nat.le_refl _)
  let E' : En := { E with ω := fun n => if n = S.nw then some (.own st.k s xs) else E.ω n }
  have hle : E.le E' := by
    refine ⟨⟨[], by simp [E']⟩, fun _ _ hx => hx, fun n x hx => ?_, fun _ _ hx => hx⟩
    have : n ≠ S.nw := by rintro rfl; rw [hω] at hx; cases hx
    simp only [E', if_neg this]; exact hx
  have hnew : E'.ω S.nw = some (.own st.k s xs) := by simp [E']
  have hl : ∀ t, (st.own e).live t = if t = st.k then some e else st.live t := fun t => rfl
  have hk : (st.own e).k = st.k + 1 := rfl
  have old : ∀ g e', (g, e') ∈ S.gr → ∃ av, gav E g = some av ∧ gav E' g = some av ∧ (av = .nil ∨ ∃ t s xs, av = .own t s xs ∧ st.live t = some e' ∧ esz P e' = some s ∧ t < st.k) := by
    intro g e' hx
    obtain ⟨av, h1, h2⟩ := h.gr g e' hx
    refine ⟨av, h1, gav_le hle h1, h2.imp id ?_⟩
    rintro ⟨t, s, xs, rfl, h3, h4⟩
    exact ⟨t, s, xs, rfl, h3, h4, h.wf t e' h3⟩
  refine ⟨E', hle, rfl, ?_, hnew⟩
  refine { nv := h.nv, w0 := hle.ω _ _ h.w0, wn := ?_, bn := h.bn, on := h.on, ob := ?_, inj := h.inj, gr := ?_, gd := ?_, wf := ?_, wf0 := h.wf0, kn := h.kn, ac := h.ac, fr := ?_, oA := h.oA, gT := ?_ }
  · intro n hn
    have hn' : S.nw + 1 ≤ n := hn
    simp only [E']
    rw [if_neg (by omega)]
    exact h.wn n (by omega)
  · intro j q hj
    obtain ⟨id, q1, q2, q3, q4⟩ := h.ob j q hj
    exact ⟨id, q1, q2, q3, q4.mono hle⟩
  · intro g e' hx
    rcases List.mem_cons.1 hx with q | q
    · cases q
      exact ⟨_, hnew, .inr ⟨st.k, s, xs, rfl, by rw [hl, if_pos rfl], he⟩⟩
    · obtain ⟨av, h1, h2, h3⟩ := old g e' q
      refine ⟨av, h2, h3.imp id ?_⟩
      rintro ⟨t, s, xs, rfl, h4, h5, h6⟩
      exact ⟨t, s, xs, rfl, by rw [hl, if_neg (by omega)]; exact h4, h5⟩
  · intro g e1 g' e2 h1 h2 hne t s1 x1 s2 x2 h3 h4
    rcases List.mem_cons.1 h1 with q1 | q1 <;> rcases List.mem_cons.1 h2 with q2 | q2
    · cases q1; cases q2; exact hne rfl
    · cases q1
      obtain ⟨av, h5, h6, h7⟩ := old g' e2 q2
      rw [show gav E' (.w S.nw) = some (.own st.k s xs) from hnew] at h3
      cases h3
      rw [h6] at h4
      cases h4
      rcases h7 with q | ⟨t', s', xs', q, -, -, q'⟩
      · cases q
      · cases q; omega
    · cases q2
      obtain ⟨av, h5, h6, h7⟩ := old g e1 q1
      rw [show gav E' (.w S.nw) = some (.own st.k s xs) from hnew] at h4
      cases h4
      rw [h6] at h3
      cases h3
      rcases h7 with q | ⟨t', s', xs', q, -, -, q'⟩
      · cases q
      · cases q; omega
    · obtain ⟨a1, b1, c1, -⟩ := old g e1 q1
      obtain ⟨a2, b2, c2, -⟩ := old g' e2 q2
      rw [c1] at h3
      rw [c2] at h4
      cases h3; cases h4
      exact h.gd g e1 g' e2 q1 q2 hne t s1 x1 s2 x2 b1 b2
  · intro t e' he'
    rw [hl] at he'
    rw [hk]
    split at he'
    · omega
    · have := h.wf t e' he'; omega
  · refine { n := h.fr.n, k := by rw [hk]; have := h.fr.k; omega, obj := h.fr.obj, live := ?_ }
    intro t e' h0 hN
    have h1 := h.fr.live t e' h0 hN
    have := h.wf t e' h1
    rw [hl, if_neg (by omega)]
    exact h1
  · intro g e1 t s1 x1 h1 h2
    rcases List.mem_cons.1 h1 with q | q
    · cases q
      rw [show gav E' (.w S.nw) = some (.own st.k s xs) from hnew] at h2
      cases h2
      exact .inr h.fr.k
    · obtain ⟨a1, b1, c1, -⟩ := old g e1 q
      rw [c1] at h2
      cases h2
      exact h.gT g e1 t s1 x1 q b1
end
end Go.AW

namespace Go.AW
open Go.RowKit
section
variable {P : Program} {cf : Cf} {C : Ctx} {Γ : Den} {r : Rs}
/-- Where an operation's tree goes on. -/
def Next (P : Program) (C : Ctx) (Γ : Den) (r : Rs) (E : En) (K : KV) (J : AV → St → Prop) : Prop :=
  ∀ E' S' v av st', E.le E' → RM P C E' S' st' → RV E' v av → run Γ (K S' v) E'.ρ = some r → J av st'
/-- Calls do what their trees say. -/
def CalOk (P : Program) (C : Ctx) (Γ : Den) (r : Rs) (cal : Cal) : Prop :=
  ∀ (k : Nat) (args : List SV) (as : List AV) (S : SS) (K : KV) (E : En) (st : St) (J : AV → St → Prop), run Γ (cal k args S K) E.ρ = some r → RM P C E S st → args.length = as.length →
    (∀ (i : Nat) (v : SV) (a : AV), args[i]? = some v → as[i]? = some a → RV E v a) → Next P C Γ r E K J → Ct P k as st J
variable {E : En} {S : SS} {st : St} {sl : List (Nat × SE)} {tm : Tm} {K : KV} {J : AV → St → Prop}
theorem isBuiltin_keeps {c : Call} {b : Builtin} (h : c.callee = .builtin b) (hb : b ≠ .append) : keeps (.call c) = true := by
  simp only [keeps, quiet, h]
  cases b <;> first | rfl | exact absurd rfl hb
theorem sxP_keeps {g : Option At} {op : Op} (hr : run Γ (sxP cf S g sl op K) E.ρ = some r) : keeps op = true := by
  cases op <;> first | rfl | (simp [sxP, run] at hr; done) | skip
  rename_i c
  simp only [sxP] at hr
  split at hr
  · rename_i h _; exact isBuiltin_keeps h (by decide)
  · rename_i h _; exact isBuiltin_keeps h (by decide)
  · rename_i h _; exact isBuiltin_keeps h (by decide)
  · simp [run] at hr
theorem PRun.eff {op : Op} (hm : RM P C E S st) (hk : keeps op = true) (h : PRun P tm st op Γ K S E true r) (hK : Next P C Γ r E K J) : eff P tm st J op := by
  obtain ⟨l, v, h1, h2⟩ := h
  obtain ⟨h3, h4⟩ := h2 rfl
  rw [eff_kv hk]
  exact ⟨h3, hK (E.push l) _ v _ st (En.le_push E l) (hm.push l) h4 h1⟩
theorem one_dcont {av : AV} {s : Nat} {ys : List Row} (h : toD av = some (.sl s ys)) : dcont av = some ys := by
  cases av <;> simp only [toD, Option.some.injEq, reduceCtorEq] at h
  · subst h; rfl
  · simp only [DV.sl.injEq] at h; obtain ⟨-, rfl⟩ := h; rfl
  · rename_i t s' xs'
    cases xs' with
    | nil => simp only [slv, DV.sl.injEq] at h; obtain ⟨-, rfl⟩ := h; rfl
    | cons y ys => simp only [slv, DV.sl.injEq] at h; obtain ⟨-, rfl⟩ := h; rfl
theorem elT_esz {t e : TypeId} {n b : Nat} (h : elT P t = some (e, n, b)) : esz P e = some n := by
  unfold elT at h
  split at h
  · rename_i e' _
    simp only [Option.map_eq_some_iff] at h
    obtain ⟨i, hi, q⟩ := h
    cases q
    simp [esz, hi]
  · cases h
theorem grows_ok (hm : RM P C E S st) {o : Option GK} {e : TypeId} (h : grows S o e = true) : ∃ g, o = some g ∧ ((g = .w 0) ∨ (g, e) ∈ S.gr) := by
  unfold grows at h
  split at h
  · exact ⟨_, rfl, .inl rfl⟩
  · rename_i g _
    split at h
    · rename_i e' he
      refine ⟨g, rfl, .inr ?_⟩
      have : ∀ {l : List (GK × TypeId)}, gm g l = some e' → (g, e') ∈ l := by
        intro l
        induction l with
        | nil => intro h; simp [gm] at h
        | cons x l ih =>
          obtain ⟨g', y⟩ := x
          intro h
          simp only [gm] at h
          split at h
          · rename_i q; cases h; rw [eqG_eq q]; exact List.mem_cons_self ..
          · exact List.mem_cons_of_mem _ (ih h)
      rw [nbeq h]; exact this he
    · cases h
  · cases h
theorem grm_mem {α : Type} {g : GK} : ∀ {l : List (GK × α)} {x : GK × α}, x ∈ grm g l → x ∈ l ∧ x.1 ≠ g
  | [], x, h => by simp [grm] at h
  | (g', y) :: l, x, h => by
    simp only [grm] at h
    split at h
    · obtain ⟨h1, h2⟩ := grm_mem h
      exact ⟨List.mem_cons_of_mem _ h1, h2⟩
    · rename_i hne
      rcases List.mem_cons.1 h with rfl | h
      · exact ⟨List.mem_cons_self .., fun e => hne (by simp only at e; rw [e]; exact eqG_refl _)⟩
      · obtain ⟨h1, h2⟩ := grm_mem h
        exact ⟨List.mem_cons_of_mem _ h1, h2⟩
variable (hc : CfOk P cf) (hm : RM P C E S st) (hs : RTS E sl tm)
include hc hm hs
theorem e_store {t : TypeId} {x y : Operand} {cal : Cal} (hx : opOk x = true) (hy : opOk y = true) (hr : run Γ (sxE cf cal S sl (.store t x y) K) E.ρ = some r) (hK : Next P C Γ r E K J) : eff P tm st J (.store t x y) := by
  simp only [sxE] at hr
  obtain ⟨p, hr, hp⟩ := useV_run (on := true) hm (opd_ok hm hs hx) rfl hr
  obtain ⟨v, hr, hv⟩ := useV_run (on := true) hm (opd_ok hm hs hy) rfl hr
  cases hi : cf.ti t with
  | none => cases p <;> simp [hi, run] at hr
  | some i =>
    have hti := hc.ti t i hi
    obtain ⟨o, off, rfl⟩ : ∃ o off, p = .ptr o off := by cases p <;> first | exact ⟨_, _, rfl⟩ | (simp [hi, run] at hr)
    simp only [hi] at hr
    cases hob : objAt S o with
    | none => simp only [hob] at hr; simp [run] at hr
    | some ob =>
      simp only [hob] at hr
      split at hr
      · rename_i hcnd
        obtain ⟨h1, h2, h3⟩ := hcnd
        obtain ⟨id, q1, q2, q3, q4⟩ := hm.ob o ob hob
        have hp' := hp rfl
        have hxe : opnd tm x = .ptr id off := by
          generalize opnd tm x = av at hp'
          cases hp' with
          | ptr q => rw [q1] at q; cases q; rfl
        have hsz := (hv rfl).szV
        have hlen := q4.len
        simp only [eff, hxe, hti.sz]
        have hce := (hv rfl).cellish h2
        refine ⟨hx, hy, by rw [hsz, h3], hce, by omega, ?_⟩
        refine hK E _ .un _ _ (En.le.refl E) (hm.setOb (ob' := { ob with ov := wr ob.ov off i.size v }) hob q1 rfl (q4.wr (off := off) (k := i.size) (hv rfl) (by rw [hsz, h3]) hce (by omega))) .un hr
      · simp [run] at hr
  
theorem e_alloc {t : TypeId} {cal : Cal} (hr : run Γ (sxE cf cal S sl (.alloc t) K) E.ρ = some r) (hK : Next P C Γ r E K J) : eff P tm st J (.alloc t) := by
  have _ := hs
  simp only [sxE] at hr
  cases hi : cf.ti t with
  | none => simp only [hi] at hr; simp [run] at hr
  | some i =>
    have hti := hc.ti t i hi
    simp only [hi] at hr
    simp only [eff, hti.zero]
    obtain ⟨E', h1, h2, h3, h4⟩ := hm.addOb (ob := ⟨t, .c i.zero, i.size, .z, []⟩) (cs := i.zero.map cv) ⟨_, [], .z hti.zlen hti.zok, AccR.nil E, rfl⟩
    exact hK E' _ _ _ _ h1 h3 (.ptr h4) (by rw [h2]; exact hr)
theorem e_box {t : TypeId} {x : Operand} {cal : Cal} (hx : opOk x = true) (hr : run Γ (sxE cf cal S sl (.box t x) K) E.ρ = some r) (hK : Next P C Γ r E K J) : eff P tm st J (.box t x) := by
  have _ := hc
  simp only [sxE] at hr
  obtain ⟨v, hr, hv⟩ := useV_run (on := true) hm (opd_ok hm hs hx) rfl hr
  have hv := hv rfl
  simp only [eff]
  by_cases hag : isAgg v = true
  · obtain ⟨a, n, m, ov, rfl⟩ : ∃ a n m ov, v = .agg a n m ov := by cases v <;> first | exact ⟨_, _, _, _, rfl⟩ | simp [isAgg] at hag
    obtain ⟨cs, e, hb⟩ := hv.agg_inv
    refine ⟨hx, hv.cellish rfl, ?_⟩
    rw [e]
    obtain ⟨E', h1, h2, h3, h4⟩ := hm.addOb (ob := ⟨t, a, n, m, ov⟩) (cs := cs) hb
    exact hK E' _ _ _ _ h1 h3 (.ptr h4) (by rw [h2]; exact hr)
  · have hag' : isAgg v = false := by simpa using hag
    have key : ∀ (_ : plainV v = true) (hr : run Γ (K { S with ob := S.ob ++ [⟨t, .c [.lit (.bool false)], 1, .z, [(0, 1, v)]⟩] } (.ptr S.ob.length 0)) E.ρ = some r), opOk x = true ∧ (cellsL (opnd tm x)).all cellish = true ∧ J (.ptr st.n 0) (st.push t (cellsL (opnd tm x))) := by
      intro hp hr
      have hce := hv.cellish hp
      refine ⟨hx, hce, ?_⟩
      have hone := hv.one_cell hag'
      have hb0 : RB E (.c [.lit (.bool false)]) 1 .z [] [.d (.lit (.bool false))] := ⟨_, [], .z (r := [.lit (.bool false)]) rfl rfl, AccR.nil E, rfl⟩
      have hb := hb0.cons (o := 0) (k := 1) hv (by rw [hone]; rfl) hce (by simp)
      have e : splice [AV.d (.lit (.bool false))] 0 (cellsL (opnd tm x)) = cellsL (opnd tm x) := by rw [hone]; rfl
      rw [e] at hb
      obtain ⟨E', h1, h2, h3, h4⟩ := hm.addOb (ob := ⟨t, .c [.lit (.bool false)], 1, .z, [(0, 1, v)]⟩) hb
      exact hK E' _ _ _ _ h1 h3 (.ptr h4) (by rw [h2]; exact hr)
    cases v <;> simp [isAgg] at hag' <;> simp only at hr <;> first | exact key rfl hr | (simp [run] at hr)
omit hc hm hs in
theorem allMats_run {Ea : SS → Tr} {K : SS → List At → Tr} : ∀ (vs : List SV) {E : En} {S : SS} {acc : List At}, RM P C E S st → run Γ (allMats S vs acc K Ea) E.ρ = some r →
    ∃ l, (∃ as, run Γ (K (bump S l.length) (acc.reverse ++ as)) (E.ρ ++ l) = some r ∧ as.length = vs.length ∧ ∀ (i : Nat) (v : SV) (a : At) (av : AV), vs[i]? = some v → as[i]? = some a → RV E v av → Low (E.push l) a (cellsL av)) ∨
      (run Γ (Ea (bump S l.length)) (E.ρ ++ l) = some r ∧ ∃ v ∈ vs, nonD v = true)
  | [], E, S, acc, hm, hr => ⟨[], .inl ⟨[], by rw [List.append_nil, List.append_nil]; exact hr, rfl, fun i v a av h => by simp at h⟩⟩
  | v :: vs, E, S, acc, hm, hr => by
    simp only [allMats] at hr
    split at hr
    · rename_i hn
      exact ⟨[], .inr ⟨by rw [List.append_nil]; exact hr, v, List.mem_cons_self .., hn⟩⟩
    · obtain ⟨l1, a1, hr1, h1⟩ := mats_run hr hm.nv rfl
      obtain ⟨l2, h2⟩ := allMats_run vs (E := E.push l1) (hm.push l1) hr1
      refine ⟨l1 ++ l2, ?_⟩
      have e : bump (bump S l1.length) l2.length = bump S (l1 ++ l2).length := by simp [bump, Nat.add_assoc]
      have e2 : (E.push l1).ρ ++ l2 = E.ρ ++ (l1 ++ l2) := by simp [En.push]
      rw [e, e2, push_push] at h2
      rcases h2 with ⟨as, h3, h4, h5⟩ | ⟨h3, w, hw, h4⟩
      · refine .inl ⟨a1 :: as, by simpa using h3, by simp [h4], fun i u a av hi ha hrv => ?_⟩
        cases i with
        | zero =>
          simp at hi ha
          subst hi; subst ha
          have := h1 rfl av hrv
          have hle := En.le_push (E.push l1) l2
          rw [push_push] at hle
          exact this.mono hle
        | succ i => exact h5 i u a av (by simpa using hi) (by simpa using ha) (hrv.mono (En.le_push E l1))
      · exact .inr ⟨h3, w, List.mem_cons_of_mem _ hw, h4⟩
omit hc hm hs in
theorem toDss_some : ∀ {ps : List (List AV)} {rows : List Row}, ps.length = rows.length → (∀ (i : Nat) p row, ps[i]? = some p → rows[i]? = some row → toDs p = some row) → toDss ps = some rows
  | [], [], _, _ => rfl
  | p :: ps, row :: rows, hl, h => by
    simp only [toDss, h 0 p row rfl rfl, toDss_some (by simpa using hl) (fun i p' r' h1 h2 => h (i + 1) p' r' (by simpa using h1) (by simpa using h2))]
  | [], _ :: _, hl, _ => by simp at hl
  | _ :: _, [], hl, _ => by simp at hl
omit hc hm hs in
theorem toDss_none : ∀ {ps : List (List AV)} {p : List AV}, p ∈ ps → toDs p = none → toDss ps = none
  | q :: ps, p, hp, hn => by
    simp only [toDss]
    rcases List.mem_cons.1 hp with rfl | hp
    · rw [hn]
    · rw [toDss_none hp hn]
      cases toDs q <;> rfl
omit hc hm hs in
theorem nonD_none {v : SV} {av : AV} (h : RV E v av) (hn : nonD v = true) : toDs (cellsL av) = none := by
  cases h <;> simp [nonD] at hn <;> rfl
omit hc hm hs in
theorem evs_get : ∀ {as : List At} {rs : List Row} {ρ : List Row}, evs ρ as = some rs → as.length = rs.length ∧ ∀ (i : Nat) a r, as[i]? = some a → rs[i]? = some r → a.ev ρ = some r
  | [], rs, ρ, h => by simp only [evs, Option.some.injEq] at h; subst h; exact ⟨rfl, fun i a r h => by simp at h⟩
  | a :: as, rs, ρ, h => by
    simp only [evs] at h
    cases ha : a.ev ρ with
    | none => rw [ha] at h; cases h
    | some x =>
      cases hs : evs ρ as with
      | none => rw [ha, hs] at h; cases h
      | some xs =>
        rw [ha, hs] at h
        cases h
        obtain ⟨h1, h2⟩ := evs_get hs
        refine ⟨by simp [h1], fun i b r hb hr => ?_⟩
        cases i with
        | zero => simp at hb hr; subst hb; subst hr; exact ha
        | succ i => exact h2 i b r (by simpa using hb) (by simpa using hr)
theorem e_buildSlice {t : TypeId} {len : Nat} {ps : Array (Nat × Operand)} {cal : Cal} (hx : (ps.toList.all fun p => opOk p.2) = true) (hr : run Γ (sxE cf cal S sl (.buildSlice t len ps) K) E.ρ = some r) (hK : Next P C Γ r E K J) : eff P tm st J (.buildSlice t len ps) := by
  simp only [sxE] at hr
  cases hi : cf.ti t with
  | none => simp only [hi] at hr; simp [run] at hr
  | some i =>
    rcases he : i.elem with _ | ⟨e, n, by_⟩
    · simp only [hi, he] at hr; simp [run] at hr
    simp only [hi, he] at hr
    obtain ⟨hel, hz⟩ := (hc.ti t i hi).elem e n by_ he
    have hmap : (ps.toList.map fun p => opd sl p.2) = (ps.toList.map (·.2)).map (opd sl) := by simp
    rw [hmap] at hr
    obtain ⟨vs, hr, hl, hvs⟩ := useAll_run (on := true) hm hs rfl (by simpa [List.all_map] using hx) hr
    have hvs := hvs rfl
    split at hr
    · rename_i hcnd
      simp only [Bool.and_eq_true, decide_eq_true_eq, Bool.not_eq_true'] at hcnd
      obtain ⟨⟨hidx, hbig⟩, hn0⟩ := hcnd
      have hn : 0 < n := by
        rcases Nat.eq_zero_or_pos n with e | e
        · subst e; cases hn0
        · exact e
      have hplen : (partsA tm ps).length = len := by
        have := congrArg List.length hidx
        simpa [partsA] using this
      have hpidx : (partsA tm ps).map (·.1) = List.range' 0 len := by
        rw [← hidx]; simp [partsA]
      have hcells : (partsA tm ps).map (fun p => cellsL p.2) = ((ps.toList.map (·.2)).map (opnd tm)).map cellsL := by simp [partsA]
      have hvl : vs.length = ((ps.toList.map (·.2)).map (opnd tm)).length := by simp [hl]
      obtain ⟨l, hcase⟩ := allMats_run vs hm hr
      simp only [eff, buildSliceA, hel]
      rcases hcase with ⟨as, hr1, hal, hlow⟩ | ⟨hr1, w, hw, hnd⟩
      · have hm1 := hm.push l
        obtain ⟨l2, a, hr2, h2⟩ := emit_run (on := true) (ρ := (E.push l).ρ) hr1 hm1.nv rfl
        obtain ⟨rs, x, h3, h4, h5⟩ := h2 rfl
        obtain ⟨hlr, hget⟩ := evs_get h3
        simp only [List.reverse_nil, List.nil_append] at hlr hget
        obtain ⟨hall, rfl⟩ := evF_inv (f := .mk n) h4
        have hrow : ∀ (i : Nat) (av : AV) (row : Row), ((ps.toList.map (·.2)).map (opnd tm))[i]? = some av → rs[i]? = some row → toDs (cellsL av) = some row ∧ dvos row = true := by
          intro i av row hav hrow
          have hi1 : i < rs.length := (List.getElem?_eq_some_iff.1 hrow).1
          have hi2 : i < vs.length := by omega
          have hi3 : i < as.length := by omega
          obtain ⟨y, q1, q2, q3⟩ := hlow i _ _ av (List.getElem?_eq_getElem hi2) (List.getElem?_eq_getElem hi3) (hvs i _ av (List.getElem?_eq_getElem hi2) hav)
          have q4 := hget i _ row (List.getElem?_eq_getElem hi3) hrow
          rw [q1] at q4
          cases q4
          exact ⟨q3, q2⟩
        have hlen2 : ((partsA tm ps).map fun p => cellsL p.2).length = rs.length := by rw [hcells]; simp; simp at hvl; omega
        have hds : toDss ((partsA tm ps).map fun p => cellsL p.2) = some rs := by
          refine toDss_some hlen2 fun i p row hp hr' => ?_
          rw [hcells, List.getElem?_map] at hp
          cases hq : ((ps.toList.map (·.2)).map (opnd tm))[i]? with
          | none => rw [hq] at hp; cases hp
          | some av =>
            rw [hq] at hp
            simp only [Option.map_some, Option.some.injEq] at hp
            subst hp
            exact (hrow i av row hq hr').1
        refine ⟨hx, hn, hbig, hz, hpidx, hplen, ?_, ?_⟩
        · rw [List.all_eq_true]
          intro p hp
          obtain ⟨i, hi⟩ := List.getElem?_of_mem hp
          have hi0 : i < rs.length := by rw [← hlen2, List.length_map]; exact (List.getElem?_eq_some_iff.1 hi).1
          have hav : ((ps.toList.map (·.2)).map (opnd tm))[i]? = some p.2 := by
            simp only [partsA] at hi
            rw [List.getElem?_map] at hi ⊢
            rw [List.getElem?_map]
            cases hq : ps.toList[i]? with
            | none => rw [hq] at hi; cases hi
            | some y => rw [hq] at hi; cases hi; rfl
          obtain ⟨q1, q2⟩ := hrow i p.2 _ hav (List.getElem?_eq_getElem hi0)
          have q3 := List.all_eq_true.1 hall _ (List.getElem_mem hi0)
          simp only [Bool.and_eq_true, beq_iff_eq]
          refine ⟨?_, cellish_toDs q1 q2⟩
          rw [toDs_len q1]; simpa using q3
        · rw [hds]
          obtain ⟨E', k1, k2, k3, k4⟩ := (hm1.push l2).own (s := n) (xs := rs) (elT_esz hel)
          have hok : dvo (slv n rs) = true := by
            refine dvo_slv ((dvoss_all _).2 fun row hrow' => ?_)
            obtain ⟨i, hi⟩ := List.getElem?_of_mem hrow'
            have hi0 : i < ((ps.toList.map (·.2)).map (opnd tm)).length := by rw [← hvl]; have := (List.getElem?_eq_some_iff.1 hi).1; omega
            exact (hrow i _ row (List.getElem?_eq_getElem hi0) hi).2
          have hle : E.le E' := (En.le_push E l).trans ((En.le_push (E.push l) l2).trans k1)
          refine hK E' _ (.one a (some (.w _))) (.own st.k n rs) _ hle k3 (.one1 (x := slv n rs) ?_ hok k4 rfl) (by rw [k2]; exact hr2)
          rw [k2]; exact h5
      · split at hr1
        · rename_i hall
          simp only [Bool.and_eq_true] at hall
          obtain ⟨hall, hn1⟩ := hall
          obtain rfl := nbeq hn1
          have hone : ∀ (i : Nat) (v : SV) (av : AV), vs[i]? = some v → ((ps.toList.map (·.2)).map (opnd tm))[i]? = some av → cellsL av = [av] ∧ cellish av = true ∧ RV E v av := by
            intro i v av hv hav
            have h1 := hvs i v av hv hav
            have h2 := List.all_eq_true.1 hall v (List.mem_of_getElem? hv)
            have h3 : isAgg v = false := by cases v <;> first | rfl | simp [nonD] at h2
            have h4 : plainV v = true := by cases v <;> first | rfl | simp [nonD] at h2
            have h5 := h1.one_cell h3
            refine ⟨h5, ?_, h1⟩
            have := h1.cellish h4
            rw [h5] at this
            simpa using this
          have hds : toDss ((partsA tm ps).map fun p => cellsL p.2) = none := by
            obtain ⟨i, hi⟩ := List.getElem?_of_mem hw
            have hi0 : i < ((ps.toList.map (·.2)).map (opnd tm)).length := by rw [← hvl]; exact (List.getElem?_eq_some_iff.1 hi).1
            refine toDss_none (p := cellsL (((ps.toList.map (·.2)).map (opnd tm))[i])) ?_ (nonD_none (hvs i w _ hi (List.getElem?_eq_getElem hi0)) hnd)
            rw [hcells]
            exact List.mem_map_of_mem (List.getElem_mem hi0)
          refine ⟨hx, hn, hbig, hz, hpidx, hplen, ?_, ?_⟩
          · rw [List.all_eq_true]
            intro p hp
            obtain ⟨i, hi⟩ := List.getElem?_of_mem hp
            have hav : ((ps.toList.map (·.2)).map (opnd tm))[i]? = some p.2 := by
              simp only [partsA] at hi
              rw [List.getElem?_map] at hi ⊢
              rw [List.getElem?_map]
              cases hq : ps.toList[i]? with
              | none => rw [hq] at hi; cases hi
              | some y => rw [hq] at hi; cases hi; rfl
            have hi0 : i < vs.length := by rw [hvl]; exact (List.getElem?_eq_some_iff.1 hav).1
            obtain ⟨q1, q2, -⟩ := hone i _ p.2 (List.getElem?_eq_getElem hi0) hav
            rw [q1]
            simp [q2]
          · rw [hds]
            refine hK (E.push l) _ _ _ st (En.le_push E l) (hm.push l) ?_ hr1
            rw [hcells]
            refine .psl (by simp [hl]) (fun i us as h1 h2 => ?_) (fun i j us as v a h1 h2 h3 h4 => ?_)
            · rw [List.getElem?_map] at h1 h2
              cases q1 : vs[i]? with
              | none => rw [q1] at h1; cases h1
              | some v =>
                cases q2 : ((ps.toList.map (·.2)).map (opnd tm))[i]? with
                | none => rw [q2] at h2; cases h2
                | some av =>
                  rw [q1] at h1; rw [q2] at h2
                  cases h1; cases h2
                  rw [(hone i v av q1 q2).1]; rfl
            · rw [List.getElem?_map] at h1 h2
              cases q1 : vs[i]? with
              | none => rw [q1] at h1; cases h1
              | some u =>
                cases q2 : ((ps.toList.map (·.2)).map (opnd tm))[i]? with
                | none => rw [q2] at h2; cases h2
                | some av =>
                  rw [q1] at h1; rw [q2] at h2
                  cases h1; cases h2
                  obtain ⟨k1, -, k3⟩ := hone i u av q1 q2
                  simp only [k1] at h4
                  cases j with
                  | zero => simp at h3 h4; subst h3; subst h4; exact k3.mono (En.le_push E l)
                  | succ j => simp at h3
        · simp [run] at hr1
    · simp [run] at hr
end
end Go.AW

namespace Go.AW
open Go.RowKit
section
variable {P : Program} {cf : Cf} {C : Ctx} {Γ : Den} {r : Rs} {E : En} {S : SS} {st : St} {sl : List (Nat × SE)} {tm : Tm} {K : KV} {J : AV → St → Prop}
variable (hc : CfOk P cf) (hm : RM P C E S st) (hs : RTS E sl tm)
include hc hm hs
theorem e_append {c : Call} {cal : Cal} (hcal : c.callee = .builtin .append) (hx : ∀ x ∈ c.args.toList, opOk x = true) (hr : run Γ (sxE cf cal S sl (.call c) K) E.ρ = some r) (hK : Next P C Γ r E K J) : eff P tm st J (.call c) := by
  simp only [sxE, hcal] at hr
  split at hr
  · rename_i x y t t' hargs htys
    have hxo := hx x (by rw [hargs]; simp)
    have hyo := hx y (by rw [hargs]; simp)
    obtain ⟨a, o, hr, ha⟩ := use1_run (on := true) hm (opd_ok hm hs hxo) rfl hr
    obtain ⟨b, ob, hr, hb⟩ := use1_run (on := true) hm (opd_ok hm hs hyo) rfl hr
    have ha := ha rfl
    have hb := hb rfl
    cases hi : cf.ti t with
    | none => simp only [hi] at hr; simp [run] at hr
    | some i =>
      rcases he : i.elem with _ | ⟨e, n, by_⟩
      · simp only [hi, he] at hr; simp [run] at hr
      simp only [hi, he] at hr
      obtain ⟨hel, hz⟩ := (hc.ti t i hi).elem e n by_ he
      split at hr
      · rename_i hcnd
        simp only [Bool.and_eq_true, Bool.not_eq_true'] at hcnd
        obtain ⟨htt, hn0⟩ := hcnd
        have htt := nbeq htt
        have hn : 0 < n := by
          rcases Nat.eq_zero_or_pos n with e | e
          · subst e; cases hn0
          · exact e
        by_cases hgr : grows S o e = true
        · rw [if_pos hgr] at hr
          obtain ⟨g, rfl, hg⟩ := grows_ok hm hgr
          obtain ⟨l, a', hr, h2⟩ := emit_run (on := true) hr hm.nv rfl
          obtain ⟨rs, z, h3, h4, h5⟩ := h2 rfl
          obtain ⟨d1, e1, o1, l1⟩ := ha.one_toD
          obtain ⟨d2, e2, o2, l2⟩ := hb.one_toD
          obtain rfl := evs2 e1 e2 h3
          have hok := evF_ok h4 (by intro y hy; simp at hy; rcases hy with rfl | rfl <;> simp [dvos, o1, o2])
          obtain ⟨s1, xs, s2, ys, q, hs1, hs2, hall, hb1, hb2, rfl⟩ := evF_inv (f := .app n by_) h4
          simp only [List.cons.injEq, and_true] at q
          obtain ⟨rfl, rfl⟩ := q
          have hok : dvo (slv n (xs ++ ys)) = true := by simpa [dvos] using hok
          have hys : ∀ y ∈ ys, y.length = n := fun y hy => by simpa using List.all_eq_true.1 hall y hy
          have hm1 := hm.push l
          have hsub : ∀ x ∈ grm g (bump S l.length).gr, x ∈ (bump S l.length).gr := fun x hx => (grm_mem hx).1
          have hm2 := hm1.lessGr (gr := grm g (bump S l.length).gr) hsub
          have hgav : gav E g = some (opnd tm x) := by
            cases ha with
            | one1 h1 h0 h6 h7 => exact h6
          have hfin : ∀ st1 : St, RM P C (E.push l) { bump S l.length with gr := grm g (bump S l.length).gr } st1 → J (.own st1.k n (xs ++ ys)) (st1.own e) := by
            intro st1 hm3
            obtain ⟨E', k1, k2, k3, k4⟩ := hm3.own (s := n) (xs := xs ++ ys) (elT_esz hel)
            refine hK E' _ (.one a' (some (.w _))) (.own st1.k n (xs ++ ys)) _ ((En.le_push E l).trans k1) k3 (.one1 (x := slv n (xs ++ ys)) ?_ hok k4 rfl) (by rw [k2]; exact hr)
            rw [k2]; exact h5
          simp only [eff, hcal, isAppend, hargs, htys]
          refine ⟨hxo, hyo, htt, ?_⟩
          simp only [appendA, hel, one_dcont l2]
          refine ⟨hn, hz, hys, ?_⟩
          have hcase : opnd tm x = .nil ∨ ∃ tk, opnd tm x = .own tk n xs ∧ st.live tk = some e ∧ (g, e) ∈ S.gr := by
            rcases hg with rfl | hg
            · have := hm.w0
              rw [show gav E (.w 0) = E.ω 0 from rfl, this] at hgav
              exact .inl (Option.some.inj hgav).symm
            · obtain ⟨av, h6, h7⟩ := hm.gr g e hg
              rw [hgav] at h6
              obtain rfl := Option.some.inj h6
              rcases h7 with h7 | ⟨tk, s, xs', h7, h8, h9⟩
              · exact .inl h7
              · refine .inr ⟨tk, ?_, h8, hg⟩
                rw [elT_esz hel] at h9
                cases h9
                rw [h7] at l1 ⊢
                simp only [toD, Option.some.injEq] at l1
                cases xs' with
                | nil => simp only [slv, DV.sl.injEq] at l1; obtain ⟨-, rfl⟩ := l1; rfl
                | cons u us => simp only [slv, DV.sl.injEq] at l1; obtain ⟨-, rfl⟩ := l1; rfl
          rcases hcase with hnil | ⟨tk, hown, hlive, hgm⟩
          · rw [hnil] at l1 ⊢
            simp only [toD, Option.some.injEq, DV.sl.injEq] at l1
            obtain ⟨-, rfl⟩ := l1
            simp only [List.length_nil, Nat.zero_add] at hb1 hb2
            exact ⟨hb1, hb2, hfin st hm2⟩
          · rw [hown] at hgav ⊢
            refine ⟨rfl, hlive, hb1, hb2, ?_⟩
            refine hfin (st.eat tk) (hm2.eat (fun g' e' s' xs' hx' hgv => ?_) (hm.gT g e tk n xs hgm hgav))
            obtain ⟨h6, h7⟩ := grm_mem hx'
            exact hm1.gd g e g' e' hgm h6 (fun h => h7 h.symm) tk n xs s' xs' hgav hgv
        · rw [if_neg hgr] at hr
          unfold errGrow at hr
          split at hr
          · split at hr <;> simp [run] at hr
          · simp [run] at hr
      · simp [run] at hr
  · simp [run] at hr
omit hc hm hs in
theorem rel_append {vs us : List SV} {as bs : List AV} (hl : vs.length = as.length) (h : ∀ (i : Nat) (v : SV) (a : AV), vs[i]? = some v → as[i]? = some a → RV E v a) (hl' : us.length = bs.length) (h' : ∀ (i : Nat) (v : SV) (a : AV), us[i]? = some v → bs[i]? = some a → RV E v a) :
    (vs ++ us).length = (as ++ bs).length ∧ ∀ (i : Nat) (v : SV) (a : AV), (vs ++ us)[i]? = some v → (as ++ bs)[i]? = some a → RV E v a := by
  refine ⟨by simp [hl, hl'], fun i v a h1 h2 => ?_⟩
  rw [List.getElem?_append] at h1 h2
  by_cases hi : i < vs.length
  · rw [if_pos hi] at h1
    rw [if_pos (by omega)] at h2
    exact h i v a h1 h2
  · rw [if_neg hi] at h1
    rw [if_neg (by omega)] at h2
    rw [hl] at h1
    exact h' _ v a h1 h2
omit hc hm hs in
theorem rel_cons {v : SV} {a : AV} {us : List SV} {bs : List AV} (h : RV E v a) (hl' : us.length = bs.length) (h' : ∀ (i : Nat) (v : SV) (a : AV), us[i]? = some v → bs[i]? = some a → RV E v a) :
    (v :: us).length = (a :: bs).length ∧ ∀ (i : Nat) (w : SV) (b : AV), (v :: us)[i]? = some w → (a :: bs)[i]? = some b → RV E w b :=
  rel_append (vs := [v]) (as := [a]) rfl (fun i w b h1 h2 => by cases i with | zero => simp at h1 h2; subst h1; subst h2; exact h | succ i => simp at h1) hl' h'
theorem e_call {c : Call} {cal : Cal} (hcal : CalOk P C Γ r cal) (hnb : ∀ b, c.callee ≠ .builtin b) (hx : ∀ x ∈ (Op.call c).operands.toList, opOk x = true) (hr : run Γ (sxE cf cal S sl (.call c) K) E.ρ = some r) (hK : Next P C Γ r E K J) : eff P tm st J (.call c) := by
  have hargs : c.args.toList.all opOk = true := List.all_eq_true.2 fun x h => hx x (mem_call h)
  cases hce : c.callee with
  | builtin b => exact absurd hce (hnb b)
  | value f =>
    have hf : opOk f = true := hx f (by simp [Op.operands, Call.operands, hce])
    have hb : ∀ b, Callee.value f ≠ .builtin b := fun b => by intro h; cases h
    simp only [sxE, hce] at hr
    obtain ⟨fv, hr1, hfv⟩ := useV_run (on := true) hm (opd_ok hm hs hf) rfl hr
    clear hr
    obtain ⟨vs, hr, hl, hvs⟩ := useAll_run (on := true) hm hs rfl hargs hr1
    clear hr1
    have hfv := hfv rfl
    have hvs : ∀ (i : Nat) (v : SV) (a : AV), vs[i]? = some v → (argsA tm c.args)[i]? = some a → RV E v a := hvs rfl
    have hl : vs.length = (argsA tm c.args).length := by rw [hl]; simp [argsA]
    simp only [eff, hce]
    refine ⟨hf, hargs, ?_⟩
    cases fv with
    | fn F fs cs =>
      cases F with
      | func k =>
        generalize opnd tm f = av at hfv
        cases hfv with
        | @fn _ _ _ as bs h1 h2 h3 h4 =>
          simp only [callA]
          obtain ⟨q1, q2⟩ := rel_append h1 h2 hl hvs
          obtain ⟨q3, q4⟩ := rel_append q1 q2 h3 h4
          exact hcal k _ _ S K E st J hr hm q3 q4 hK
      | method name =>
        rcases fs with _ | ⟨v0, _ | ⟨v1, fs⟩⟩
        · simp [run] at hr
        · cases v0 with
          | ifc t v =>
            rcases cs with _ | ⟨w0, cs⟩
            · generalize opnd tm f = av at hfv
              cases hfv with
              | @fn _ _ _ as bs h1 h2 h3 h4 =>
                rcases as with _ | ⟨a, _ | ⟨a1, as⟩⟩
                · simp at h1
                · rcases bs with _ | ⟨b0, bs⟩
                  · have h5 := h2 0 _ a rfl rfl
                    cases h5 with
                    | @ifc _ _ a' h6 =>
                      cases hme : cf.meth t name with
                      | none => simp only [hme] at hr; simp [run] at hr
                      | some k =>
                        simp only [hme] at hr
                        obtain ⟨q1, q2⟩ := rel_cons h6 hl hvs
                        exact ⟨k, hc.meth t name k hme, hcal k _ _ S K E st J hr hm q1 q2 hK⟩
                  · simp at h3
                · simp at h1
            · simp [run] at hr
          | _ => simp [run] at hr
        · cases v0 <;> simp [run] at hr
      | methodOf t0 name =>
        rcases fs with _ | ⟨v0, fs⟩
        · rcases cs with _ | ⟨w0, cs⟩
          · simp only at hr
            split at hr
            · simp [run] at hr
            · rename_i hk6
              have hint : ∃ m, P.underlying t0 = some (.interface m) := by
                have : kindOf cf t0 = 6 := by
                  have h := hk6
                  simp only [Bool.not_eq_false] at h
                  exact nbeq h
                unfold kindOf at this
                cases hi : cf.ti t0 with
                | none => rw [hi] at this; cases this
                | some i => rw [hi] at this; exact (hc.ti t0 i hi).kind6 this
              obtain ⟨m, hint⟩ := hint
              generalize opnd tm f = av at hfv
              cases hfv with
              | @fn _ _ _ as bs h1 h2 h3 h4 =>
                rcases as with _ | ⟨a, as⟩
                · rcases bs with _ | ⟨b0, bs⟩
                  · rcases vs with _ | ⟨v, rest⟩
                    · simp [run] at hr
                    · cases v with
                      | ifc t v =>
                        generalize argsA tm c.args = as at hl hvs
                        rcases as with _ | ⟨a, as⟩
                        · simp at hl
                        · have h5 := hvs 0 _ a rfl rfl
                          cases h5 with
                          | @ifc _ _ a' h6 =>
                            cases hme : cf.meth t name with
                            | none => simp only [hme] at hr; simp [run] at hr
                            | some k =>
                              simp only [hme] at hr
                              simp only [callA, hint]
                              obtain ⟨q1, q2⟩ := rel_cons h6 (us := rest) (bs := as) (by simpa using hl) (fun i w b q1 q2 => hvs (i + 1) w b (by simpa using q1) (by simpa using q2))
                              exact ⟨k, hc.meth t name k hme, hcal k _ _ S K E st J hr hm q1 q2 hK⟩
                      | _ => simp [run] at hr
                  · simp at h3
                · simp at h1
          · simp [run] at hr
        · cases v0 <;> simp [run] at hr
      | _ => simp [run] at hr
    | _ => simp [run] at hr
  | invoke rv name =>
    have hf : opOk rv = true := hx rv (by simp [Op.operands, Call.operands, hce])
    simp only [sxE, hce] at hr
    obtain ⟨fv, hr1, hfv⟩ := useV_run (on := true) hm (opd_ok hm hs hf) rfl hr
    clear hr
    obtain ⟨vs, hr, hl, hvs⟩ := useAll_run (on := true) hm hs rfl hargs hr1
    clear hr1
    have hfv := hfv rfl
    have hvs : ∀ (i : Nat) (v : SV) (a : AV), vs[i]? = some v → (argsA tm c.args)[i]? = some a → RV E v a := hvs rfl
    have hl : vs.length = (argsA tm c.args).length := by rw [hl]; simp [argsA]
    simp only [eff, hce]
    refine ⟨hf, hargs, ?_⟩
    cases fv with
    | ifc t v =>
      generalize opnd tm rv = av at hfv
      cases hfv with
      | @ifc _ _ a' h6 =>
        cases hme : cf.meth t name with
        | none => simp only [hme] at hr; simp [run] at hr
        | some k =>
          simp only [hme] at hr
          obtain ⟨q1, q2⟩ := rel_cons h6 hl hvs
          exact ⟨k, hc.meth t name k hme, hcal k _ _ S K E st J hr hm q1 q2 hK⟩
    | _ => simp [run] at hr
/-- Any operation but a pick. -/
theorem sxE_run {op : Op} {cal : Cal} (hcal : CalOk P C Γ r cal) (hx : op.operands.toList.all opOk = true) (hr : run Γ (sxE cf cal S sl op K) E.ρ = some r) (hK : Next P C Γ r E K J) : eff P tm st J op := by
  have hmem : ∀ x, x ∈ op.operands.toList → opOk x = true := fun x h => List.all_eq_true.1 hx x h
  have pure_ : ∀ (hr : run Γ (sxP cf S none sl op K) E.ρ = some r), eff P tm st J op := fun hr =>
    PRun.eff hm (sxP_keeps hr) (sxP_run hc hm hs (g := none) rfl hx hr) hK
  cases op <;> try exact pure_ hr
  case store t x y => exact e_store hc hm hs (hmem x (by simp [Op.operands])) (hmem y (by simp [Op.operands])) hr hK
  case alloc t => exact e_alloc hc hm hs hr hK
  case box t x => exact e_box hc hm hs (hmem x (by simp [Op.operands])) hr hK
  case buildSlice t len ps => exact e_buildSlice hc hm hs (List.all_eq_true.2 fun x h => hmem x.2 (by simp only [Op.operands]; exact List.mem_map_of_mem h)) hr hK
  case call c =>
    cases hce : c.callee with
    | builtin b =>
      by_cases hb : b = .append
      · subst hb
        exact e_append hc hm hs hce (fun x h => hmem x (mem_call h)) hr hK
      · refine pure_ ?_
        have hr' := hr
        simp only [sxE, hce] at hr'
        exact hr'
    | _ => exact e_call hc hm hs hcal (fun b => by rw [hce]; intro h; cases h) hmem hr hK
end
end Go.AW

namespace Go.AW
open Go.RowKit
theorem lk_filter {α : Type} {i d : Nat} (h : i ≠ d) : ∀ l : List (Nat × α), lk i (l.filter fun x => !(Nat.beq x.1 d)) = lk i l
  | [] => rfl
  | (j, x) :: l => by
    simp only [List.filter_cons, lk]
    by_cases hj : Nat.beq j d = true
    · rw [if_neg (by rw [hj]; decide), lk_filter h l, if_neg]
      intro e
      rw [nbeq e, nbeq hj] at h
      exact h rfl
    · have hj' : Nat.beq j d = false := by cases e : Nat.beq j d with | true => exact absurd e hj | false => rfl
      rw [if_pos (by rw [hj']; rfl)]
      simp only [lk, lk_filter h l]
theorem RSE.gd {E : En} {a : At} {v : SV} {av : AV} {b : Bool} (h1 : a.ev E.ρ = some [.lit (.bool b)]) (h2 : b = true → RVd E v av) (h3 : b = false → av = undefAV) : RSE E ⟨some a, v⟩ av := ⟨b, h1, h2, h3⟩
theorem RTS.putE {E : En} {sl : List (Nat × SE)} {tm : Tm} {dst : Option Nat} {e : SE} {v : AV} (hs : RTS E sl tm) (he : RSE E e v) : RTS E (putE sl dst e) (put tm dst v) := by
  cases dst with
  | none => exact hs
  | some d =>
    intro i f hi
    simp only [AW.putE, lk] at hi
    by_cases hd : i = d
    · subst hd
      rw [if_pos (by simp [Nat.beq_eq])] at hi
      cases hi
      simp only [put, upd, if_true]
      exact he
    · rw [if_neg (by intro e; exact hd (nbeq e)), lk_filter hd] at hi
      have := hs i f hi
      simp only [put, upd, if_neg hd]
      exact this
section
variable {P : Program} {cf : Cf} {C : Ctx} {Γ : Den} {r : Rs}
/-- Calls under a guard do what their trees say. -/
def KOk (P : Program) (cf : Cf) (C : Ctx) (Γ : Den) (r : Rs) : Prop :=
  ∀ (op : Op) (S : SS) (a : At) (b : Bool) (sl : List (Nat × SE)) (tm : Tm) (K : KV) (E : En) (st : St) (J : AV → St → Prop), run Γ (sxK cf S (some a) sl op K) E.ρ = some r → RM P C E S st → RTS E sl tm → op.operands.toList.all opOk = true →
    a.ev E.ρ = some [.lit (.bool b)] → (b = true → Next P C Γ r E K J → eff P tm st J op) ∧ (b = false → ∃ l S' v, run Γ (K S' v) (E.ρ ++ l) = some r ∧ RM P C (E.push l) S' st)
variable {E : En} {st : St} {tm : Tm} {q : Sq} {K : Sq → Tr} {J : AV → St → Prop} {nt : Nat} {ops : List Oper} {o : Oper} {cal : Cal}
theorem sxO_run (hc : CfOk P cf) (hcal : CalOk P C Γ r cal) (hko : KOk P cf C Γ r) (hm : RM P C E q.s st) (hs : RTS E q.sl tm) (hd : dstOk nt o.dst = true) (hx : o.op.operands.toList.all opOk = true) (hr : run Γ (sxO cf cal ops o q K) E.ρ = some r)
    (hK : ∀ E' q' v st', E.le E' → RM P C E' q'.s st' → RTS E' q'.sl (put tm o.dst v) → run Γ (K q') E'.ρ = some r → J v st') : F P nt ops o tm st J := by
  unfold sxO at hr
  obtain ⟨l, S, gd, hr, hm1, hkg, hgd⟩ := sxG_run hm hs hr
  have hle := En.le_push E l
  have hs1 := hs.mono hle
  -- a pure one
  have pureK : ∀ {op : Op} {a : At} {b : Bool}, o.op = op → keeps op = true → a.ev (E.ρ ++ l) = some [.lit (.bool b)] → gdec ops tm o.guard = some b →
      PRun P tm st op Γ (fun S v => K ⟨S, putE q.sl o.dst ⟨some a, v⟩⟩) S (E.push l) b r → F P nt ops o tm st J := by
    intro op a b hop hk ha hg hp
    obtain ⟨l2, v, h1, h2⟩ := hp
    have ha2 : a.ev ((E.push l).push l2).ρ = some [.lit (.bool b)] := At.ev_mono ha l2
    have hle2 := hle.trans (En.le_push (E.push l) l2)
    refine ⟨b, hg, hd, fun hb => ?_, fun hb => ?_⟩
    · subst hb
      obtain ⟨h3, h4⟩ := h2 rfl
      rw [hop, eff_kv hk]
      exact ⟨h3, hK _ _ _ _ hle2 (hm1.push l2) ((hs.mono hle2).putE (e := ⟨some a, v⟩) (RSE.gd ha2 (fun _ => .inr h4) (fun e => by cases e))) h1⟩
    · subst hb
      exact hK _ _ undefAV _ hle2 (hm1.push l2) ((hs.mono hle2).putE (e := ⟨some a, v⟩) (RSE.gd ha2 (fun e => by cases e) (fun _ => rfl))) h1
  cases gd with
  | no =>
    refine ⟨false, hgd, hd, fun e => (by cases e), fun _ => ?_⟩
    exact hK _ _ undefAV _ hle hm1 (hs1.putE (e := ⟨none, .un⟩) (.inr .un)) hr
  | yes =>
    refine ⟨true, hgd, hd, fun _ => ?_, fun e => by cases e⟩
    have hpick : ∀ c x y, o.op = .pick c x y → eff P tm st J o.op := by
      intro c x y hop
      rw [hop] at hr hx ⊢
      have hmem : ∀ z, z ∈ (Op.pick c x y).operands.toList → opOk z = true := fun z h => List.all_eq_true.1 hx z h
      obtain ⟨l2, v, h1, h2⟩ := sxPick_run (on := true) hm1 hs1 rfl (hmem c (by simp [Op.operands])) (hmem x (by simp [Op.operands])) (hmem y (by simp [Op.operands])) hr
      obtain ⟨h3, h4⟩ := h2 rfl
      rw [eff_kv rfl]
      have hle2 := hle.trans (En.le_push (E.push l) l2)
      exact ⟨h3, hK _ _ _ _ hle2 (hm1.push l2) ((hs.mono hle2).putE (e := ⟨none, v⟩) (.inr h4)) h1⟩
    have hother : run Γ (sxE cf cal S q.sl o.op fun S v => K ⟨S, putE q.sl o.dst ⟨none, v⟩⟩) (E.push l).ρ = some r → eff P tm st J o.op := fun hr =>
      sxE_run hc hm1 hs1 hcal hx hr fun E' S' v av st' h1 h2 h3 h4 => hK _ _ _ _ (hle.trans h1) h2 ((hs1.mono h1).putE (e := ⟨none, v⟩) (.inr h3)) h4
    cases hop : o.op <;> simp only [hop] at hr <;> first | (rw [← hop]; exact hpick _ _ _ hop) | (rw [← hop]; exact hother (by rw [hop]; exact hr))
  | «at» a =>
    obtain ⟨b, ha, hg⟩ := hgd
    have hpick : ∀ c x y, o.op = .pick c x y → F P nt ops o tm st J := by
      intro c x y hop
      rw [hop] at hr hx
      have hmem : ∀ z, z ∈ (Op.pick c x y).operands.toList → opOk z = true := fun z h => List.all_eq_true.1 hx z h
      exact pureK hop rfl ha hg (sxPick_run (on := b) hm1 hs1 (by simp only [gate]; rw [show a.ev (E.push l).ρ = _ from ha]) (hmem c (by simp [Op.operands])) (hmem x (by simp [Op.operands])) (hmem y (by simp [Op.operands])) hr)
    have hother : run Γ (if isSx o.op = false then sxP cf S (some a) q.sl o.op fun S v => K ⟨S, putE q.sl o.dst ⟨some a, v⟩⟩
      else if callKeeps cf q.sl o.op = true then sxK cf S (some a) q.sl o.op fun S v => K ⟨S, putE q.sl o.dst ⟨some a, v⟩⟩
      else splitC (fun S => sxE cf cal (learn 20 S a true) q.sl o.op fun S v => K ⟨S, putE q.sl o.dst ⟨none, v⟩⟩) (fun S => K ⟨learn 20 S a false, putE q.sl o.dst ⟨none, .un⟩⟩) (parts S 20 a) S) (E.push l).ρ = some r → F P nt ops o tm st J := by
      intro hr
      split at hr
      · exact pureK rfl (sxP_keeps hr) ha hg (sxP_run hc hm1 hs1 (by simp only [gate]; rw [show a.ev (E.push l).ρ = _ from ha]) hx hr)
      · split at hr
        · obtain ⟨h1, h2⟩ := hko o.op S a b q.sl tm _ (E.push l) st J hr hm1 hs1 hx ha
          refine ⟨b, hg, hd, fun hb => ?_, fun hb => ?_⟩
          · subst hb
            refine h1 rfl fun E' S' v av st' k1 k2 k3 k4 => hK _ _ _ _ (hle.trans k1) k2 ((hs1.mono k1).putE (e := ⟨some a, v⟩) (RSE.gd (At.ev_le k1 ha) (fun _ => .inr k3) (fun e => by cases e))) k4
          · obtain ⟨l2, S', v, k1, k2⟩ := h2 hb
            subst hb
            have hle2 := hle.trans (En.le_push (E.push l) l2)
            exact hK _ _ undefAV _ hle2 k2 ((hs.mono hle2).putE (e := ⟨some a, v⟩) (RSE.gd (At.ev_mono ha l2) (fun e => by cases e) (fun _ => rfl))) k1
        · obtain ⟨S', h1, h2, h3⟩ := splitC_run _ hm1 hr
          obtain ⟨p1, p2⟩ := parts_ok hm1 20 (c := a) (b := b) ha
          refine ⟨b, hg, hd, fun hb => ?_, fun hb => ?_⟩
          · rcases h3 with ⟨h3, h4⟩ | ⟨h3, h4⟩
            · subst hb
              obtain ⟨h5, h6⟩ := learn_ok 20 h1 (c := a) (b := true) ha
              exact sxE_run hc h5 hs1 hcal hx h3 fun E' S' v av st' k1 k2 k3 k4 => hK _ _ _ _ (hle.trans k1) k2 ((hs1.mono k1).putE (e := ⟨none, v⟩) (.inr k3)) k4
            · have := p2 h4
              rw [hb] at this; cases this
          · rcases h3 with ⟨h3, h4⟩ | ⟨h3, h4⟩
            · have := p1 h4
              rw [hb] at this; cases this
            · subst hb
              obtain ⟨h5, h6⟩ := learn_ok 20 h1 (c := a) (b := false) ha
              exact hK _ _ undefAV _ hle h5 (hs1.putE (e := ⟨none, .un⟩) (.inr .un)) h3
    cases hop : o.op <;> simp only [hop] at hr <;> first | exact hpick _ _ _ hop | exact hother (by rw [hop]; exact hr)
theorem opsOk_mem {l : List Oper} (h : opsOk nt l = true) {o : Oper} (ho : o ∈ l) : dstOk nt o.dst = true ∧ o.op.operands.toList.all opOk = true := by
  have := List.all_eq_true.1 h o ho
  simpa only [Bool.and_eq_true] using this
/-- In the order of the text. -/
theorem sxR_run (hc : CfOk P cf) (hcal : CalOk P C Γ r cal) (hko : KOk P cf C Γ r) {Kp : Tm → St → Prop} : ∀ (l : List Oper) {E : En} {q : Sq} {st : St} {tm : Tm}, opsOk nt l = true → RM P C E q.s st → RTS E q.sl tm → run Γ (sxR cf cal ops l q K) E.ρ = some r →
    (∀ E' q' tm' st', E.le E' → RM P C E' q'.s st' → RTS E' q'.sl tm' → run Γ (K q') E'.ρ = some r → Kp tm' st') → wpL P nt ops l tm st Kp
  | [], E, q, st, tm, _, hm, hs, hr, hK => hK E q tm st (En.le.refl E) hm hs hr
  | o :: l, E, q, st, tm, ho, hm, hs, hr, hK => by
    simp only [sxR] at hr
    obtain ⟨h1, h2⟩ := opsOk_mem ho (List.mem_cons_self ..)
    have ho' : opsOk nt l = true := by
      simp only [opsOk, List.all_cons, Bool.and_eq_true] at ho
      exact ho.2
    simp only [wpL]
    rw [wpAt_F]
    exact sxO_run hc hcal hko hm hs h1 h2 hr fun E' q' v st' k1 k2 k3 k4 => sxR_run hc hcal hko l ho' k2 k3 k4 fun E2 q2 tm2 st2 j1 j2 j3 j4 => hK E2 q2 tm2 st2 (k1.trans j1) j2 j3 j4
end
end Go.AW

namespace Go.AW
open Go.RowKit
def RDM (E : En) (ag : Bool) : RDv → List AV → Prop
  | .sv v, p => Piece E ag v p
  | .base a n m d k acc, p => ∃ cs0 avs, RB0 E a n m cs0 ∧ AccR E acc avs ∧ foldOv acc avs ((cs0.drop d).take k) = some p
  | .no, _ => False
theorem Piece.uniq {E : En} {ag : Bool} {v : SV} {p p' : List AV} (h : Piece E ag v p) (h' : Piece E ag v p') : p = p' := by
  cases ag with
  | true =>
    have := RV.uniq h h'
    cases this; rfl
  | false =>
    obtain ⟨c, rfl, h1⟩ : ∃ c, p = [c] ∧ RV E v c := h
    obtain ⟨c', rfl, h2⟩ : ∃ c, p' = [c] ∧ RV E v c := h'
    rw [h1.uniq h2]
theorem AccR.uniq {E : En} : ∀ {ov : List (Nat × Nat × SV)} {avs avs' : List AV}, AccR E ov avs → AccR E ov avs' → avs = avs'
  | [], avs, avs', h, h' => by
    have := h.1; have := h'.1
    cases avs <;> cases avs' <;> simp_all
  | x :: ov, avs, avs', h, h' => by
    obtain ⟨a, l, rfl, h1, h2⟩ := h.uncons
    obtain ⟨a', l', rfl, h3, h4⟩ := h'.uncons
    rw [h1.uniq h3, AccR.uniq h2 h4]
theorem RDM.uniq {E : En} {ag : Bool} {x : RDv} {p p' : List AV} (h : RDM E ag x p) (h' : RDM E ag x p') : p = p' := by
  cases x with
  | sv v => exact Piece.uniq h h'
  | base a n m d k acc =>
    obtain ⟨c1, a1, h1, h2, h3⟩ := h
    obtain ⟨c2, a2, h4, h5, h6⟩ := h'
    obtain rfl := h1.uniq h4
    obtain rfl := h2.uniq h5
    rw [h3] at h6
    cases h6; rfl
  | no => exact h.elim
theorem RB.uniq {E : En} {a : At} {n : Nat} {m : BM} {ov : List (Nat × Nat × SV)} {cs cs' : List AV} (h : RB E a n m ov cs) (h' : RB E a n m ov cs') : cs = cs' := by
  have := h.agg.uniq h'.agg
  cases this; rfl
section
variable {E : En}
theorem rdv_ok {k : Nat} {ag : Bool} (hk : ag = false → k = 1) : ∀ (fu : Nat) {a : At} {n : Nat} {m : BM} {ov : List (Nat × Nat × SV)} {d : Nat} {acc : List (Nat × Nat × SV)} {cs avs cs' : List AV}, RB E a n m ov cs → AccR E acc avs → foldOv acc avs ((cs.drop d).take k) = some cs' →
    rdv k ag fu a n m ov d acc ≠ .no → RDM E ag (rdv k ag fu a n m ov d acc) cs'
  | 0, a, n, m, ov, d, acc, cs, avs, cs', hb, ha, hf, hn => by simp [rdv] at hn
  | fu + 1, a, n, m, [], d, acc, cs, avs, cs', hb, ha, hf, hn => by
    obtain ⟨cs0, avs0, h3, h4, h5⟩ := hb
    have := h4.1
    cases avs0 with
    | cons _ _ => simp at this
    | nil =>
      simp only [foldOv, Option.some.injEq] at h5
      subst h5
      exact ⟨cs0, avs, h3, ha, hf⟩
  | fu + 1, a, n, m, (o1, n1, v1) :: rest, d, acc, cs, avs, cs', hb, ha, hf, hn => by
    obtain ⟨c, av, h3, h4, h5, h6, h7, rfl⟩ := hb.cons_inv
    simp only [rdv] at hn ⊢
    split
    · rename_i hd
      rw [if_pos hd] at hn
      rw [splice_apart (by omega) (by omega)] at hf
      exact rdv_ok hk fu h3 ha hf hn
    · rename_i hd
      rw [if_neg hd] at hn
      split
      · rename_i hd2
        rw [if_pos hd2] at hn
        by_cases hag : isAgg v1 = true
        · obtain ⟨a1, k1, m1, ov1, rfl⟩ : ∃ a n m ov, v1 = .agg a n m ov := by cases v1 <;> first | exact ⟨_, _, _, _, rfl⟩ | simp [isAgg] at hag
          simp only at hn ⊢
          obtain ⟨cs1, rfl, h8⟩ := h4.agg_inv
          rw [splice_cover (by omega) (by omega) (by omega)] at hf
          split
          · rename_i hc
            simp only [Bool.and_eq_true, Nat.beq_eq, List.isEmpty_iff] at hc
            obtain ⟨⟨⟨rfl, rfl⟩, rfl⟩, rfl⟩ := hc
            have := ha.1
            cases avs with
            | cons _ _ => simp at this
            | nil =>
              simp only [foldOv, Option.some.injEq] at hf
              subst hf
              simp only [cellsL] at h5 ⊢
              rw [Nat.sub_self, List.drop_zero, List.take_of_length_le (by omega)]
              exact h8.agg
          · rename_i hc
            rw [if_neg hc] at hn
            exact rdv_ok hk fu h8 ha hf hn
        · have hna : isAgg v1 = false := by simpa using hag
          have hone := h4.one_cell hna
          rw [hone] at h5
          simp only [List.length_cons, List.length_nil] at h5
          cases acc with
          | cons x acc => cases v1 <;> first | (simp [isAgg] at hna; done) | (simp at hn; done)
          | nil =>
            have hgoal : ag = false → Piece E ag v1 cs' := by
              intro hag'
              have := ha.1
              cases avs with
              | cons _ _ => simp at this
              | nil =>
                simp only [foldOv, Option.some.injEq] at hf
                subst hf
                subst hag'
                obtain rfl := hk rfl
                rw [splice_cover (by rw [hone]; simp; omega) (by omega) (by rw [hone]; simp; omega), hone]
                have e : d - o1 = 0 := by omega
                rw [e]
                exact ⟨av, rfl, h4⟩
            cases ag with
            | true => cases v1 <;> first | (simp [isAgg] at hna; done) | (simp at hn; done)
            | false => cases v1 <;> first | (simp [isAgg] at hna; done) | exact hgoal rfl
      · rename_i hd2
        rw [if_neg hd2] at hn
        split
        · rename_i hd3
          rw [if_pos hd3] at hn
          rw [splice_in (by omega) (by omega) (by omega)] at hf
          refine rdv_ok hk fu h3 (ha.snoc h4) ?_ hn
          rw [foldOv_snoc ha.1 h5 h6 (by simp; omega)]
          exact hf
        · rename_i hd3
          rw [if_neg hd3] at hn
          exact absurd rfl hn
end
theorem eqRD_eq {x y : RDv} (h : eqRD x y = true) : x = y ∧ x ≠ .no := by
  cases x <;> cases y <;> simp only [eqRD, Bool.false_eq_true] at h
  · rw [eqS_eq h]; exact ⟨rfl, by intro e; cases e⟩
  · simp only [Bool.and_eq_true] at h
    rw [eqA_eq h.1.1.1.1.1, nbeq h.1.1.1.1.2, eqM_eq h.1.1.1.2, nbeq h.1.1.2, nbeq h.1.2, eqOv_eq h.2]
    exact ⟨rfl, by intro e; cases e⟩
def RMob (E : En) (obs : List Ob) (st : St) : Prop := ∀ j o, obs[j]? = some o → ∃ id, E.ι j = some id ∧ RB E o.a o.n o.m o.ov (st.obj id).2
theorem RMob.mono {E E' : En} (h : E.le E') {obs : List Ob} {st : St} (hr : RMob E obs st) : RMob E' obs st := fun j o hj => by
  obtain ⟨id, h1, h2⟩ := hr j o hj
  exact ⟨id, h.ι _ _ h1, h2.mono h⟩
theorem RM.rmob {P : Program} {C : Ctx} {E : En} {S : SS} {st : St} (h : RM P C E S st) : RMob E S.ob st := fun j o hj => by
  obtain ⟨id, h1, -, -, h4⟩ := h.ob j o hj
  exact ⟨id, h1, h4⟩
theorem sameRd_ok {E : En} {x y : List Ob} {st st' : St} {o off k id : Nat} {ag : Bool} (hx : RMob E x st) (hy : RMob E y st') (h : sameRd x y o off k ag = true) (hi : E.ι o = some id) (hk : ag = false → k = 1) :
    sub (st.obj id).2 off k ag = sub (st'.obj id).2 off k ag := by
  unfold sameRd at h
  split at h
  · rename_i a b ha hb
    obtain ⟨i1, h1, h2⟩ := hx o a ha
    obtain ⟨i2, h3, h4⟩ := hy o b hb
    rw [hi] at h1 h3
    cases h1; cases h3
    rw [Bool.or_eq_true] at h
    rcases h with h | h
    · obtain rfl := eqOb_eq h
      rw [h2.uniq h4]
    · simp only [Bool.and_eq_true] at h
      obtain ⟨hl, hr⟩ := h
      obtain ⟨hr, hno⟩ := eqRD_eq hr
      have q1 := rdv_ok (d := off) hk 100 h2 (AccR.nil E) rfl hno
      have q2 := rdv_ok (d := off) hk 100 h4 (AccR.nil E) rfl (by rw [← hr]; exact hno)
      rw [hr] at q1
      have hp := q1.uniq q2
      have hlen : (st.obj id).2.length = (st'.obj id).2.length := by rw [h2.len, h4.len]; exact nbeq hl
      unfold sub
      cases ag with
      | true => simp only [if_true]; rw [hlen, hp]
      | false =>
        obtain rfl := hk rfl
        simp only [Bool.false_eq_true, if_false]
        rw [hlen]
        congr 1
        have := congrArg (fun l => l[0]?) hp
        simp only [List.getElem?_take, List.getElem?_drop] at this
        rw [List.getD_eq_getElem?_getD, List.getD_eq_getElem?_getD]
        have : (st.obj id).2[off]? = (st'.obj id).2[off]? := by simpa using this
        rw [this]
  · cases h
theorem critH_iff {crit : List (Nat × Nat)} {i j : Nat} : critH crit i j = true ↔ (i, j) ∈ crit := by
  simp only [critH, List.any_eq_true, Bool.and_eq_true, Nat.beq_eq]
  constructor
  · rintro ⟨⟨a, b⟩, h1, h2, h3⟩
    simp only at h2 h3
    subst h2; subst h3; exact h1
  · intro h; exact ⟨_, h, rfl, rfl⟩
section
variable {P : Program} {cf : Cf} {C : Ctx} {Γ : Den} {r : Rs} {nt : Nat} {ops : List Oper} {cal : Cal} {K : Sq → Tr}
/-- A read, as the symbols tell it. -/
theorem ldOf_ok {E : En} {sl : List (Nat × SE)} {tm : Tm} (hc : CfOk P cf) (hs : RTS E sl tm) {op : Op} {o off k : Nat} {ag : Bool} (h : ldOf cf sl op = some (some (o, off, k, ag))) :
    (ag = false → k = 1) ∧ ((∀ s s' : St, kv P tm s op = kv P tm s' op) ∨ ∃ id X, E.ι o = some id ∧ ∀ s : St, kv P tm s op = ⟨X ∧ (sub (s.obj id).2 off k ag).ok, (sub (s.obj id).2 off k ag).v⟩) := by
  unfold ldOf at h
  split at h
  · rename_i t i
    split at h
    · rename_i e ti he hti
      split at h
      · rename_i o' off' hv
        simp only [Option.some.injEq, Prod.mk.injEq] at h
        obtain ⟨rfl, rfl, rfl, rfl⟩ := h
        have htk := hc.ti t ti hti
        refine ⟨htk.one, ?_⟩
        have h1 := hs i e he
        obtain ⟨g, v⟩ := e
        simp only at hv
        subst hv
        have hptr : RVd E (.ptr o' off') (tm i) → ∃ id X, E.ι o' = some id ∧ ∀ s : St, kv P tm s (.load t (.tmp i)) = ⟨X ∧ (sub (s.obj id).2 off' ti.size ti.agg).ok, (sub (s.obj id).2 off' ti.size ti.agg).v⟩ := by
          rintro (⟨q, h2⟩ | h2)
          · cases h2
          · generalize hte : tm i = av at h2
            cases h2 with
            | @ptr _ _ id h3 => exact ⟨id, opOk (.tmp i) = true, h3, fun s => by simp only [kv, opnd, hte, htk.sz]⟩
        cases g with
        | none => exact .inr (hptr h1)
        | some a =>
          obtain ⟨b, h2, h3, h4⟩ := h1
          cases b with
          | true => exact .inr (hptr (h3 rfl))
          | false =>
            refine .inl fun s s' => ?_
            simp only [kv, opnd, h4 rfl, undefAV]
      · cases h
      · cases h
      · cases h
      · cases h
    · cases h
  · cases h
theorem ldOf_no {E : En} {sl : List (Nat × SE)} {tm : Tm} (hs : RTS E sl tm) {op : Op} (h : ldOf cf sl op = some none) : ∀ s s' : St, kv P tm s op = kv P tm s' op := by
  unfold ldOf at h
  split at h
  · rename_i t i
    split at h
    · rename_i e ti he hti
      have h1 := hs i e he
      obtain ⟨g, v⟩ := e
      have hcst : (v ≠ .un → v ≠ .un) := id
      have hund : tm i = undefAV → ∀ s s' : St, kv P tm s (.load t (.tmp i)) = kv P tm s' (.load t (.tmp i)) := fun hu s s' => by simp only [kv, opnd, hu, undefAV]
      have hpp : (∃ cs, tm i = .pp cs) → ∀ s s' : St, kv P tm s (.load t (.tmp i)) = kv P tm s' (.load t (.tmp i)) := fun ⟨cs, hu⟩ s s' => by simp only [kv, opnd, hu]
      have key : RVd E v (tm i) → ∀ s s' : St, kv P tm s (.load t (.tmp i)) = kv P tm s' (.load t (.tmp i)) := by
        rintro (⟨q, rfl⟩ | h2)
        · simp at h
        · generalize hte : tm i = av at h2 hund hpp
          cases h2 with
          | pp => exact hpp ⟨_, rfl⟩
          | pv => exact hpp ⟨_, rfl⟩
          | un => exact hund rfl
          | _ => simp at h
      cases g with
      | none => exact key h1
      | some a =>
        obtain ⟨b, h2, h3, h4⟩ := h1
        cases b with
        | true => exact key (h3 rfl)
        | false => exact hund (h4 rfl)
    · cases h
  · cases h
structure GsOk (E : En) (gs : Gs) (gm : Gm) : Prop where
  crit : gm.crit = gs.crit
  hist : ∀ p ∈ gm.hist, ∃ h ∈ gs.hist, h.1 = p.1 ∧ RMob E h.2 p.2
  lds : ∀ q ∈ gm.lds, (∀ s s', q.2 s = q.2 s') ∨ ∃ o off k ag id X, (q.1, o, off, k, ag) ∈ gs.lds ∧ E.ι o = some id ∧ (ag = false → k = 1) ∧ ∀ s : St, q.2 s = ⟨X ∧ (sub (s.obj id).2 off k ag).ok, (sub (s.obj id).2 off k ag).v⟩
theorem GsOk.mono {E E' : En} (h : E.le E') {gs : Gs} {gm : Gm} (hg : GsOk E gs gm) : GsOk E' gs gm where
  crit := hg.crit
  hist := fun p hp => by
    obtain ⟨q, h1, h2, h3⟩ := hg.hist p hp
    exact ⟨q, h1, h2, h3.mono h⟩
  lds := fun q hq => (hg.lds q hq).imp id fun ⟨o, off, k, ag, id, X, h1, h2, h3, h4⟩ => ⟨o, off, k, ag, id, X, h1, h.ι _ _ h2, h3, h4⟩
theorem sxRG_run (hc : CfOk P cf) (hcal : CalOk P C Γ r cal) (hko : KOk P cf C Γ r) {Kp : Tm → St → Prop} : ∀ (l : List Oper) {n : Nat} {gs : Gs} {gm : Gm} {E : En} {q : Sq} {st : St} {tm : Tm}, GsOk E gs gm → opsOk nt l = true → RM P C E q.s st → RTS E q.sl tm → run Γ (sxRG cf cal ops n gs l q K) E.ρ = some r →
    (∀ E' q' tm' st', E.le E' → RM P C E' q'.s st' → RTS E' q'.sl tm' → run Γ (K q') E'.ρ = some r → Kp tm' st') → wpH P nt ops gm (items n l) tm st Kp
  | [], n, gs, gm, E, q, st, tm, hg, _, hm, hs, hr, hK => hK E q tm st (En.le.refl E) hm hs hr
  | o :: l, n, gs, gm, E, q, st, tm, hg, ho, hm, hs, hr, hK => by
    simp only [sxRG] at hr
    obtain ⟨hd, hx⟩ := opsOk_mem ho (List.mem_cons_self ..)
    have ho' : opsOk nt l = true := by
      simp only [opsOk, List.all_cons, Bool.and_eq_true] at ho
      exact ho.2
    simp only [items, wpH]
    by_cases hld : isLoad o.op = true
    · rw [if_pos hld] at hr
      have hkeep : keeps o.op = true := by simp [keeps, hld]
      have hnext : gm.next P n o tm st = { gm with lds := (n, fun s => kv P tm s o.op) :: gm.lds } := by simp [Gm.next, hkeep, hld]
      rw [hnext]
      cases hl : ldOf cf q.sl o.op with
      | none => simp only [hl] at hr; simp [run] at hr
      | some y =>
        cases y with
        | none =>
          simp only [hl] at hr
          have hcon := ldOf_no (P := P) hs hl
          refine ⟨fun _ p _ _ => hcon _ _, sxO_run hc hcal hko hm hs hd hx hr fun E' q' v st' k1 k2 k3 k4 => ⟨fun hk => absurd hkeep (by rw [hk]; decide), ?_⟩⟩
          refine sxRG_run hc hcal hko l ?_ ho' k2 k3 k4 fun E2 q2 tm2 st2 j1 j2 j3 j4 => hK E2 q2 tm2 st2 (k1.trans j1) j2 j3 j4
          have hg' := hg.mono k1
          refine ⟨hg'.crit, hg'.hist, fun z hz => ?_⟩
          rcases List.mem_cons.1 hz with rfl | hz
          · exact .inl fun s s' => hcon s s'
          · exact hg'.lds z hz
        | some y =>
          obtain ⟨ob, off, k, ag⟩ := y
          simp only [hl] at hr
          split at hr
          · rename_i hall
            obtain ⟨hk1, hsem⟩ := ldOf_ok hc hs hl
            refine ⟨fun _ p hp hcr => ?_, sxO_run hc hcal hko hm hs hd hx hr fun E' q' v st' k1 k2 k3 k4 => ⟨fun hk => absurd hkeep (by rw [hk]; decide), ?_⟩⟩
            · rcases hsem with hsem | ⟨id, X, hi, hsem⟩
              · exact hsem _ _
              · obtain ⟨h, h1, h2, h3⟩ := hg.hist p hp
                have h4 := List.all_eq_true.1 hall h h1
                simp only [Bool.or_eq_true, Bool.not_eq_true'] at h4
                have hcr' : critH gs.crit h.1 n = true := critH_iff.2 (by rw [h2, ← hg.crit]; exact hcr)
                rcases h4 with h4 | h4
                · rw [hcr'] at h4; cases h4
                · rw [hsem, hsem, sameRd_ok h3 hm.rmob h4 hi hk1]
            · refine sxRG_run hc hcal hko l ?_ ho' k2 k3 k4 fun E2 q2 tm2 st2 j1 j2 j3 j4 => hK E2 q2 tm2 st2 (k1.trans j1) j2 j3 j4
              have hg' := hg.mono k1
              refine ⟨hg'.crit, hg'.hist, fun z hz => ?_⟩
              rcases List.mem_cons.1 hz with rfl | hz
              · rcases hsem with hsem | ⟨id, X, hi, hsem⟩
                · exact .inl fun s s' => hsem s s'
                · exact .inr ⟨ob, off, k, ag, id, X, List.mem_cons_self .., k1.ι _ _ hi, hk1, hsem⟩
              · exact (hg'.lds z hz).imp id fun ⟨o, off, k, ag, id, X, h1, h2, h3, h4⟩ => ⟨o, off, k, ag, id, X, List.mem_cons_of_mem _ h1, h2, h3, h4⟩
          · simp [run] at hr
    · rw [if_neg hld] at hr
      have hnl : isLoad o.op = true → False := hld
      by_cases hq : quiet o.op = true
      · rw [if_pos hq] at hr
        have hkeep : keeps o.op = true := by simp [keeps, hq]
        have hnext : gm.next P n o tm st = gm := by simp [Gm.next, hkeep, hld]
        rw [hnext]
        refine ⟨fun h => (hnl h).elim, sxO_run hc hcal hko hm hs hd hx hr fun E' q' v st' k1 k2 k3 k4 => ⟨fun hk => absurd hkeep (by rw [hk]; decide), ?_⟩⟩
        exact sxRG_run hc hcal hko l (hg.mono k1) ho' k2 k3 k4 fun E2 q2 tm2 st2 j1 j2 j3 j4 => hK E2 q2 tm2 st2 (k1.trans j1) j2 j3 j4
      · rw [if_neg hq] at hr
        have hkeep : keeps o.op = false := by simp [keeps, hq, hld]
        have hnext : gm.next P n o tm st = { gm with hist := (n, st) :: gm.hist } := by simp [Gm.next, hkeep]
        rw [hnext]
        refine ⟨fun h => (hnl h).elim, sxO_run hc hcal hko hm hs hd hx hr fun E' q' v st' k1 k2 k3 k4 => ?_⟩
        split at k4
        · rename_i hall
          have hg' := hg.mono k1
          refine ⟨fun _ z hz hcr => ?_, ?_⟩
          · rcases hg'.lds z hz with h | ⟨o, off, k, ag, id, X, h1, h2, h3, h4⟩
            · exact h _ _
            · have h5 := List.all_eq_true.1 hall _ h1
              simp only [Bool.or_eq_true, Bool.not_eq_true'] at h5
              have hcr' : critH gs.crit z.1 n = true := critH_iff.2 (by rw [← hg.crit]; exact hcr)
              rcases h5 with h5 | h5
              · rw [hcr'] at h5; cases h5
              · rw [h4, h4, sameRd_ok (hm.rmob.mono k1) k2.rmob h5 h2 h3]
          · refine sxRG_run hc hcal hko l ?_ ho' k2 k3 k4 fun E2 q2 tm2 st2 j1 j2 j3 j4 => hK E2 q2 tm2 st2 (k1.trans j1) j2 j3 j4
            refine ⟨hg'.crit, fun p hp => ?_, hg'.lds⟩
            rcases List.mem_cons.1 hp with rfl | hp
            · exact ⟨_, List.mem_cons_self .., rfl, hm.rmob.mono k1⟩
            · obtain ⟨h, h1, h2, h3⟩ := hg'.hist p hp
              exact ⟨h, List.mem_cons_of_mem _ h1, h2, h3⟩
        · simp [run] at k4
end
end Go.AW

namespace Go.AW
open Go.RowKit
def All2 (R : Nat → Row → Prop) : List Nat → List Row → Prop
  | [], [] => True
  | i :: l, r :: rs => R i r ∧ All2 R l rs
  | _, _ => False
theorem All2.imp {R R' : Nat → Row → Prop} (h : ∀ i r, R i r → R' i r) : ∀ {l : List Nat} {rs : List Row}, All2 R l rs → All2 R' l rs
  | [], [], _ => trivial
  | i :: l, r :: rs, hh => ⟨h i r hh.1, All2.imp h hh.2⟩
  | [], _ :: _, hh => hh.elim
  | _ :: _, [], hh => hh.elim
theorem All2.len {R : Nat → Row → Prop} : ∀ {l : List Nat} {rs : List Row}, All2 R l rs → l.length = rs.length
  | [], [], _ => rfl
  | i :: l, r :: rs, hh => by simp [All2.len hh.2]
  | [], _ :: _, hh => hh.elim
  | _ :: _, [], hh => hh.elim
theorem push_nil (E : En) : E.push [] = E := by simp [En.push]
theorem errGrow_run {Γ : Den} {S : SS} {g : Option GK} {e : TypeId} {ρ : List Row} : run Γ (errGrow S g e) ρ = none := by
  unfold errGrow
  split
  · split <;> rfl
  · rfl
section
variable {P : Program} {C : Ctx} {Γ : Den} {r : Rs}
theorem useV_none {E : En} {S : SS} {st : St} {e : SE} {av : AV} {K : SV → Tr} (h : RM P C E S st) (he : RSE E e av) (hr : run Γ (useV S none e K) E.ρ = some r) : run Γ (K e.v) E.ρ = some r ∧ RV E e.v av := by
  obtain ⟨ge, v⟩ := e
  have key : run Γ (if impl S 50 none ge = true then K v else .err 11 []) E.ρ = some r → (∀ k, v ≠ .dead k) → run Γ (K v) E.ρ = some r ∧ RV E v av := by
    intro hr hd
    split at hr
    · rename_i hi
      refine ⟨hr, ?_⟩
      have hge := impl_ok h 50 hi rfl
      cases ge with
      | none =>
        rcases he with ⟨k, e⟩ | he
        · exact absurd e (hd k)
        · exact he
      | some a =>
        obtain ⟨b, h1, h2, h3⟩ := he
        rw [hge a rfl] at h1
        cases h1
        rcases h2 rfl with ⟨k, e⟩ | he
        · exact absurd e (hd k)
        · exact he
    · simp [run] at hr
  unfold useV at hr
  cases v <;> first | exact key hr (fun k e => by cases e) | (simp [run] at hr)

def SlRow (E : En) (sl : List (Nat × SE)) (tm : Tm) (i : Nat) (row : Row) : Prop := ∃ e, lk i sl = some e ∧ RV E e.v (tm i) ∧ dvos row = true ∧ toDs (cellsL (tm i)) = some row
def ObRow (E : En) (S : SS) (st : St) (j : Nat) (row : Row) : Prop := ∃ ob id, S.ob[j]? = some ob ∧ E.ι j = some id ∧ dvos row = true ∧ toDs (st.obj id).2 = some row
theorem SlRow.mono {E E' : En} (hle : E.le E') {sl : List (Nat × SE)} {tm : Tm} (i : Nat) (row : Row) (h : SlRow E sl tm i row) : SlRow E' sl tm i row := by
  obtain ⟨e, h1, h2, h3, h4⟩ := h
  exact ⟨e, h1, h2.mono hle, h3, h4⟩
theorem ObRow.mono {E E' : En} (hle : E.le E') {S S' : SS} (hS : S'.ob = S.ob) {st : St} (i : Nat) (row : Row) (h : ObRow E S st i row) : ObRow E' S' st i row := by
  obtain ⟨e, id, h1, h2, h3, h4⟩ := h
  exact ⟨e, id, by rw [hS]; exact h1, hle.ι _ _ h2, h3, h4⟩
theorem evs_cons {ρ : List Row} {a : At} {as : List At} {x : Row} {xs : List Row} (h : a.ev ρ = some x) (h' : evs ρ as = some xs) : evs ρ (a :: as) = some (x :: xs) := by simp [evs, h, h']
theorem evs_append {ρ : List Row} : ∀ {as bs : List At} {xs ys : List Row}, evs ρ as = some xs → evs ρ bs = some ys → evs ρ (as ++ bs) = some (xs ++ ys)
  | [], bs, xs, ys, h, h' => by
    simp only [evs, Option.some.injEq] at h
    subst h
    exact h'
  | a :: as, bs, xs, ys, h, h' => by
    simp only [evs] at h
    cases ha : a.ev ρ with
    | none => rw [ha] at h; cases h
    | some x =>
      cases hs : evs ρ as with
      | none => rw [ha, hs] at h; cases h
      | some xs' =>
        rw [ha, hs] at h
        cases h
        exact evs_cons ha (evs_append hs h')
theorem slotAts_run {sl : List (Nat × SE)} {tm : Tm} {st : St} {K : SS → List At → Tr} : ∀ (l : List Nat) {E : En} {S : SS} {acc : List At}, RM P C E S st → RTS E sl tm → run Γ (slotAts S sl l acc K) E.ρ = some r →
    ∃ (l' : List Row) (as : List At) (rs : List Row), run Γ (K (bump S l'.length) (acc.reverse ++ as)) (E.ρ ++ l') = some r ∧ evs (E.ρ ++ l') as = some rs ∧ All2 (SlRow (E.push l') sl tm) l rs
  | [], E, S, acc, hm, hs, hr => ⟨[], [], [], by simpa [bump, slotAts] using hr, rfl, trivial⟩
  | i :: l, E, S, acc, hm, hs, hr => by
    simp only [slotAts] at hr
    cases hl : lk i sl with
    | none => rw [hl] at hr; simp [run] at hr
    | some e =>
      rw [hl] at hr; simp only at hr
      obtain ⟨h1, h2⟩ := useV_none hm (hs i e hl) hr
      obtain ⟨l1, a, h3, h4⟩ := mats_run (on := true) h1 hm.nv rfl
      obtain ⟨l2, as, rs, h5, h6, h7⟩ := slotAts_run l (E := E.push l1) (hm.push l1) (hs.mono (En.le_push E l1)) h3
      obtain ⟨x, h8, h9, h10⟩ := h4 rfl _ h2
      refine ⟨l1 ++ l2, a :: as, x :: rs, ?_, ?_, ⟨⟨e, hl, h2.mono (En.le_push E _), h9, h10⟩, ?_⟩⟩
      · rw [List.reverse_cons, List.append_assoc, bump_bump] at h5
        rw [List.length_append, ← List.append_assoc]
        exact h5
      · rw [← List.append_assoc]
        exact evs_cons (At.ev_mono h8 l2) h6
      · rw [← push_push]; exact h7
theorem obAts_run {st : St} {K : SS → List At → Tr} : ∀ (l : List Nat) {E : En} {S : SS} {acc : List At}, RM P C E S st → run Γ (obAts S l acc K) E.ρ = some r →
    ∃ (l' : List Row) (as : List At) (rs : List Row), run Γ (K (bump S l'.length) (acc.reverse ++ as)) (E.ρ ++ l') = some r ∧ evs (E.ρ ++ l') as = some rs ∧ All2 (ObRow (E.push l') S st) l rs
  | [], E, S, acc, hm, hr => ⟨[], [], [], by simpa [bump, obAts] using hr, rfl, trivial⟩
  | j :: l, E, S, acc, hm, hr => by
    simp only [obAts, objAt] at hr
    cases hl : S.ob[j]? with
    | none => rw [hl] at hr; simp [run] at hr
    | some ob =>
      rw [hl] at hr; simp only at hr
      obtain ⟨id, q1, q2, q3, q4⟩ := hm.ob j ob hl
      obtain ⟨l1, a, h3, h4⟩ := mats_run (on := true) hr hm.nv rfl
      obtain ⟨l2, as, rs, h5, h6, h7⟩ := obAts_run l (E := E.push l1) (hm.push l1) h3
      obtain ⟨x, h8, h9, h10⟩ := h4 rfl _ q4.agg
      refine ⟨l1 ++ l2, a :: as, x :: rs, ?_, ?_, ⟨⟨ob, id, hl, q1, h9, h10⟩, ?_⟩⟩
      · rw [List.reverse_cons, List.append_assoc, bump_bump] at h5
        rw [List.length_append, ← List.append_assoc]
        exact h5
      · rw [← List.append_assoc]
        exact evs_cons (At.ev_mono h8 l2) h6
      · rw [← push_push]
        exact h7.imp (ObRow.mono (En.le.refl _) rfl)
theorem hand_run {st : St} {tm : Tm} {h : Hint} {q : Sq} {E : En} {K : SS → List At → Tr} (hm : RM P C E q.s st) (hs : RTS E q.sl tm) (hr : run Γ (hand h q K) E.ρ = some r) :
    ∃ (l' : List Row) (as : List At) (rs rs' : List Row), run Γ (K (bump q.s l'.length) as) (E.ρ ++ l') = some r ∧ evs (E.ρ ++ l') as = some (rs ++ rs') ∧ All2 (SlRow (E.push l') q.sl tm) h.sl rs ∧ All2 (ObRow (E.push l') q.s st) h.ob rs' := by
  unfold hand at hr
  obtain ⟨l1, as, rs, h1, h2, h3⟩ := slotAts_run h.sl hm hs hr
  obtain ⟨l2, bs, rs', h4, h5, h6⟩ := obAts_run h.ob (E := E.push l1) (hm.push l1) h1
  simp only [List.reverse_nil, List.nil_append, bump_bump] at h4
  refine ⟨l1 ++ l2, as ++ bs, rs, rs', ?_, ?_, ?_, ?_⟩
  · rw [List.length_append, ← List.append_assoc]; exact h4
  · rw [← List.append_assoc]
    exact evs_append (evs_mono h2 l2) h5
  · rw [← push_push]; exact h3.imp (SlRow.mono (En.le_push _ _))
  · rw [← push_push]; exact h6.imp (ObRow.mono (En.le.refl _) rfl)
theorem handOk_run {key : Nat} {h : Hint} {gr : List (GK × TypeId)} {q : Sq} {K : Tr} {ρ : List Row} (hr : run Γ (handOk key h gr q K) ρ = some r) :
    run Γ K ρ = some r ∧ ∃ nms, nowNm h q = some nms ∧ (∀ x ∈ nms, grows q.s x.1 x.2 = true) ∧ distinct (nms.filterMap (·.1)) = true ∧ ∀ x ∈ gr, grows q.s (some x.1) x.2 = true ∧ ∀ y ∈ nms, y.1 ≠ some x.1 := by
  unfold handOk at hr
  split at hr
  · simp [run] at hr
  · rename_i nms hn
    split at hr
    · rw [errGrow_run] at hr; cases hr
    · rename_i hf
      split at hr
      · simp [run] at hr
      · rename_i hd
        split at hr
        · simp [run] at hr
        · simp [run] at hr
        · rename_i hg
          refine ⟨hr, nms, hn, fun x hx => ?_, by simpa using hd, fun x hx => ?_⟩
          · have := List.find?_eq_none.1 hf x hx
            simpa using this
          · have := List.find?_eq_none.1 hg x hx
            simp only [Bool.or_eq_true, Bool.not_eq_true', not_or, Bool.not_eq_false, Bool.not_eq_true] at this
            refine ⟨this.1, fun y hy e => ?_⟩
            have h2 := List.any_eq_false.1 this.2 y hy
            rw [e] at h2
            simp only [eqG_refl] at h2
            exact h2 trivial
end
/-- A cell's name names what lies there. -/
theorem cellNm_ok {E : En} (h0 : E.ω 0 = some .nil) {ob : Ob} {c : Nat} {g : GK} : ∀ {ov : List (Nat × Nat × SV)} {cs : List AV}, RB E ob.a ob.n ob.m ov cs → c < ob.n → cellNm ob c ov = some g → ∃ av, cs[c]? = some av ∧ gav E g = some av
  | [], cs, hb, hc, h => by
    obtain ⟨cs0, avs, h1, h2, h3⟩ := hb
    have := h2.1
    cases avs with
    | cons _ _ => simp at this
    | nil =>
      simp only [foldOv, Option.some.injEq] at h3
      subst h3
      obtain ⟨t, a, n, m, ov⟩ := ob
      simp only [cellNm] at h
      simp only at h1 hc
      have hl := h1.len
      cases h1 with
      | d => simp [nmOf] at h
      | @z r _ hn ho =>
        simp only [nmOf] at h
        split at h
        · rename_i e
          cases h
          simp only [At.c.injEq] at e
          have : r[c]? = some (.sl 0 []) := by
            have := congrArg (fun l => l[0]?) e
            simpa [List.getElem?_take, List.getElem?_drop] using this
          exact ⟨.nil, by simp [this, cv], h0⟩
        · cases h
      | @g _ _ b o r l h4 h5 h6 h7 h8 =>
        simp only [nmOf, Option.some.injEq] at h
        subst h
        have hlt : c < ((l.drop o).take n).length := by rw [hl]; exact hc
        refine ⟨_, List.getElem?_eq_getElem hlt, ?_⟩
        simp only [gav, h7, Option.bind_some]
        rw [← List.getElem?_eq_getElem hlt, List.getElem?_take, if_pos hc, List.getElem?_drop]
  | (o1, n1, v1) :: ov, cs, hb, hc, h => by
    obtain ⟨c0, av, h1, h2, h3, h4, h5, rfl⟩ := hb.cons_inv
    simp only [cellNm] at h
    split at h
    · rename_i hin
      simp only [decide_eq_true_eq] at hin
      have hget : (splice c0 o1 (cellsL av))[c]? = (cellsL av)[c - o1]? := by
        rw [splice_get c0 o1 _ (by omega), if_neg (by omega), if_pos (by omega)]
      rw [hget]
      split at h
      · split at h
        · rename_i hn
          obtain rfl := nbeq hn
          subst h
          have e : c - o1 = 0 := by omega
          rw [h2.one_cell rfl, e]
          cases h2 with
          | one1 h6 h7 h8 h9 => exact ⟨_, rfl, h8⟩
        · cases h
      · rename_i a n b d
        cases h
        obtain ⟨cs1, rfl, cs0, avs, h6, h7, h8⟩ := h2.agg_inv
        have := h7.1
        cases avs with
        | cons _ _ => simp at this
        | nil =>
          simp only [foldOv, Option.some.injEq] at h8
          subst h8
          simp only [cellsL_agg] at h3 ⊢
          have hl := h6.len
          cases h6 with
          | @g _ _ _ _ r l j1 j2 j3 j4 j5 =>
            have hlt : c - o1 < ((l.drop d).take n).length := by omega
            refine ⟨_, List.getElem?_eq_getElem hlt, ?_⟩
            simp only [gav, j4, Option.bind_some]
            rw [← List.getElem?_eq_getElem hlt, List.getElem?_take, if_pos (by omega), List.getElem?_drop]
      · rename_i r n
        obtain ⟨cs1, rfl, cs0, avs, h6, h7, h8⟩ := h2.agg_inv
        have := h7.1
        cases avs with
        | cons _ _ => simp at this
        | nil =>
          simp only [foldOv, Option.some.injEq] at h8
          subst h8
          simp only [cellsL_agg] at h3 ⊢
          cases h6 with
          | z j1 j2 =>
            simp only [nmOf] at h
            split at h
            · rename_i e
              cases h
              simp only [At.c.injEq] at e
              have : r[c - o1]? = some (.sl 0 []) := by
                have := congrArg (fun l => l[0]?) e
                simpa [List.getElem?_take, List.getElem?_drop] using this
              exact ⟨.nil, by simp [this, cv], h0⟩
            · cases h
      · cases h
    · rename_i hin
      simp only [decide_eq_true_eq] at hin
      obtain ⟨x, h6, h7⟩ := cellNm_ok h0 h1 hc h
      refine ⟨x, ?_, h7⟩
      rw [splice_get c0 o1 _ (by omega)]
      split
      · exact h6
      · rw [if_neg (by omega)]; exact h6
theorem cellNm'_ok {E : En} (h0 : E.ω 0 = some .nil) {ob : Ob} {c : Nat} {g : GK} {cs : List AV} (hb : RB E ob.a ob.n ob.m ob.ov cs) (h : cellNm' ob c = some g) : ∃ av, cs[c]? = some av ∧ gav E g = some av := by
  unfold cellNm' at h
  split at h
  · cases h
  · rename_i hc
    refine cellNm_ok h0 hb ?_ h
    simp only [Nat.ble_eq] at hc
    omega
end Go.AW
