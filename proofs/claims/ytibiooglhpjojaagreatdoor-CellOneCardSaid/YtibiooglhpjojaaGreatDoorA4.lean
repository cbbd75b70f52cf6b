/- The machine does what 'ev' says: the theorem. -/
import Derived.Test.YtibiooglhpjojaaGreatDoorA3
set_option linter.unusedSimpArgs false
set_option linter.unusedVariables false
namespace Go.AW
open Go.RowKit

section
variable {P : Program} {w : World}

theorem tsz_parts {t : TypeId} {n : Nat} {a : Bool} (h : tsz P t = some (n, a)) :
    (sizeOf t).run P w = .ok n w ∧ (isAgg t).run P w = .ok a w ∧ (P.info? t).map (·.size) = some n ∧ ∃ d, P.underlying t = some d ∧ (match d with | .struct _ | .array _ _ => true | _ => false) = a := by
  unfold tsz at h
  split at h
  · rename_i i d hi hd
    simp only [Option.some.injEq, Prod.mk.injEq] at h
    obtain ⟨rfl, rfl⟩ := h
    refine ⟨by simp [sizeOf, typeInfo, hi], ?_, by simp [hi], d, hd, rfl⟩
    unfold isAgg
    rw [Sem.run_bind, run_underlying hd]
    simp only [Result.andThen_ok]
    cases d <;> rfl
  · cases h

theorem flds_parts {s : TypeId} {f off n : Nat} {a : Bool} (h : (flds P s)[f]? = some (off, some (n, a))) :
    ∃ fs fd, P.underlying s = some (.struct fs) ∧ fs[f]? = some fd ∧ fd.offset = off ∧ tsz P fd.type = some (n, a) := by
  unfold flds at h
  split at h
  · rename_i fs hs
    simp only [List.getElem?_map, Option.map_eq_some_iff, Prod.mk.injEq] at h
    obtain ⟨fd, hf, rfl, ht⟩ := h
    exact ⟨fs, fd, hs, by simpa using hf, rfl, ht⟩
  · simp at h

theorem run_part {g : Gh} {t : TypeId} {n : Nat} {agg : Bool} (h : tsz P t = some (n, agg)) {cells : List AV} {vs : Array Value} (hr : RepL g cells vs) {off : Nat} (ho : (sub cells off n agg).ok) :
    ∃ v, (part t vs off).run P w = .ok v w ∧ Rep g (sub cells off n agg).v v := by
  obtain ⟨h1, h2, -, -⟩ := tsz_parts (P := P) (w := w) h
  obtain ⟨v, hv, hrep⟩ := sub_rep hr ho
  refine ⟨v, ?_, hrep⟩
  have := congrFun hv w
  unfold part
  rw [Sem.run_bind, h2]
  cases agg with
  | true => simp only [if_true] at this; simp [h1]; simpa using this
  | false => simp only [Bool.false_eq_true, if_false] at this; rw [← this]; simp only [Result.andThen_ok, Bool.false_eq_true, if_false]; split <;> simp_all

theorem addr_add (b o n : Nat) : (⟨b, o, none⟩ : Addr).add n = ⟨b, o + n, none⟩ := by
  unfold Addr.add
  split
  · rename_i h; subst h; rfl
  · rfl

theorem run_loadVar_pub {g : Gh} {st : St} (hR : R w g st) {t : TypeId} {n : Nat} {agg : Bool} (h : tsz P t = some (n, agg)) {cells : List AV} {b o : Nat} {c : Nat → Value}
    (hp : ∀ (j : Nat) (d : AV), cells[j]? = some d → g.pub b (o + j) = some (c j)) (hr : ∀ (j : Nat) (d : AV), cells[j]? = some d → Rep g d (c j)) (ho : (sub cells 0 n agg).ok) :
    ∃ v, (loadVar t ⟨b, o, none⟩).run P w = .ok v w ∧ Rep g (sub cells 0 n agg).v v := by
  obtain ⟨h1, h2, -, -⟩ := tsz_parts (P := P) (w := w) h
  cases agg with
  | true =>
    unfold sub at ho ⊢
    simp only [if_true, Nat.zero_add, List.drop_zero] at ho ⊢
    have hl : (loadCells ⟨b, o, none⟩ n).run P w = .ok ((List.range n).map c).toArray w := by
      have := run_loadCells_list (P := P) w ⟨b, o, none⟩ ((List.range n).map c) (fun j v hv => by
        rw [addr_add]
        simp only [List.getElem?_map, Option.map_eq_some_iff] at hv
        obtain ⟨j', hj', rfl⟩ := hv
        have hjn := (List.getElem?_eq_some_iff.1 hj').1
        simp only [List.length_range] at hjn
        rw [List.getElem?_range hjn] at hj'
        simp only [Option.some.injEq] at hj'
        subst hj'
        exact hR.pub _ _ _ (hp j cells[j] (List.getElem?_eq_getElem (by omega))))
      simpa using this
    refine ⟨.agg ((List.range n).map c).toArray, ?_, .agg _ _ ?_ ?_⟩
    · unfold loadVar; rw [Sem.run_bind, h2]; simp [h1, hl]
    · simp; omega
    · intro i a v ha hv
      have hi : i < n := by have := (List.getElem?_eq_some_iff.1 ha).1; simp at this; omega
      rw [List.getElem?_take_of_lt hi] at ha
      simp only [List.getElem?_toArray, List.getElem?_map, List.getElem?_range hi, Option.map_some, Option.some.injEq] at hv
      subst hv
      exact hr i a ha
  | false =>
    unfold sub at ho ⊢
    simp only [Bool.false_eq_true, if_false] at ho ⊢
    have hc : cells[0]? = some (cells.getD 0 .bad) := by simp [List.getD, List.getElem?_eq_getElem ho]
    have := hR.pub _ _ _ (hp 0 _ hc)
    refine ⟨c 0, ?_, hr 0 _ hc⟩
    unfold loadVar; rw [Sem.run_bind, h2]; simp at this; simp [this]

theorem run_elT {t e : TypeId} {n by_ : Nat} (h : elT P t = some (e, n, by_)) : P.underlying t = some (.slice e) ∧ (sizeOf e).run P w = .ok n w := by
  unfold elT at h
  split at h
  · rename_i e' he
    simp only [Option.map_eq_some_iff, Prod.mk.injEq] at h
    obtain ⟨i, hi, rfl, rfl, rfl⟩ := h
    exact ⟨he, by simp [sizeOf, typeInfo, hi]⟩
  · cases h

theorem string_at (s : ByteArray) (k : Nat) (h : k < s.size) : s[k]? = some ((s.data.toList).getD k 0) := by
  rw [getElem?_pos s k h]
  simp [List.getD, h]
  rfl

theorem run_makeI {t : TypeId} (h : match P.underlying t with | some (.interface _) => False | some _ => True | none => False) (v : Value) : (Instr.makeInterface t v).run P w = .ok (.iface t v) w := by
  unfold Instr.makeInterface
  rw [Sem.run_bind]
  split at h
  · exact h.elim
  · rename_i d hd hx
    rw [run_underlying hx]
    simp only [Result.andThen_ok]
    cases d <;> first | rfl | exact absurd rfl (hd _)
  · exact h.elim

theorem RepL.opnds {g : Gh} {nt : Nat} {tm : Nat → AV} {a : Act} (h : RT g nt tm a) (xs : Array Operand) (hx : xs.toList.all opOk = true) : RepL g (xs.toList.map (opnd tm)) (xs.map a.eval) := by
  refine ⟨by simp, fun i b v h1 h2 => ?_⟩
  simp only [List.getElem?_map, Array.getElem?_toList, Option.map_eq_some_iff, Array.getElem?_map] at h1 h2
  obtain ⟨x, hx1, rfl⟩ := h1
  obtain ⟨y, hy1, rfl⟩ := h2
  rw [hx1] at hy1
  cases hy1
  exact opnd_rep h (List.all_eq_true.1 hx x (by simpa using Array.mem_of_getElem? hx1))

theorem len_run {g : Gh} {t : TypeId} {str : Bool} (ht : lenTy P t str) {ty : TypeId} {a : AV} {v : Value} {n : Nat} (h : lenOf a = some (n, str)) (hv : Rep g a v) :
    (Builtin.len_ #[t] ty #[v]).run P w = .ok (.int .i64 n) w := by
  unfold lenTy at ht
  rcases lenOf_rep h hv with ⟨rfl, b, cap, rfl⟩ | ⟨rfl, s, rfl, rfl⟩
  · split at ht
    · rename_i e he _; simp [Builtin.len_, run_underlying he, goInt]
    · rename_i hc; cases hc
    · exact ht.elim
  · split at ht
    · rename_i hc; cases hc
    · rename_i he _; simp [Builtin.len_, run_underlying he, goInt]
    · exact ht.elim

theorem intRes_run {op : BinOp} {k : IntKind} {a b : Int} (h : (intRes op k a b).ok) (t : TypeId) : ∃ v, (binOp op t (.int k a) (.int k b)).run P w = .ok v w ∧ ∀ g, Rep g (intRes op k a b).v v := by
  cases op <;> simp only [intRes, fails, ne_eq] at h ⊢ <;> first
    | exact h.elim
    | (refine ⟨_, by simp [binOp, Op.intArith, Op.intCmp, Op.intDiv, h], fun g => .d (.lit _ rfl)⟩; done)
    | exact ⟨_, by simp [binOp, Op.intArith, Op.intCmp, Op.intDiv, h]; rfl, fun g => .d (.lit _ rfl)⟩

theorem strRes_run {op : BinOp} {a b : ByteArray} (h : (strRes op a b).ok) (t : TypeId) : ∃ v, (binOp op t (.string a) (.string b)).run P w = .ok v w ∧ ∀ g, Rep g (strRes op a b).v v := by
  cases op <;> simp only [strRes, fails] at h ⊢ <;> first
    | exact h.elim
    | (refine ⟨.string (a ++ b), ?_, fun g => .d (.lit _ rfl)⟩
       have : ¬ ((a.size + b.size : Nat) : Int) > IntKind.i64.max := by have : IntKind.i64.max = 9223372036854775807 := rfl; omega
       simp only [binOp, Op.stringOp, if_neg this, Sem.run_pure]; done)
    | exact ⟨_, by simp only [binOp, Op.stringOp, Sem.run_pure], fun g => .d (.lit _ rfl)⟩
    | exact ⟨_, by simp only [binOp, Op.stringOp, Sem.run_pure]; rfl, fun g => .d (.lit _ rfl)⟩

theorem equal_bool {t : TypeId} (h : P.underlying t = some .bool) (a b : Bool) : (Op.equal t (.bool a) (.bool b)).run P w = .ok (a == b) w := by
  show (Op.equalIn (9999 + 1) t (.bool a) (.bool b)).run P w = _
  unfold Op.equalIn
  rw [Sem.run_bind, run_underlying h]
  rfl
theorem boolRes_run {op : BinOp} {a b : Bool} {t : TypeId} (h : (boolRes P t op a b).ok) : ∃ v, (binOp op t (.bool a) (.bool b)).run P w = .ok v w ∧ ∀ g, Rep g (boolRes P t op a b).v v := by
  cases op <;> simp only [boolRes, fails] at h ⊢ <;> first
    | exact h.elim
    | exact ⟨_, by simp only [binOp, Sem.run_bind, equal_bool h, Result.andThen_ok, Sem.run_pure], fun g => .d (.lit _ rfl)⟩

theorem eqGuard_run {op : BinOp} {t : TypeId} {x y : Operand} {a b : Value} (ha : a.oneCell' = true) (hb : a ≠ .nilIface) : (eqGuard op t x y a b).run P w = .ok () w := by
  unfold eqGuard
  cases op <;> cases a <;> first | rfl | exact absurd rfl hb | cases ha

theorem checked_run {g : Gh} {a : AV} (h : (checked P a).ok) {v : Value} (hv : Rep g a v) {o : Oper} {ρ : Operand → Value} {x : Operand} (ho : o.op = .nilCheck x) (hx : ρ x = v) :
    (execOp ρ o).run P w = .ok (.value v) w ∧ (checked P a).v = a := by
  unfold checked at h ⊢
  split at h
  · obtain ⟨-, rfl⟩ := hv.ptr_inv; simp [execOp, ho, hx]
  · obtain ⟨b, o', c, rfl, -⟩ := hv.pp_inv; simp [execOp, ho, hx]
  · obtain ⟨u, rfl, -⟩ := hv.ifc_inv; simp [execOp, ho, hx]
  · rename_i name t
    obtain ⟨us, vs, rfl, ⟨h1, h2⟩, h3⟩ := hv.fn_inv
    have hu : us.size = 1 := by simpa using h1.symm
    obtain ⟨u, rfl⟩ : ∃ u, us = #[u] := ⟨us[0], by
      apply Array.ext
      · simp [hu]
      · intro i h1 h2
        simp at h2
        subst h2
        rfl⟩
    obtain ⟨z, rfl, hz⟩ := (h2 0 _ _ rfl rfl).ifc_inv
    obtain ⟨zs, rfl, hz0⟩ := hz.agg_inv
    have hzs : zs = #[] := by have := hz0.1; simpa using this.symm
    subst hzs
    simp [execOp, ho, hx, h w]
  · obtain ⟨us, vs, rfl, -⟩ := hv.fn_inv; simp [execOp, ho, hx]
  · exact h.elim

theorem ev_sound {g : Gh} {st : St} (hR : R w g st) {nt : Nat} {tm : Nat → AV} {a : Act} (hT : RT g nt tm a) {o : Oper} (h : (ev P tm o.op).ok) :
    ∃ v, (execOp a.eval o).run P w = .ok (.value v) w ∧ Rep g (ev P tm o.op).v v := by
  rcases o with ⟨dst, op, ty, pos, after, guard⟩
  cases op with
  | move x => exact ⟨_, rfl, opnd_rep hT h⟩
  | assign x => exact ⟨_, rfl, opnd_rep hT h⟩
  | pick c x y =>
    simp only [ev] at h ⊢
    split at h
    · rename_i b hb
      simp only at h
      have hc := opnd_rep hT h.2.2
      rw [hb] at hc
      have hcv := hc.lit_inv
      refine ⟨if b then a.eval x else a.eval y, by simp [execOp, hcv, asBool], ?_⟩
      cases b
      · exact opnd_rep hT h.2.1
      · exact opnd_rep hT h.1
    · exact h.elim
  | nilCheck x =>
    simp only [ev] at h ⊢
    have hx := opnd_rep hT h.1
    obtain ⟨h1, h2⟩ := checked_run (w := w) h.2 hx (o := ⟨dst, .nilCheck x, ty, pos, after, guard⟩) (ρ := a.eval) rfl rfl
    refine ⟨_, h1, ?_⟩
    rw [h2]
    exact hx
  | binOp op t x y t' =>
    simp only [ev] at h ⊢
    split at h
    · rename_i k p k' q hx hy
      simp only at h
      obtain ⟨h1, h2, rfl, h3⟩ := h
      have ex := (hx ▸ opnd_rep hT h1).lit_inv
      have ey := (hy ▸ opnd_rep hT h2).lit_inv
      obtain ⟨v, hv, hr⟩ := intRes_run (P := P) (w := w) h3 t
      refine ⟨v, ?_, hr g⟩
      simp only [execOp, Sem.run_bind, ex, ey, eqGuard_run (P := P) (w := w) (a := .int k p) rfl (by simp), Result.andThen_ok, hv, Sem.run_pure]
    · rename_i p q hx hy
      simp only at h
      obtain ⟨h1, h2, h3⟩ := h
      have ex := (hx ▸ opnd_rep hT h1).lit_inv
      have ey := (hy ▸ opnd_rep hT h2).lit_inv
      obtain ⟨v, hv, hr⟩ := strRes_run (P := P) (w := w) h3 t
      refine ⟨v, ?_, hr g⟩
      simp only [execOp, Sem.run_bind, ex, ey, eqGuard_run (P := P) (w := w) (a := .string p) rfl (by simp), Result.andThen_ok, hv, Sem.run_pure]
    · rename_i p q hx hy
      simp only at h
      obtain ⟨h1, h2, h3⟩ := h
      have ex := (hx ▸ opnd_rep hT h1).lit_inv
      have ey := (hy ▸ opnd_rep hT h2).lit_inv
      obtain ⟨v, hv, hr⟩ := boolRes_run (P := P) (w := w) h3
      refine ⟨v, ?_, hr g⟩
      simp only [execOp, Sem.run_bind, ex, ey, eqGuard_run (P := P) (w := w) (a := .bool p) rfl (by simp), Result.andThen_ok, hv, Sem.run_pure]
    · exact h.elim
  | unOp op t x =>
    simp only [ev] at h ⊢
    split at h
    · rename_i b hb
      have ex := (hb ▸ opnd_rep hT h).lit_inv
      exact ⟨.bool (!b), by simp [execOp, ex, Op.unary], .d (.lit _ rfl)⟩
    · rename_i k n hb
      have ex := (hb ▸ opnd_rep hT h).lit_inv
      exact ⟨.int k (k.wrap (0 - n)), by simp [execOp, ex, Op.unary, Op.intArith], .d (.lit _ rfl)⟩
    · exact h.elim
  | fieldAddr s x f =>
    simp only [ev] at h ⊢
    split at h
    · rename_i off n ag id o hf hx
      obtain ⟨h1, h2⟩ := h
      obtain ⟨hid, ex⟩ := (hx ▸ opnd_rep hT h1).ptr_inv
      obtain ⟨fs, fd, hu, hfd, rfl, ht⟩ := flds_parts hf
      obtain ⟨hs, -⟩ := tsz_parts (P := P) (w := w) ht
      refine ⟨.pointer (some ⟨g.σ id, o + fd.offset, none⟩), ?_, .ptr _ _ hid⟩
      simp [execOp, ex, Instr.fieldAt, run_underlying hu, hfd, Instr.sureAddr, fieldPlace, hs, h2, addr_add]
    · rename_i off n ag cs hf hx
      obtain ⟨h1, h2⟩ := h
      obtain ⟨b, o, c, ex, hp, hr⟩ := (hx ▸ opnd_rep hT h1).pp_inv
      obtain ⟨fs, fd, hu, hfd, rfl, ht⟩ := flds_parts hf
      obtain ⟨hs, -⟩ := tsz_parts (P := P) (w := w) ht
      refine ⟨.pointer (some ⟨b, o + fd.offset, none⟩), ?_, .pp _ b (o + fd.offset) (fun j => c (fd.offset + j)) (fun j d hj => ?_) (fun j d hj => ?_)⟩
      · simp [execOp, ex, Instr.fieldAt, run_underlying hu, hfd, Instr.sureAddr, fieldPlace, hs, h2, addr_add]
      · rw [List.getElem?_drop] at hj
        rw [Nat.add_assoc]
        exact hp _ d hj
      · rw [List.getElem?_drop] at hj
        exact hr _ d hj
    · exact h.elim
  | field s x f =>
    simp only [ev] at h ⊢
    split at h
    · rename_i off n ag cs hf hx
      obtain ⟨h1, h2⟩ := h
      obtain ⟨vs, ex, hl⟩ := (hx ▸ opnd_rep hT h1).agg_inv
      obtain ⟨fs, fd, hu, hfd, rfl, ht⟩ := flds_parts hf
      obtain ⟨v, hv, hr⟩ := run_part (P := P) (w := w) ht hl h2
      exact ⟨v, by simp [execOp, ex, Instr.field, run_underlying hu, hfd, asAgg, hv], hr⟩
    · exact h.elim
  | indexAddr t x i =>
    simp only [ev] at h ⊢
    split at h
    · rename_i e n by_ s xs kk k he hx hi
      obtain ⟨h1, h2, rfl, h3⟩ := h
      have ei := (hi ▸ opnd_rep hT h2).lit_inv
      obtain ⟨ad, cap, ex, hcap, hc⟩ := (Rep.sliceAt hx (opnd_rep hT h1)).at_
      unfold at_ at h3 ⊢
      obtain ⟨hk0, hk1⟩ := h3
      obtain ⟨b, o, c, rfl, hl, hp, hr⟩ := hc (by omega)
      obtain ⟨hu, hs⟩ := run_elT (w := w) he
      have hlt : k.toNat < xs.length := by omega
      have hget : xs[k.toNat]? = some (xs.getD k.toNat []) := by simp [List.getD, List.getElem?_eq_getElem hlt]
      refine ⟨.pointer (some ⟨b, o + k.toNat * n, none⟩), ?_, .pp _ b (o + k.toNat * n) (fun j => c (k.toNat * n + j)) (fun j d hj => hp _ _ _ d hget hj) (fun j d hj => hr _ _ _ d hget hj)⟩
      simp [execOp, ex, ei, Instr.indexAt, asIntOf, run_underlying hu, hk0, hk1, hs, addr_add]
    · exact h.elim
  | index t x i =>
    simp only [ev] at h ⊢
    split at h
    · rename_i s kk k hx hi
      obtain ⟨h1, h2, h3, h4, h5⟩ := h
      have ei := (hi ▸ opnd_rep hT h2).lit_inv
      have ex := (hx ▸ opnd_rep hT h1).lit_inv
      have hlt : k.toNat < s.size := by omega
      refine ⟨_, ?_, .d (.lit _ rfl)⟩
      simp [execOp, ex, ei, Instr.index, asIntOf, run_underlying h3, h4, string_at s k.toNat hlt]
    · exact h.elim
  | extract x i =>
    simp only [ev] at h ⊢
    split at h
    · rename_i vs hx
      obtain ⟨h1, h2⟩ := h
      obtain ⟨us, ex, hl⟩ := (hx ▸ opnd_rep hT h1).tup_inv
      have hlt : i < us.size := by rw [← hl.1]; exact h2
      have hget : vs[i]? = some (vs.getD i .bad) := by simp [List.getD, List.getElem?_eq_getElem h2]
      exact ⟨us[i], by simp [execOp, ex, Instr.extract, Array.getElem?_eq_getElem hlt], hl.2 i _ _ hget (Array.getElem?_eq_getElem hlt)⟩
    · exact h.elim
  | makeFunc f fs cs =>
    simp only [ev] at h ⊢
    have h1 := RepL.opnds hT fs h.1
    have h2 := RepL.opnds hT cs h.2
    exact ⟨_, by simp [execOp, Instr.makeFunc], .fn _ _ _ _ _ h1.1 h1.2 h2.1 h2.2⟩
  | makeInterface t x =>
    simp only [ev] at h ⊢
    exact ⟨_, by simp [execOp, run_makeI h.2], .ifc _ (opnd_rep hT h.1)⟩
  | load t x =>
    simp only [ev] at h ⊢
    split at h
    · rename_i n ag cs ht hx
      obtain ⟨h1, h2⟩ := h
      obtain ⟨b, o, c, ex, hp, hr⟩ := (hx ▸ opnd_rep hT h1).pp_inv
      obtain ⟨v, hv, hrep⟩ := run_loadVar_pub hR ht hp hr h2
      exact ⟨v, by simp [execOp, ex, Instr.loadAt, Instr.sureAddr, hv], hrep⟩
    · exact h.elim
  | call c =>
    rcases c with ⟨callee, ⟨args⟩, ⟨tys⟩⟩
    simp only [ev, evCall] at h ⊢
    split at h
    · rename_i b x t
      split at h
      · rename_i n str hb hn
        obtain ⟨h1, h2⟩ := h
        have hb' : b = .len := by cases b <;> first | rfl | (simp [isLenB] at hb)
        subst hb'
        have := len_run (w := w) h2 (ty := ty) hn (opnd_rep hT h1)
        exact ⟨_, by simp [execOp, resolve, invoke, builtin, this], .d (.lit _ rfl)⟩
      · exact h.elim
    · exact h.elim
  | _ => exact h.elim
end
end Go.AW
