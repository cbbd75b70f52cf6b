/- The machine does what 'eff' says. -/
import Derived.Test.YtibiooglhpjojaaGreatDoorA10
set_option linter.unusedSimpArgs false
set_option linter.unusedVariables false
namespace Go.AW
open Go.RowKit

section
variable {P : Program} {w : World} {g : Gh} {st : St}

theorem parts_rep {nt : Nat} {tm : Tm} {a : Act} (hT : RT g nt tm a) {ps : Array (Nat × Operand)} (h : (ps.toList.all fun p => opOk p.2) = true) :
    (partsA tm ps).length = (ps.toList.map fun p => (p.1, a.eval p.2)).length ∧
    ∀ (i : Nat) p q, (partsA tm ps)[i]? = some p → (ps.toList.map fun p => (p.1, a.eval p.2))[i]? = some q → p.1 = q.1 ∧ Rep g p.2 q.2 := by
  refine ⟨by simp [partsA], fun i p q h1 h2 => ?_⟩
  simp only [partsA, List.getElem?_map, Option.map_eq_some_iff] at h1 h2
  obtain ⟨x, hx, rfl⟩ := h1
  obtain ⟨y, hy, rfl⟩ := h2
  rw [hx] at hy
  cases hy
  exact ⟨rfl, opnd_rep hT (List.all_eq_true.1 h x (List.mem_of_getElem? hx))⟩

theorem RepL.cat {as bs : List AV} {us vs : Array Value} (h : RepL g as us) (h' : RepL g bs vs) : RepL g (as ++ bs) (us ++ vs) := by
  refine ⟨by simp [h.1, h'.1], fun i a v h1 h2 => ?_⟩
  rw [List.getElem?_append] at h1
  rw [Array.getElem?_append] at h2
  rw [← h.1] at h2
  split at h1
  · rename_i hc
    rw [if_pos hc] at h2
    exact h.2 i a v h1 h2
  · rename_i hc
    rw [if_neg hc] at h2
    exact h'.2 _ a v h1 h2

theorem callFunc_run {k : FuncId} (h : enters P k = true) (args : Array Value) : (callFunc k args).run P w = .ok (.enter k args) w := by
  unfold enters at h
  split at h
  · rename_i fn hf
    simp only [Bool.and_eq_true, bne_iff_ne, ne_eq] at h
    obtain ⟨h1, h2⟩ := h
    simp only [callFunc, Sem.run_bind, run_program, Result.andThen_ok, hf]
    rw [if_neg (by simpa using h2)]
    have hb : fn.body.isNone = false := by cases hx : fn.body <;> simp_all
    rw [if_neg (by rw [hb]; simp)]
    rfl
  · cases h

theorem RepL.cons_inv {a : AV} {as : List AV} {us : Array Value} (h : RepL g (a :: as) us) : ∃ u vs, us = #[u] ++ vs ∧ Rep g a u ∧ RepL g as vs := by
  have hl : us.size = as.length + 1 := by rw [← h.1]; rfl
  have hpos : 0 < us.size := by omega
  refine ⟨us[0]'hpos, us.extract 1 us.size, ?_, h.2 0 _ _ rfl (Array.getElem?_eq_getElem hpos), ?_, fun i b v h1 h2 => ?_⟩
  · apply Array.ext'
    simp only [Array.toList_append, Array.toList_extract, List.extract_eq_take_drop]
    cases hx : us.toList with
    | nil => have := congrArg List.length hx; rw [Array.length_toList] at this; simp only [List.length_nil] at this; omega
    | cons x xs =>
      have e1 : us[0]'hpos = x := by
        have : us.toList[0]? = some x := by rw [hx]; rfl
        simpa [Array.getElem?_eq_getElem hpos] using this
      have e2 : us.size = xs.length + 1 := by rw [← Array.length_toList, hx]; rfl
      rw [e1]
      simp [e2]
  · rw [Array.size_extract]; omega
  · rw [Array.getElem?_extract] at h2
    split at h2
    · exact h.2 (i + 1) b v (by simpa using h1) (by rw [Nat.add_comm]; exact h2)
    · cases h2

/-- A call of a function that has a contract. -/
theorem call_sound (hR : R w g st) {k : FuncId} {args : List AV} {K : AV → St → Prop} (h : Ct P k args st K) {vals : Array Value} (hv : RepL g args vals) {o : Oper} {a : Act} {next : Act → World → Prop} {Q : Exit → Act → World → Prop}
    (hK : ∀ r st' g' w' v, K r st' → R w' g' st' → Rep g' r v → g.le g' → Below g.B w w' → next (a.put o.dst v) w') :
    o.upon P a next Q (.ok (.enter k vals) w) := by
  rw [Oper.upon_enter]
  refine (h.2 w g vals hR hv).mono ?_
  rintro e w' ⟨r, st', g', v, rfl, hQ, hR', hrep, hle, hb⟩
  exact hK r st' g' w' v hQ hR' hrep hle hb

theorem Meth.run {t : TypeId} {name : String} {k : FuncId} (h : Meth P t name k) (hk : enters P k = true) (v : Value) (args : Array Value) :
    (callMethod (.iface t v) name args).run P w = .ok (.enter k (#[v] ++ args)) w := by
  unfold callMethod
  simp only [Sem.run_bind, run_program, Result.andThen_ok, h v w]
  exact callFunc_run hk _

theorem callA_sound (hR : R w g st) {f : AV} {args : List AV} {K : AV → St → Prop} (h : callA P f args st K) {fv : Value} (hf : Rep g f fv) {vals : Array Value} (hv : RepL g args vals) {o : Oper} {a : Act} {next : Act → World → Prop} {Q : Exit → Act → World → Prop}
    (hK : ∀ r st' g' w' v, K r st' → R w' g' st' → Rep g' r v → g.le g' → Below g.B w w' → next (a.put o.dst v) w') :
    o.upon P a next Q ((do let d ← Deferred.ofValue fv vals; invoke d.target d.args : Sem Next).run P w) := by
  unfold callA at h
  split at h
  · rename_i k fs cs
    obtain ⟨us, vs, rfl, h1, h2⟩ := hf.fn_inv
    simp only [Deferred.ofValue, Sem.run_bind, Sem.run_pure, Result.andThen_ok, invoke, callFunc_run h.1]
    exact call_sound hR h ((h1.cat hv).cat h2) hK
  · rename_i name t v
    obtain ⟨k, hm, hk⟩ := h
    obtain ⟨us, vs, rfl, h1, h2⟩ := hf.fn_inv
    obtain ⟨u, us', rfl, hu, h1'⟩ := h1.cons_inv
    obtain ⟨x, rfl, hx⟩ := hu.ifc_inv
    have hus : us' = #[] := by have := h1'.1; simpa using this.symm
    subst hus
    have e1 : (#[Value.iface t x] ++ #[] ++ vals)[0]? = some (.iface t x) := by simp [Array.getElem?_append]
    have e2 : (#[Value.iface t x] ++ #[] ++ vals).extract 1 (#[Value.iface t x] ++ #[] ++ vals).size = vals := by
      apply Array.ext'
      simp
    simp only [Deferred.ofValue, Sem.run_bind, Sem.run_pure, Result.andThen_ok, invoke, e1, e2, hm.run hk.1]
    refine call_sound hR hk ?_ hK
    exact RepL.cat (as := [v]) ⟨rfl, fun i b u h1 h2 => by
      cases i with
      | zero => simp at h1 h2; subst h1; subst h2; exact hx
      | succ i => simp at h1⟩ hv
  · rename_i t0 name
    split at h
    · rename_i t v rest
      split at h
      · rename_i ms hms
        obtain ⟨k, hm, hk⟩ := h
        obtain ⟨us, vs, rfl, h1, h2⟩ := hf.fn_inv
        have hus : us = #[] := by have := h1.1; simpa using this.symm
        subst hus
        obtain ⟨u, us', rfl, hu, h1'⟩ := hv.cons_inv
        obtain ⟨x, rfl, hx⟩ := hu.ifc_inv
        have e1 : (#[] ++ (#[Value.iface t x] ++ us'))[0]? = some (.iface t x) := by simp [Array.getElem?_append]
        have e2 : (#[] ++ (#[Value.iface t x] ++ us')).extract 1 (#[] ++ (#[Value.iface t x] ++ us')).size = us' := by
          apply Array.ext'
          simp
        simp only [Deferred.ofValue, Sem.run_bind, Sem.run_pure, Result.andThen_ok, invoke, e1, e2, run_underlying hms, hm.run hk.1]
        refine call_sound hR hk ?_ hK
        exact RepL.cat (as := [v]) ⟨rfl, fun i b u h1 h2 => by
          cases i with
          | zero => simp at h1 h2; subst h1; subst h2; exact hx
          | succ i => simp at h1⟩ h1'
      · exact h.elim
    · exact h.elim
  · exact h.elim

theorem invokeA_sound (hR : R w g st) {f : AV} {name : String} {args : List AV} {K : AV → St → Prop} (h : invokeA P f name args st K) {fv : Value} (hf : Rep g f fv) {vals : Array Value} (hv : RepL g args vals) {o : Oper} {a : Act} {next : Act → World → Prop} {Q : Exit → Act → World → Prop}
    (hK : ∀ r st' g' w' v, K r st' → R w' g' st' → Rep g' r v → g.le g' → Below g.B w w' → next (a.put o.dst v) w') :
    o.upon P a next Q ((invoke (.fn (.method name) #[]) (#[fv] ++ vals)).run P w) := by
  unfold invokeA at h
  split at h
  · rename_i t v
    obtain ⟨k, hm, hk⟩ := h
    obtain ⟨x, rfl, hx⟩ := hf.ifc_inv
    have e1 : (#[Value.iface t x] ++ vals)[0]? = some (.iface t x) := by simp [Array.getElem?_append]
    have e2 : (#[Value.iface t x] ++ vals).extract 1 (#[Value.iface t x] ++ vals).size = vals := by
      apply Array.ext'
      simp
    simp only [invoke, e1, e2, hm.run hk.1]
    refine call_sound hR hk ?_ hK
    exact RepL.cat (as := [v]) ⟨rfl, fun i b u h1 h2 => by
      cases i with
      | zero => simp at h1 h2; subst h1; subst h2; exact hx
      | succ i => simp at h1⟩ hv
  · exact h.elim

theorem eff_sound (hR : R w g st) {nt : Nat} {tm : Tm} {a : Act} (hT : RT g nt tm a) {o : Oper} {K : AV → St → Prop} (h : eff P tm st K o.op) {next : Act → World → Prop} {Q : Exit → Act → World → Prop}
    (hK : ∀ r st' g' w' v, K r st' → R w' g' st' → Rep g' r v → g.le g' → Below g.B w w' → next (a.put o.dst v) w') : o.wp P a w next Q := by
  have pure_ : (ev P tm o.op).ok → K (ev P tm o.op).v st → o.wp P a w next Q := by
    intro h1 h2
    obtain ⟨v, hv, hr⟩ := ev_sound hR hT h1
    unfold Oper.wp
    rw [hv, Oper.upon_value]
    exact hK _ _ g w v h2 hR hr (Gh.le.refl g) (Below.refl _ _)
  rcases o with ⟨dst, op, ty, pos, after, guard⟩
  cases op with
  | load t x =>
    simp only [eff] at h
    split at h
    · rename_i id off hx
      split at h
      · rename_i n ag ht
        obtain ⟨h1, h2, h3⟩ := h
        obtain ⟨hid, ex⟩ := (hx ▸ opnd_rep hT h1).ptr_inv
        obtain ⟨v, hv, hr⟩ := run_loadVar_obj (P := P) hR (by rw [← hR.hn]; exact hid) ht h2
        unfold Oper.wp
        simp only [execOp, ex, Instr.loadAt, Instr.sureAddr, Sem.run_bind, Sem.run_pure, Result.andThen_ok, hv]
        exact hK _ _ g w v h3 hR hr (Gh.le.refl g) (Below.refl _ _)
      · exact h.elim
    · rename_i cs hx
      split at h
      · rename_i n ag ht
        obtain ⟨h1, h2, h3⟩ := h
        obtain ⟨b, o, c, ex, hp, hr⟩ := (hx ▸ opnd_rep hT h1).pp_inv
        obtain ⟨v, hv, hrep⟩ := run_loadVar_pub (P := P) hR ht hp hr h2
        unfold Oper.wp
        simp only [execOp, ex, Instr.loadAt, Instr.sureAddr, Sem.run_bind, Sem.run_pure, Result.andThen_ok, hv]
        exact hK _ _ g w v h3 hR hrep (Gh.le.refl g) (Below.refl _ _)
      · exact h.elim
    · exact h.elim
  | store t x y =>
    simp only [eff] at h
    split at h
    · rename_i id off hx
      split at h
      · rename_i n ag ht
        obtain ⟨h1, h2, h3, h4, h5, h6⟩ := h
        obtain ⟨hid, ex⟩ := (hx ▸ opnd_rep hT h1).ptr_inv
        obtain ⟨w', hv, hr, hb⟩ := run_storeVar_obj (P := P) hR (by rw [← hR.hn]; exact hid) ht (opnd_rep hT h2) h3 h4 h5
        unfold Oper.wp
        simp only [execOp, ex, Instr.storeAt, Instr.sureAddr, Sem.run_bind, Sem.run_pure, Result.andThen_ok, hv]
        exact hK _ _ g w' undef h6 hr .undef (Gh.le.refl g) hb
      · exact h.elim
    · exact h.elim
  | alloc t =>
    simp only [eff] at h
    split at h
    · rename_i cs hz
      obtain ⟨z, hz1, rfl, hz3⟩ := zeroC_parts (P := P) (w := w) hz
      unfold Oper.wp
      simp only [execOp, Instr.alloc, Sem.run_bind, hz1, Result.andThen_ok, Sem.run_pure, run_newVar]
      have hR' := hR.alloc t (RepL.cells g z.cells hz3)
      exact hK _ _ _ _ _ h hR' (by
        have := Rep.ptr (g := g.push w.heap.size) st.n 0 (by simp [Gh.push, hR.hn])
        simpa [Gh.push, upd, hR.hn] using this) (g.le_push _) ((Below.refl _ w).alloc hR.base _)
    · exact h.elim
  | box t x =>
    simp only [eff] at h
    obtain ⟨h1, h2, h3⟩ := h
    unfold Oper.wp
    simp only [execOp, Instr.box, Sem.run_bind, Result.andThen_ok, Sem.run_pure, run_newVar]
    have hR' := hR.alloc t (cellsL_rep (opnd_rep hT h1) h2).1
    exact hK _ _ _ _ _ h3 hR' (by
      have := Rep.ptr (g := g.push w.heap.size) st.n 0 (by simp [Gh.push, hR.hn])
      simpa [Gh.push, upd, hR.hn] using this) (g.le_push _) ((Below.refl _ w).alloc hR.base _)
  | build t ps =>
    simp only [eff] at h
    obtain ⟨h1, h2, h3⟩ := h
    obtain ⟨hl, hp⟩ := parts_rep hT h1
    obtain ⟨v, hv, hr⟩ := buildA_sound (w := w) h2 hl hp
    unfold Oper.wp
    have e : (ps.map fun (x : Nat × Operand) => (x.1, a.eval x.2)) = (ps.toList.map fun p => (p.1, a.eval p.2)).toArray := by apply Array.ext'; simp
    simp only [execOp, e, Sem.run_bind, hv, Result.andThen_ok, Sem.run_pure]
    exact hK _ _ g w v h3 hR hr (Gh.le.refl g) (Below.refl _ _)
  | buildSlice t len ps =>
    simp only [eff] at h
    obtain ⟨h1, h2⟩ := h
    obtain ⟨hl, hp⟩ := parts_rep hT h1
    obtain ⟨v, w', hv, r, st', g', hk, hR', hr, hle, hb⟩ := buildSlice_sound hR h2 hl hp
    unfold Oper.wp
    have e : (ps.map fun (x : Nat × Operand) => (x.1, a.eval x.2)) = (ps.toList.map fun p => (p.1, a.eval p.2)).toArray := by apply Array.ext'; simp
    simp only [execOp, e, Sem.run_bind, hv, Result.andThen_ok, Sem.run_pure]
    exact hK _ _ g' w' v hk hR' hr hle hb
  | call c =>
    rcases c with ⟨callee, ⟨args⟩, ⟨tys⟩⟩
    simp only [eff] at h
    cases callee with
    | value f =>
      obtain ⟨h1, h2, h3⟩ := h
      unfold Oper.wp
      have hr := RepL.opnds hT ⟨args⟩ h2
      have := callA_sound hR h3 (opnd_rep hT h1) hr (o := ⟨dst, .call ⟨.value f, ⟨args⟩, ⟨tys⟩⟩, ty, pos, after, guard⟩) (a := a) (next := next) (Q := Q) hK
      simpa only [execOp, resolve] using this
    | invoke r name =>
      obtain ⟨h1, h2, h3⟩ := h
      unfold Oper.wp
      have hr := RepL.opnds hT ⟨args⟩ h2
      have := invokeA_sound hR h3 (opnd_rep hT h1) hr (o := ⟨dst, .call ⟨.invoke r name, ⟨args⟩, ⟨tys⟩⟩, ty, pos, after, guard⟩) (a := a) (next := next) (Q := Q) hK
      simpa only [execOp, resolve, Sem.run_bind, Sem.run_pure, Result.andThen_ok] using this
    | builtin b =>
      simp only at h
      split at h
      · rename_i s x t t' hb
        obtain ⟨h1, h2, rfl, h4⟩ := h
        have hb' : b = .append := by cases b <;> first | rfl | (simp [isAppend] at hb)
        subst hb'
        obtain ⟨v, w', hv, r, st', g', hk, hR', hr, hle, hbel⟩ := append_sound hR h4 (opnd_rep hT h1) (opnd_rep hT h2) ty
        unfold Oper.wp
        simp only [execOp, resolve, invoke, builtin, Sem.run_bind, Sem.run_pure, Result.andThen_ok, List.map_toArray, List.map_cons, List.map_nil, hv]
        exact hK _ _ g' w' v hk hR' hr hle hbel
      · exact pure_ h.1 h.2
  | _ => exact pure_ h.1 h.2
end
end Go.AW
