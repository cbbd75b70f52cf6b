/- Rows of operations: in the order of the text, and in whatever order Go's rules allow. -/
import Derived.Test.YtibiooglhpjojaaGreatDoorA11
import Derived.Orders
set_option linter.unusedSimpArgs false
set_option linter.unusedVariables false
namespace Go.AW
open Go.RowKit

def gdec (ops : List Oper) (tm : Tm) (gd : Option (Nat × Bool)) : Option Bool := match gd with
  | none => some true
  | some (j, want) => (match (ops[j]?).bind (·.dst) with
    | some d => (match tm d with
      | .d (.lit (.bool b)) => some (b == want)
      | .d (.lit (.tuple _)) => some false
      | _ => none)
    | none => none)

def wpAt (P : Program) (nt : Nat) (ops : List Oper) (o : Oper) (tm : Tm) (st : St) (K : Tm → St → Prop) : Prop := match gdec ops tm o.guard with
  | some b => Br b (wpO P nt o tm st K) (dstOk nt o.dst = true ∧ K (put tm o.dst undefAV) st)
  | none => False
def wpL (P : Program) (nt : Nat) (ops : List Oper) : List Oper → Tm → St → (Tm → St → Prop) → Prop
  | [], tm, st, K => K tm st
  | o :: rest, tm, st, K => wpAt P nt ops o tm st fun tm' st' => wpL P nt ops rest tm' st' K

theorem callA_mono {P : Program} {f : AV} {args : List AV} {st : St} {K K' : AV → St → Prop} (h : callA P f args st K) (hk : ∀ r st', K r st' → K' r st') : callA P f args st K' := by
  unfold callA at *
  split at h
  · exact h.mono hk
  · obtain ⟨k, hm, hf⟩ := h; exact ⟨k, hm, hf.mono hk⟩
  · split at h
    · split at h
      · obtain ⟨k, hm, hf⟩ := h; exact ⟨k, hm, hf.mono hk⟩
      · exact h.elim
    · exact h.elim
  · exact h.elim
theorem invokeA_mono {P : Program} {f : AV} {n : String} {args : List AV} {st : St} {K K' : AV → St → Prop} (h : invokeA P f n args st K) (hk : ∀ r st', K r st' → K' r st') : invokeA P f n args st K' := by
  unfold invokeA at *
  split at h
  · obtain ⟨k, hm, hf⟩ := h; exact ⟨k, hm, hf.mono hk⟩
  · exact h.elim
theorem appendA_mono {P : Program} {t : TypeId} {s x : AV} {st : St} {K K' : AV → St → Prop} (h : appendA P t s x st K) (hk : ∀ r st', K r st' → K' r st') : appendA P t s x st K' := by
  unfold appendA at *
  split at h
  · obtain ⟨h1, h2, h3, h4⟩ := h
    refine ⟨h1, h2, h3, ?_⟩
    split at h4
    · exact ⟨h4.1, h4.2.1, hk _ _ h4.2.2⟩
    · exact ⟨h4.1, h4.2.1, h4.2.2.1, h4.2.2.2.1, hk _ _ h4.2.2.2.2⟩
    · exact h4.elim
  · exact h.elim
theorem buildSliceA_mono {P : Program} {t : TypeId} {len : Nat} {ps : List (Nat × AV)} {st : St} {K K' : AV → St → Prop} (h : buildSliceA P t len ps st K) (hk : ∀ r st', K r st' → K' r st') : buildSliceA P t len ps st K' := by
  unfold buildSliceA at *
  split at h
  · obtain ⟨h1, h2, h3, h4, h5, h6, h7⟩ := h
    refine ⟨h1, h2, h3, h4, h5, h6, ?_⟩
    split at h7
    · exact hk _ _ h7
    · exact hk _ _ h7
  · exact h.elim
theorem eff_mono {P : Program} {tm : Tm} {st : St} {K K' : AV → St → Prop} {op : Op} (h : eff P tm st K op) (hk : ∀ r st', K r st' → K' r st') : eff P tm st K' op := by
  cases op with
  | load t x =>
    simp only [eff] at h ⊢
    split at h
    · split at h
      · exact ⟨h.1, h.2.1, hk _ _ h.2.2⟩
      · exact h.elim
    · split at h
      · exact ⟨h.1, h.2.1, hk _ _ h.2.2⟩
      · exact h.elim
    · exact h.elim
  | store t x y =>
    simp only [eff] at h ⊢
    split at h
    · split at h
      · exact ⟨h.1, h.2.1, h.2.2.1, h.2.2.2.1, h.2.2.2.2.1, hk _ _ h.2.2.2.2.2⟩
      · exact h.elim
    · exact h.elim
  | alloc t =>
    simp only [eff] at h ⊢
    split at h
    · exact hk _ _ h
    · exact h.elim
  | box t x => exact ⟨h.1, h.2.1, hk _ _ h.2.2⟩
  | build t ps => exact ⟨h.1, h.2.1, hk _ _ h.2.2⟩
  | buildSlice t len ps => exact ⟨h.1, buildSliceA_mono h.2 hk⟩
  | call c =>
    rcases c with ⟨callee, args, tys⟩
    simp only [eff] at h ⊢
    cases callee with
    | value f => exact ⟨h.1, h.2.1, callA_mono h.2.2 hk⟩
    | invoke r name => exact ⟨h.1, h.2.1, invokeA_mono h.2.2 hk⟩
    | builtin b =>
      simp only at h ⊢
      split at h
      · exact ⟨h.1, h.2.1, h.2.2.1, appendA_mono h.2.2.2 hk⟩
      · exact ⟨h.1, hk _ _ h.2⟩
  | _ => exact ⟨h.1, hk _ _ h.2⟩
theorem wpO_mono {P : Program} {nt : Nat} {o : Oper} {tm : Tm} {st : St} {K K' : Tm → St → Prop} (h : wpO P nt o tm st K) (hk : ∀ tm' st', K tm' st' → K' tm' st') : wpO P nt o tm st K' :=
  ⟨h.1, eff_mono h.2 fun _ _ => hk _ _⟩
theorem wpAt_mono {P : Program} {nt : Nat} {ops : List Oper} {o : Oper} {tm : Tm} {st : St} {K K' : Tm → St → Prop} (h : wpAt P nt ops o tm st K) (hk : ∀ tm' st', K tm' st' → K' tm' st') : wpAt P nt ops o tm st K' := by
  unfold wpAt at *
  split at h
  · exact h.mono (fun x => wpO_mono x hk) (fun x => ⟨x.1, hk _ _ x.2⟩)
  · exact h.elim
theorem wpL_mono {P : Program} {nt : Nat} {ops : List Oper} : ∀ (l : List Oper) {tm : Tm} {st : St} {K K' : Tm → St → Prop}, wpL P nt ops l tm st K → (∀ tm' st', K tm' st' → K' tm' st') → wpL P nt ops l tm st K'
  | [], _, _, _, _, h, hk => hk _ _ h
  | _ :: rest, _, _, _, _, h, hk => wpAt_mono h fun _ _ h' => wpL_mono rest h' hk
theorem wpL_append {P : Program} {nt : Nat} {ops : List Oper} : ∀ (l l' : List Oper) (tm : Tm) (st : St) (K : Tm → St → Prop), wpL P nt ops (l ++ l') tm st K = wpL P nt ops l tm st (fun tm' st' => wpL P nt ops l' tm' st' K)
  | [], _, _, _, _ => rfl
  | o :: l, l', tm, st, K => by
    simp only [List.cons_append, wpL]
    congr 1
    funext tm' st'
    exact wpL_append l l' tm' st' K

/-- What a frame and a world come to, as told by abstract ones. -/
def Con (nt : Nat) (w0 : World) (g0 : Gh) (K : Tm → St → Prop) (a : Act) (w : World) : Prop := ∃ tm st g, K tm st ∧ R w g st ∧ RT g nt tm a ∧ g0.le g ∧ Below g0.B w0 w
theorem Con.trans {nt : Nat} {w0 w1 : World} {g0 g1 : Gh} {K : Tm → St → Prop} {a : Act} {w : World} (h : Con nt w1 g1 K a w) (hle : g0.le g1) (hb : Below g0.B w0 w1) : Con nt w0 g0 K a w := by
  obtain ⟨tm, st, g, h1, h2, h3, h4, h5⟩ := h
  exact ⟨tm, st, g, h1, h2, h3, hle.trans h4, hb.trans (by rw [← hle.B]; exact h5)⟩

section
variable {P : Program} {w : World} {g : Gh} {st : St} {nt : Nat} {tm : Tm} {a : Act}

theorem dstOk_spec {dst : Option Nat} (h : dstOk nt dst = true) : ∀ d, dst = some d → d < nt := by
  rintro d rfl
  simpa [dstOk] using h

theorem wpO_sound (hR : R w g st) (hT : RT g nt tm a) {o : Oper} {K : Tm → St → Prop} (h : wpO P nt o tm st K) (Q : Exit → Act → World → Prop) : o.wp P a w (Con nt w g K) Q :=
  eff_sound hR hT h.2 fun _ _ _ _ _ hk hR' hr hle hb => ⟨_, _, _, hk, hR', (hT.mono hle).put o.dst (dstOk_spec h.1) hr, hle, hb⟩

theorem gdec_sound (hT : RT g nt tm a) {ops : Array Oper} {o : Oper} {b : Bool} (h : gdec ops.toList tm o.guard = some b) : Region.wanted o (yielded ops a.tmps) = b := by
  unfold gdec at h
  unfold Region.wanted
  split at h
  · rename_i hg; rw [hg]; simpa using h
  · rename_i j want hg
    rw [hg]
    simp only
    split at h
    · rename_i d hd
      have hd' : (ops[j]?).bind (·.dst) = some d := by rw [← hd]; simp
      have hrep := hT.rep d
      split at h
      · rename_i b' hb'
        rw [hb'] at hrep
        have e := hrep.lit_inv
        simp only [Option.some.injEq] at h
        subst h
        have ht : a.tmps[d]? = some (.bool b') := by
          rw [Array.getD_eq_getD_getElem?] at e
          cases hx : a.tmps[d]? with
          | none => rw [hx] at e; cases e
          | some u => rw [hx] at e; exact congrArg some e
        simp only [yielded, hd', Option.bind_some, ht]
        cases b' <;> cases want <;> rfl
      · rename_i vs hb'
        rw [hb'] at hrep
        simp only [Option.some.injEq] at h
        subst h
        have hy : yielded ops a.tmps j = none := by
          have e : a.tmps.getD d undef = .tuple vs := by
            generalize a.tmps.getD d undef = z at hrep
            cases hrep with
            | d hh => cases hh with | lit _ hv => cases hv
            | undef => rfl
          rw [Array.getD_eq_getD_getElem?] at e
          simp only [yielded, hd', Option.bind_some]
          cases hx : a.tmps[d]? with
          | none => rfl
          | some u => rw [hx] at e; have e' : u = .tuple vs := e; subst e'; rfl
        rw [hy]
        rfl
      · cases h
    · cases h

theorem wpAt_sound (hR : R w g st) (hT : RT g nt tm a) {ops : Array Oper} {i : Nat} {o : Oper} (ho : ops[i]? = some o) {K : Tm → St → Prop} (h : wpAt P nt ops.toList o tm st K) (Q : Exit → Act → World → Prop) :
    wpOp P ops Q i (Con nt w g K) a w := by
  unfold wpAt at h
  unfold wpOp
  simp only [ho]
  split at h
  · rename_i b hb
    rw [gdec_sound hT hb]
    cases b with
    | true =>
      rw [Br_true] at h
      exact .inl (wpO_sound hR hT h Q)
    | false =>
      rw [Br_false] at h
      exact ⟨_, _, g, h.2, hR, hT.put o.dst (dstOk_spec h.1) .undef, Gh.le.refl g, Below.refl _ _⟩
  · exact h.elim

/-- In the order of the text. -/
theorem wpL_sound {ops : Array Oper} {Q : Exit → Act → World → Prop} {K : Tm → St → Prop} : ∀ (l : List Oper) (k : Nat) {w : World} {g : Gh} {st : St} {tm : Tm} {a : Act}, (∀ j, l[j]? = ops[k + j]?) → R w g st → RT g nt tm a → wpL P nt ops.toList l tm st K →
    (∀ a' w', Con nt w g K a' w' → Q .normal a' w') → wpOps P ops Q (List.range' k l.length) a w
  | [], _, w, g, st, tm, a, _, hR, hT, h, hQ => by
    simp only [List.length_nil, List.range'_zero, wpOps]
    exact hQ a w ⟨tm, st, g, h, hR, hT, Gh.le.refl g, Below.refl _ _⟩
  | o :: l, k, w, g, st, tm, a, hl, hR, hT, h, hQ => by
    have ho : ops[k]? = some o := by simpa using (hl 0).symm
    simp only [List.length_cons, List.range'_succ]
    rw [wpOps_cons]
    refine wpOp_mono ?_ (wpAt_sound hR hT ho h Q)
    rintro a' w' ⟨tm', st', g', h1, h2, h3, h4, h5⟩
    refine wpL_sound l (k + 1) (fun j => ?_) h2 h3 h1 (fun a2 w2 hc => hQ a2 w2 (hc.trans h4 h5))
    have := hl (j + 1)
    rw [List.getElem?_cons_succ] at this
    rw [this]
    congr 1
    omega
end
end Go.AW
