/- The machine does what 'ev' says. -/
import Derived.Test.YtibiooglhpjojaaGreatDoorA2
set_option linter.unusedSimpArgs false
set_option linter.unusedVariables false
namespace Go.AW
open Go.RowKit

section inv
variable {g : Gh} {v : Value}
theorem Rep.lit_inv {x : Value} (h : Rep g (.d (.lit x)) v) (_hx : x.oneCell' = true ∨ x = Go.undef := by first | exact .inl rfl | exact .inr rfl) : v = x := by
  cases h with
  | d h => cases h with | lit _ _ => rfl
  | undef => rfl
theorem Rep.agg_inv {cs : List AV} (h : Rep g (.agg cs) v) : ∃ vs, v = .agg vs ∧ RepL g cs vs := by
  cases h with | agg _ vs hl hr => exact ⟨vs, rfl, hl, hr⟩
theorem Rep.tup_inv {cs : List AV} (h : Rep g (.tup cs) v) : ∃ vs, v = .tuple vs ∧ RepL g cs vs := by
  cases h with | tup _ vs hl hr => exact ⟨vs, rfl, hl, hr⟩
theorem Rep.ptr_inv {id off : Nat} (h : Rep g (.ptr id off) v) : id < g.n ∧ v = .pointer (some ⟨g.σ id, off, none⟩) := by
  cases h with | ptr _ _ h => exact ⟨h, rfl⟩
theorem Rep.pp_inv {cs : List AV} (h : Rep g (.pp cs) v) : ∃ (b o : Nat) (c : Nat → Value), v = .pointer (some ⟨b, o, none⟩) ∧ (∀ (j : Nat) (d : AV), cs[j]? = some d → g.pub b (o + j) = some (c j)) ∧ ∀ (j : Nat) (d : AV), cs[j]? = some d → Rep g d (c j) := by
  cases h with | pp _ b o c hp hr => exact ⟨b, o, c, rfl, hp, hr⟩
theorem Rep.fn_inv {f : Fn} {fs cs : List AV} (h : Rep g (.fn f fs cs) v) : ∃ us vs, v = .func f us vs ∧ RepL g fs us ∧ RepL g cs vs := by
  cases h with | fn _ _ _ us vs hl hr hl' hr' => exact ⟨us, vs, rfl, ⟨hl, hr⟩, hl', hr'⟩
theorem Rep.ifc_inv {t : TypeId} {a : AV} (h : Rep g (.ifc t a) v) : ∃ u, v = .iface t u ∧ Rep g a u := by
  cases h with | ifc _ h => exact ⟨_, rfl, h⟩
theorem Rep.nil_inv (h : Rep g .nil v) : v = .slice none 0 0 := by cases h; rfl
theorem Rep.own_inv {t s : Nat} {xs : List (List DV)} (h : Rep g (.own t s xs) v) : t < g.k ∧ RepD g.pub (.sl s xs) v ∧ ∀ x, g.tok t = some x → x.2 = (s, v, xs.length) := by
  cases h with | own ht h hk => exact ⟨ht, h, hk⟩
theorem Rep.sl_inv {s : Nat} {xs : List (List DV)} (h : Rep g (.d (.sl s xs)) v) : RepD g.pub (.sl s xs) v := by cases h with | d h => exact h
end inv

/-- What a slice of whatever kind is in the machine. -/
structure SliceAt (g : Gh) (s : Nat) (xs : List (List AV)) (v : Value) : Prop where
  at_ : ∃ a cap, v = .slice a xs.length cap ∧ xs.length ≤ cap ∧
    (0 < xs.length → ∃ (b o : Nat) (c : Nat → Value), a = some ⟨b, o, none⟩ ∧ (∀ (i : Nat) (x : List AV), xs[i]? = some x → x.length = s) ∧
      (∀ (i j : Nat) (x : List AV) (d : AV), xs[i]? = some x → x[j]? = some d → g.pub b (o + i * s + j) = some (c (i * s + j))) ∧
      (∀ (i j : Nat) (x : List AV) (d : AV), xs[i]? = some x → x[j]? = some d → Rep g d (c (i * s + j))))

theorem RepD.sliceAt {g : Gh} {s : Nat} {xs : List (List DV)} {v : Value} (h : RepD g.pub (.sl s xs) v) (hc : ∃ a cap, v = .slice a xs.length cap ∧ xs.length ≤ cap) : SliceAt g s (xs.map (·.map .d)) v := by
  obtain ⟨a, cap, rfl, hcap⟩ := hc
  refine ⟨a, cap, by simp, by simpa using hcap, fun hne => ?_⟩
  cases h with
  | sl0 => simp at hne
  | sl _ _ b o _ c hne hl hc hp hr =>
    refine ⟨b, o, c, rfl, fun i x hx => ?_, fun i j x d hx hj => ?_, fun i j x d hx hj => ?_⟩
    · simp only [List.getElem?_map, Option.map_eq_some_iff] at hx
      obtain ⟨y, hy, rfl⟩ := hx
      simpa using hl i y hy
    · simp only [List.getElem?_map, Option.map_eq_some_iff] at hx
      obtain ⟨y, hy, rfl⟩ := hx
      simp only [List.getElem?_map, Option.map_eq_some_iff] at hj
      obtain ⟨e, he, rfl⟩ := hj
      exact hp i j y e hy he
    · simp only [List.getElem?_map, Option.map_eq_some_iff] at hx
      obtain ⟨y, hy, rfl⟩ := hx
      simp only [List.getElem?_map, Option.map_eq_some_iff] at hj
      obtain ⟨e, he, rfl⟩ := hj
      exact .d (hr i j y e hy he)
theorem RepD.cap {pub : Nat → Nat → Option Value} {s : Nat} {xs : List (List DV)} {v : Value} (h : RepD pub (.sl s xs) v) : ∃ a cap, v = .slice a xs.length cap ∧ (xs.length ≤ cap) := by
  cases h with
  | sl0 _ a cap => exact ⟨a, cap, rfl, by simp⟩
  | sl _ _ b o cap c hne hl hc hp hr => exact ⟨_, cap, rfl, hc⟩

theorem Rep.sliceAt {g : Gh} {a : AV} {s : Nat} {xs : List (List AV)} (h : elems a = some (s, xs)) {v : Value} (hv : Rep g a v) : SliceAt g s xs v := by
  cases a with
  | d x =>
    cases x with
    | lit u => simp [elems] at h
    | sl s' ys =>
      simp only [elems, Option.some.injEq, Prod.mk.injEq] at h
      obtain ⟨rfl, rfl⟩ := h
      exact hv.sl_inv.sliceAt hv.sl_inv.cap
  | own t s' ys =>
    simp only [elems, Option.some.injEq, Prod.mk.injEq] at h
    obtain ⟨rfl, rfl⟩ := h
    exact hv.own_inv.2.1.sliceAt hv.own_inv.2.1.cap
  | psl s' ys =>
    simp only [elems, Option.some.injEq, Prod.mk.injEq] at h
    obtain ⟨rfl, rfl⟩ := h
    cases hv with
    | psl0 _ a cap => exact ⟨a, cap, rfl, by simp, fun h => by simp at h⟩
    | psl _ _ b o cap c hne hl hc hp hr => exact ⟨_, cap, rfl, hc, fun _ => ⟨b, o, c, rfl, hl, hp, hr⟩⟩
  | nil =>
    simp only [elems, Option.some.injEq, Prod.mk.injEq] at h
    obtain ⟨rfl, rfl⟩ := h
    obtain rfl := hv.nil_inv
    exact ⟨none, 0, rfl, by simp, fun h => by simp at h⟩
  | _ => simp [elems] at h

theorem lenOf_rep {g : Gh} {a : AV} {n : Nat} {str : Bool} (h : lenOf a = some (n, str)) {v : Value} (hv : Rep g a v) :
    (str = false ∧ ∃ b cap, v = .slice b n cap) ∨ (str = true ∧ ∃ s, v = .string s ∧ n = s.size) := by
  cases a with
  | d x =>
    cases x with
    | lit u =>
      cases u <;> simp only [lenOf, Option.some.injEq, Prod.mk.injEq, reduceCtorEq] at h
      obtain ⟨rfl, rfl⟩ := h
      exact .inr ⟨rfl, _, hv.lit_inv, rfl⟩
    | sl s' ys => simp only [lenOf, Option.some.injEq, Prod.mk.injEq] at h; obtain ⟨rfl, rfl⟩ := h; obtain ⟨a, c, h, _⟩ := hv.sl_inv.cap; exact .inl ⟨rfl, a, c, h⟩
  | own t s' ys => simp only [lenOf, Option.some.injEq, Prod.mk.injEq] at h; obtain ⟨rfl, rfl⟩ := h; obtain ⟨a, c, h, _⟩ := hv.own_inv.2.1.cap; exact .inl ⟨rfl, a, c, h⟩
  | psl s' ys =>
    simp only [lenOf, Option.some.injEq, Prod.mk.injEq] at h
    obtain ⟨rfl, rfl⟩ := h
    cases hv with
    | psl0 _ a cap => exact .inl ⟨rfl, a, cap, rfl⟩
    | psl _ _ b o cap c hne hl hc hp hr => exact .inl ⟨rfl, _, cap, rfl⟩
  | nil => simp only [lenOf, Option.some.injEq, Prod.mk.injEq] at h; obtain ⟨rfl, rfl⟩ := h; exact .inl ⟨rfl, _, _, hv.nil_inv⟩
  | _ => simp [lenOf] at h

theorem sub_rep {g : Gh} {cells : List AV} {vs : Array Value} (h : RepL g cells vs) {off n : Nat} {agg : Bool} (ho : (sub cells off n agg).ok) :
    ∃ v, (if agg then (Result.ok (Value.agg (vs.extract off (off + n))) : World → Result Value) else fun w => match vs[off]? with | some v => .ok v w | none => .halt (.stuck "part: no such cell") w) = (fun w => Result.ok v w) ∧ Rep g (sub cells off n agg).v v := by
  unfold sub at ho ⊢
  cases agg with
  | true =>
    simp only [if_true] at ho ⊢
    refine ⟨_, rfl, .agg _ _ ?_ ?_⟩
    · have := h.1; simp; omega
    · intro i a v h1 h2
      have hi : i < n := by
        have := (List.getElem?_eq_some_iff.1 h1).1
        simp at this; omega
      rw [List.getElem?_take_of_lt hi, List.getElem?_drop] at h1
      refine h.2 (off + i) a v h1 ?_
      rw [Array.getElem?_extract] at h2
      split at h2
      · exact h2
      · cases h2
  | false =>
    simp only [Bool.false_eq_true, if_false] at ho ⊢
    have hlt : off < vs.size := by rw [← h.1]; exact ho
    refine ⟨vs[off], ?_, ?_⟩
    · funext w
      rw [Array.getElem?_eq_getElem hlt]
    · have h1 : cells[off]? = some (cells.getD off .bad) := by simp [List.getD, List.getElem?_eq_getElem ho]
      exact h.2 off _ _ h1 (Array.getElem?_eq_getElem hlt)
end Go.AW
