/- Elements of slices, whatever their type. -/
import Derived.Test.YtibiooglhpjojaaGreatDoorD1
set_option linter.unusedSimpArgs false
set_option linter.unusedVariables false
namespace Go.AW

/-- An element as a value. -/
def ldv (ag : Bool) (x : List DV) : AV := if ag then .agg (x.map .d) else (x.map AV.d).getD 0 .bad
theorem sub_elem {x : List DV} {n : Nat} {ag : Bool} (hn : x.length = n) (h1 : ag = false → n = 1) : sub (x.map AV.d) 0 n ag = ⟨True, ldv ag x⟩ := by
  cases ag with
  | true =>
    subst hn
    have : (List.map AV.d x).take x.length = List.map AV.d x := List.take_of_length_le (by simp)
    simp [sub, ldv, this]
  | false =>
    have := h1 rfl
    subst this
    match x, hn with
    | [d], _ => simp [sub, ldv]
theorem cellsL_ldv {x : List DV} {n : Nat} {ag : Bool} (hn : x.length = n) (h1 : ag = false → n = 1) : cellsL (ldv ag x) = x.map .d := by
  cases ag with
  | true => rfl
  | false =>
    have := h1 rfl
    subst this
    match x, hn with
    | [d], _ => rfl
theorem idx_elem {xs : List (List DV)} {e n b : Nat} {k : IntKind} {i : Nat} (hi : i < xs.length) : idxV (some (e, n, b)) (.d (.sl n xs)) (.d (.lit (.int k i))) = ⟨True, .pp (xs[i].map .d)⟩ := by
  rw [idxV_sl]
  have e1 : ((xs.map (·.map AV.d)).getD (i : Int).toNat []) = xs[i].map .d := by simp [hi]
  have e2 : (n = n ∧ (0 : Int) ≤ i ∧ (i : Int) < ((xs.map (·.map AV.d)).length : Int)) = True := by simp [hi]
  rw [e1, e2]
theorem toDs_map : ∀ x : List DV, toDs (x.map .d) = some x
  | [] => rfl
  | d :: x => by simp only [List.map_cons, toDs, toDs_map x]; rfl
theorem toDss_one {v : AV} {x : List DV} (h : cellsL v = x.map .d) : toDss ([v].map cellsL) = some [x] := by
  simp only [List.map_cons, List.map_nil, toDss, h, toDs_map]
/-- A state behind another, in which nothing old has turned. -/
structure Grow (st st' : St) : Prop where
  n : st.n ≤ st'.n
  k : st.k ≤ st'.k
  obj : ∀ i, i < st.n → st'.obj i = st.obj i
  live : ∀ t, t < st.k → st'.live t = st.live t
theorem Grow.refl (st : St) : Grow st st := ⟨Nat.le_refl _, Nat.le_refl _, fun _ _ => rfl, fun _ _ => rfl⟩
theorem Grow.ext {st st' : St} (h : Grow st st') (os : List (TypeId × List AV)) (ts : List (Option TypeId)) : Grow st (st'.ext os ts) :=
  ⟨Nat.le_trans h.n (by simp [ext_n]), Nat.le_trans h.k (by simp [ext_k]), fun i hi => by rw [ext_obj_old _ _ _ _ (Nat.lt_of_lt_of_le hi h.n)]; exact h.obj i hi, fun t ht => by rw [ext_live_old _ _ _ _ (Nat.lt_of_lt_of_le ht h.k)]; exact h.live t ht⟩
theorem Grow.eat {st st' : St} (h : Grow st st') (t : Nat) (ht : st.k ≤ t) : Grow st (st'.eat t) :=
  ⟨h.n, h.k, h.obj, fun i hi => by rw [St.eat_live, if_neg (by omega)]; exact h.live i hi⟩
theorem Grow.drop {st st' : St} (h : Grow st st') : Drop st st' st := Drop.of_eq h.n h.k h.obj h.live
end Go.AW
