/- What a row's reading of the arguments gives: abstract values; and the row's end. -/
import Derived.Test.YtibiooglhpjojaaGreatDoorA21
import Derived.Below
import Derived.ChangeSame
import Derived.ChangeReads
import Derived.WideKeyArgs
set_option linter.unusedSimpArgs false
set_option linter.unusedVariables false
namespace Go.AW
open Go.RowKit Go.WideShapes Go.ChangeShapes

def RepCs (pub : Nat → Nat → Option Value) (xs : List DV) (cs : List Value) : Prop := xs.length = cs.length ∧ ∀ (i : Nat) (x : DV) (v : Value), xs[i]? = some x → cs[i]? = some v → RepD pub x v
theorem RepCs.nil (pub : Nat → Nat → Option Value) : RepCs pub [] [] := ⟨rfl, fun i x v h => by simp at h⟩
theorem RepCs.cons {pub : Nat → Nat → Option Value} {x : DV} {v : Value} {xs : List DV} {cs : List Value} (h : RepD pub x v) (h' : RepCs pub xs cs) : RepCs pub (x :: xs) (v :: cs) := by
  refine ⟨by simp [h'.1], fun i y u h1 h2 => ?_⟩
  cases i with
  | zero => simp at h1 h2; subst h1; subst h2; exact h
  | succ i => exact h'.2 i y u (by simpa using h1) (by simpa using h2)
theorem RepCs.append {pub : Nat → Nat → Option Value} : ∀ {xs : List DV} {cs : List Value} {ys : List DV} {ds : List Value}, RepCs pub xs cs → RepCs pub ys ds → RepCs pub (xs ++ ys) (cs ++ ds)
  | [], [], _, _, _, h => h
  | [], _ :: _, _, _, h, _ => by simp [RepCs] at h
  | _ :: _, [], _, _, h, _ => by simp [RepCs] at h
  | x :: xs, v :: cs, _, _, h, h' => by
    refine RepCs.cons (h.2 0 x v rfl rfl) (RepCs.append ⟨by simpa using h.1, fun i a b h1 h2 => h.2 (i + 1) a b (by simpa using h1) (by simpa using h2)⟩ h')
/-- From a place on. -/
def RepAt (pub : Nat → Nat → Option Value) (cs : List Value) (o : Nat) (xs : List DV) : Prop := RepCs pub xs (cs.drop o)
theorem RepAt.nil {pub : Nat → Nat → Option Value} {cs : List Value} {o : Nat} (h : cs.length = o) : RepAt pub cs o [] := by
  unfold RepAt; rw [List.drop_eq_nil_of_le (by omega)]; exact .nil pub
theorem RepAt.app {pub : Nat → Nat → Option Value} {cs : List Value} {o n : Nat} {xs ys : List DV} (h : RepCs pub xs ((cs.drop o).take n)) (h' : RepAt pub cs (o + n) ys) : RepAt pub cs o (xs ++ ys) := by
  unfold RepAt at h' ⊢
  rw [← List.take_append_drop n (cs.drop o), List.drop_drop]
  exact h.append h'
theorem RepAt.one {pub : Nat → Nat → Option Value} {cs : List Value} {o : Nat} {x : DV} {ys : List DV} (h : RepCs pub [x] ((cs.drop o).take 1)) (h' : RepAt pub cs (o + 1) ys) : RepAt pub cs o (x :: ys) := RepAt.app h h'

section
variable {H : Type} {enc : TypeId × Value → H} {P : Program} {W : World} {n : Nat} {t : TypeId} {cs : List Value} {x : DataW H × List MemPlace}
abbrev rd (enc : TypeId × Value → H) (P : Program) (W : World) (n : Nat) (t : TypeId) (cs : List Value) : Option (DataW H × List MemPlace) := DataW.trod enc P W 0 (fun _ => true) true n t cs
def pubOf (W : World) (b o : Nat) : Option Value := W.cell? ⟨b, o, none⟩
/-- How cells of a type are taken: by a value that they are, of which something is known. -/
def Dec (enc : TypeId × Value → H) (P : Program) (W : World) (t : TypeId) {α : Type} (cells : α → List DV) (Ok : α → Prop) : Prop :=
  ∀ (n : Nat) (cs : List Value) (x : DataW H × List MemPlace), rd enc P W n t cs = some x → ∃ a, RepCs (pubOf W) (cells a) cs ∧ Ok a
def I64 (m : Int) : Prop := -9223372036854775808 ≤ m ∧ m ≤ 9223372036854775807
theorem dec_int (ht : P.underlying t = some (.int .i64)) : Dec enc P W t (fun m : Int => [.lit (.int .i64 m)]) I64 := by
  intro n cs x h
  cases n with
  | zero => simp [rd, DataW.trod] at h
  | succ n =>
    unfold rd DataW.trod at h
    rw [ht] at h
    rcases cs with - | ⟨v, - | ⟨u, cs⟩⟩
    · cases h
    · cases v with
      | int k m =>
        simp only at h
        split at h
        · rename_i hk
          obtain ⟨rfl, hw⟩ := hk
          refine ⟨m, .cons (.lit _ rfl) (.nil _), ?_⟩
          simp only [Lit.wf, Bool.and_eq_true, decide_eq_true_eq] at hw
          exact hw
        · cases h
      | _ => cases h
    · cases v <;> cases h
theorem dec_bool (ht : P.underlying t = some .bool) : Dec enc P W t (fun b : Bool => [.lit (.bool b)]) (fun _ => True) := by
  intro n cs x h
  cases n with
  | zero => simp [rd, DataW.trod] at h
  | succ n =>
    unfold rd DataW.trod at h
    rw [ht] at h
    rcases cs with - | ⟨v, - | ⟨u, cs⟩⟩
    · cases h
    · cases v with
      | bool b => exact ⟨b, .cons (.lit _ rfl) (.nil _), trivial⟩
      | _ => cases h
    · cases v <;> cases h
theorem dec_str (ht : P.underlying t = some .string) : Dec enc P W t (fun s : ByteArray => [.lit (.string s)]) (fun s => s.size ≤ 9223372036854775807) := by
  intro n cs x h
  cases n with
  | zero => simp [rd, DataW.trod] at h
  | succ n =>
    unfold rd DataW.trod at h
    rw [ht] at h
    rcases cs with - | ⟨v, - | ⟨u, cs⟩⟩
    · cases h
    · cases v with
      | string s =>
        simp only at h
        split at h
        · rename_i hs
          exact ⟨s, .cons (.lit _ rfl) (.nil _), by unfold maxLen at hs; omega⟩
        · cases h
      | _ => cases h
    · cases v <;> cases h

theorem mapM_all {α β : Type} {f : α → Option β} : ∀ {l : List α} {r : List β}, l.mapM f = some r → r.length = l.length ∧ ∀ (i : Nat) (a : α), l[i]? = some a → ∃ b, f a = some b
  | [], r, h => by simp at h; subst h; exact ⟨rfl, fun i a h => by simp at h⟩
  | a :: l, r, h => by
    rw [List.mapM_cons] at h
    simp only [Option.bind_eq_bind, Option.bind_eq_some_iff, Option.pure_def, Option.some.injEq] at h
    obtain ⟨b, hb, r', hr, rfl⟩ := h
    obtain ⟨h1, h2⟩ := mapM_all hr
    refine ⟨by simp [h1], fun i a' hi => ?_⟩
    cases i with
    | zero => simp at hi; subst hi; exact ⟨b, hb⟩
    | succ i => exact h2 i a' (by simpa using hi)
theorem choose_list {α : Type} (Q : Nat → α → Prop) : ∀ (n : Nat), (∀ i, i < n → ∃ a, Q i a) → ∃ l : List α, l.length = n ∧ ∀ (i : Nat) (a : α), l[i]? = some a → Q i a
  | 0, _ => ⟨[], rfl, fun i a h => by simp at h⟩
  | n + 1, h => by
    obtain ⟨l, hl, hq⟩ := choose_list Q n fun i hi => h i (by omega)
    obtain ⟨a, ha⟩ := h n (by omega)
    refine ⟨l ++ [a], by simp [hl], fun i b hb => ?_⟩
    rw [List.getElem?_append] at hb
    split at hb
    · exact hq i b hb
    · have : i = n := by
        have := (List.getElem?_eq_some_iff.1 hb).1
        simp at this; omega
      subst this
      simp [hl] at hb
      subst hb; exact ha
theorem add_none (b o i : Nat) : (⟨b, o, none⟩ : Addr).add i = ⟨b, o + i, none⟩ := by
  unfold Addr.add; split <;> simp_all
theorem cells?_get {a : Addr} {m : Nat} {ds : List Value} (h : W.cells? 0 a m = some ds) : ds.length = m ∧ ∀ (j : Nat) (v : Value), ds[j]? = some v → W.cell? (a.add j) = some v := by
  unfold World.cells? at h
  rw [if_pos (Nat.zero_le _)] at h
  have key : ∀ (l : List Nat) (ds : List Value), l.mapM (fun i => W.cell? (a.add i)) = some ds → ds.length = l.length ∧ ∀ (j : Nat) (k : Nat) (v : Value), l[j]? = some k → ds[j]? = some v → W.cell? (a.add k) = some v := by
    intro l
    induction l with
    | nil => intro ds h; simp at h; subst h; exact ⟨rfl, fun j k v h => by simp at h⟩
    | cons i l ih =>
      intro ds h
      rw [List.mapM_cons] at h
      simp only [Option.bind_eq_bind, Option.bind_eq_some_iff, Option.pure_def, Option.some.injEq] at h
      obtain ⟨b, hb, r', hr, rfl⟩ := h
      obtain ⟨h1, h2⟩ := ih r' hr
      refine ⟨by simp [h1], fun j k v hj hv => ?_⟩
      cases j with
      | zero => simp at hj hv; subst hj; subst hv; exact hb
      | succ j => exact h2 j k v (by simpa using hj) (by simpa using hv)
  obtain ⟨h1, h2⟩ := key _ _ h
  rw [List.length_range] at h1
  refine ⟨h1, fun j v hv => h2 j j v ?_ hv⟩
  have := (List.getElem?_eq_some_iff.1 hv).1
  rw [List.getElem?_range (by omega)]
theorem dec_sl {e : TypeId} {α : Type} {cells : α → List DV} {Ok : α → Prop} {s : Nat} (ht : P.underlying t = some (.slice e)) (hs : P.cellsOf e = s) (hp : 0 < s) (hD : Dec enc P W e cells Ok) :
    Dec enc P W t (fun l : List α => [.sl s (l.map cells)]) (fun l => l.length ≤ 9223372036854775807 ∧ ∀ a ∈ l, Ok a) := by
  intro n cs x h
  cases n with
  | zero => simp [rd, DataW.trod] at h
  | succ n =>
    unfold rd DataW.trod at h
    rw [ht] at h
    rcases cs with - | ⟨v, - | ⟨u, cs⟩⟩
    · cases h
    · cases v with
      | slice a len cap =>
        cases a with
        | none =>
          cases len with
          | zero =>
            cases cap with
            | zero => exact ⟨[], .cons (.sl0 _ _ _) (.nil _), by simp, fun a h => by simp at h⟩
            | succ c => cases h
          | succ l => cases h
        | some a =>
          simp only at h
          split at h
          · rename_i hc
            obtain ⟨-, hlc, hcm⟩ := hc
            simp only [Option.bind_eq_some_iff] at h
            obtain ⟨elems, he, -⟩ := h
            obtain ⟨h1, h2⟩ := mapM_all he
            have h3 : ∀ i, i < len → ∃ a' : α, ∃ ds, W.cells? 0 (a.add (i * s)) s = some ds ∧ RepCs (pubOf W) (cells a') ds ∧ Ok a' := by
              intro i hi
              obtain ⟨b, hb⟩ := h2 i i (by simp [hi])
              simp only [Option.bind_eq_some_iff] at hb
              obtain ⟨ds, hd, hb⟩ := hb
              obtain ⟨a', h4, h5⟩ := hD n ds b hb
              rw [hs] at hd
              exact ⟨a', ds, hd, h4, h5⟩
            obtain ⟨l, hl, hq⟩ := choose_list (fun i (a' : α) => ∃ ds, W.cells? 0 (a.add (i * s)) s = some ds ∧ RepCs (pubOf W) (cells a') ds ∧ Ok a') len h3
            refine ⟨l, .cons ?_ (.nil _), by rw [hl]; unfold maxLen at hcm; omega, fun a' ha' => ?_⟩
            · rcases Nat.eq_zero_or_pos len with e0 | e0
              · subst e0
                have : l = [] := List.eq_nil_of_length_eq_zero hl
                subst this
                exact .sl0 _ _ _
              · have hspot : a.spot = none := by
                  obtain ⟨a', ds, hd, -, -⟩ := h3 0 e0
                  obtain ⟨hdl, hdc⟩ := cells?_get hd
                  have := hdc 0 (ds[0]'(by omega)) (by simp [List.getElem?_eq_getElem (show 0 < ds.length by omega)])
                  unfold World.cell? at this
                  split at this
                  · split at this
                    · cases this
                    · rename_i hsp
                      simpa [Addr.add] using hsp
                  · cases this
                have ha : a = ⟨a.block, a.off, none⟩ := by cases a; simp_all
                have hlen : (l.map cells).length = len := by simp [hl]
                have hcell : ∀ (i j : Nat) (a' : α) (d : DV), l[i]? = some a' → (cells a')[j]? = some d → ∃ v, pubOf W a.block (a.off + i * s + j) = some v ∧ RepD (pubOf W) d v := by
                  intro i j a' d hi hj
                  obtain ⟨ds, hd, hrep, -⟩ := hq i a' hi
                  obtain ⟨hdl, hdc⟩ := cells?_get hd
                  have hjl : j < ds.length := by rw [← hrep.1]; exact (List.getElem?_eq_some_iff.1 hj).1
                  refine ⟨ds[j], ?_, hrep.2 j d _ hj (List.getElem?_eq_getElem hjl)⟩
                  have := hdc j ds[j] (List.getElem?_eq_getElem hjl)
                  rw [ha, add_none, add_none] at this
                  exact this
                have := RepD.sl (pub := pubOf W) s (l.map cells) a.block a.off cap (fun k => (pubOf W a.block (a.off + k)).getD undef) (by omega) (fun i y hy => ?_) (by omega) (fun i j y d hy hd => ?_) (fun i j y d hy hd => ?_)
                · rw [hlen] at this
                  rw [ha]
                  exact this
                · simp only [List.getElem?_map, Option.map_eq_some_iff] at hy
                  obtain ⟨a', hi, rfl⟩ := hy
                  obtain ⟨ds, hd, hrep, -⟩ := hq i a' hi
                  rw [hrep.1]; exact (cells?_get hd).1
                · simp only [List.getElem?_map, Option.map_eq_some_iff] at hy
                  obtain ⟨a', hi, rfl⟩ := hy
                  obtain ⟨v, hv, -⟩ := hcell i j a' d hi hd
                  simp only [← Nat.add_assoc]
                  rw [hv]; rfl
                · simp only [List.getElem?_map, Option.map_eq_some_iff] at hy
                  obtain ⟨a', hi, rfl⟩ := hy
                  obtain ⟨v, hv, hr⟩ := hcell i j a' d hi hd
                  simp only [← Nat.add_assoc]
                  rw [hv]; exact hr
            · obtain ⟨i, hi⟩ := List.getElem?_of_mem ha'
              exact (hq i a' hi).choose_spec.2.2
          · cases h
      | _ => cases h
    · cases v <;> first | cases h | (rename_i a len cap; cases a <;> cases len <;> cases cap <;> cases h)
/-- A struct's fields. -/
theorem dec_fields {fs : Array Field} (ht : P.underlying t = some (.struct fs)) (h : rd enc P W n t cs = some x) : cs.length = P.cellsOf t ∧ ∃ m, ∀ (i : Nat) (f : Field), fs[i]? = some f → ∃ y, rd enc P W m f.type ((cs.drop f.offset).take (P.cellsOf f.type)) = some y := by
  cases n with
  | zero => simp [rd, DataW.trod] at h
  | succ n =>
    unfold rd DataW.trod at h
    rw [ht] at h
    have h' : (if cs.length = P.cellsOf t then (fs.toList.mapM fun f => DataW.trod enc P W 0 (fun _ => true) true n f.type ((cs.drop f.offset).take (P.cellsOf f.type))).map fun xs => (DataW.agg (xs.map (·.1)), xs.flatMap (·.2)) else none) = some x := by
      rcases cs with - | ⟨v, - | ⟨u, cs⟩⟩
      · exact h
      · cases v <;> first | exact h | (rename_i a len cap; cases a <;> cases len <;> cases cap <;> exact h)
      · cases v <;> first | exact h | (rename_i a len cap; cases a <;> cases len <;> cases cap <;> exact h)
    split at h'
    · rename_i hl
      simp only [Option.map_eq_some_iff] at h'
      obtain ⟨xs, hx, -⟩ := h'
      refine ⟨hl, n, fun i f hf => (mapM_all hx).2 i f ?_⟩
      simpa using hf
    · cases h'
end
end Go.AW
