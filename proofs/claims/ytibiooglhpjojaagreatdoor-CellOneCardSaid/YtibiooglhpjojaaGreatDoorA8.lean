/- append, slice literals; what an operation asks, and that the machine does it. -/
import Derived.Test.YtibiooglhpjojaaGreatDoorA7
set_option linter.unusedSimpArgs false
set_option linter.unusedVariables false
namespace Go.AW
open Go.RowKit

def enters (P : Program) (k : FuncId) : Bool := match P.funcs[k]? with
  | some fn => fn.body.isSome && fn.name != "runtime.NumGoroutine"
  | none => false

/-- What a function does: called with such arguments where the world is so, it returns what 'Q' says, and nothing that was there turns but what 'Q' tells. -/
def Ct (P : Program) (k : FuncId) (args : List AV) (st : St) (Q : AV → St → Prop) : Prop :=
  enters P k = true ∧ ∀ w g vals, R w g st → RepL g args vals → Calls P k vals w fun e w' => ∃ r st' g' v, e = .returned v ∧ Q r st' ∧ R w' g' st' ∧ Rep g' r v ∧ g.le g' ∧ Below g.B w w'

theorem Ct.mono {P : Program} {k : FuncId} {args : List AV} {st : St} {Q Q' : AV → St → Prop} (h : Ct P k args st Q) (hq : ∀ r st', Q r st' → Q' r st') : Ct P k args st Q' :=
  ⟨h.1, fun w g vals hR hv => (h.2 w g vals hR hv).mono fun _ _ ⟨r, st', g', v, he, hQ, rest⟩ => ⟨r, st', g', v, he, hq _ _ hQ, rest⟩⟩

/-- The method that an interface value's dynamic type has under a name. -/
def Meth (P : Program) (t : TypeId) (name : String) (k : FuncId) : Prop := ∀ (v : Value) (w : World), (method (P.types.size + Made.depth) t v name).run P w = .ok (k, v) w

def callA (P : Program) (f : AV) (args : List AV) (st : St) (Q : AV → St → Prop) : Prop := match f with
  | .fn (.func k) fs cs => Ct P k (fs ++ args ++ cs) st Q
  | .fn (.method name) [.ifc t v] [] => ∃ k, Meth P t name k ∧ Ct P k (v :: args) st Q
  | .fn (.methodOf t0 name) [] [] => (match args with
    | .ifc t v :: rest => (match P.underlying t0 with | some (.interface _) => ∃ k, Meth P t name k ∧ Ct P k (v :: rest) st Q | _ => False)
    | _ => False)
  | _ => False
def invokeA (P : Program) (recv : AV) (name : String) (args : List AV) (st : St) (Q : AV → St → Prop) : Prop := match recv with
  | .ifc t v => ∃ k, Meth P t name k ∧ Ct P k (v :: args) st Q
  | _ => False

def appendA (P : Program) (t : TypeId) (s x : AV) (st : St) (K : AV → St → Prop) : Prop := match elT P t, dcont x with
  | some (e, n, by_), some ys => 0 < n ∧ (zeroC P e).map (·.length) = some n ∧ (∀ y ∈ ys, y.length = n) ∧
    (match s with
     | .nil => ys.length ≤ 9223372036854775807 ∧ ys.length * by_ ≤ 140737488355328 ∧ K (.own st.k n ys) (st.own e)
     | .own tk n' xs => n' = n ∧ st.live tk = some e ∧ xs.length + ys.length ≤ 9223372036854775807 ∧ (xs.length + ys.length) * by_ ≤ 140737488355328 ∧ K (.own st.k n (xs ++ ys)) ((st.eat tk).own e)
     | _ => False)
  | _, _ => False

section
variable {P : Program} {w : World} {g : Gh} {st : St}

theorem append_parts {t e : TypeId} {n by_ : Nat} (he : elT P t = some (e, n, by_)) (hz : (zeroC P e).map (·.length) = some n) :
    P.underlying t = some (.slice e) ∧ ∃ i z, P.info? e = some i ∧ i.zero = some z ∧ i.size = n ∧ i.bytes = by_ ∧ z.cells.size = n := by
  unfold elT at he
  split at he
  · rename_i e' hu
    simp only [Option.map_eq_some_iff, Prod.mk.injEq] at he
    obtain ⟨i, hi, rfl, rfl, rfl⟩ := he
    refine ⟨hu, i, ?_⟩
    unfold zeroC at hz
    rw [hi] at hz
    simp only at hz
    split at hz
    · rename_i z hzz
      split at hz
      · simp only [Option.map_some, List.length_map, Array.length_toList, Option.some.injEq] at hz
        exact ⟨z, hi, hzz, rfl, rfl, hz⟩
      · cases hz
    · cases hz
  · cases he

/-- The source of an append: its cells. -/
theorem dcont_row (hR : R w g st) {x : AV} {ys : List (List DV)} (h : dcont x = some ys) {v : Value} (hv : Rep g x v) {n : Nat} (hn : ∀ y ∈ ys, y.length = n) (hpos : 0 < n) :
    ∃ a c f, v = .slice a ys.length c ∧ RowD g.pub n ys f ∧ (0 < ys.length → ∃ b o, a = some ⟨b, o, none⟩ ∧ ∀ k, k < ys.length * n → w.cell? ⟨b, o + k, none⟩ = some (f k)) := by
  have base : ∀ s, RepD g.pub (.sl s ys) v → ∃ a c f, v = .slice a ys.length c ∧ RowD g.pub n ys f ∧ (0 < ys.length → ∃ b o, a = some ⟨b, o, none⟩ ∧ ∀ k, k < ys.length * n → w.cell? ⟨b, o + k, none⟩ = some (f k)) := by
    intro s hs
    obtain ⟨a, c, f, rfl, hf⟩ := slice_row hR hs
    rcases Nat.eq_zero_or_pos ys.length with e | e
    · have : ys = [] := List.eq_nil_of_length_eq_zero e
      subst this
      exact ⟨a, c, f, rfl, ⟨fun i x h => by simp at h, fun i j x d h => by simp at h⟩, fun h => by simp at h⟩
    · obtain ⟨b, o, rfl, hrow, hc⟩ := hf e
      have hsn : s = n := by
        have h1 := List.getElem?_eq_getElem e
        rw [← hrow.1 _ _ h1]
        exact hn _ (List.getElem_mem e)
      subst hsn
      exact ⟨_, c, f, rfl, hrow, fun _ => ⟨b, o, rfl, hc⟩⟩
  cases x with
  | d x =>
    cases x with
    | lit u => simp [dcont] at h
    | sl s zs =>
      simp only [dcont, Option.some.injEq] at h
      subst h
      exact base s hv.sl_inv
  | own t s zs =>
    simp only [dcont, Option.some.injEq] at h
    subst h
    exact base s hv.own_inv.2.1
  | nil =>
    simp only [dcont, Option.some.injEq] at h
    subst h
    obtain rfl := hv.nil_inv
    exact ⟨none, 0, fun _ => undef, rfl, ⟨fun i x h => by simp at h, fun i j x d h => by simp at h⟩, fun h => by simp at h⟩
  | _ => simp [dcont] at h

theorem append_sound (hR : R w g st) {t : TypeId} {s x : AV} {K : AV → St → Prop} (h : appendA P t s x st K) {sv xv : Value} (hs : Rep g s sv) (hx : Rep g x xv) (ty : TypeId) :
    ∃ v' w', (Builtin.append_ #[t, t] ty #[sv, xv]).run P w = .ok v' w' ∧ ∃ r st' g', K r st' ∧ R w' g' st' ∧ Rep g' r v' ∧ g.le g' ∧ Below g.B w w' := by
  unfold appendA at h
  split at h
  · rename_i e n by_ ys he hd
    obtain ⟨hn, hz, hlen, h⟩ := h
    obtain ⟨hu, i, z, hi, hzz, hsize, hby, hzs⟩ := append_parts he hz
    obtain ⟨a, c, f, rfl, hrow, hcell⟩ := dcont_row hR hd hx hlen hn
    have hnews : ∀ u ∈ (List.range (ys.length * n)).map f, u.oneCell' = true := by
      intro u hu'
      obtain ⟨k, hk, rfl⟩ := List.mem_map.1 hu'
      exact hrow.one (List.mem_range.1 hk)
    have hsrc : 0 < ys.length → ∃ ad, a = some ad ∧ ∀ j u, ((List.range (ys.length * n)).map f)[j]? = some u → w.cell? (ad.add j) = some u := by
      intro hpos
      obtain ⟨b, o, rfl, hc⟩ := hcell hpos
      refine ⟨_, rfl, fun j u hj => ?_⟩
      simp only [List.getElem?_map, Option.map_eq_some_iff] at hj
      obtain ⟨k, hk, rfl⟩ := hj
      have hkn := (List.getElem?_eq_some_iff.1 hk).1
      rw [List.length_range] at hkn
      rw [List.getElem?_range hkn] at hk
      cases hk
      rw [addr_add]
      exact hc _ hkn
    split at h
    · obtain ⟨h63, hbytes, hK⟩ := h
      obtain rfl := hs.nil_inv
      obtain ⟨v', w', hr, h1, h2, h3⟩ := run_append_at (P := P) (w := w) (ty := ty) hu hi hzz hsize hzs hn (World.ownsRow_nil w g.B e n) (a := a) (m := ys.length) (c := c) (news := (List.range (ys.length * n)).map f)
        (by simp) hsrc hnews (by omega) (by rw [hby]; simpa using hbytes) hR.base
      obtain ⟨g', hg⟩ := hR.lengthen (e := e) (s := n) (xs := []) (ys := ys) (c := f) (c' := f) (v := .slice none 0 0) (v' := v') (w' := w') ⟨fun i x h => by simp at h, fun i j x d h => by simp at h⟩ hrow rfl rfl
        (by simpa using h1) h2 h3 (fun b hb => by cases hb)
      exact ⟨v', w', hr, _, _, g', hK, hg⟩
    · rename_i tk n' xs
      obtain ⟨rfl, hlive, h63, hbytes, hK⟩ := h
      obtain ⟨htk, hrep, htok⟩ := hs.own_inv
      obtain ⟨s0, v0, m0, ht0⟩ := hR.liv tk e hlive
      have hx0 := htok _ ht0
      simp only [Prod.mk.injEq] at hx0
      obtain ⟨rfl, rfl, rfl⟩ := hx0
      obtain ⟨-, -, ⟨cs0, hown⟩, hblk⟩ := hR.tok _ _ _ _ _ ht0
      obtain ⟨a2, c2, f2, hv2, hf2⟩ := slice_row hR hrep
      -- the published cells of the prefix are the row's own
      have hrow2 : ∃ f3, RowD g.pub s0 xs f3 ∧ cs0 = (List.range (xs.length * s0)).map f3 ∧ (∀ b, v0.ownBlock = some b → ∀ o u, g.pub b o = some u → u = f3 o) := by
        have hcl : cs0.length = xs.length * s0 := hown.1
        refine ⟨fun k => cs0.getD k undef, ?_, ?_, ?_⟩
        · rcases Nat.eq_zero_or_pos xs.length with e0 | e0
          · have : xs = [] := List.eq_nil_of_length_eq_zero e0
            subst this
            exact ⟨fun i x h => by simp at h, fun i j x d h => by simp at h⟩
          · obtain ⟨b, o, rfl, hr2, hc2⟩ := hf2 e0
            refine hr2.ofCells (fun k hk => ?_)
            have hbo : v0.ownBlock = some b := by rw [hv2]; rfl
            have hb0 : o = 0 := by
              rcases hown.2 with ⟨h0, -⟩ | ⟨gb, cap, cur, h0, -⟩
              · rw [hv2] at h0; cases h0
              · rw [hv2] at h0; cases h0; rfl
            subst hb0
            have hg0 := List.getElem?_eq_getElem (show k < cs0.length by omega)
            have hcc := hown.cells hbo k _ hg0
            rw [addr_add, hc2 k hk] at hcc
            simp only [List.getD, hg0, Option.getD_some]
            exact (Option.some.inj hcc).symm
        · apply List.ext_getElem?
          intro k
          by_cases hk : k < cs0.length
          · have hg0 := List.getElem?_eq_getElem hk
            rw [List.getElem?_map, List.getElem?_range (by omega), hg0]
            simp [List.getD, hg0]
          · rw [List.getElem?_eq_none (by omega), List.getElem?_eq_none (by simp; omega)]
        · intro b hb o u hp
          have ho : o < cs0.length := by
            rw [hcl]
            rcases Nat.lt_or_ge o (xs.length * s0) with h | h
            · exact h
            · rw [(hblk b hb).1 o h] at hp; cases hp
          have hg0 := List.getElem?_eq_getElem ho
          have hcc := hown.cells hb o _ hg0
          rw [addr_add, Nat.zero_add, hR.pub b o u hp] at hcc
          simp only [List.getD, hg0, Option.getD_some]
          exact Option.some.inj hcc
      obtain ⟨f3, hrow3, hcs3, hpub3⟩ := hrow2
      obtain ⟨v', w', hr, h1, h2, h3⟩ := run_append_at (P := P) (w := w) (ty := ty) hu hi hzz hsize hzs hn hown (a := a) (m := ys.length) (c := c) (news := (List.range (ys.length * s0)).map f)
        (by simp) hsrc hnews h63 (by rw [hby]; exact hbytes) hR.base
      have hR' := hR.eat tk
      have hle := g.le_eat tk
      obtain ⟨g', hg1, hg2, hg3, hg4⟩ := hR'.lengthen (e := e) (s := s0) (xs := xs) (ys := ys) (c := f3) (c' := f) (v := v0) (v' := v') (w' := w') (hrow3.mono hle.pub) (hrow.mono hle.pub) hcs3 rfl
        h1 h2 h3 (fun b hb => ⟨(hblk b hb).2, fun t' x' hx' e' => by
          simp only [Gh.eat, upd] at hx'
          by_cases et : t' = tk
          · rw [if_pos et] at hx'; cases hx'
          · rw [if_neg et] at hx'
            exact et (hR.tinj t' tk _ _ b hx' ht0 e' hb), (hR.tok_lt ht0 hb).1, (hR.tok_lt ht0 hb).2, (hblk b hb).1, hpub3 b hb⟩)
      exact ⟨v', w', hr, _, _, g', hK, hg1, hg2, hle.trans hg3, hg4⟩
    · exact h.elim
  · exact h.elim
end
end Go.AW
