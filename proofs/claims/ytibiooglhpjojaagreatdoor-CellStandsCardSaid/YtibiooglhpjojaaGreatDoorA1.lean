/- Abstract values and what they stand for: pure data, pointers to objects that the call made, slices that it owns. -/
import Derived.WalkKit
set_option linter.unusedSimpArgs false
set_option linter.unusedVariables false
namespace Go.AW
open Go.RowKit

/-- Pure data: a single cell, or a slice that nobody writes any more: its elements, each by its cells. -/
inductive DV where
  | lit (v : Value)
  | sl (s : Nat) (xs : List (List DV))
  deriving Inhabited

inductive AV where
  | d (x : DV)
  | ptr (id off : Nat)
  | nil
  | own (t s : Nat) (xs : List (List DV))
  | psl (s : Nat) (xs : List (List AV))
  | pp (cells : List AV)
  | agg (cs : List AV)
  | tup (vs : List AV)
  | fn (f : Fn) (first cap : List AV)
  | ifc (t : TypeId) (v : AV)
  | bad

/-- What is known of memory beside the world: cells that no one writes any more, where the objects lie, which slices are owned. -/
structure Gh where
  pub : Nat → Nat → Option Value
  σ : Nat → Nat
  n : Nat
  k : Nat
  tok : Nat → Option (TypeId × Nat × Value × Nat)
  B : Nat

structure Gh.le (g g' : Gh) : Prop where
  pub : ∀ b o v, g.pub b o = some v → g'.pub b o = some v
  n : g.n ≤ g'.n
  σ : ∀ i, i < g.n → g'.σ i = g.σ i
  k : g.k ≤ g'.k
  tok : ∀ t, t < g.k → ∀ x, g'.tok t = some x → g.tok t = some x
  B : g'.B = g.B

theorem Gh.le.refl (g : Gh) : g.le g := ⟨fun _ _ _ h => h, Nat.le_refl _, fun _ _ => rfl, Nat.le_refl _, fun _ _ _ h => h, rfl⟩
theorem Gh.le.trans {a b c : Gh} (h : a.le b) (h' : b.le c) : a.le c :=
  ⟨fun _ _ _ x => h'.pub _ _ _ (h.pub _ _ _ x), Nat.le_trans h.n h'.n, fun i hi => (h'.σ i (Nat.lt_of_lt_of_le hi h.n)).trans (h.σ i hi),
   Nat.le_trans h.k h'.k, fun t ht x hx => h.tok t ht x (h'.tok t (Nat.lt_of_lt_of_le ht h.k) x hx), h'.B.trans h.B⟩

inductive RepD (pub : Nat → Nat → Option Value) : DV → Value → Prop
  | lit (v : Value) (h : v.oneCell' = true) : RepD pub (.lit v) v
  | sl0 (s : Nat) (a : Option Addr) (cap : Nat) : RepD pub (.sl s []) (.slice a 0 cap)
  | sl (s : Nat) (xs : List (List DV)) (b o cap : Nat) (c : Nat → Value) (hne : 0 < xs.length) (hl : ∀ (i : Nat) (x : List DV), xs[i]? = some x → x.length = s) (hc : xs.length ≤ cap)
      (hp : ∀ (i j : Nat) (x : List DV) (d : DV), xs[i]? = some x → x[j]? = some d → pub b (o + i * s + j) = some (c (i * s + j)))
      (hr : ∀ (i j : Nat) (x : List DV) (d : DV), xs[i]? = some x → x[j]? = some d → RepD pub d (c (i * s + j))) :
      RepD pub (.sl s xs) (.slice (some ⟨b, o, none⟩) xs.length cap)

theorem RepD.mono {pub pub' : Nat → Nat → Option Value} (h : ∀ b o v, pub b o = some v → pub' b o = some v) {x : DV} {v : Value} (hx : RepD pub x v) : RepD pub' x v := by
  induction hx with
  | lit v hv => exact .lit v hv
  | sl0 s a cap => exact .sl0 s a cap
  | sl s xs b o cap c hne hl hc hp hr ih => exact .sl s xs b o cap c hne hl hc (fun i j x d h1 h2 => h _ _ _ (hp i j x d h1 h2)) ih

inductive Rep (g : Gh) : AV → Value → Prop
  | d {x : DV} {v : Value} (h : RepD g.pub x v) : Rep g (.d x) v
  | ptr (id off : Nat) (h : id < g.n) : Rep g (.ptr id off) (.pointer (some ⟨g.σ id, off, none⟩))
  | nil : Rep g .nil (.slice none 0 0)
  | own {t s : Nat} {xs : List (List DV)} {v : Value} (ht : t < g.k) (h : RepD g.pub (.sl s xs) v) (hk : ∀ x, g.tok t = some x → x.2 = (s, v, xs.length)) : Rep g (.own t s xs) v
  | psl0 (s : Nat) (a : Option Addr) (cap : Nat) : Rep g (.psl s []) (.slice a 0 cap)
  | psl (s : Nat) (xs : List (List AV)) (b o cap : Nat) (c : Nat → Value) (hne : 0 < xs.length) (hl : ∀ (i : Nat) (x : List AV), xs[i]? = some x → x.length = s) (hc : xs.length ≤ cap)
      (hp : ∀ (i j : Nat) (x : List AV) (d : AV), xs[i]? = some x → x[j]? = some d → g.pub b (o + i * s + j) = some (c (i * s + j)))
      (hr : ∀ (i j : Nat) (x : List AV) (d : AV), xs[i]? = some x → x[j]? = some d → Rep g d (c (i * s + j))) :
      Rep g (.psl s xs) (.slice (some ⟨b, o, none⟩) xs.length cap)
  | pp (cells : List AV) (b o : Nat) (c : Nat → Value) (hp : ∀ (j : Nat) (d : AV), cells[j]? = some d → g.pub b (o + j) = some (c j)) (hr : ∀ (j : Nat) (d : AV), cells[j]? = some d → Rep g d (c j)) :
      Rep g (.pp cells) (.pointer (some ⟨b, o, none⟩))
  | agg (cs : List AV) (vs : Array Value) (hl : cs.length = vs.size) (hr : ∀ (i : Nat) (a : AV) (v : Value), cs[i]? = some a → vs[i]? = some v → Rep g a v) : Rep g (.agg cs) (.agg vs)
  | tup (cs : List AV) (vs : Array Value) (hl : cs.length = vs.size) (hr : ∀ (i : Nat) (a : AV) (v : Value), cs[i]? = some a → vs[i]? = some v → Rep g a v) : Rep g (.tup cs) (.tuple vs)
  | fn (f : Fn) (fs cs : List AV) (us vs : Array Value) (hl : fs.length = us.size) (hr : ∀ (i : Nat) (a : AV) (v : Value), fs[i]? = some a → us[i]? = some v → Rep g a v)
      (hl' : cs.length = vs.size) (hr' : ∀ (i : Nat) (a : AV) (v : Value), cs[i]? = some a → vs[i]? = some v → Rep g a v) : Rep g (.fn f fs cs) (.func f us vs)
  | ifc (t : TypeId) {a : AV} {v : Value} (h : Rep g a v) : Rep g (.ifc t a) (.iface t v)
  | undef : Rep g (.d (.lit undef)) undef

theorem Rep.mono {g g' : Gh} (h : g.le g') {a : AV} {v : Value} (ha : Rep g a v) : Rep g' a v := by
  induction ha with
  | d hx => exact .d (hx.mono h.pub)
  | ptr id off hi => rw [← h.σ id hi]; exact .ptr id off (Nat.lt_of_lt_of_le hi h.n)
  | nil => exact .nil
  | own ht hx hk => exact .own (Nat.lt_of_lt_of_le ht h.k) (hx.mono h.pub) fun x hx' => hk x (h.tok _ ht x hx')
  | psl0 s a cap => exact .psl0 s a cap
  | psl s xs b o cap c hne hl hc hp hr ih => exact .psl s xs b o cap c hne hl hc (fun i j x d h1 h2 => h.pub _ _ _ (hp i j x d h1 h2)) ih
  | pp cells b o c hp hr ih => exact .pp cells b o c (fun j d h1 => h.pub _ _ _ (hp j d h1)) ih
  | agg cs vs hl hr ih => exact .agg cs vs hl ih
  | tup cs vs hl hr ih => exact .tup cs vs hl ih
  | fn f fs cs us vs hl hr hl' hr' ih ih' => exact .fn f fs cs us vs hl ih hl' ih'
  | ifc t h ih => exact .ifc t ih
  | undef => exact .undef

/-- Lists of values, place by place. -/
def RepL (g : Gh) (as : List AV) (vs : Array Value) : Prop := as.length = vs.size ∧ ∀ (i : Nat) (a : AV) (v : Value), as[i]? = some a → vs[i]? = some v → Rep g a v
theorem RepL.mono {g g' : Gh} (h : g.le g') {as : List AV} {vs : Array Value} (ha : RepL g as vs) : RepL g' as vs := ⟨ha.1, fun i a v h1 h2 => (ha.2 i a v h1 h2).mono h⟩

/-- What the call made and may write: objects by their cells; which owned slices may still grow. -/
structure St where
  n : Nat
  obj : Nat → TypeId × List AV
  k : Nat
  live : Nat → Option TypeId

structure R (w : World) (g : Gh) (st : St) : Prop where
  hn : g.n = st.n
  hk : g.k = st.k
  pub : ∀ b o v, g.pub b o = some v → w.cell? ⟨b, o, none⟩ = some v
  obj : ∀ i, i < st.n → ∃ arr, w.heap[g.σ i]? = some (.cells arr (st.obj i).1 (0, 0)) ∧ RepL g (st.obj i).2 arr
  inj : ∀ i j, i < st.n → j < st.n → g.σ i = g.σ j → i = j
  sep : ∀ i, i < st.n → ∀ o, g.pub (g.σ i) o = none
  base : g.B ≤ w.heap.size
  baseO : ∀ i, i < st.n → g.B ≤ g.σ i
  tok : ∀ t e s v m, g.tok t = some (e, s, v, m) → t < st.k ∧ st.live t = some e ∧ (∃ xs, w.ownsRow g.B e s v m xs) ∧
      ∀ b, v.ownBlock = some b → (∀ o, m * s ≤ o → g.pub b o = none) ∧ ∀ i, i < st.n → g.σ i ≠ b
  tinj : ∀ t t' x x' b, g.tok t = some x → g.tok t' = some x' → x.2.2.1.ownBlock = some b → x'.2.2.1.ownBlock = some b → t = t'
  liv : ∀ t e, st.live t = some e → ∃ s v m, g.tok t = some (e, s, v, m)

/-- A frame's slots. -/
structure RT (g : Gh) (nt : Nat) (tm : Nat → AV) (a : Act) : Prop where
  size : a.tmps.size = nt
  rep : ∀ i, Rep g (tm i) (a.tmps.getD i undef)
  defers : a.defers = []

theorem RT.mono {g g' : Gh} (h : g.le g') {nt : Nat} {tm : Nat → AV} {a : Act} (ha : RT g nt tm a) : RT g' nt tm a := ⟨ha.size, fun i => (ha.rep i).mono h, ha.defers⟩

def upd {α : Type} (f : Nat → α) (d : Nat) (v : α) : Nat → α := fun i => if i = d then v else f i
theorem upd_same {α : Type} (f : Nat → α) (d : Nat) (v : α) : upd f d v d = v := by simp [upd]
theorem upd_ne {α : Type} (f : Nat → α) (d i : Nat) (v : α) (h : (i == d) = false) : upd f d v i = f i := by simp only [upd]; rw [if_neg (by simpa using h)]

def put (tm : Nat → AV) (dst : Option Nat) (v : AV) : Nat → AV := match dst with | some d => upd tm d v | none => tm

theorem RT.put {g : Gh} {nt : Nat} {tm : Nat → AV} {a : Act} (h : RT g nt tm a) (dst : Option Nat) (hd : ∀ d, dst = some d → d < nt) {x : AV} {v : Value} (hx : Rep g x v) :
    RT g nt (put tm dst x) (a.put dst v) := by
  cases dst with
  | none => exact h
  | some d =>
    have hd' := hd d rfl
    refine ⟨by simp [Act.put, h.size], fun i => ?_, h.defers⟩
    simp only [AW.put, Act.put, upd]
    by_cases hi : i = d
    · subst hi
      have : (a.tmps.setIfInBounds i v).getD i undef = v := by simp [h.size, hd']
      rw [this]
      simp only [if_true]
      exact hx
    · have : (a.tmps.setIfInBounds d v).getD i undef = a.tmps.getD i undef := by
        simp only [Array.getD_eq_getD_getElem?, Array.getElem?_setIfInBounds]
        rw [if_neg (fun e => hi e.symm)]
      rw [this, if_neg hi]
      exact h.rep i

end Go.AW
