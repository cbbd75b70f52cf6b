/- Memory: what making, writing, publishing does to the relation between the world and what is known of it. -/
import Derived.Test.YtibiooglhpjojaaGreatDoorA4
set_option linter.unusedSimpArgs false
set_option linter.unusedVariables false
namespace Go.AW
open Go.RowKit

section
variable {P : Program} {w : World} {g : Gh} {st : St}

theorem R.pub_lt (h : R w g st) {b o : Nat} {v : Value} (hp : g.pub b o = some v) : b < w.heap.size := World.block_lt_of_cell? w ⟨b, o, none⟩ (h.pub b o v hp)
theorem R.pub_new (h : R w g st) (b o : Nat) (hb : w.heap.size ≤ b) : g.pub b o = none := by
  cases hp : g.pub b o with
  | none => rfl
  | some v => have := h.pub_lt hp; omega
theorem R.obj_lt (h : R w g st) {i : Nat} (hi : i < st.n) : g.σ i < w.heap.size := by
  obtain ⟨arr, ha, -⟩ := h.obj i hi
  exact (Array.getElem?_eq_some_iff.1 ha).1
theorem R.tok_lt (h : R w g st) {t : Nat} {e : TypeId} {s m : Nat} {v : Value} (ht : g.tok t = some (e, s, v, m)) {b : Nat} (hb : v.ownBlock = some b) : g.B ≤ b ∧ b < w.heap.size := by
  obtain ⟨-, -, ⟨xs, hx⟩, -⟩ := h.tok t e s v m ht
  exact hx.lt b hb

def St.push (st : St) (t : TypeId) (cs : List AV) : St := { st with n := st.n + 1, obj := upd st.obj st.n (t, cs) }
def St.setc (st : St) (id : Nat) (cs : List AV) : St := { st with obj := upd st.obj id ((st.obj id).1, cs) }

def Gh.push (g : Gh) (b : Nat) : Gh := { g with n := g.n + 1, σ := upd g.σ g.n b }
theorem Gh.le_push (g : Gh) (b : Nat) : g.le (g.push b) :=
  ⟨fun _ _ _ h => h, Nat.le_succ _, fun i hi => by simp only [Gh.push, upd]; rw [if_neg (by omega)], Nat.le_refl _, fun _ _ _ h => h, rfl⟩

/-- Any growth of the world that keeps the blocks that were there keeps an owned row. -/
theorem R.alloc (h : R w g st) (t : TypeId) {cs : List AV} {arr : Array Value} (hr : RepL g cs arr) :
    R (w.alloc (.cells arr t)) (g.push w.heap.size) (st.push t cs) := by
  have hle := g.le_push w.heap.size
  have hold : ∀ k, k < w.heap.size → (w.alloc (.cells arr t)).heap[k]? = w.heap[k]? := fun k hk => Below.heap_alloc w _ k hk
  refine ⟨by simp [Gh.push, St.push, h.hn], h.hk, ?_, ?_, ?_, ?_, ?_, ?_, ?_, h.tinj, h.liv⟩
  · intro b o v hp
    rw [World.cell?_of_block (w := w) (hold b (h.pub_lt hp))]
    exact h.pub b o v hp
  · intro i hi
    simp only [St.push] at hi
    by_cases e : i = st.n
    · subst e
      refine ⟨arr, ?_, ?_⟩
      · simp only [Gh.push, St.push, upd, h.hn, if_true]
        exact heap_alloc_new w _
      · simp only [St.push, upd, if_true]
        exact hr.mono hle
    · obtain ⟨arr', ha, hr'⟩ := h.obj i (by omega)
      refine ⟨arr', ?_, ?_⟩
      · simp only [Gh.push, St.push, upd, h.hn, if_neg e]
        rw [hold _ (h.obj_lt (by omega))]
        exact ha
      · simp only [St.push, upd, if_neg e]
        exact hr'.mono hle
  · intro i j hi hj e
    simp only [St.push] at hi hj
    simp only [Gh.push, upd, h.hn] at e
    by_cases ei : i = st.n <;> by_cases ej : j = st.n
    · omega
    · rw [if_pos ei, if_neg ej] at e
      have := h.obj_lt (i := j) (by omega)
      omega
    · rw [if_neg ei, if_pos ej] at e
      have := h.obj_lt (i := i) (by omega)
      omega
    · rw [if_neg ei, if_neg ej] at e
      exact h.inj i j (by omega) (by omega) e
  · intro i hi o
    simp only [St.push] at hi
    simp only [Gh.push, upd, h.hn]
    by_cases ei : i = st.n
    · rw [if_pos ei]
      exact h.pub_new _ _ (Nat.le_refl _)
    · rw [if_neg ei]
      exact h.sep i (by omega) o
  · have := h.base
    simp only [Gh.push, World.size_alloc]
    omega
  · intro i hi
    simp only [St.push] at hi
    simp only [Gh.push, upd, h.hn]
    by_cases ei : i = st.n
    · rw [if_pos ei]; exact h.base
    · rw [if_neg ei]; exact h.baseO i (by omega)
  · intro t' e s v m ht
    obtain ⟨h1, h2, ⟨xs, h3⟩, h4⟩ := h.tok t' e s v m ht
    refine ⟨h1, h2, ⟨xs, h3.alloc _⟩, fun b hb => ⟨(h4 b hb).1, fun i hi => ?_⟩⟩
    simp only [St.push] at hi
    simp only [Gh.push, upd, h.hn]
    by_cases ei : i = st.n
    · rw [if_pos ei]
      have := (h.tok_lt ht hb).2
      omega
    · rw [if_neg ei]
      exact (h4 b hb).2 i (by omega)

/-- Cells of an object are written. -/
theorem R.setRow (h : R w g st) {id : Nat} (hid : id < st.n) {cs : List AV} {arr' : Array Value} (hr : RepL g cs arr') {w' : World}
    (hw : w'.heap[g.σ id]? = some (.cells arr' (st.obj id).1 (0, 0))) (hs : w.heap.size ≤ w'.heap.size) (ho : ∀ k, k ≠ g.σ id → w'.heap[k]? = w.heap[k]?) : R w' g (st.setc id cs) := by
  refine ⟨h.hn, h.hk, ?_, ?_, h.inj, h.sep, Nat.le_trans h.base hs, h.baseO, ?_, h.tinj, h.liv⟩
  · intro b o v hp
    rw [World.cell?_of_block (w := w) (ho b (fun e => by have := h.sep id hid o; rw [← e, hp] at this; cases this))]
    exact h.pub b o v hp
  · intro i hi
    by_cases e : i = id
    · subst e
      exact ⟨arr', by simpa [St.setc, upd] using hw, by simpa [St.setc, upd] using hr⟩
    · obtain ⟨arr, ha, hr'⟩ := h.obj i hi
      refine ⟨arr, ?_, ?_⟩
      · simp only [St.setc, upd, if_neg e]
        rw [ho _ (fun e' => e (h.inj i id hi hid e'))]
        exact ha
      · simp only [St.setc, upd, if_neg e]
        exact hr'
  · intro t e s v m ht
    obtain ⟨h1, h2, ⟨xs, h3⟩, h4⟩ := h.tok t e s v m ht
    refine ⟨h1, h2, ⟨xs, h3.1, ?_⟩, h4⟩
    rcases h3.2 with h5 | ⟨gb, cap, cur, hv, hb, hc, h6⟩
    · exact .inl h5
    · refine .inr ⟨gb, cap, cur, hv, hb, ?_, h6⟩
      rw [ho gb (fun e => (h4 gb (by rw [hv]; rfl)).2 id hid e.symm)]
      exact hc

/-- More is published: cells of a block that nobody can write. -/
def Gh.publish (g : Gh) (b : Nat) (f : Nat → Option Value) : Gh := { g with pub := fun b' o => if b' = b then f o else g.pub b' o }
theorem Gh.le_publish (g : Gh) {b : Nat} {f : Nat → Option Value} (h : ∀ o v, g.pub b o = some v → f o = some v) : g.le (g.publish b f) :=
  ⟨fun b' o v hp => by
    simp only [Gh.publish]
    by_cases e : b' = b
    · subst e; rw [if_pos rfl]; exact h o v hp
    · rw [if_neg e]; exact hp, Nat.le_refl _, fun _ _ => rfl, Nat.le_refl _, fun _ _ _ h => h, rfl⟩

/-- A new block whose cells nobody will write. -/
theorem R.allocPub (h : R w g st) (t : TypeId) (arr : Array Value) :
    R (w.alloc (.cells arr t)) (g.publish w.heap.size (fun o => arr[o]?)) st := by
  have hle := g.le_publish (b := w.heap.size) (f := fun o => arr[o]?) (fun o v hp => by rw [h.pub_new _ _ (Nat.le_refl _)] at hp; cases hp)
  have hold : ∀ k, k < w.heap.size → (w.alloc (.cells arr t)).heap[k]? = w.heap[k]? := fun k hk => Below.heap_alloc w _ k hk
  refine ⟨h.hn, h.hk, ?_, ?_, h.inj, ?_, ?_, h.baseO, ?_, h.tinj, h.liv⟩
  · intro b o v hp
    simp only [Gh.publish] at hp
    by_cases e : b = w.heap.size
    · subst e
      rw [if_pos rfl] at hp
      rw [cell_of_row _ w.heap.size o arr t (0, 0) (heap_alloc_new w _)]
      exact hp
    · rw [if_neg e] at hp
      rw [World.cell?_of_block (w := w) (hold b (h.pub_lt hp))]
      exact h.pub b o v hp
  · intro i hi
    obtain ⟨arr', ha, hr'⟩ := h.obj i hi
    exact ⟨arr', by rw [show (g.publish w.heap.size (fun o => arr[o]?)).σ i = g.σ i from rfl, hold _ (h.obj_lt hi)]; exact ha, hr'.mono hle⟩
  · intro i hi o
    simp only [Gh.publish]
    rw [if_neg (by have := h.obj_lt hi; omega)]
    exact h.sep i hi o
  · have := h.base
    simp only [Gh.publish, World.size_alloc]
    omega
  · intro t' e s v m ht
    obtain ⟨h1, h2, ⟨xs, h3⟩, h4⟩ := h.tok t' e s v m ht
    refine ⟨h1, h2, ⟨xs, h3.alloc _⟩, fun b hb => ⟨fun o ho => ?_, (h4 b hb).2⟩⟩
    simp only [Gh.publish]
    rw [if_neg (by have := (h.tok_lt ht hb).2; omega)]
    exact (h4 b hb).1 o ho

def St.own (st : St) (e : TypeId) : St := { st with k := st.k + 1, live := upd st.live st.k (some e) }
def St.eat (st : St) (t : Nat) : St := { st with live := upd st.live t none }
def Gh.own (g : Gh) (x : TypeId × Nat × Value × Nat) : Gh := { g with k := g.k + 1, tok := upd g.tok g.k (some x) }
def Gh.eat (g : Gh) (t : Nat) : Gh := { g with tok := upd g.tok t none }
theorem Gh.le_own (g : Gh) (x : TypeId × Nat × Value × Nat) : g.le (g.own x) :=
  ⟨fun _ _ _ h => h, Nat.le_refl _, fun _ _ => rfl, Nat.le_succ _, fun t ht y hy => by simp only [Gh.own, upd] at hy; rw [if_neg (by omega)] at hy; exact hy, rfl⟩
theorem Gh.le_eat (g : Gh) (t : Nat) : g.le (g.eat t) :=
  ⟨fun _ _ _ h => h, Nat.le_refl _, fun _ _ => rfl, Nat.le_refl _, fun t' _ y hy => by
    simp only [Gh.eat, upd] at hy
    by_cases e : t' = t
    · rw [if_pos e] at hy; cases hy
    · rw [if_neg e] at hy; exact hy, rfl⟩

theorem R.eat (h : R w g st) (t : Nat) : R w (g.eat t) (st.eat t) := by
  have hle := g.le_eat t
  refine ⟨h.hn, h.hk, h.pub, fun i hi => ?_, h.inj, h.sep, h.base, h.baseO, ?_, ?_, ?_⟩
  · obtain ⟨arr, ha, hr⟩ := h.obj i hi
    exact ⟨arr, ha, hr.mono hle⟩
  · intro t' e s v m ht
    simp only [Gh.eat, upd] at ht
    by_cases e' : t' = t
    · rw [if_pos e'] at ht; cases ht
    · rw [if_neg e'] at ht
      obtain ⟨h1, h2, h3⟩ := h.tok t' e s v m ht
      exact ⟨h1, by simp only [St.eat, upd, if_neg e']; exact h2, h3⟩
  · intro t1 t2 x x' b h1 h2
    simp only [Gh.eat, upd] at h1 h2
    by_cases e1 : t1 = t
    · rw [if_pos e1] at h1; cases h1
    · by_cases e2 : t2 = t
      · rw [if_pos e2] at h2; cases h2
      · rw [if_neg e1] at h1; rw [if_neg e2] at h2
        exact h.tinj t1 t2 x x' b h1 h2
  · intro t' e hl
    simp only [St.eat, upd] at hl
    by_cases e' : t' = t
    · rw [if_pos e'] at hl; cases hl
    · rw [if_neg e'] at hl
      obtain ⟨s, v, m, hx⟩ := h.liv t' e hl
      exact ⟨s, v, m, by simp only [Gh.eat, upd, if_neg e']; exact hx⟩

/-- A slice that the call may make longer. -/
theorem R.own (h : R w g st) (e : TypeId) (s : Nat) (v : Value) (m : Nat) (xs : List Value) (hx : w.ownsRow g.B e s v m xs)
    (hb : ∀ b, v.ownBlock = some b → (∀ o, m * s ≤ o → g.pub b o = none) ∧ (∀ i, i < st.n → g.σ i ≠ b) ∧ ∀ t x, g.tok t = some x → x.2.2.1.ownBlock ≠ some b) :
    R w (g.own (e, s, v, m)) (st.own e) := by
  have hle := g.le_own (e, s, v, m)
  refine ⟨h.hn, by simp [Gh.own, St.own, h.hk], h.pub, fun i hi => ?_, h.inj, h.sep, h.base, h.baseO, ?_, ?_, ?_⟩
  · obtain ⟨arr, ha, hr⟩ := h.obj i hi
    exact ⟨arr, ha, hr.mono hle⟩
  · intro t' e' s' v' m' ht
    simp only [Gh.own, upd, h.hk] at ht
    by_cases e1 : t' = st.k
    · rw [if_pos e1] at ht
      cases ht
      refine ⟨by simp [St.own, e1], by simp [St.own, upd, e1], ⟨xs, hx⟩, fun b hb' => ⟨(hb b hb').1, (hb b hb').2.1⟩⟩
    · rw [if_neg e1] at ht
      obtain ⟨h1, h2, h3⟩ := h.tok t' e' s' v' m' ht
      exact ⟨by simp only [St.own]; omega, by simp only [St.own, upd, if_neg e1]; exact h2, h3⟩
  · intro t1 t2 x x' b h1 h2 hb1 hb2
    simp only [Gh.own, upd, h.hk] at h1 h2
    by_cases e1 : t1 = st.k <;> by_cases e2 : t2 = st.k
    · omega
    · rw [if_pos e1] at h1; rw [if_neg e2] at h2
      cases h1
      exact absurd hb2 ((hb b hb1).2.2 t2 x' h2)
    · rw [if_neg e1] at h1; rw [if_pos e2] at h2
      cases h2
      exact absurd hb1 ((hb b hb2).2.2 t1 x h1)
    · rw [if_neg e1] at h1; rw [if_neg e2] at h2
      exact h.tinj t1 t2 x x' b h1 h2 hb1 hb2
  · intro t' e' hl
    simp only [St.own, upd] at hl
    by_cases e1 : t' = st.k
    · rw [if_pos e1] at hl
      cases hl
      exact ⟨s, v, m, by simp [Gh.own, upd, h.hk, e1]⟩
    · rw [if_neg e1] at hl
      obtain ⟨s', v', m', hx'⟩ := h.liv t' e' hl
      exact ⟨s', v', m', by simp only [Gh.own, upd, h.hk, if_neg e1]; exact hx'⟩
end
end Go.AW
