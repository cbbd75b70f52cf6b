/- Slices that the call makes and lengthens. -/
import Derived.Test.YtibiooglhpjojaaGreatDoorA6
set_option linter.unusedSimpArgs false
set_option linter.unusedVariables false
namespace Go.AW
open Go.RowKit

section
variable {P : Program} {w : World} {g : Gh} {st : St}

/-- The world grows; one block that is nobody's but ours may have been written. -/
theorem R.grown (h : R w g st) {w' : World} {row : Option Nat} (hg : w.grownBy w' row)
    (hr : ∀ b, row = some b → (∀ i, i < st.n → g.σ i ≠ b) ∧ (∀ t x, g.tok t = some x → x.2.2.1.ownBlock ≠ some b) ∧ ∀ o v, g.pub b o = some v → w'.cell? ⟨b, o, none⟩ = some v) : R w' g st := by
  have hold : ∀ k, k < w.heap.size → some k ≠ row → w'.heap[k]? = w.heap[k]? := hg.block
  refine ⟨h.hn, h.hk, ?_, ?_, h.inj, h.sep, Nat.le_trans h.base hg.size, h.baseO, ?_, h.tinj, h.liv⟩
  · intro b o v hp
    by_cases e : row = some b
    · exact (hr b e).2.2 o v hp
    · rw [World.cell?_of_block (w := w) (hold b (h.pub_lt hp) (fun e' => e e'.symm))]
      exact h.pub b o v hp
  · intro i hi
    obtain ⟨arr, ha, hx⟩ := h.obj i hi
    exact ⟨arr, by rw [hold _ (h.obj_lt hi) (fun e => (hr _ e.symm).1 i hi rfl)]; exact ha, hx⟩
  · intro t e s v m ht
    obtain ⟨h1, h2, ⟨xs, h3⟩, h4⟩ := h.tok t e s v m ht
    refine ⟨h1, h2, ⟨xs, h3.kept hg ?_⟩, h4⟩
    cases hb : v.ownBlock with
    | none => exact .inl rfl
    | some b =>
      refine .inr fun e => ?_
      exact (hr b e.symm).2.1 t _ ht hb

theorem R.publish (h : R w g st) {b : Nat} {f : Nat → Option Value} (hf : ∀ o v, f o = some v → w.cell? ⟨b, o, none⟩ = some v) (hσ : ∀ i, i < st.n → g.σ i ≠ b)
    (ht : ∀ t x, g.tok t = some x → x.2.2.1.ownBlock ≠ some b) (hp : ∀ o v, g.pub b o = some v → f o = some v) : R w (g.publish b f) st := by
  have hle := g.le_publish hp
  refine ⟨h.hn, h.hk, ?_, fun i hi => ?_, h.inj, ?_, h.base, h.baseO, ?_, h.tinj, h.liv⟩
  · intro b' o v hx
    simp only [Gh.publish] at hx
    by_cases e : b' = b
    · subst e; rw [if_pos rfl] at hx; exact hf o v hx
    · rw [if_neg e] at hx; exact h.pub b' o v hx
  · obtain ⟨arr, ha, hx⟩ := h.obj i hi
    exact ⟨arr, ha, hx.mono hle⟩
  · intro i hi o
    simp only [Gh.publish]
    rw [if_neg (hσ i hi)]
    exact h.sep i hi o
  · intro t e s v m hx
    obtain ⟨h1, h2, h3, h4⟩ := h.tok t e s v m hx
    refine ⟨h1, h2, h3, fun b' hb => ⟨fun o ho => ?_, (h4 b' hb).2⟩⟩
    simp only [Gh.publish]
    rw [if_neg (fun e' => ht t _ hx (by rw [e'] at hb; exact hb))]
    exact (h4 b' hb).1 o ho

/-- append's run over a slice of our own, with the block that it leaves. -/
theorem run_append_at {t ty e : TypeId} {i : TypeInfo} {z : Value} {base size : Nat} (ht : P.underlying t = some (.slice e)) (hi : P.info? e = some i) (hz : i.zero = some z)
    (hsize : i.size = size) (hzs : z.cells.size = size) (hsz : 0 < size) {v : Value} {n : Nat} {xs : List Value} (hown : w.ownsRow base e size v n xs)
    {a : Option Addr} {m c : Nat} {news : List Value} (hl : news.length = m * size) (ha : 0 < m → ∃ ad, a = some ad ∧ ∀ j u, news[j]? = some u → w.cell? (ad.add j) = some u) (h1 : ∀ u ∈ news, u.oneCell' = true)
    (h63 : n + m ≤ 9223372036854775807) (hbytes : (n + m) * i.bytes ≤ 140737488355328) (hbase : base ≤ w.heap.size) :
    ∃ v' w', (Builtin.append_ #[t, t] ty #[v, .slice a m c]).run P w = .ok v' w' ∧ w'.ownsRow base e size v' (n + m) (xs ++ news) ∧ w.grownBy w' v.ownBlock ∧
      (v'.ownBlock = v.ownBlock ∨ ∃ b, v'.ownBlock = some b ∧ w.heap.size ≤ b ∧ w.grownBy w' none) := by
  subst hsize
  by_cases hm : m = 0
  · subst hm
    have hn : news = [] := List.eq_nil_of_length_eq_zero (by simpa using hl)
    subst hn
    refine ⟨v, w, ?_, by simpa using hown, ⟨rfl, rfl, rfl, Nat.le_refl _, fun _ _ _ => rfl⟩, .inl rfl⟩
    have hf : (Builtin.firstCells i.size 0 (.slice a 0 c)).run P w = .ok #[] w := by
      cases a with
      | none => simp [Builtin.firstCells]
      | some ad => simp [Builtin.firstCells, loadCells, loadCellsFrom]
    rcases hown.2 with ⟨rfl, rfl⟩ | ⟨gb, cap, cur, rfl, -, -, hcap, -⟩
    · simp [Builtin.append_, run_underlying ht, sizeOf, typeInfo, hi, Builtin.lenOf, hf]
    · simp [Builtin.append_, run_underlying ht, sizeOf, typeInfo, hi, Builtin.lenOf, hf, hcap, storeCells]
  · obtain ⟨ad, rfl, hnews⟩ := ha (by omega)
    obtain ⟨v', w', hr, h2, h3, -⟩ := run_append_own (P := P) w base t ty e i z i.size i.bytes ht hi hz rfl rfl hzs hsz v n xs hown ad m c news hl hnews h1 (by simpa [maxLen] using h63) hbytes hbase
    refine ⟨v', w', hr, h2, h3, ?_⟩
    rcases hown.2 with ⟨rfl, rfl⟩ | ⟨gb, cap, cur, rfl, hbg, hg, hnc, hcm, hcs, htake⟩
    · have hr' := run_append_nil (P := P) w t ty e i z ht hi hz ad m c news hl hnews (by omega) (by omega) (by simp only [Nat.zero_add] at hbytes; omega)
      rw [hr'] at hr
      cases hr
      exact .inr ⟨_, rfl, Nat.le_refl _, ⟨rfl, rfl, rfl, by simp, fun k hk _ => Below.heap_alloc w.drew _ k hk⟩⟩
    · by_cases hroom : n + m ≤ cap
      · have hfit : n * i.size + news.length ≤ cur.size := by rw [hl, hcs, ← Nat.add_mul]; exact Nat.mul_le_mul_right _ hroom
        have hr' := run_append_room (P := P) w t ty e i ht hi gb n cap cur hg ad m c news hl hnews h1 hroom hfit
        rw [hr'] at hr
        cases hr
        exact .inl rfl
      · have holds : ∀ j u, xs[j]? = some u → w.cell? ((⟨gb, 0, none⟩ : Addr).add j) = some u := hown.cells (g := gb) rfl
        have hr' := run_append_grow (P := P) w t ty e i z ht hi hz ⟨gb, 0, none⟩ n cap xs hown.1 holds ad m c news hl hnews (by omega) (by omega) (growslice_fits (by omega) hbytes)
        rw [hr'] at hr
        cases hr
        exact .inr ⟨_, rfl, Nat.le_refl _, ⟨rfl, rfl, rfl, by simp, fun k hk _ => Below.heap_alloc w.drew _ k hk⟩⟩

/-- A slice's elements as data. -/
def toD : AV → Option DV
  | .d x => some x
  | .nil => some (.sl 0 [])
  | .own _ s xs => some (.sl s xs)
  | _ => none
def toDs : List AV → Option (List DV)
  | [] => some []
  | a :: as => match toD a, toDs as with
    | some x, some xs => some (x :: xs)
    | _, _ => none
def toDss : List (List AV) → Option (List (List DV))
  | [] => some []
  | a :: as => match toDs a, toDss as with
    | some x, some xs => some (x :: xs)
    | _, _ => none
def dcont : AV → Option (List (List DV))
  | .d (.sl _ ys) => some ys
  | .own _ _ ys => some ys
  | .nil => some []
  | _ => none

theorem toD_rep {a : AV} {x : DV} (h : toD a = some x) {v : Value} (hv : Rep g a v) (hc : cellish a = true) : RepD g.pub x v := by
  cases a <;> simp only [toD, Option.some.injEq, reduceCtorEq] at h
  · subst h
    cases hv with
    | d h => exact h
    | undef => cases hc
  · subst h
    obtain rfl := hv.nil_inv
    exact .sl0 0 none 0
  · subst h; exact hv.own_inv.2.1

/-- What a row of cells is, element by element: 'c' tells each cell's value. -/
def RowD (pub : Nat → Nat → Option Value) (s : Nat) (xs : List (List DV)) (c : Nat → Value) : Prop :=
  (∀ (i : Nat) (x : List DV), xs[i]? = some x → x.length = s) ∧ ∀ (i j : Nat) (x : List DV) (d : DV), xs[i]? = some x → x[j]? = some d → RepD pub d (c (i * s + j))

theorem RepD.one {pub : Nat → Nat → Option Value} {d : DV} {v : Value} (h : RepD pub d v) : v.oneCell' = true := by
  cases h with
  | lit _ h => exact h
  | sl0 => rfl
  | sl => rfl

theorem RowD.one {pub : Nat → Nat → Option Value} {s : Nat} {xs : List (List DV)} {c : Nat → Value} (h : RowD pub s xs c) {k : Nat} (hk : k < xs.length * s) : (c k).oneCell' = true := by
  have hs : 0 < s := Nat.pos_of_ne_zero (fun e => by subst e; simp at hk)
  have h1 : k / s < xs.length := (Nat.div_lt_iff_lt_mul hs).2 hk
  have hx := List.getElem?_eq_getElem h1
  have hl := h.1 _ _ hx
  have h2 : k % s < xs[k / s].length := by rw [hl]; exact Nat.mod_lt _ hs
  have hr := h.2 _ _ _ _ hx (List.getElem?_eq_getElem h2)
  rw [Nat.mul_comm, Nat.div_add_mod] at hr
  exact hr.one

theorem slice_row {s : Nat} {ys : List (List DV)} {v : Value} (hR : R w g st) (h : RepD g.pub (.sl s ys) v) :
    ∃ a c f, v = .slice a ys.length c ∧ (0 < ys.length → ∃ b o, a = some ⟨b, o, none⟩ ∧ RowD g.pub s ys f ∧ ∀ k, k < ys.length * s → w.cell? ⟨b, o + k, none⟩ = some (f k)) := by
  cases h with
  | sl0 _ a cap => exact ⟨a, cap, fun _ => undef, rfl, fun h => by simp at h⟩
  | sl _ _ b o cap c hne hl hc hp hr =>
    refine ⟨_, cap, c, rfl, fun _ => ⟨b, o, rfl, ⟨hl, hr⟩, fun k hk => ?_⟩⟩
    have hs : 0 < s := Nat.pos_of_ne_zero (fun e => by subst e; simp at hk)
    have h1 : k / s < ys.length := (Nat.div_lt_iff_lt_mul hs).2 hk
    have hx := List.getElem?_eq_getElem h1
    have h2 : k % s < ys[k / s].length := by rw [hl _ _ hx]; exact Nat.mod_lt _ hs
    have := hR.pub _ _ _ (hp _ _ _ _ hx (List.getElem?_eq_getElem h2))
    rw [Nat.add_assoc] at this
    have e : k / s * s + k % s = k := by rw [Nat.mul_comm]; exact Nat.div_add_mod k s
    rw [e] at this
    exact this

theorem RowD.mono {pub pub' : Nat → Nat → Option Value} (h : ∀ b o v, pub b o = some v → pub' b o = some v) {s : Nat} {xs : List (List DV)} {c : Nat → Value} (hx : RowD pub s xs c) : RowD pub' s xs c :=
  ⟨hx.1, fun i j x d h1 h2 => (hx.2 i j x d h1 h2).mono h⟩

theorem RowD.ofCells {pub : Nat → Nat → Option Value} {s : Nat} {xs : List (List DV)} {c c' : Nat → Value} (h : RowD pub s xs c) (he : ∀ k, k < xs.length * s → c' k = c k) : RowD pub s xs c' := by
  refine ⟨h.1, fun i j x d h1 h2 => ?_⟩
  have hi := (List.getElem?_eq_some_iff.1 h1).1
  have hj := (List.getElem?_eq_some_iff.1 h2).1
  rw [h.1 i x h1] at hj
  rw [he _ (by
    have : (i + 1) * s ≤ xs.length * s := Nat.mul_le_mul_right _ hi
    rw [Nat.add_mul] at this
    omega)]
  exact h.2 i j x d h1 h2

theorem RowD.append {pub : Nat → Nat → Option Value} {s : Nat} {xs ys : List (List DV)} {c c' f : Nat → Value} (h : RowD pub s xs c) (h' : RowD pub s ys c')
    (hf : ∀ k, k < xs.length * s → f k = c k) (hf' : ∀ k, k < ys.length * s → f (xs.length * s + k) = c' k) : RowD pub s (xs ++ ys) f := by
  have h1 := h.ofCells hf
  have h2 := h'.ofCells (c' := fun k => f (xs.length * s + k)) hf'
  refine ⟨fun i x hx => ?_, fun i j x d hx hd => ?_⟩
  · rw [List.getElem?_append] at hx
    split at hx
    · exact h.1 i x hx
    · exact h'.1 _ x hx
  · rw [List.getElem?_append] at hx
    split at hx
    · exact h1.2 i j x d hx hd
    · have := h2.2 _ j x d hx hd
      simp only at this
      rw [← Nat.add_assoc, ← Nat.add_mul] at this
      have e : xs.length + (i - xs.length) = i := by omega
      rw [e] at this
      exact this

/-- From a row of published cells to the slice over it. -/
theorem RowD.rep {pub : Nat → Nat → Option Value} {s : Nat} {xs : List (List DV)} {c : Nat → Value} (h : RowD pub s xs c) {b cap : Nat} (hc : xs.length ≤ cap)
    (hp : ∀ k, k < xs.length * s → pub b k = some (c k)) : RepD pub (.sl s xs) (.slice (some ⟨b, 0, none⟩) xs.length cap) := by
  cases xs with
  | nil => exact .sl0 s _ cap
  | cons x xs =>
    refine .sl s (x :: xs) b 0 cap c (by simp) h.1 hc (fun i j y d h1 h2 => ?_) h.2
    have hi := (List.getElem?_eq_some_iff.1 h1).1
    have hj := (List.getElem?_eq_some_iff.1 h2).1
    rw [h.1 i y h1] at hj
    have : (i + 1) * s ≤ (x :: xs).length * s := Nat.mul_le_mul_right _ hi
    rw [Nat.add_mul] at this
    rw [Nat.zero_add]
    exact hp _ (by omega)

/-- A slice that was owned, and is longer now: the new state. -/
theorem R.lengthen (h : R w g st) {e : TypeId} {s : Nat} {xs ys : List (List DV)} {c c' : Nat → Value} {v v' : Value} {w' : World} {cs news : List Value}
    (hx : RowD g.pub s xs c) (hy : RowD g.pub s ys c')
    (hcs : cs = (List.range (xs.length * s)).map c) (hnews : news = (List.range (ys.length * s)).map c')
    (hown' : w'.ownsRow g.B e s v' (xs.length + ys.length) (cs ++ news)) (hg : w.grownBy w' v.ownBlock)
    (hb : v'.ownBlock = v.ownBlock ∨ ∃ b, v'.ownBlock = some b ∧ w.heap.size ≤ b ∧ w.grownBy w' none)
    (hv : ∀ b, v.ownBlock = some b → (∀ i, i < st.n → g.σ i ≠ b) ∧ (∀ t x, g.tok t = some x → x.2.2.1.ownBlock ≠ some b) ∧ g.B ≤ b ∧ b < w.heap.size ∧
      (∀ o, xs.length * s ≤ o → g.pub b o = none) ∧ (∀ o u, g.pub b o = some u → u = c o)) :
    ∃ g', R w' g' (st.own e) ∧ Rep g' (.own st.k s (xs ++ ys)) v' ∧ g.le g' ∧ Below g.B w w' := by
  have hbelow : Below g.B w w' := (Below.refl _ w).grown hg h.base (fun k hk => (hv k hk).2.2.1)
  have hget : ∀ k, k < (xs.length + ys.length) * s → (cs ++ news)[k]? = some (if k < xs.length * s then c k else c' (k - xs.length * s)) := by
    intro k hk
    rw [Nat.add_mul] at hk
    rw [hcs, hnews]
    by_cases h1 : k < xs.length * s
    · rw [List.getElem?_append_left (by simpa using h1), if_pos h1]
      simp [List.getElem?_range h1]
    · rw [List.getElem?_append_right (by simpa using h1), if_neg h1]
      simp only [List.length_map, List.length_range, List.getElem?_map]
      rw [List.getElem?_range (by omega)]
      rfl
  have hrow : RowD g.pub s (xs ++ ys) (fun k => if k < xs.length * s then c k else c' (k - xs.length * s)) :=
    hx.append hy (fun k hk => by simp [hk]) (fun k hk => by
      show (if xs.length * s + k < xs.length * s then _ else _) = _
      rw [if_neg (by omega), Nat.add_sub_cancel_left])
  have hgrown : R w' g st := by
    rcases hb with hb | ⟨b', hb1, hb2, hb3⟩
    · refine h.grown hg (fun b hb' => ?_)
      obtain ⟨h1, h2, h3, h4, h5, h6⟩ := hv b hb'
      refine ⟨h1, h2, fun o u hp => ?_⟩
      have hu := h6 o u hp
      subst hu
      have ho : o < xs.length * s := by
        rcases Nat.lt_or_ge o (xs.length * s) with h | h
        · exact h
        · rw [h5 o h] at hp; cases hp
      rw [hb'] at hb
      have hc := hown'.cells hb o (c o) (by rw [hget o (Nat.lt_of_lt_of_le ho (Nat.mul_le_mul_right _ (Nat.le_add_right _ _))), if_pos ho])
      rw [addr_add, Nat.zero_add] at hc
      exact hc
    · exact h.grown hb3 (fun b e => by cases e)
  cases hvb : v'.ownBlock with
  | none =>
    have hnil : v' = .slice none 0 0 ∧ xs.length + ys.length = 0 := by
      rcases hown'.2 with h | ⟨gb, cap, cur, rfl, -⟩
      · exact h
      · cases hvb
    obtain ⟨rfl, h0⟩ := hnil
    have e1 : xs ++ ys = [] := List.eq_nil_of_length_eq_zero (by rw [List.length_append]; exact h0)
    rw [h0] at hown'
    refine ⟨_, hgrown.own e s (.slice none 0 0) 0 _ hown' (fun b hb' => by cases hb'), ?_, g.le_own _, hbelow⟩
    rw [e1]
    refine .own (by simp [Gh.own, h.hk]) (.sl0 s none 0) (fun x hx' => ?_)
    simp only [Gh.own, upd, h.hk, if_true, Option.some.injEq] at hx'
    subst hx'
    rfl
  | some b' =>
    obtain ⟨cap, hv', hcap⟩ : ∃ cap, v' = .slice (some ⟨b', 0, none⟩) (xs.length + ys.length) cap ∧ xs.length + ys.length ≤ cap := by
      rcases hown'.2 with ⟨rfl, -⟩ | ⟨gb, cap, cur, rfl, -, -, hc, -⟩
      · cases hvb
      · simp only [Value.ownBlock, Option.some.injEq] at hvb
        subst hvb
        exact ⟨cap, rfl, hc⟩
    have hfree : (∀ i, i < st.n → g.σ i ≠ b') ∧ (∀ t x, g.tok t = some x → x.2.2.1.ownBlock ≠ some b') ∧ (∀ o u, g.pub b' o = some u → o < xs.length * s ∧ u = c o) := by
      rcases hb with hb | ⟨b2, hb1, hb2, hb3⟩
      · rw [hvb] at hb
        obtain ⟨h1, h2, h3, h4, h5, h6⟩ := hv b' hb.symm
        refine ⟨h1, h2, fun o u hp => ⟨?_, h6 o u hp⟩⟩
        rcases Nat.lt_or_ge o (xs.length * s) with h | h
        · exact h
        · rw [h5 o h] at hp; cases hp
      · rw [hvb] at hb1
        cases hb1
        refine ⟨fun i hi e' => by have := h.obj_lt hi; omega, fun t x hx' e' => ?_, fun o u hp => by rw [h.pub_new _ _ hb2] at hp; cases hp⟩
        obtain ⟨e1, s1, v1, m1⟩ := x
        have := (h.tok_lt hx' e').2
        omega
    let f : Nat → Option Value := fun o => if o < (xs.length + ys.length) * s then some (if o < xs.length * s then c o else c' (o - xs.length * s)) else none
    have hf1 : ∀ o u, g.pub b' o = some u → f o = some u := by
      intro o u hp
      obtain ⟨ho, rfl⟩ := hfree.2.2 o u hp
      show (if _ then _ else _) = _
      rw [if_pos (by rw [Nat.add_mul]; omega), if_pos ho]
    have hf2 : ∀ o u, f o = some u → w'.cell? ⟨b', o, none⟩ = some u := by
      intro o u hu
      simp only [f] at hu
      split at hu
      · rename_i ho
        have hc := hown'.cells hvb o u (by rw [hget o ho]; exact hu)
        rw [addr_add, Nat.zero_add] at hc
        exact hc
      · cases hu
    have hpub := hgrown.publish hf2 hfree.1 hfree.2.1 hf1
    have hle1 := g.le_publish hf1
    have howned := hpub.own e s v' (xs.length + ys.length) _ hown' (fun b hb' => by
      rw [hvb] at hb'
      cases hb'
      refine ⟨fun o ho => ?_, hfree.1, hfree.2.1⟩
      simp only [Gh.publish, if_true, f]
      rw [if_neg (by omega)])
    refine ⟨_, howned, ?_, hle1.trans (Gh.le_own _ _), hbelow⟩
    rw [hv']
    have hl : xs.length + ys.length = (xs ++ ys).length := by simp
    refine .own (by simp [Gh.own, Gh.publish, h.hk]) ?_ (fun x hx' => ?_)
    · rw [hl]
      refine RowD.rep (c := fun k => if k < xs.length * s then c k else c' (k - xs.length * s)) (hrow.mono (fun b o v hp => hle1.pub b o v hp)) (by simpa using hcap) (fun k hk => ?_)
      show (if b' = b' then f k else _) = _
      rw [if_pos rfl]
      simp only [f]
      rw [if_pos (by rw [hl]; exact hk)]
    · simp only [Gh.own, upd, show (g.publish b' f).k = st.k from h.hk, if_true, Option.some.injEq] at hx'
      subst hx'
      simp
end
end Go.AW
