/- Code: sequences, branches, blocks, loops. -/
import Derived.Test.YtibiooglhpjojaaGreatDoorG14
import Derived.Deep.LoopGhost
set_option linter.unusedSimpArgs false
set_option linter.unusedVariables false
namespace Go.AW
open Go.RowKit

def seqQ (K : Tm → St → Prop) (Q : Exit → Tm → St → Prop) : Exit → Tm → St → Prop
  | .normal, tm, st => K tm st
  | e, tm, st => Q e tm st
def blockQ (id : Nat) (Q : Exit → Tm → St → Prop) : Exit → Tm → St → Prop
  | .exit id', tm, st => if id' = id then Q .normal tm st else Q (.exit id') tm st
  | e, tm, st => Q e tm st
/-- A loop: what holds at each round's head, with a number that falls. -/
def loopA (W : Tm → St → (Exit → Tm → St → Prop) → Prop) (tm : Tm) (st : St) (Q : Exit → Tm → St → Prop) : Prop :=
  ∃ I : Nat → Tm → St → Prop, (∃ n, I n tm st) ∧ ∀ n tm st, I n tm st → W tm st (seqQ (fun tm' st' => ∃ n', n' < n ∧ I n' tm' st') Q)

def condA (tm : Tm) (c : Operand) (x y : Prop) : Prop := match opnd tm c with
  | .d (.lit (.bool b)) => opOk c = true ∧ Br b x y
  | _ => False
/-- Rows whose reads are looked at: which pairs. -/
abbrev Ctb := List (Nat × List (Nat × Nat))
def wpC (P : Program) (nt : Nat) (ct : Ctb) : Code → Tm → St → (Exit → Tm → St → Prop) → Prop
  | .skip, tm, st, Q => Q .normal tm st
  | .region id ops _, tm, st, Q => (match ct.lookup id with
    | none => wpL P nt ops.toList ops.toList tm st (Q .normal)
    | some crit => wpG P nt ops.toList ⟨crit, [], []⟩ (items 0 ops.toList) tm st (Q .normal))
  | .seq a b, tm, st, Q => wpC P nt ct a tm st (seqQ (fun tm' st' => wpC P nt ct b tm' st' Q) Q)
  | .cond c x y, tm, st, Q => condA tm c (wpC P nt ct x tm st Q) (wpC P nt ct y tm st Q)
  | .block id body, tm, st, Q => wpC P nt ct body tm st (blockQ id Q)
  | .loop body, tm, st, Q => loopA (fun tm st Q => wpC P nt ct body tm st Q) tm st Q
  | .exit id, tm, st, Q => Q (.exit id) tm st
  | .ret, tm, st, Q => Q .ret tm st
  | _, _, _, _ => False

/-- Each drawn row's order does not matter. -/
def drawOk (ct : Ctb) : Code → Bool
  | .region id ops draw => match ct.lookup id with
    | none => !draw || anyOk ops
    | some crit => draw && anyG ops crit
  | .seq a b => drawOk ct a && drawOk ct b
  | .cond _ a b => drawOk ct a && drawOk ct b
  | .block _ a => drawOk ct a
  | .loop a => drawOk ct a
  | _ => true

def ConE (nt : Nat) (w0 : World) (g0 : Gh) (Q : Exit → Tm → St → Prop) : Exit → Act → World → Prop := fun e a w => Con nt w0 g0 (Q e) a w

theorem wpC_sound {P : Program} {nt : Nat} {ct : Ctb} (hm : P.follows .mixedOrders = true) : ∀ (c : Code) {w : World} {g : Gh} {st : St} {tm : Tm} {a : Act} {Q : Exit → Tm → St → Prop},
    drawOk ct c = true → R w g st → RT g nt tm a → wpC P nt ct c tm st Q → c.wp P (ConE nt w g Q) a w
  | .skip, w, g, st, tm, a, Q, hd, hR, hT, h => wp_skip ⟨tm, st, g, h, hR, hT, Gh.le.refl g, Below.refl _ _⟩
  | .exit id, w, g, st, tm, a, Q, hd, hR, hT, h => wp_exit ⟨tm, st, g, h, hR, hT, Gh.le.refl g, Below.refl _ _⟩
  | .ret, w, g, st, tm, a, Q, hd, hR, hT, h => wp_ret ⟨tm, st, g, h, hR, hT, Gh.le.refl g, Below.refl _ _⟩
  | .region id ops draw, w, g, st, tm, a, Q, hd, hR, hT, h => by
    simp only [wpC] at h
    simp only [drawOk] at hd
    cases hl : ct.lookup id with
    | some crit =>
      rw [hl] at h hd
      simp only [Bool.and_eq_true] at hd
      obtain ⟨rfl, hd⟩ := hd
      exact region_anyG hd hm hR hT h (fun a' w' hc => hc)
    | none =>
      rw [hl] at h hd
      cases draw with
      | true => exact region_any (by simpa using hd) hm hR hT h (fun a' w' hc => hc)
      | false =>
        refine wp_region ?_
        have := wpL_sound (Q := ConE nt w g Q) (K := Q .normal) ops.toList 0 (fun j => by simp) hR hT h (fun a' w' hc => hc)
        rw [Array.length_toList, ← List.range_eq_range'] at this
        exact this
  | .seq x y, w, g, st, tm, a, Q, hd, hR, hT, h => by
    simp only [drawOk, Bool.and_eq_true] at hd
    refine wp_seq (wp_mono (wpC_sound hm x hd.1 hR hT h) ?_)
    intro e a' w' hc
    cases e with
    | normal =>
      obtain ⟨tm', st', g', h1, h2, h3, h4, h5⟩ := hc
      exact wp_mono (wpC_sound hm y hd.2 h2 h3 h1) fun e2 a2 w2 hc2 => hc2.trans h4 h5
    | _ => exact hc
  | .cond c x y, w, g, st, tm, a, Q, hd, hR, hT, h => by
    simp only [wpC, condA] at h
    simp only [drawOk, Bool.and_eq_true] at hd
    split at h
    · rename_i b hb
      have ex := (hb ▸ opnd_rep hT h.1).lit_inv
      exact wp_cond_split ex (fun e => wpC_sound hm x hd.1 hR hT (h.2.1 e)) (fun e => wpC_sound hm y hd.2 hR hT (h.2.2 e))
    · exact h.elim
  | .block id body, w, g, st, tm, a, Q, hd, hR, hT, h => by
    refine wp_block (wp_mono (wpC_sound hm body hd hR hT h) ?_)
    intro e a' w' hc
    cases e with
    | exit id' =>
      simp only [Exit.inBlock]
      obtain ⟨tm', st', g', h1, rest⟩ := hc
      simp only [blockQ] at h1
      by_cases e : id' = id
      · rw [if_pos e] at h1 ⊢
        exact ⟨tm', st', g', h1, rest⟩
      · rw [if_neg e] at h1 ⊢
        exact ⟨tm', st', g', h1, rest⟩
    | _ => exact hc
  | .loop body, w, g, st, tm, a, Q, hd, hR, hT, h => by
    obtain ⟨I, ⟨n, h0⟩, hround⟩ := h
    refine wp_loop_ghost (fun n a' w' => Con nt w g (I n) a' w') n ⟨tm, st, g, h0, hR, hT, Gh.le.refl g, Below.refl _ _⟩ ?_
    rintro n' a' w' ⟨tm', st', g', h1, h2, h3, h4, h5⟩
    refine wp_mono (wpC_sound hm body hd h2 h3 (hround n' tm' st' h1)) ?_
    intro e a2 w2 hc
    cases e with
    | normal =>
      obtain ⟨tm2, st2, g2, ⟨m, hlt, hI⟩, h7, h8, h9, h10⟩ := hc
      exact ⟨m, hlt, tm2, st2, g2, hI, h7, h8, h4.trans h9, h5.trans (by rw [← h4.B]; exact h10)⟩
    | _ => exact hc.trans h4 h5
  | .rangeFunc .., _, _, _, _, _, _, _, _, _, h => h.elim
  | .scope _, _, _, _, _, _, _, _, _, _, h => h.elim
  | .label _, _, _, _, _, _, _, _, _, _, h => h.elim
  | .goto _, _, _, _, _, _, _, _, _, _, h => h.elim
  | .refuse _, _, _, _, _, _, _, _, _, _, h => h.elim

/-- What is told less of, when a call comes back: pointers and owned slices that are not seen any more; an owned slice as one that nobody writes. -/
inductive Lw (n k : Nat) : AV → AV → Prop
  | d (x : DV) : Lw n k (.d x) (.d x)
  | ptr (id off : Nat) (h : id < n) : Lw n k (.ptr id off) (.ptr id off)
  | nil : Lw n k .nil .nil
  | nilD (s : Nat) : Lw n k .nil (.d (.sl s []))
  | own (t s : Nat) (xs : List (List DV)) (h : t < k) : Lw n k (.own t s xs) (.own t s xs)
  | ownD (t s : Nat) (xs : List (List DV)) : Lw n k (.own t s xs) (.d (.sl s xs))
  | slD (s s' : Nat) : Lw n k (.d (.sl s [])) (.d (.sl s' []))
  | agg {as bs : List AV} (hl : as.length = bs.length) (h : ∀ (i : Nat) (a b : AV), as[i]? = some a → bs[i]? = some b → Lw n k a b) : Lw n k (.agg as) (.agg bs)
  | tup {as bs : List AV} (hl : as.length = bs.length) (h : ∀ (i : Nat) (a b : AV), as[i]? = some a → bs[i]? = some b → Lw n k a b) : Lw n k (.tup as) (.tup bs)
  | fn (f : Fn) {as bs cs ds : List AV} (hl : as.length = bs.length) (h : ∀ (i : Nat) (a b : AV), as[i]? = some a → bs[i]? = some b → Lw n k a b)
      (hl' : cs.length = ds.length) (h' : ∀ (i : Nat) (a b : AV), cs[i]? = some a → ds[i]? = some b → Lw n k a b) : Lw n k (.fn f as cs) (.fn f bs ds)
  | ifc (t : TypeId) {a b : AV} (h : Lw n k a b) : Lw n k (.ifc t a) (.ifc t b)
  | pp {as bs : List AV} (hl : as.length = bs.length) (h : ∀ (i : Nat) (a b : AV), as[i]? = some a → bs[i]? = some b → Lw n k a b) : Lw n k (.pp as) (.pp bs)
def LwL (n k : Nat) (as bs : List AV) : Prop := as.length = bs.length ∧ ∀ (i : Nat) (a b : AV), as[i]? = some a → bs[i]? = some b → Lw n k a b
theorem LwL.nil {n k : Nat} : LwL n k [] [] := ⟨rfl, fun i a b h => by simp at h⟩
theorem LwL.cons {n k : Nat} {a b : AV} {as bs : List AV} (h : Lw n k a b) (h' : LwL n k as bs) : LwL n k (a :: as) (b :: bs) := by
  refine ⟨by simp [h'.1], fun i x y h1 h2 => ?_⟩
  cases i with
  | zero => simp only [List.getElem?_cons_zero, Option.some.injEq] at h1 h2; subst h1; subst h2; exact h
  | succ i => exact h'.2 i x y (by simpa using h1) (by simpa using h2)
theorem Lw.aggL {n k : Nat} {as bs : List AV} (h : LwL n k as bs) : Lw n k (.agg as) (.agg bs) := .agg h.1 h.2
theorem Lw.tupL {n k : Nat} {as bs : List AV} (h : LwL n k as bs) : Lw n k (.tup as) (.tup bs) := .tup h.1 h.2
theorem Lw.ds {n k : Nat} (xs : List DV) : LwL n k (xs.map .d) (xs.map .d) := by
  refine ⟨rfl, fun i a b h1 h2 => ?_⟩
  rw [h1] at h2
  cases h2
  simp only [List.getElem?_map, Option.map_eq_some_iff] at h1
  obtain ⟨x, -, rfl⟩ := h1
  exact .d x

def Gh.cut (g : Gh) (n k : Nat) (live : Nat → Option TypeId) : Gh := { g with n := n, k := k, tok := fun t => if t < k ∧ (live t).isSome = true then g.tok t else none }

theorem Lw.rep {n k : Nat} {a b : AV} (h : Lw n k a b) : ∀ {g : Gh} {v : Value} (live : Nat → Option TypeId), Rep g a v → Rep (g.cut n k live) b v := by
  induction h with
  | d x =>
    intro g v live hv
    cases hv with
    | d h => exact .d h
    | undef => exact .undef
  | ptr id off h =>
    intro g v live hv
    obtain ⟨-, rfl⟩ := hv.ptr_inv
    exact .ptr (g := g.cut n k live) id off h
  | nil => intro g v live hv; obtain rfl := hv.nil_inv; exact .nil
  | nilD s => intro g v live hv; obtain rfl := hv.nil_inv; exact .d (.sl0 s none 0)
  | own t s xs h =>
    intro g v live hv
    obtain ⟨-, h2, h3⟩ := hv.own_inv
    refine .own h h2 fun x hx => h3 x ?_
    simp only [Gh.cut] at hx
    split at hx
    · exact hx
    · cases hx
  | ownD t s xs => intro g v live hv; exact .d hv.own_inv.2.1
  | slD s s' =>
    intro g v live hv
    have := hv.sl_inv
    cases this with
    | sl0 _ a cap => exact .d (.sl0 s' a cap)
    | sl _ _ _ _ _ _ hne => simp at hne
  | @agg as bs hl h ih =>
    intro g v live hv
    obtain ⟨vs, rfl, h1, h2⟩ := hv.agg_inv
    refine .agg _ _ (hl ▸ h1) fun i b u hb hu => ?_
    have hi : i < as.length := by rw [hl]; exact (List.getElem?_eq_some_iff.1 hb).1
    exact ih i _ b (List.getElem?_eq_getElem hi) hb live (h2 i _ u (List.getElem?_eq_getElem hi) hu)
  | @tup as bs hl h ih =>
    intro g v live hv
    obtain ⟨vs, rfl, h1, h2⟩ := hv.tup_inv
    refine .tup _ _ (hl ▸ h1) fun i b u hb hu => ?_
    have hi : i < as.length := by rw [hl]; exact (List.getElem?_eq_some_iff.1 hb).1
    exact ih i _ b (List.getElem?_eq_getElem hi) hb live (h2 i _ u (List.getElem?_eq_getElem hi) hu)
  | @fn f as bs cs ds hl h hl' h' ih ih' =>
    intro g v live hv
    obtain ⟨us, vs, rfl, ⟨h1, h2⟩, h3, h4⟩ := hv.fn_inv
    refine .fn _ _ _ _ _ (hl ▸ h1) (fun i b u hb hu => ?_) (hl' ▸ h3) (fun i b u hb hu => ?_)
    · have hi : i < as.length := by rw [hl]; exact (List.getElem?_eq_some_iff.1 hb).1
      exact ih i _ b (List.getElem?_eq_getElem hi) hb live (h2 i _ u (List.getElem?_eq_getElem hi) hu)
    · have hi : i < cs.length := by rw [hl']; exact (List.getElem?_eq_some_iff.1 hb).1
      exact ih' i _ b (List.getElem?_eq_getElem hi) hb live (h4 i _ u (List.getElem?_eq_getElem hi) hu)
  | ifc t h ih => intro g v live hv; obtain ⟨u, rfl, hu⟩ := hv.ifc_inv; exact .ifc t (ih live hu)
  | @pp as bs hl h ih =>
    intro g v live hv
    obtain ⟨b, o, c, rfl, hp, hr⟩ := hv.pp_inv
    refine .pp _ b o c (fun j d hd => ?_) (fun j d hd => ?_)
    · have hi : j < as.length := by rw [hl]; exact (List.getElem?_eq_some_iff.1 hd).1
      exact hp j _ (List.getElem?_eq_getElem hi)
    · have hi : j < as.length := by rw [hl]; exact (List.getElem?_eq_some_iff.1 hd).1
      exact ih j _ d (List.getElem?_eq_getElem hi) hd live (hr j _ (List.getElem?_eq_getElem hi))

/-- In the same state: an argument as one of which less is told. -/
theorem Lw.same {n k : Nat} {a b : AV} (h : Lw n k a b) : ∀ {g : Gh} {v : Value}, Rep g a v → Rep g b v := by
  induction h with
  | d x => intro g v hv; exact hv
  | ptr id off h => intro g v hv; exact hv
  | nil => intro g v hv; exact hv
  | nilD s => intro g v hv; obtain rfl := hv.nil_inv; exact .d (.sl0 s none 0)
  | own t s xs h => intro g v hv; exact hv
  | ownD t s xs => intro g v hv; exact .d hv.own_inv.2.1
  | slD s s' =>
    intro g v hv
    have := hv.sl_inv
    cases this with
    | sl0 _ a cap => exact .d (.sl0 s' a cap)
    | sl _ _ _ _ _ _ hne => simp at hne
  | @agg as bs hl h ih =>
    intro g v hv
    obtain ⟨vs, rfl, h1, h2⟩ := hv.agg_inv
    refine .agg _ _ (hl ▸ h1) fun i b u hb hu => ?_
    have hi : i < as.length := by rw [hl]; exact (List.getElem?_eq_some_iff.1 hb).1
    exact ih i _ b (List.getElem?_eq_getElem hi) hb (h2 i _ u (List.getElem?_eq_getElem hi) hu)
  | @tup as bs hl h ih =>
    intro g v hv
    obtain ⟨vs, rfl, h1, h2⟩ := hv.tup_inv
    refine .tup _ _ (hl ▸ h1) fun i b u hb hu => ?_
    have hi : i < as.length := by rw [hl]; exact (List.getElem?_eq_some_iff.1 hb).1
    exact ih i _ b (List.getElem?_eq_getElem hi) hb (h2 i _ u (List.getElem?_eq_getElem hi) hu)
  | @fn f as bs cs ds hl h hl' h' ih ih' =>
    intro g v hv
    obtain ⟨us, vs, rfl, ⟨h1, h2⟩, h3, h4⟩ := hv.fn_inv
    refine .fn _ _ _ _ _ (hl ▸ h1) (fun i b u hb hu => ?_) (hl' ▸ h3) (fun i b u hb hu => ?_)
    · have hi : i < as.length := by rw [hl]; exact (List.getElem?_eq_some_iff.1 hb).1
      exact ih i _ b (List.getElem?_eq_getElem hi) hb (h2 i _ u (List.getElem?_eq_getElem hi) hu)
    · have hi : i < cs.length := by rw [hl']; exact (List.getElem?_eq_some_iff.1 hb).1
      exact ih' i _ b (List.getElem?_eq_getElem hi) hb (h4 i _ u (List.getElem?_eq_getElem hi) hu)
  | ifc t h ih => intro g v hv; obtain ⟨u, rfl, hu⟩ := hv.ifc_inv; exact .ifc t (ih hu)
  | @pp as bs hl h ih =>
    intro g v hv
    obtain ⟨b, o, c, rfl, hp, hr⟩ := hv.pp_inv
    refine .pp _ b o c (fun j d hd => ?_) (fun j d hd => ?_)
    · have hi : j < as.length := by rw [hl]; exact (List.getElem?_eq_some_iff.1 hd).1
      exact hp j _ (List.getElem?_eq_getElem hi)
    · have hi : j < as.length := by rw [hl]; exact (List.getElem?_eq_some_iff.1 hd).1
      exact ih j _ d (List.getElem?_eq_getElem hi) hd (hr j _ (List.getElem?_eq_getElem hi))

/-- What stood in the state when the call began names nothing newer. -/
theorem Rep.cut_old {g0 : Gh} {a : AV} {u : Value} (h0 : Rep g0 a u) : ∀ {g : Gh} {v : Value} {n k : Nat} (live : Nat → Option TypeId), g0.n ≤ n → g0.k ≤ k → Rep g a v → Rep (g.cut n k live) a v := by
  induction h0 with
  | d h =>
    intro g v n k live hn hk hv
    cases hv with
    | d h => exact .d h
    | undef => exact .undef
  | ptr id off h =>
    intro g v n k live hn hk hv
    obtain ⟨-, rfl⟩ := hv.ptr_inv
    exact .ptr (g := g.cut n k live) id off (Nat.lt_of_lt_of_le h hn)
  | nil => intro g v n k live hn hk hv; obtain rfl := hv.nil_inv; exact .nil
  | own ht h hk0 =>
    intro g v n k live hn hk hv
    obtain ⟨-, h2, h3⟩ := hv.own_inv
    refine .own (Nat.lt_of_lt_of_le ht hk) h2 fun x hx => h3 x ?_
    simp only [Gh.cut] at hx
    split at hx
    · exact hx
    · cases hx
  | psl0 s a cap =>
    intro g v n k live hn hk hv
    cases hv with
    | psl0 _ a cap => exact .psl0 _ _ _
    | psl _ _ _ _ _ _ hne => simp at hne
  | psl s xs b o cap c hne hl hc hp hr ih =>
    intro g v n k live hn hk hv
    cases hv with
    | psl0 => simp at hne
    | psl _ _ b' o' cap' c' hne' hl' hc' hp' hr' => exact .psl _ _ _ _ _ c' hne' hl' hc' hp' (fun i j x d h1 h2 => ih i j x d h1 h2 live hn hk (hr' i j x d h1 h2))
  | pp cells b o c hp hr ih =>
    intro g v n k live hn hk hv
    obtain ⟨b', o', c', rfl, hp', hr'⟩ := hv.pp_inv
    exact .pp _ _ _ c' hp' (fun j d hd => ih j d hd live hn hk (hr' j d hd))
  | agg cs vs hl hr ih =>
    intro g v n k live hn hk hv
    obtain ⟨us, rfl, h1, h2⟩ := hv.agg_inv
    refine .agg _ _ h1 fun i a w ha hw => ?_
    have hi : i < vs.size := by rw [← hl]; exact (List.getElem?_eq_some_iff.1 ha).1
    exact ih i a _ ha (Array.getElem?_eq_getElem hi) live hn hk (h2 i a w ha hw)
  | tup cs vs hl hr ih =>
    intro g v n k live hn hk hv
    obtain ⟨us, rfl, h1, h2⟩ := hv.tup_inv
    refine .tup _ _ h1 fun i a w ha hw => ?_
    have hi : i < vs.size := by rw [← hl]; exact (List.getElem?_eq_some_iff.1 ha).1
    exact ih i a _ ha (Array.getElem?_eq_getElem hi) live hn hk (h2 i a w ha hw)
  | fn f fs cs us vs hl hr hl' hr' ih ih' =>
    intro g v n k live hn hk hv
    obtain ⟨us2, vs2, rfl, ⟨h1, h2⟩, h3, h4⟩ := hv.fn_inv
    refine .fn _ _ _ _ _ h1 (fun i a w ha hw => ?_) h3 (fun i a w ha hw => ?_)
    · have hi : i < us.size := by rw [← hl]; exact (List.getElem?_eq_some_iff.1 ha).1
      exact ih i a _ ha (Array.getElem?_eq_getElem hi) live hn hk (h2 i a w ha hw)
    · have hi : i < vs.size := by rw [← hl']; exact (List.getElem?_eq_some_iff.1 ha).1
      exact ih' i a _ ha (Array.getElem?_eq_getElem hi) live hn hk (h4 i a w ha hw)
  | ifc t h ih => intro g v n k live hn hk hv; obtain ⟨u, rfl, hu⟩ := hv.ifc_inv; exact .ifc t (ih live hn hk hu)
  | undef =>
    intro g v n k live hn hk hv
    cases hv with
    | d h => exact .d h
    | undef => exact .undef

/-- The state behind a call as its caller sees it: 'st0' when it began, 'st'' at its end. -/
structure Drop (st0 st' st2 : St) : Prop where
  n0 : st0.n ≤ st2.n
  k0 : st0.k ≤ st2.k
  n : st2.n ≤ st'.n
  k : st2.k ≤ st'.k
  obj : ∀ i, i < st2.n → (st'.obj i).1 = (st2.obj i).1 ∧ (st'.obj i).2.length = (st2.obj i).2.length ∧ ∀ (j : Nat) (a b : AV), (st'.obj i).2[j]? = some a → (st2.obj i).2[j]? = some b →
    (i < st0.n ∧ a = b ∧ (st0.obj i).2[j]? = some a) ∨ Lw st2.n st2.k a b
  live : ∀ t e, st2.live t = some e → t < st2.k ∨ st0.live t = some e
  keep : ∀ t e, t < st2.k → st2.live t = some e → st'.live t = some e

theorem Drop.sound {w0 w : World} {g0 g : Gh} {st0 st' st2 : St} (h : Drop st0 st' st2) (hR0 : R w0 g0 st0) (hR : R w g st') (hle : g0.le g) :
    R w (g.cut st2.n st2.k st2.live) st2 ∧ g0.le (g.cut st2.n st2.k st2.live) := by
  have hlive : ∀ t e, st2.live t = some e → t < st2.k ∧ st'.live t = some e := fun t e ht => by
    have h1 : t < st2.k := by
      rcases h.live t e ht with h1 | h1
      · exact h1
      · obtain ⟨s, v, m, hx⟩ := hR0.liv t e h1
        have := (hR0.tok t e s v m hx).1
        have := h.k0
        omega
    exact ⟨h1, h.keep t e h1 ht⟩
  refine ⟨⟨rfl, rfl, hR.pub, ?_, ?_, ?_, hR.base, ?_, ?_, ?_, ?_⟩, ⟨hle.pub, by rw [hR0.hn]; exact h.n0, hle.σ, by rw [hR0.hk]; exact h.k0, ?_, hle.B⟩⟩
  · intro i hi
    obtain ⟨arr, ha, hr⟩ := hR.obj i (by have := h.n; omega)
    obtain ⟨h1, h2, h3⟩ := h.obj i hi
    refine ⟨arr, by rw [← h1]; exact ha, by rw [← h2]; exact hr.1, fun j b v hb hv => ?_⟩
    have hj : j < (st'.obj i).2.length := by rw [h2]; exact (List.getElem?_eq_some_iff.1 hb).1
    have ha' := List.getElem?_eq_getElem hj
    rcases h3 j _ b ha' hb with ⟨h4, h5, h6⟩ | h4
    · obtain ⟨arr0, -, hr0⟩ := hR0.obj i h4
      have hj0 : j < arr0.size := by rw [← hr0.1]; exact (List.getElem?_eq_some_iff.1 h6).1
      rw [h5] at h6 ha'
      exact (hr0.2 j b _ h6 (Array.getElem?_eq_getElem hj0)).cut_old _ (by rw [hR0.hn]; exact h.n0) (by rw [hR0.hk]; exact h.k0) (hr.2 j b v ha' hv)
    · exact h4.rep _ (hr.2 j _ v ha' hv)
  · exact fun i j hi hj e => hR.inj i j (by have := h.n; omega) (by have := h.n; omega) e
  · exact fun i hi o => hR.sep i (by have := h.n; omega) o
  · exact fun i hi => hR.baseO i (by have := h.n; omega)
  · intro t e s v m ht
    simp only [Gh.cut] at ht
    split at ht
    · rename_i hc
      obtain ⟨e', he'⟩ := Option.isSome_iff_exists.1 hc.2
      obtain ⟨h1, h2, h3, h4⟩ := hR.tok t e s v m ht
      refine ⟨hc.1, ?_, h3, fun b hb => ⟨(h4 b hb).1, fun i hi => (h4 b hb).2 i (by have := h.n; omega)⟩⟩
      have := (hlive t e' he').2
      rw [h2] at this
      cases this
      exact he'
    · cases ht
  · intro t t' x x' b h1 h2 h3 h4
    simp only [Gh.cut] at h1 h2
    split at h1
    · split at h2
      · exact hR.tinj t t' x x' b h1 h2 h3 h4
      · cases h2
    · cases h1
  · intro t e ht
    obtain ⟨h1, h2⟩ := hlive t e ht
    obtain ⟨s, v, m, hx⟩ := hR.liv t e h2
    exact ⟨s, v, m, by simp only [Gh.cut]; rw [if_pos ⟨h1, by rw [ht]; rfl⟩]; exact hx⟩
  · intro t ht x hx
    simp only [Gh.cut] at hx
    split at hx
    · exact hle.tok t ht x hx
    · cases hx

def resOne (P : Program) (tm : Tm) (st : St) : ResultVar → PV
  | .tmp t => ⟨True, tm t⟩
  | .cell a t => match tm a, tsz P t with
    | .ptr id off, some (n, ag) => sub (st.obj id).2 off n ag
    | _, _ => fails
def okAll : List PV → Prop
  | [] => True
  | p :: ps => p.ok ∧ okAll ps
def resA (P : Program) (tm : Tm) (st : St) : List ResultVar → PV
  | [r] => resOne P tm st r
  | rs => ⟨okAll (rs.map (resOne P tm st)), .tup ((rs.map (resOne P tm st)).map (·.v))⟩

def undefs (args : List AV) : Tm := fun i => (args[i]?).getD undefAV

/-- The end of a call. -/
def endA (P : Program) (rs : List ResultVar) (st0 : St) (Q : AV → St → Prop) : Exit → Tm → St → Prop
  | .normal, tm, st => (resA P tm st rs).ok ∧ ∃ r st2, Drop st0 st st2 ∧ Lw st2.n st2.k (resA P tm st rs).v r ∧ Q r st2
  | .ret, tm, st => (resA P tm st rs).ok ∧ ∃ r st2, Drop st0 st st2 ∧ Lw st2.n st2.k (resA P tm st rs).v r ∧ Q r st2
  | _, _, _ => False

def resSem (tmps : Array Value) : ResultVar → Sem Value
  | .tmp t => pure (tmps.getD t undef)
  | .cell x t => do loadVar t (← asAddr (tmps.getD x undef))

section
variable {P : Program} {w : World} {g : Gh} {st : St} {nt : Nat} {tm : Tm} {a : Act}

theorem resOne_sound (hR : R w g st) (hT : RT g nt tm a) {r : ResultVar} (h : (resOne P tm st r).ok) :
    ∃ v, (resSem a.tmps r).run P w = .ok v w ∧ Rep g (resOne P tm st r).v v := by
  cases r with
  | tmp t => exact ⟨_, rfl, hT.rep t⟩
  | cell x t =>
    simp only [resOne] at h ⊢
    split at h
    · rename_i id off n ag hx ht
      obtain ⟨hid, ex⟩ := (hx ▸ hT.rep x).ptr_inv
      obtain ⟨v, hv, hr⟩ := run_loadVar_obj (P := P) hR (by rw [← hR.hn]; exact hid) ht h
      exact ⟨v, by simp [resSem, ex, asAddr, hv], hr⟩
    · exact h.elim

theorem results_all (hR : R w g st) (hT : RT g nt tm a) : ∀ (rs : List ResultVar), okAll (rs.map (resOne P tm st)) →
    ∃ vs : List Value, (rs.mapM (resSem a.tmps)).run P w = .ok vs w ∧ RepL g ((rs.map (resOne P tm st)).map (·.v)) vs.toArray ∧ vs.length = rs.length
  | [], _ => ⟨[], by simp, ⟨rfl, fun i a v h => by simp at h⟩, rfl⟩
  | r :: rs, h => by
    obtain ⟨v, hv, hr⟩ := resOne_sound hR hT h.1
    obtain ⟨vs, hvs, hrs, hl⟩ := results_all hR hT rs h.2
    refine ⟨v :: vs, ?_, ?_, by simp [hl]⟩
    · rw [List.mapM_cons, Sem.run_bind, hv]
      simp only [Result.andThen_ok]
      rw [Sem.run_bind, hvs]
      rfl
    · refine ⟨by have := hrs.1; simp at this ⊢; exact this, fun i b u h1 h2 => ?_⟩
      cases i with
      | zero => simp at h1 h2; subst h1; subst h2; exact hr
      | succ i => exact hrs.2 i b u (by simpa using h1) (by simpa using h2)

theorem resA_sound (hR : R w g st) (hT : RT g nt tm a) {fn : Func} (h : (resA P tm st fn.results.toList).ok) : ∃ v, (results fn a.tmps).run P w = .ok v w ∧ Rep g (resA P tm st fn.results.toList).v v := by
  have hm : (results fn a.tmps) = (do
      let vs ← fn.results.mapM (resSem a.tmps)
      pure (if h : vs.size = 1 then vs[0] else .tuple vs)) := rfl
  have key : ∀ (rs : List ResultVar) (vs : List Value), fn.results.toList = rs → (rs.mapM (resSem a.tmps)).run P w = .ok vs w →
      (results fn a.tmps).run P w = .ok (if h : vs.toArray.size = 1 then vs.toArray[0] else .tuple vs.toArray) w := by
    intro rs vs hrs hv
    rw [hm, Sem.run_bind, Array.mapM_eq_mapM_toList, hrs]
    rw [Sem.run_map, hv]
    rfl
  cases hrs : fn.results.toList with
  | nil =>
    have := key [] [] hrs (by simp)
    rw [this]
    exact ⟨_, rfl, .tup _ _ rfl (fun i a v h => by simp at h)⟩
  | cons r rs =>
    rw [hrs] at h
    cases rs with
    | nil =>
      obtain ⟨v, hv, hr⟩ := resOne_sound (P := P) hR hT (r := r) h
      have := key [r] [v] hrs (by rw [List.mapM_cons, Sem.run_bind, hv]; rfl)
      rw [this]
      exact ⟨v, rfl, hr⟩
    | cons r' rs =>
      obtain ⟨vs, hv, hr, hl⟩ := results_all (P := P) hR hT (r :: r' :: rs) h
      have := key _ vs hrs hv
      rw [this, dif_neg (by simp [hl])]
      exact ⟨_, rfl, .tup _ _ hr.1 hr.2⟩
end

/-- A function by its text. -/
theorem Ct.of_body {P : Program} (hm : P.follows .mixedOrders = true) {k : FuncId} {fn : Func} (hf : P.funcs[k]? = some fn) {c : Code} (hb : fn.body = some c) {ct : Ctb} (hd : drawOk ct c = true) (he : enters P k = true) {args : List AV} (hl : args.length ≤ fn.ntmps) {st : St} {Q : AV → St → Prop}
    (h : wpC P fn.ntmps ct c (undefs args) st (endA P fn.results.toList st Q)) : Ct P k args st Q := by
  refine ⟨he, fun w g vals hR hv => calls_of_wp hf hb ?_⟩
  have hT : RT g fn.ntmps (undefs args) { tmps := vals ++ Array.replicate (fn.ntmps - vals.size) undef, defers := [] } := by
    refine ⟨by simp; rw [← hv.1]; omega, fun i => ?_, rfl⟩
    simp only [undefs, Array.getD_eq_getD_getElem?, Array.getElem?_append]
    by_cases hi : i < vals.size
    · rw [if_pos hi]
      have hi' : i < args.length := by rw [hv.1]; exact hi
      rw [List.getElem?_eq_getElem hi', Array.getElem?_eq_getElem hi]
      exact hv.2 i _ _ (List.getElem?_eq_getElem hi') (Array.getElem?_eq_getElem hi)
    · rw [if_neg hi]
      have hi' : ¬ i < args.length := by rw [hv.1]; exact hi
      rw [List.getElem?_eq_none (by omega)]
      simp only [Array.getElem?_replicate]
      split
      · exact .undef
      · exact .undef
  refine wp_mono (wpC_sound hm c hd hR hT h) ?_
  have fin : ∀ a' w' tm st', (resA P tm st' fn.results.toList).ok ∧ (∃ r st2, Drop st st' st2 ∧ Lw st2.n st2.k (resA P tm st' fn.results.toList).v r ∧ Q r st2) → ∀ g', R w' g' st' → RT g' fn.ntmps tm a' → g.le g' → Below g.B w w' →
      a'.defers = [] ∧ ∃ v, (results fn a'.tmps).run P w' = .ok v w' ∧ ∃ r st' g' v', Ending.returned v = .returned v' ∧ Q r st' ∧ R w' g' st' ∧ Rep g' r v' ∧ g.le g' ∧ Below g.B w w' := by
    rintro a' w' tm st' ⟨h1, r, st2, h2, h3, h4⟩ g' hR' hT' hle hbel
    obtain ⟨v, hv', hrep⟩ := resA_sound hR' hT' h1
    obtain ⟨h5, h6⟩ := h2.sound hR hR' hle
    exact ⟨hT'.defers, v, hv', r, st2, _, v, rfl, h4, h5, h3.rep _ hrep, h6, hbel⟩
  rintro e a' w' ⟨tm, st', g', h1, hR', hT', hle, hbel⟩
  cases e with
  | normal => exact fin a' w' tm st' h1 g' hR' hT' hle hbel
  | ret => exact fin a' w' tm st' h1 g' hR' hT' hle hbel
  | exit id => exact h1.elim
  | goto l => exact h1.elim
  | panic c => exact h1.elim
  | outgrown => exact h1.elim
end Go.AW
