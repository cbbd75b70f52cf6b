/- Whatever order: from the row in the order of the text. -/
import Derived.Test.YtibiooglhpjojaaGreatDoorA13
set_option linter.unusedSimpArgs false
set_option linter.unusedVariables false
namespace Go.AW
open Go.RowKit

section
variable {P : Program} {nt : Nat}

theorem wp_false {o : Oper} {a : Act} {w : World} (h : o.wp P a w (fun _ _ => False) (fun _ _ _ => False)) : False := by
  unfold Oper.wp at h
  generalize (execOp a.eval o).run P w = r at h
  cases r with
  | ok n w' =>
    cases n <;> simp only [Oper.upon] at h
    case enter f args =>
      obtain ⟨e, w2, fr, h1, -⟩ := h []
      cases e with
      | returned v => exact h1
      | panicked c => exact h1
      | outgrown => obtain ⟨_, _, h2⟩ := h1; exact h2
    case row row args =>
      obtain ⟨v, w2, h1, -⟩ := h default []
      exact h1
  | halt x w' => cases x <;> simp only [Oper.upon] at h
theorem wpOp_false {ops : Array Oper} {i : Nat} {a : Act} {w : World} (h : wpOp P ops (fun _ _ _ => False) i (fun _ _ => False) a w) : False := by
  unfold wpOp at h
  split at h
  · exact h
  · split at h
    · rcases h with h | ⟨-, _, _, h⟩
      · exact wp_false h
      · exact h
    · exact h

/-- Moving an operation that touches none of those ahead of it. -/
theorem move_front {ops : Array Oper} {i : Oper} : ∀ (A : List Oper) {B : List Oper} {tm : Tm} {st : St} {K : Tm → St → Prop}, (∀ a ∈ A, comm ops a i = true) → (keeps i.op = true → okAt P nt ops.toList i tm st) →
    wpL P nt ops.toList (A ++ i :: B) tm st K → wpAt P nt ops.toList i tm st (fun tm' st' => wpL P nt ops.toList (A ++ B) tm' st' K)
  | [], _, _, _, _, _, _, h => h
  | a :: A, B, tm, st, K, hc, hok, h => by
    have hca := hc a (by simp)
    have hap : a.apart ops i = true := by simp only [comm, Bool.and_eq_true] at hca; exact hca.1
    obtain ⟨h1, h2, h3⟩ := Oper.apart_spec hap
    simp only [List.cons_append, wpL] at h ⊢
    refine swap hca hok ?_
    rw [wpAt_F] at h ⊢
    -- behind 'a' the operation is still one that may be done
    have hcl : quiet a.op = true ∨ quiet i.op = true ∨ (isLoad a.op = true ∧ isLoad i.op = true) := by
      simp only [comm, Bool.and_eq_true, Bool.or_eq_true] at hca
      rcases hca.2 with (h | h) | h
      · exact .inl h
      · exact .inr (.inl h)
      · exact .inr (.inr h)
    by_cases hka : keeps a.op = true
    · rw [F_keep hka] at h ⊢
      refine ⟨h.1, move_front A (fun x hx => hc x (by simp [hx])) (fun hk => ?_) h.2⟩
      rw [okAt_congr (alike_put h1)]
      exact hok hk
    · have hqi : quiet i.op = true := by
        rcases hcl with h | h | ⟨h, -⟩
        · exact absurd (by simp [keeps, h]) hka
        · exact h
        · exact absurd (by simp [keeps, h]) hka
      refine h.mono fun v st' hv => move_front A (fun x hx => hc x (by simp [hx])) (fun hk => ?_) hv
      rw [okAt_congr (alike_put h1), okAt_st hqi st' st]
      exact hok hk

/-- It may be done already now. -/
theorem ok_ahead {ops : Array Oper} {i : Oper} (hk : keeps i.op = true) : ∀ (A : List Oper) {B : List Oper} {w : World} {g : Gh} {a : Act} {tm : Tm} {st : St} {K : Tm → St → Prop}, (∀ x ∈ A, comm ops x i = true) → (∀ x ∈ A, ∃ j : Nat, ops[j]? = some x) →
    R w g st → RT g nt tm a → wpL P nt ops.toList (A ++ i :: B) tm st K → okAt P nt ops.toList i tm st
  | [], _, _, _, _, _, _, _, _, _, _, _, h => by
    simp only [List.nil_append, wpL] at h
    rw [wpAt_F, F_keep hk] at h
    exact h.1
  | x :: A, B, w, g, a, tm, st, K, hc, hi, hR, hT, h => by
    have hca := hc x (by simp)
    have hap : x.apart ops i = true := by simp only [comm, Bool.and_eq_true] at hca; exact hca.1
    obtain ⟨h1, h2, h3⟩ := Oper.apart_spec hap
    have hcl : quiet x.op = true ∨ quiet i.op = true ∨ (isLoad x.op = true ∧ isLoad i.op = true) := by
      simp only [comm, Bool.and_eq_true, Bool.or_eq_true] at hca
      rcases hca.2 with (h | h) | h
      · exact .inl h
      · exact .inr (.inl h)
      · exact .inr (.inr h)
    simp only [List.cons_append, wpL] at h
    have h' : wpAt P nt ops.toList x tm st (fun tm' st' => wpL P nt ops.toList (A ++ i :: B) tm' st' K ∧ (okAt P nt ops.toList i tm' st' → okAt P nt ops.toList i tm st)) := by
      rw [wpAt_F] at h ⊢
      by_cases hka : keeps x.op = true
      · rw [F_keep hka] at h ⊢
        exact ⟨h.1, h.2, fun ho => by rw [okAt_congr (alike_put h1)] at ho; exact ho⟩
      · have hqi : quiet i.op = true := by
          rcases hcl with h | h | ⟨h, -⟩
          · exact absurd (by simp [keeps, h]) hka
          · exact h
          · exact absurd (by simp [keeps, h]) hka
        exact h.mono fun v st' hv => ⟨hv, fun ho => by rw [okAt_congr (alike_put h1), okAt_st hqi st' st] at ho; exact ho⟩
    refine Classical.byContradiction fun hno => ?_
    obtain ⟨j, hj⟩ := hi x (by simp)
    refine wpOp_false (P := P) (ops := ops) (i := j) (a := a) (w := w) (wpOp_mono ?_ (wpAt_sound hR hT hj h' _))
    rintro a' w' ⟨tm', st', g', ⟨hx1, hx2⟩, hR', hT', -, -⟩
    exact hno (hx2 (ok_ahead hk A (fun y hy => hc y (by simp [hy])) (fun y hy => hi y (by simp [hy])) hR' hT' hx1))

/-- The look at a statement's operations: whatever Go leaves open between two of them does not matter. -/
def anyOk (ops : Array Oper) : Bool :=
  let anc := Region.before ops
  (List.range ops.size).all fun i =>
    match ops[i]? with
    | none => false
    | some o =>
      (o.after.toList.all fun e => !Region.binds .any e || decide (e.on < i)) &&
      (List.range i).all fun a =>
        if (anc.getD i 0).testBit a then o.after.toList.any fun e => Region.binds .any e && (e.on == a || (decide (a < e.on) && (anc.getD e.on 0).testBit a))
        else match ops[a]? with | none => false | some x => comm ops x o

def rem (ops : Array Oper) (listed : Array Bool) : List Nat := (List.range ops.size).filter fun i => !listed.getD i true
def opsOf (ops : Array Oper) (l : List Nat) : List Oper := l.filterMap (ops[·]?)

theorem range_split (n i : Nat) (h : i < n) : List.range n = List.range i ++ i :: List.range' (i + 1) (n - i - 1) := by
  have h1 : n = i + (n - i) := by omega
  rw [h1, List.range_eq_range', List.range_eq_range', ← List.range'_append_1]
  congr 1
  rw [Nat.zero_add, show i + (n - i) - i - 1 = n - i - 1 by omega, show n - i = (n - i - 1) + 1 by omega, List.range'_succ]
  rw [show n - i - 1 + 1 - 1 = n - i - 1 by omega]

theorem rem_split {ops : Array Oper} {listed : Array Bool} (hs : listed.size = ops.size) {i : Nat} (hi : i < ops.size) (hl : listed.getD i true = false) :
    ∃ A B, rem ops listed = A ++ i :: B ∧ rem ops (listed.setIfInBounds i true) = A ++ B ∧ (∀ a ∈ A, a < i ∧ listed.getD a true = false) := by
  have hset : ∀ j, j ≠ i → (listed.setIfInBounds i true).getD j true = listed.getD j true := by
    intro j hj
    simp only [Array.getD_eq_getD_getElem?, Array.getElem?_setIfInBounds]
    rw [if_neg (fun e => hj e.symm)]
  have hseti : (listed.setIfInBounds i true).getD i true = true := by
    simp [Array.getD_eq_getD_getElem?, hs, hi]
  refine ⟨(List.range i).filter (fun j => !listed.getD j true), (List.range' (i + 1) (ops.size - i - 1)).filter (fun j => !listed.getD j true), ?_, ?_, ?_⟩
  · unfold rem
    rw [range_split _ _ hi, List.filter_append, List.filter_cons]
    rw [if_pos (by rw [hl]; rfl)]
  · unfold rem
    rw [range_split _ _ hi, List.filter_append, List.filter_cons]
    rw [if_neg (by rw [hseti]; simp)]
    congr 1
    · refine List.filter_congr fun j hj => ?_
      rw [hset j (by have := List.mem_range.1 hj; omega)]
    · refine List.filter_congr fun j hj => ?_
      rw [hset j (by have := (List.mem_range'_1.1 hj).1; omega)]
  · intro a ha
    rw [List.mem_filter] at ha
    exact ⟨List.mem_range.1 ha.1, by simpa using ha.2⟩

theorem anyOk_sound {ops : Array Oper} (hany : anyOk ops = true) {Q : Exit → Act → World → Prop} {K : Tm → St → Prop} : ∀ (fuel : Nat) {listed : Array Bool} {w : World} {g : Gh} {st : St} {tm : Tm} {a : Act},
    listed.size = ops.size → (rem ops listed).length ≤ fuel →
    (∀ j, j < ops.size → listed.getD j true = true → ∀ o, ops[j]? = some o → ∀ e ∈ o.after.toList, Region.binds .any e = true → listed.getD e.on false = true) →
    R w g st → RT g nt tm a → wpL P nt ops.toList (opsOf ops (rem ops listed)) tm st K → (∀ a' w', Con nt w g K a' w' → Q .normal a' w') → wpAny P .any ops Q fuel listed a w := by
  intro fuel
  have hget : ∀ i, i < ops.size → ∃ o, ops[i]? = some o ∧ (∀ e ∈ o.after.toList, Region.binds .any e = true → e.on < i) ∧
      ∀ x, x < i → (((Region.before ops).getD i 0).testBit x = true → ∃ e ∈ o.after.toList, Region.binds .any e = true ∧ (e.on = x ∨ (x < e.on ∧ ((Region.before ops).getD e.on 0).testBit x = true))) ∧
        (((Region.before ops).getD i 0).testBit x = false → ∃ ox, ops[x]? = some ox ∧ comm ops ox o = true) := by
    intro i hi
    unfold anyOk at hany
    have h := List.all_eq_true.1 hany i (List.mem_range.2 hi)
    split at h
    · cases h
    · rename_i o ho
      simp only [Bool.and_eq_true, List.all_eq_true, List.mem_range] at h
      refine ⟨o, ho, fun e he hb => ?_, fun x hx => ⟨fun ht => ?_, fun ht => ?_⟩⟩
      · have := h.1 e he
        simpa [hb] using this
      · have := h.2 x hx
        rw [if_pos ht] at this
        obtain ⟨e, he, hp⟩ := List.any_eq_true.1 this
        simp only [Bool.and_eq_true, Bool.or_eq_true, beq_iff_eq, decide_eq_true_eq] at hp
        exact ⟨e, he, hp.1, hp.2⟩
      · have := h.2 x hx
        rw [if_neg (by rw [ht]; simp)] at this
        split at this
        · cases this
        · rename_i ox hox
          exact ⟨ox, hox, this⟩
  -- what stands ahead of a listed one by the rules is listed
  have hanc : ∀ (listed : Array Bool), listed.size = ops.size → (∀ j, j < ops.size → listed.getD j true = true → ∀ o, ops[j]? = some o → ∀ e ∈ o.after.toList, Region.binds .any e = true → listed.getD e.on false = true) →
      ∀ n j, j < n → j < ops.size → listed.getD j true = true → ∀ x, ((Region.before ops).getD j 0).testBit x = true → x < j → listed.getD x true = true := by
    intro listed hs hdc n
    have hconv : ∀ x, x < ops.size → listed.getD x false = true → listed.getD x true = true := by
      intro x hx h
      simp only [Array.getD_eq_getD_getElem?] at h ⊢
      rw [Array.getElem?_eq_getElem (by omega)] at h ⊢
      exact h
    induction n with
    | zero => intro j hj; omega
    | succ n ih =>
      intro j hj hjs hl x hx hxj
      obtain ⟨o, ho, htop, hp⟩ := hget j hjs
      obtain ⟨e, he, hb, hor⟩ := (hp x hxj).1 hx
      have hon := htop e he hb
      have hlist := hconv _ (by omega) (hdc j hjs hl o ho e he hb)
      rcases hor with rfl | ⟨hlt, hor⟩
      · exact hlist
      · exact ih e.on (by omega) (by omega) hlist x hor hlt
  have hcommA : ∀ (listed : Array Bool), listed.size = ops.size → (∀ j, j < ops.size → listed.getD j true = true → ∀ o, ops[j]? = some o → ∀ e ∈ o.after.toList, Region.binds .any e = true → listed.getD e.on false = true) →
      ∀ i o, ops[i]? = some o → (∀ e ∈ o.after.toList, Region.binds .any e = true → listed.getD e.on false = true) → ∀ x, x < i → listed.getD x true = false → ∃ ox, ops[x]? = some ox ∧ comm ops ox o = true := by
    intro listed hs hdc i o ho hready x hx hxl
    have hi := (Array.getElem?_eq_some_iff.1 ho).1
    obtain ⟨o', ho', htop, hp⟩ := hget i hi
    rw [ho] at ho'
    cases ho'
    cases hb : ((Region.before ops).getD i 0).testBit x with
    | false => exact (hp x hx).2 hb
    | true =>
      exfalso
      obtain ⟨e, he, hbd, hor⟩ := (hp x hx).1 hb
      have hon := htop e he hbd
      have hlist : listed.getD e.on true = true := by
        have := hready e he hbd
        simp only [Array.getD_eq_getD_getElem?] at this ⊢
        rw [Array.getElem?_eq_getElem (by omega)] at this ⊢
        exact this
      rcases hor with rfl | ⟨hlt, hor⟩
      · rw [hlist] at hxl; cases hxl
      · have := hanc listed hs hdc (e.on + 1) e.on (by omega) (by omega) hlist x hor hlt
        rw [this] at hxl; cases hxl
  induction fuel with
  | zero =>
    intro listed w g st tm a hs hlen hdc hR hT h hQ
    have hnil : rem ops listed = [] := List.eq_nil_of_length_eq_zero (by omega)
    have hr : Region.ready .any ops listed = [] := by
      rw [List.eq_nil_iff_forall_not_mem]
      intro i hi
      simp only [Region.ready, List.mem_filter, Bool.and_eq_true] at hi
      have : i ∈ rem ops listed := by
        simp only [rem, List.mem_filter]
        exact ⟨hi.1, hi.2.1⟩
      rw [hnil] at this
      cases this
    refine ⟨hr, ?_⟩
    rw [hnil] at h
    exact hQ a w ⟨tm, st, g, h, hR, hT, Gh.le.refl g, Below.refl _ _⟩
  | succ fuel ih =>
    intro listed w g st tm a hs hlen hdc hR hT h hQ
    have hready : ∀ i, i ∈ Region.ready .any ops listed ↔ i < ops.size ∧ listed.getD i true = false ∧ ∃ o, ops[i]? = some o ∧ ∀ e ∈ o.after.toList, Region.binds .any e = true → listed.getD e.on false = true := by
      intro i
      simp only [Region.ready, List.mem_filter, List.mem_range, Bool.and_eq_true, Bool.not_eq_true']
      refine and_congr Iff.rfl (and_congr Iff.rfl ?_)
      cases ho : ops[i]? with
      | none => simp
      | some o =>
        simp only [Option.map_some, Option.getD_some, Option.some.injEq, exists_eq_left']
        rw [Array.all_eq_true_iff_forall_mem]
        constructor
        · intro h e he hb
          have := h e (by simpa using he)
          simpa [hb] using this
        · intro h e he
          cases hb : Region.binds .any e with
          | false => rfl
          | true => simp [h e (by simpa using he) hb]
    refine ⟨fun hnil => ?_, fun i hi => ?_⟩
    · -- nothing is left
      have hrem : rem ops listed = [] := by
        cases hr : rem ops listed with
        | nil => rfl
        | cons i rest =>
          exfalso
          have hmem : i ∈ rem ops listed := by rw [hr]; simp
          simp only [rem, List.mem_filter, List.mem_range, Bool.not_eq_true'] at hmem
          have hleast : ∀ x, x < i → listed.getD x true = true := by
            intro x hx
            cases hlx : listed.getD x true with
            | true => rfl
            | false =>
              exfalso
              obtain ⟨A, B, e1, -, e3⟩ := rem_split hs hmem.1 hmem.2
              rw [hr] at e1
              cases A with
              | cons y A =>
                simp only [List.cons_append, List.cons.injEq] at e1
                have := (e3 y (by simp)).1
                omega
              | nil =>
                have hxm : x ∈ rem ops listed := by
                  simp only [rem, List.mem_filter, List.mem_range]
                  exact ⟨by omega, by rw [hlx]; rfl⟩
                have hsort : (rem ops listed).Pairwise (· < ·) := (List.pairwise_lt_range).filter _
                rw [hr] at hxm hsort
                rcases List.mem_cons.1 hxm with e | e
                · omega
                · have := (List.pairwise_cons.1 hsort).1 x e
                  omega
          obtain ⟨o, ho, htop, -⟩ := hget i hmem.1
          have : i ∈ Region.ready .any ops listed := (hready i).2 ⟨hmem.1, hmem.2, o, ho, fun e he hb => by
            have := hleast e.on (htop e he hb)
            have hlt := htop e he hb
            simp only [Array.getD_eq_getD_getElem?] at this ⊢
            rw [Array.getElem?_eq_getElem (by omega)] at this ⊢
            exact this⟩
          rw [hnil] at this
          cases this
      rw [hrem] at h
      exact hQ a w ⟨tm, st, g, h, hR, hT, Gh.le.refl g, Below.refl _ _⟩
    · obtain ⟨hi1, hi2, o, ho, hafter⟩ := (hready i).1 hi
      obtain ⟨A, B, e1, e2, e3⟩ := rem_split hs hi1 hi2
      have hops : opsOf ops (A ++ i :: B) = opsOf ops A ++ o :: opsOf ops B := by simp [opsOf, List.filterMap_append, ho]
      have hops2 : opsOf ops (A ++ B) = opsOf ops A ++ opsOf ops B := by simp [opsOf, List.filterMap_append]
      rw [e1, hops] at h
      have hcA : ∀ x ∈ opsOf ops A, comm ops x o = true ∧ ∃ j : Nat, ops[j]? = some x := by
        intro x hx
        simp only [opsOf, List.mem_filterMap] at hx
        obtain ⟨j, hj, hjx⟩ := hx
        obtain ⟨h1, h2⟩ := e3 j hj
        obtain ⟨ox, hox, hc⟩ := hcommA listed hs hdc i o ho hafter j h1 h2
        rw [hjx] at hox
        cases hox
        exact ⟨hc, j, hjx⟩
      have hfront := move_front (opsOf ops A) (fun x hx => (hcA x hx).1) (fun hk => ok_ahead hk (opsOf ops A) (fun x hx => (hcA x hx).1) (fun x hx => (hcA x hx).2) hR hT h) h
      rw [← hops2, ← e2] at hfront
      refine wpOp_mono ?_ (wpAt_sound hR hT ho hfront Q)
      rintro a' w' ⟨tm', st', g', h1, h2, h3, h4, h5⟩
      refine ih (by simpa using hs) ?_ ?_ h2 h3 h1 (fun a2 w2 hc => hQ a2 w2 (hc.trans h4 h5))
      · have hl1 : (rem ops listed).length = A.length + B.length + 1 := by rw [e1]; simp; omega
        rw [e2, List.length_append]
        omega
      · intro j hj hlj oj hoj e he hb
        have hset : ∀ x, listed.getD x false = true → (listed.setIfInBounds i true).getD x false = true := by
          intro x hx
          simp only [Array.getD_eq_getD_getElem?, Array.getElem?_setIfInBounds] at hx ⊢
          by_cases hix : i = x
          · subst hix
            rw [if_pos rfl, if_pos (by omega)]
            rfl
          · rw [if_neg hix]
            exact hx
        by_cases hji : j = i
        · subst hji
          rw [ho] at hoj
          cases hoj
          exact hset _ (hafter e he hb)
        · refine hset _ (hdc j hj ?_ oj hoj e he hb)
          simp only [Array.getD_eq_getD_getElem?, Array.getElem?_setIfInBounds] at hlj ⊢
          rw [if_neg (fun e' => hji e'.symm)] at hlj
          exact hlj

theorem filterMap_range {α : Type} : ∀ l : List α, (List.range l.length).filterMap (fun i => l[i]?) = l
  | [] => rfl
  | x :: l => by
    rw [List.length_cons, List.range_succ_eq_map, List.filterMap_cons]
    simp only [List.getElem?_cons_zero, List.filterMap_map]
    congr 1
    have := filterMap_range l
    simpa [Function.comp_def] using this

/-- A region that draws its order. -/
theorem region_any {ops : Array Oper} (hany : anyOk ops = true) (hm : P.follows .mixedOrders = true) {id : Nat} {Q : Exit → Act → World → Prop} {K : Tm → St → Prop} {w : World} {g : Gh} {st : St} {tm : Tm} {a : Act} (hR : R w g st) (hT : RT g nt tm a)
    (h : wpL P nt ops.toList ops.toList tm st K) (hQ : ∀ a' w', Con nt w g K a' w' → Q .normal a' w') : (Code.region id ops true).wp P Q a w := by
  refine wp_region_any hm ?_
  have hrem : rem ops (Array.replicate ops.size false) = List.range ops.size := by
    unfold rem
    rw [List.filter_eq_self]
    intro i hi
    have := List.mem_range.1 hi
    simp [Array.getD_eq_getD_getElem?, this]
  have hops : opsOf ops (List.range ops.size) = ops.toList := by
    have := filterMap_range ops.toList
    simpa [opsOf] using this
  refine anyOk_sound (w := w.drew) hany ops.size (by simp) (by rw [hrem]; simp) (fun j hj hl => ?_) hR.drew hT (by rw [hrem, hops]; exact h) (fun a' w' hc => ?_)
  · exfalso
    simp [Array.getD_eq_getD_getElem?, hj] at hl
  · obtain ⟨tm', st', g', h1, h2, h3, h4, h5⟩ := hc
    exact hQ a' w' ⟨tm', st', g', h1, h2, h3, h4, ((Below.refl _ w).drew).trans h5⟩
end
end Go.AW
