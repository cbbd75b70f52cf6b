/- Rows whose order is drawn, where loads are not ordered against what writes: each operation gives one value and one state. -/
import Derived.Test.YtibiooglhpjojaaGreatDoorA14
set_option linter.unusedSimpArgs false
set_option linter.unusedVariables false
namespace Go.AW
open Go.RowKit
section
variable {P : Program} {nt : Nat} {ops : Array Oper}

/-- What a row's operations have done so far. -/
structure Gm where
  crit : List (Nat × Nat)
  hist : List (Nat × St)
  lds : List (Nat × (St → PV))
structure Gm.sub (g g' : Gm) : Prop where
  crit : g.crit = g'.crit
  hist : ∀ p ∈ g.hist, p ∈ g'.hist
  lds : ∀ p ∈ g.lds, p ∈ g'.lds
def Gm.next (P : Program) (gm : Gm) (n : Nat) (o : Oper) (tm : Tm) (st : St) : Gm :=
  if keeps o.op = true then (if isLoad o.op = true then { gm with lds := (n, fun s => kv P tm s o.op) :: gm.lds } else gm) else { gm with hist := (n, st) :: gm.hist }
theorem Gm.sub.refl (g : Gm) : g.sub g := ⟨rfl, fun _ h => h, fun _ h => h⟩
theorem Gm.sub.next {g g' : Gm} (h : g.sub g') (n : Nat) (o : Oper) (tm : Tm) (st : St) : (g.next P n o tm st).sub (g'.next P n o tm st) := by
  unfold Gm.next
  split
  · split
    · refine ⟨h.crit, h.hist, fun p hp => ?_⟩
      rcases List.mem_cons.1 hp with e | e
      · exact List.mem_cons.2 (.inl e)
      · exact List.mem_cons.2 (.inr (h.lds p e))
    · exact h
  · refine ⟨h.crit, fun p hp => ?_, h.lds⟩
    rcases List.mem_cons.1 hp with e | e
    · exact List.mem_cons.2 (.inl e)
    · exact List.mem_cons.2 (.inr (h.hist p e))

def Det (P : Program) (nt : Nat) (ops : List Oper) (o : Oper) (tm : Tm) (st : St) (v : AV) (st' : St) : Prop := ∀ J : AV → St → Prop, J v st' → F P nt ops o tm st J
def PreC (P : Program) (gm : Gm) (n : Nat) (o : Oper) (tm : Tm) (st : St) : Prop := isLoad o.op = true → ∀ p ∈ gm.hist, (p.1, n) ∈ gm.crit → kv P tm p.2 o.op = kv P tm st o.op
def AftC (gm : Gm) (n : Nat) (o : Oper) (st st' : St) : Prop := keeps o.op = false → ∀ q ∈ gm.lds, (q.1, n) ∈ gm.crit → q.2 st' = q.2 st
def wpG (P : Program) (nt : Nat) (ops : List Oper) : Gm → List (Nat × Oper) → Tm → St → (Tm → St → Prop) → Prop
  | _, [], tm, st, K => K tm st
  | gm, (n, o) :: l, tm, st, K => ∃ v st', Det P nt ops o tm st v st' ∧ PreC P gm n o tm st ∧ AftC gm n o st st' ∧ wpG P nt ops (gm.next P n o tm st) l (put tm o.dst v) st' K

theorem wpG_sub {K : Tm → St → Prop} : ∀ (l : List (Nat × Oper)) {gm gm' : Gm} {tm : Tm} {st : St}, gm.sub gm' → wpG P nt ops.toList gm' l tm st K → wpG P nt ops.toList gm l tm st K
  | [], _, _, _, _, _, h => h
  | (n, o) :: l, gm, gm', tm, st, hs, h => by
    obtain ⟨v, st', h1, h2, h3, h4⟩ := h
    refine ⟨v, st', h1, fun hl p hp hc => h2 hl p (hs.hist p hp) (hs.crit ▸ hc), fun hk q hq hc => h3 hk q (hs.lds q hq) (hs.crit ▸ hc), wpG_sub l (hs.next n o tm st) h4⟩

theorem Det_keep {o : Oper} (hk : keeps o.op = true) {tm : Tm} {st : St} {v : AV} {st' : St} (h : Det P nt ops.toList o tm st v st') : okAt P nt ops.toList o tm st ∧ v = valAt P ops.toList o tm st ∧ st' = st := by
  have := h (fun u s => u = v ∧ s = st') ⟨rfl, rfl⟩
  rw [F_keep hk] at this
  exact ⟨this.1, this.2.1.symm, this.2.2.symm⟩
theorem Det_mk {o : Oper} (hk : keeps o.op = true) {tm : Tm} {st : St} (h : okAt P nt ops.toList o tm st) : Det P nt ops.toList o tm st (valAt P ops.toList o tm st) st := fun J hJ => by
  rw [F_keep hk]; exact ⟨h, hJ⟩
theorem Det_congr {o : Oper} {tm tm' : Tm} (h : Alike ops o tm tm') {st : St} {v : AV} {st' : St} (hd : Det P nt ops.toList o tm st v st') : Det P nt ops.toList o tm' st v st' := fun J hJ => (F.congr h).1 (hd J hJ)
theorem kv_alike {o : Oper} {tm tm' : Tm} (h : Alike ops o tm tm') (st : St) : kv P tm st o.op = kv P tm' st o.op := kv_congr h.1
theorem okAt_kv {o : Oper} {tm : Tm} {st st' : St} (h : kv P tm st o.op = kv P tm st' o.op) : okAt P nt ops.toList o tm st = okAt P nt ops.toList o tm st' := by
  unfold okAt; rw [h]
theorem valAt_kv {o : Oper} {tm : Tm} {st st' : St} (h : kv P tm st o.op = kv P tm st' o.op) : valAt P ops.toList o tm st = valAt P ops.toList o tm st' := by
  unfold valAt; rw [h]

/-- Two of a row that may change places: one of them computes, or both read, or one reads and the pair is looked at. -/
def commG (ops : Array Oper) (crit : List (Nat × Nat)) (n : Nat) (a : Oper) (m : Nat) (i : Oper) : Bool :=
  a.apart ops i && (quiet a.op || quiet i.op || (isLoad a.op && isLoad i.op) || ((isLoad a.op || isLoad i.op) && (crit.contains (n, m) && crit.contains (m, n))))

theorem quiet_load {op : Op} (h : quiet op = true) : isLoad op = false := by
  cases op <;> simp_all [quiet, isLoad]

theorem next_crit (gm : Gm) (n : Nat) (o : Oper) (tm : Tm) (st : St) : (gm.next P n o tm st).crit = gm.crit := by
  unfold Gm.next; split
  · split <;> rfl
  · rfl
theorem next_hist (gm : Gm) (n : Nat) (o : Oper) (tm : Tm) (st : St) : (gm.next P n o tm st).hist = if keeps o.op = true then gm.hist else (n, st) :: gm.hist := by
  unfold Gm.next; split
  · split <;> rfl
  · rfl
theorem next_lds (gm : Gm) (n : Nat) (o : Oper) (tm : Tm) (st : St) : (gm.next P n o tm st).lds = if keeps o.op = true ∧ isLoad o.op = true then (n, fun s => kv P tm s o.op) :: gm.lds else gm.lds := by
  unfold Gm.next
  by_cases h1 : keeps o.op = true <;> by_cases h2 : isLoad o.op = true <;> simp [h1, h2]
theorem swapG {crit : List (Nat × Nat)} {n m : Nat} {a i : Oper} (hc : commG ops crit n a m i = true) {gm : Gm} (hg : gm.crit = crit) {tm : Tm} {st : St} {l : List (Nat × Oper)} {K : Tm → St → Prop}
    (h : wpG P nt ops.toList gm ((n, a) :: (m, i) :: l) tm st K) : wpG P nt ops.toList gm ((m, i) :: (n, a) :: l) tm st K := by
  simp only [commG, Bool.and_eq_true, Bool.or_eq_true, List.contains_iff_mem] at hc
  obtain ⟨hap, hcl⟩ := hc
  obtain ⟨h1, h2, h3⟩ := Oper.apart_spec hap
  have ai : ∀ v, Alike ops i (put tm a.dst v) tm := fun v => alike_put h1
  have aa : ∀ v, Alike ops a (put tm i.dst v) tm := fun v => alike_put h3
  obtain ⟨v, st1, da, pa, fa, u, st2, di, pi, fi, hk⟩ := h
  have dj := Det_congr (ai v) di
  by_cases hki : keeps i.op = true
  · obtain ⟨oi, rfl, rfl⟩ := Det_keep hki dj
    -- what 'i' reads is the same ahead of 'a'
    have hkv : kv P tm st i.op = kv P tm st2 i.op := by
      by_cases hq : quiet i.op = true
      · exact kv_st hq tm st st2
      · by_cases hka : keeps a.op = true
        · obtain ⟨-, -, rfl⟩ := Det_keep hka da; rfl
        · have hl : isLoad i.op = true := by simp only [keeps, Bool.or_eq_true] at hki; exact hki.resolve_left hq
          have hcr : (n, m) ∈ crit := by
            rcases hcl with ((e | e) | e) | e
            · exact absurd (by simp [keeps, e]) hka
            · exact absurd e hq
            · exact absurd (by simp [keeps, e.1]) hka
            · exact e.2.1
          have := pi hl (n, st) (by simp [Gm.next, hka]) (by simp only [Gm.next, hka]; rw [hg]; exact hcr)
          rw [kv_alike (ai v), kv_alike (ai v)] at this
          exact this
    have hval : valAt P ops.toList i tm st = valAt P ops.toList i tm st2 := valAt_kv hkv
    refine ⟨valAt P ops.toList i tm st, st, Det_mk hki (by rw [okAt_kv hkv]; exact oi), fun hl p hp hcr => ?_, fun hk' => absurd hki (by rw [hk']; decide),
      v, st2, Det_congr (by rw [hval]; exact ⟨fun x hx => ((aa _).1 x hx).symm, (aa _).2.symm⟩) da, fun hl p hp hcr => ?_, fun hka q hq hcr => ?_, wpG_sub l ?_ (by rw [hval, ← put_comm _ _ _ h2]; exact hk)⟩
    · have hp' : p ∈ (gm.next P n a tm st).hist := by
        rw [next_hist]
        split
        · exact hp
        · exact List.mem_cons.2 (.inr hp)
      have := pi hl p hp' (by rw [next_crit]; exact hcr)
      rw [kv_alike (ai v), kv_alike (ai v)] at this
      rw [this, hkv]
    · rw [next_hist, if_pos hki] at hp
      rw [next_crit] at hcr
      rw [kv_alike (aa _), kv_alike (aa _)]
      exact pa hl p hp hcr
    · rw [next_crit] at hcr
      rw [next_lds] at hq
      split at hq
      · rcases List.mem_cons.1 hq with rfl | hq
        · exact hkv.symm
        · exact fa hka q hq hcr
      · exact fa hka q hq hcr
    · refine ⟨by simp only [next_crit], fun p hp => ?_, fun q hq => ?_⟩
      · rw [next_hist, next_hist, if_pos hki] at hp
        rw [next_hist, if_pos hki, next_hist]
        exact hp
      · rw [next_lds, next_lds] at hq ⊢
        have e1 : (fun s => kv P (put tm i.dst (valAt P ops.toList i tm st)) s a.op) = fun s => kv P tm s a.op := funext fun s => kv_alike (aa _) s
        have e2 : (fun s => kv P (put tm a.dst v) s i.op) = fun s => kv P tm s i.op := funext fun s => kv_alike (ai _) s
        rw [e1] at hq
        rw [e2]
        by_cases c1 : keeps a.op = true ∧ isLoad a.op = true
        · rw [if_pos c1] at hq
          rw [if_pos c1]
          by_cases c2 : keeps i.op = true ∧ isLoad i.op = true
          · rw [if_pos c2] at hq
            rw [if_pos c2]
            simp only [List.mem_cons] at hq ⊢
            rcases hq with h | h | h
            · exact .inr (.inl h)
            · exact .inl h
            · exact .inr (.inr h)
          · rw [if_neg c2] at hq
            rw [if_neg c2]
            exact hq
        · rw [if_neg c1] at hq
          rw [if_neg c1]
          exact hq
  · have hia : keeps i.op = false := by simpa using hki
    have hka : keeps a.op = true := by
      rcases hcl with ((e | e) | e) | e
      · simp [keeps, e]
      · exact absurd (by simp [keeps, e]) hki
      · exact absurd (by simp [keeps, e.2]) hki
      · rcases e.1 with e | e
        · simp [keeps, e]
        · exact absurd (by simp [keeps, e]) hki
    obtain ⟨oa, rfl, rfl⟩ := Det_keep hka da
    have hkv : kv P tm st1 a.op = kv P tm st2 a.op := by
      by_cases hq : quiet a.op = true
      · exact kv_st hq tm st1 st2
      · have hl : isLoad a.op = true := by simp only [keeps, Bool.or_eq_true] at hka; exact hka.resolve_left hq
        have hcr : (n, m) ∈ crit := by
          rcases hcl with ((e | e) | e) | e
          · exact absurd e hq
          · exact absurd (by simp [keeps, e]) hki
          · exact absurd (by simp [keeps, e.2]) hki
          · exact e.2.1
        have := fi hia (n, fun s => kv P tm s a.op) (by rw [next_lds, if_pos ⟨hka, hl⟩]; exact List.mem_cons.2 (.inl rfl)) (by rw [next_crit, hg]; exact hcr)
        exact this.symm
    have hval : valAt P ops.toList a tm st1 = valAt P ops.toList a tm st2 := valAt_kv hkv
    have da2 : Det P nt ops.toList a (put tm i.dst u) st2 (valAt P ops.toList a tm st1) st2 := by
      have := Det_mk (P := P) (nt := nt) (ops := ops) hka (tm := put tm i.dst u) (st := st2) (by rw [okAt_congr (aa u), ← okAt_kv hkv]; exact oa)
      rw [valAt_congr (aa u), ← hval] at this
      exact this
    refine ⟨u, st2, dj, fun hl => absurd (by simp [keeps, hl]) hki, fun _ q hq hcr => ?_, valAt P ops.toList a tm st1, st2, da2, fun hl p hp hcr => ?_, fun hk' => absurd hka (by rw [hk']; decide), wpG_sub l ?_ (by rw [← put_comm _ _ _ h2]; exact hk)⟩
    · have hq' : q ∈ (gm.next P n a tm st1).lds := by
        rw [next_lds]
        split
        · exact List.mem_cons.2 (.inr hq)
        · exact hq
      exact fi hia q hq' (by rw [next_crit]; exact hcr)
    · rw [next_hist, if_neg hki] at hp
      rw [next_crit] at hcr
      rw [kv_alike (aa _), kv_alike (aa _)]
      rcases List.mem_cons.1 hp with rfl | hp
      · exact hkv
      · rw [pa hl p hp hcr]; exact hkv
    · refine ⟨by simp only [next_crit], fun p hp => ?_, fun q hq => ?_⟩
      · rw [next_hist, if_pos hka, next_hist, if_neg hki] at hp
        rw [next_hist, if_neg hki, next_hist, if_pos hka]
        exact hp
      · have hni : ¬ (keeps i.op = true ∧ isLoad i.op = true) := fun h => hki h.1
        have e1 : (fun s => kv P (put tm i.dst u) s a.op) = fun s => kv P tm s a.op := funext fun s => kv_alike (aa _) s
        rw [next_lds, next_lds, if_neg hni, e1] at hq
        rw [next_lds, if_neg hni, next_lds]
        exact hq

theorem move_frontG {crit : List (Nat × Nat)} {m : Nat} {i : Oper} : ∀ (A : List (Nat × Oper)) {B : List (Nat × Oper)} {gm : Gm} {tm : Tm} {st : St} {K : Tm → St → Prop}, (∀ x ∈ A, commG ops crit x.1 x.2 m i = true) → gm.crit = crit →
    wpG P nt ops.toList gm (A ++ (m, i) :: B) tm st K → wpG P nt ops.toList gm ((m, i) :: (A ++ B)) tm st K
  | [], _, _, _, _, _, _, _, h => h
  | (n, a) :: A, B, gm, tm, st, K, hc, hg, h => by
    obtain ⟨v, st', h1, h2, h3, h4⟩ := h
    have h5 := move_frontG A (fun x hx => hc x (by simp [hx])) (by rw [next_crit]; exact hg) h4
    exact swapG (hc (n, a) (by simp)) hg ⟨v, st', h1, h2, h3, h5⟩
theorem front_wpAt {crit : List (Nat × Nat)} {m : Nat} {i : Oper} {l : List (Nat × Oper)} {gm : Gm} {tm : Tm} {st : St} {K : Tm → St → Prop} (h : wpG P nt ops.toList gm ((m, i) :: l) tm st K) (hg : gm.crit = crit) :
    wpAt P nt ops.toList i tm st (fun tm' st' => ∃ gm' : Gm, gm'.crit = crit ∧ wpG P nt ops.toList gm' l tm' st' K) := by
  obtain ⟨v, st', h1, h2, h3, h4⟩ := h
  rw [wpAt_F]
  exact h1 _ ⟨_, by rw [next_crit]; exact hg, h4⟩
def opsI (ops : Array Oper) (l : List Nat) : List (Nat × Oper) := l.filterMap fun i => (ops[i]?).map fun o => (i, o)
/-- As 'anyOk', where a read that is not ordered against a write is let by if the pair is looked at. -/
def anyG (ops : Array Oper) (crit : List (Nat × Nat)) : Bool :=
  let anc := Region.before ops
  (List.range ops.size).all fun i =>
    match ops[i]? with
    | none => false
    | some o =>
      (o.after.toList.all fun e => !Region.binds .any e || decide (e.on < i)) &&
      (List.range i).all fun a =>
        if (anc.getD i 0).testBit a then o.after.toList.any fun e => Region.binds .any e && (e.on == a || (decide (a < e.on) && (anc.getD e.on 0).testBit a))
        else match ops[a]? with | none => false | some x => commG ops crit a x i o

theorem anyG_sound {ops : Array Oper} {crit : List (Nat × Nat)} (hany : anyG ops crit = true) {Q : Exit → Act → World → Prop} {K : Tm → St → Prop} : ∀ (fuel : Nat) {listed : Array Bool} {w : World} {g : Gh} {st : St} {tm : Tm} {a : Act},
    listed.size = ops.size → (rem ops listed).length ≤ fuel →
    (∀ j, j < ops.size → listed.getD j true = true → ∀ o, ops[j]? = some o → ∀ e ∈ o.after.toList, Region.binds .any e = true → listed.getD e.on false = true) →
    R w g st → RT g nt tm a → (∃ gm : Gm, gm.crit = crit ∧ wpG P nt ops.toList gm (opsI ops (rem ops listed)) tm st K) → (∀ a' w', Con nt w g K a' w' → Q .normal a' w') → wpAny P .any ops Q fuel listed a w := by
  intro fuel
  have hget : ∀ i, i < ops.size → ∃ o, ops[i]? = some o ∧ (∀ e ∈ o.after.toList, Region.binds .any e = true → e.on < i) ∧
      ∀ x, x < i → (((Region.before ops).getD i 0).testBit x = true → ∃ e ∈ o.after.toList, Region.binds .any e = true ∧ (e.on = x ∨ (x < e.on ∧ ((Region.before ops).getD e.on 0).testBit x = true))) ∧
        (((Region.before ops).getD i 0).testBit x = false → ∃ ox, ops[x]? = some ox ∧ commG ops crit x ox i o = true) := by
    intro i hi
    unfold anyG at hany
    have h := List.all_eq_true.1 hany i (List.mem_range.2 hi)
    split at h
    · cases h
    · rename_i o ho
      simp only [Bool.and_eq_true, List.all_eq_true, List.mem_range] at h
      refine ⟨o, ho, fun e he hb => ?_, fun x hx => ⟨fun ht => ?_, fun ht => ?_⟩⟩
      · have := h.1 e he
        simpa [hb] using this
      · have := h.2 x hx
        rw [if_pos ht] at this
        obtain ⟨e, he, hp⟩ := List.any_eq_true.1 this
        simp only [Bool.and_eq_true, Bool.or_eq_true, beq_iff_eq, decide_eq_true_eq] at hp
        exact ⟨e, he, hp.1, hp.2⟩
      · have := h.2 x hx
        rw [if_neg (by rw [ht]; simp)] at this
        split at this
        · cases this
        · rename_i ox hox
          exact ⟨ox, hox, this⟩
  -- what stands ahead of a listed one by the rules is listed
  have hanc : ∀ (listed : Array Bool), listed.size = ops.size → (∀ j, j < ops.size → listed.getD j true = true → ∀ o, ops[j]? = some o → ∀ e ∈ o.after.toList, Region.binds .any e = true → listed.getD e.on false = true) →
      ∀ n j, j < n → j < ops.size → listed.getD j true = true → ∀ x, ((Region.before ops).getD j 0).testBit x = true → x < j → listed.getD x true = true := by
    intro listed hs hdc n
    have hconv : ∀ x, x < ops.size → listed.getD x false = true → listed.getD x true = true := by
      intro x hx h
      simp only [Array.getD_eq_getD_getElem?] at h ⊢
      rw [Array.getElem?_eq_getElem (by omega)] at h ⊢
      exact h
    induction n with
    | zero => intro j hj; omega
    | succ n ih =>
      intro j hj hjs hl x hx hxj
      obtain ⟨o, ho, htop, hp⟩ := hget j hjs
      obtain ⟨e, he, hb, hor⟩ := (hp x hxj).1 hx
      have hon := htop e he hb
      have hlist := hconv _ (by omega) (hdc j hjs hl o ho e he hb)
      rcases hor with rfl | ⟨hlt, hor⟩
      · exact hlist
      · exact ih e.on (by omega) (by omega) hlist x hor hlt
  have hcommA : ∀ (listed : Array Bool), listed.size = ops.size → (∀ j, j < ops.size → listed.getD j true = true → ∀ o, ops[j]? = some o → ∀ e ∈ o.after.toList, Region.binds .any e = true → listed.getD e.on false = true) →
      ∀ i o, ops[i]? = some o → (∀ e ∈ o.after.toList, Region.binds .any e = true → listed.getD e.on false = true) → ∀ x, x < i → listed.getD x true = false → ∃ ox, ops[x]? = some ox ∧ commG ops crit x ox i o = true := by
    intro listed hs hdc i o ho hready x hx hxl
    have hi := (Array.getElem?_eq_some_iff.1 ho).1
    obtain ⟨o', ho', htop, hp⟩ := hget i hi
    rw [ho] at ho'
    cases ho'
    cases hb : ((Region.before ops).getD i 0).testBit x with
    | false => exact (hp x hx).2 hb
    | true =>
      exfalso
      obtain ⟨e, he, hbd, hor⟩ := (hp x hx).1 hb
      have hon := htop e he hbd
      have hlist : listed.getD e.on true = true := by
        have := hready e he hbd
        simp only [Array.getD_eq_getD_getElem?] at this ⊢
        rw [Array.getElem?_eq_getElem (by omega)] at this ⊢
        exact this
      rcases hor with rfl | ⟨hlt, hor⟩
      · rw [hlist] at hxl; cases hxl
      · have := hanc listed hs hdc (e.on + 1) e.on (by omega) (by omega) hlist x hor hlt
        rw [this] at hxl; cases hxl
  induction fuel with
  | zero =>
    intro listed w g st tm a hs hlen hdc hR hT h hQ
    have hnil : rem ops listed = [] := List.eq_nil_of_length_eq_zero (by omega)
    have hr : Region.ready .any ops listed = [] := by
      rw [List.eq_nil_iff_forall_not_mem]
      intro i hi
      simp only [Region.ready, List.mem_filter, Bool.and_eq_true] at hi
      have : i ∈ rem ops listed := by
        simp only [rem, List.mem_filter]
        exact ⟨hi.1, hi.2.1⟩
      rw [hnil] at this
      cases this
    refine ⟨hr, ?_⟩
    rw [hnil] at h
    obtain ⟨gm, -, h⟩ := h
    exact hQ a w ⟨tm, st, g, h, hR, hT, Gh.le.refl g, Below.refl _ _⟩
  | succ fuel ih =>
    intro listed w g st tm a hs hlen hdc hR hT h hQ
    have hready : ∀ i, i ∈ Region.ready .any ops listed ↔ i < ops.size ∧ listed.getD i true = false ∧ ∃ o, ops[i]? = some o ∧ ∀ e ∈ o.after.toList, Region.binds .any e = true → listed.getD e.on false = true := by
      intro i
      simp only [Region.ready, List.mem_filter, List.mem_range, Bool.and_eq_true, Bool.not_eq_true']
      refine and_congr Iff.rfl (and_congr Iff.rfl ?_)
      cases ho : ops[i]? with
      | none => simp
      | some o =>
        simp only [Option.map_some, Option.getD_some, Option.some.injEq, exists_eq_left']
        rw [Array.all_eq_true_iff_forall_mem]
        constructor
        · intro h e he hb
          have := h e (by simpa using he)
          simpa [hb] using this
        · intro h e he
          cases hb : Region.binds .any e with
          | false => rfl
          | true => simp [h e (by simpa using he) hb]
    refine ⟨fun hnil => ?_, fun i hi => ?_⟩
    · -- nothing is left
      have hrem : rem ops listed = [] := by
        cases hr : rem ops listed with
        | nil => rfl
        | cons i rest =>
          exfalso
          have hmem : i ∈ rem ops listed := by rw [hr]; simp
          simp only [rem, List.mem_filter, List.mem_range, Bool.not_eq_true'] at hmem
          have hleast : ∀ x, x < i → listed.getD x true = true := by
            intro x hx
            cases hlx : listed.getD x true with
            | true => rfl
            | false =>
              exfalso
              obtain ⟨A, B, e1, -, e3⟩ := rem_split hs hmem.1 hmem.2
              rw [hr] at e1
              cases A with
              | cons y A =>
                simp only [List.cons_append, List.cons.injEq] at e1
                have := (e3 y (by simp)).1
                omega
              | nil =>
                have hxm : x ∈ rem ops listed := by
                  simp only [rem, List.mem_filter, List.mem_range]
                  exact ⟨by omega, by rw [hlx]; rfl⟩
                have hsort : (rem ops listed).Pairwise (· < ·) := (List.pairwise_lt_range).filter _
                rw [hr] at hxm hsort
                rcases List.mem_cons.1 hxm with e | e
                · omega
                · have := (List.pairwise_cons.1 hsort).1 x e
                  omega
          obtain ⟨o, ho, htop, -⟩ := hget i hmem.1
          have : i ∈ Region.ready .any ops listed := (hready i).2 ⟨hmem.1, hmem.2, o, ho, fun e he hb => by
            have := hleast e.on (htop e he hb)
            have hlt := htop e he hb
            simp only [Array.getD_eq_getD_getElem?] at this ⊢
            rw [Array.getElem?_eq_getElem (by omega)] at this ⊢
            exact this⟩
          rw [hnil] at this
          cases this
      rw [hrem] at h
      obtain ⟨gm, -, h⟩ := h
      exact hQ a w ⟨tm, st, g, h, hR, hT, Gh.le.refl g, Below.refl _ _⟩
    · obtain ⟨hi1, hi2, o, ho, hafter⟩ := (hready i).1 hi
      obtain ⟨A, B, e1, e2, e3⟩ := rem_split hs hi1 hi2
      have hops : opsI ops (A ++ i :: B) = opsI ops A ++ (i, o) :: opsI ops B := by simp [opsI, List.filterMap_append, ho]
      have hops2 : opsI ops (A ++ B) = opsI ops A ++ opsI ops B := by simp [opsI, List.filterMap_append]
      rw [e1, hops] at h
      obtain ⟨gm, hgm, h⟩ := h
      have hcA : ∀ x ∈ opsI ops A, commG ops crit x.1 x.2 i o = true := by
        intro x hx
        simp only [opsI, List.mem_filterMap, Option.map_eq_some_iff] at hx
        obtain ⟨j, hj, ox', hjx, rfl⟩ := hx
        obtain ⟨h1, h2⟩ := e3 j hj
        obtain ⟨ox, hox, hc⟩ := hcommA listed hs hdc i o ho hafter j h1 h2
        rw [hjx] at hox
        cases hox
        exact hc
      have hfront := front_wpAt (crit := crit) (move_frontG (opsI ops A) hcA hgm h) hgm
      rw [← hops2, ← e2] at hfront
      refine wpOp_mono ?_ (wpAt_sound hR hT ho hfront Q)
      rintro a' w' ⟨tm', st', g', h1, h2, h3, h4, h5⟩
      refine ih (by simpa using hs) ?_ ?_ h2 h3 h1 (fun a2 w2 hc => hQ a2 w2 (hc.trans h4 h5))
      · have hl1 : (rem ops listed).length = A.length + B.length + 1 := by rw [e1]; simp; omega
        rw [e2, List.length_append]
        omega
      · intro j hj hlj oj hoj e he hb
        have hset : ∀ x, listed.getD x false = true → (listed.setIfInBounds i true).getD x false = true := by
          intro x hx
          simp only [Array.getD_eq_getD_getElem?, Array.getElem?_setIfInBounds] at hx ⊢
          by_cases hix : i = x
          · subst hix
            rw [if_pos rfl, if_pos (by omega)]
            rfl
          · rw [if_neg hix]
            exact hx
        by_cases hji : j = i
        · subst hji
          rw [ho] at hoj
          cases hoj
          exact hset _ (hafter e he hb)
        · refine hset _ (hdc j hj ?_ oj hoj e he hb)
          simp only [Array.getD_eq_getD_getElem?, Array.getElem?_setIfInBounds] at hlj ⊢
          rw [if_neg (fun e' => hji e'.symm)] at hlj
          exact hlj


def items : Nat → List Oper → List (Nat × Oper)
  | _, [] => []
  | n, o :: l => (n, o) :: items (n + 1) l
theorem items_range : ∀ (l : List Oper) (n : Nat), items n l = (List.range l.length).filterMap fun i => (l[i]?).map fun o => (n + i, o)
  | [], _ => rfl
  | o :: l, n => by
    rw [List.length_cons, List.range_succ_eq_map, List.filterMap_cons]
    simp only [List.getElem?_cons_zero, Option.map_some, List.filterMap_map, items, Nat.add_zero]
    congr 1
    rw [items_range l (n + 1)]
    congr 1
    funext i
    simp only [Function.comp, List.getElem?_cons_succ, Nat.succ_eq_add_one]
    rw [show n + 1 + i = n + (i + 1) from by omega]
theorem items_opsI (ops : Array Oper) : opsI ops (List.range ops.size) = items 0 ops.toList := by
  rw [items_range]
  simp [opsI]

theorem region_anyG {ops : Array Oper} {crit : List (Nat × Nat)} (hany : anyG ops crit = true) (hm : P.follows .mixedOrders = true) {id : Nat} {Q : Exit → Act → World → Prop} {K : Tm → St → Prop} {w : World} {g : Gh} {st : St} {tm : Tm} {a : Act} (hR : R w g st) (hT : RT g nt tm a)
    (h : wpG P nt ops.toList ⟨crit, [], []⟩ (items 0 ops.toList) tm st K) (hQ : ∀ a' w', Con nt w g K a' w' → Q .normal a' w') : (Code.region id ops true).wp P Q a w := by
  refine wp_region_any hm ?_
  have hrem : rem ops (Array.replicate ops.size false) = List.range ops.size := by
    unfold rem
    rw [List.filter_eq_self]
    intro i hi
    have := List.mem_range.1 hi
    simp [Array.getD_eq_getD_getElem?, this]
  refine anyG_sound (w := w.drew) hany ops.size (by simp) (by rw [hrem]; simp) (fun j hj hl => ?_) hR.drew hT ⟨⟨crit, [], []⟩, rfl, by rw [hrem, items_opsI]; exact h⟩ (fun a' w' hc => ?_)
  · exfalso
    simp [Array.getD_eq_getD_getElem?, hj] at hl
  · obtain ⟨tm', st', g', h1, h2, h3, h4, h5⟩ := hc
    exact hQ a' w' ⟨tm', st', g', h1, h2, h3, h4, ((Below.refl _ w).drew).trans h5⟩
end
end Go.AW
