/- Slice literals. -/
import Derived.Test.YtibiooglhpjojaaGreatDoorA8
set_option linter.unusedSimpArgs false
set_option linter.unusedVariables false
namespace Go.AW
open Go.RowKit

theorem flat_get {α : Type} : ∀ (xs : List (List α)) (n i j : Nat) (x : List α) (d : α), (∀ y ∈ xs, y.length = n) → xs[i]? = some x → x[j]? = some d → xs.flatten[i * n + j]? = some d
  | [], _, i, _, _, _, _, h, _ => by simp at h
  | y :: ys, n, 0, j, x, d, hn, h, hd => by
    simp only [List.getElem?_cons_zero, Option.some.injEq] at h
    subst h
    have := (List.getElem?_eq_some_iff.1 hd).1
    simp only [List.flatten_cons, Nat.zero_mul, Nat.zero_add]
    rw [List.getElem?_append_left this]
    exact hd
  | y :: ys, n, i + 1, j, x, d, hn, h, hd => by
    simp only [List.getElem?_cons_succ] at h
    have hy : y.length = n := hn y (by simp)
    have := flat_get ys n i j x d (fun z hz => hn z (by simp [hz])) h hd
    simp only [List.flatten_cons]
    rw [List.getElem?_append_right (by rw [Nat.add_mul]; omega)]
    rw [← this]
    congr 1
    rw [Nat.add_mul]
    omega
theorem flat_len {α : Type} : ∀ (xs : List (List α)) (n : Nat), (∀ y ∈ xs, y.length = n) → xs.flatten.length = xs.length * n
  | [], _, _ => by simp
  | y :: ys, n, h => by
    simp only [List.flatten_cons, List.length_append, List.length_cons, Nat.add_mul]
    rw [flat_len ys n (fun z hz => h z (by simp [hz])), h y (by simp)]
    omega

theorem splice_splice {α : Type} (cells : List α) (o : Nat) (x r : List α) (h : o + x.length + r.length ≤ cells.length) : splice (splice cells o x) (o + x.length) r = splice cells o (x ++ r) := by
  apply List.ext_getElem?
  intro i
  rw [splice_get _ _ _ (by rw [splice_length _ _ _ (by omega)]; omega), splice_get _ _ _ (by omega), splice_get _ _ _ (by simp; omega)]
  simp only [List.length_append]
  by_cases c1 : i < o
  · rw [if_pos (by omega), if_pos c1, if_pos c1]
  · rw [if_neg c1]
    by_cases c2 : i < o + x.length
    · rw [if_pos c2, if_pos c2, if_neg c1, if_pos (by omega), List.getElem?_append_left (by omega)]
    · rw [if_neg c2]
      by_cases c3 : i < o + x.length + r.length
      · rw [if_pos c3, if_neg c1, if_pos (by omega), List.getElem?_append_right (by omega)]
        congr 1
        omega
      · rw [if_neg c3, if_neg c1, if_neg c2, if_neg (by omega)]

theorem fillA_seq (n : Nat) : ∀ (ps : List (Nat × AV)) (s : Nat) (cells : List AV), ps.map (·.1) = List.range' s ps.length → (∀ p ∈ ps, (cellsL p.2).length = n ∧ (cellsL p.2).all cellish = true) →
    (s + ps.length) * n ≤ cells.length → fillA (fun i => some (i * n, n)) cells ps = some (splice cells (s * n) (ps.map (fun p => cellsL p.2)).flatten)
  | [], s, cells, _, _, _ => by simp [fillA, splice]
  | (i, x) :: ps, s, cells, hi, hp, hl => by
    simp only [List.map_cons, List.length_cons, List.range'_succ, List.cons.injEq] at hi
    obtain ⟨rfl, hi⟩ := hi
    obtain ⟨h1, h2⟩ := hp (i, x) (by simp)
    simp only at h1 h2
    have hl' : i * n + n + ps.length * n ≤ cells.length := by
      simp only [List.length_cons] at hl
      have : (i + (ps.length + 1)) * n = i * n + n + ps.length * n := by rw [Nat.add_mul, Nat.add_mul]; omega
      omega
    unfold fillA
    simp only
    rw [if_pos ⟨h1, by omega, h2⟩]
    have hsl : (splice cells (i * n) (cellsL x)).length = cells.length := splice_length _ _ _ (by omega)
    rw [fillA_seq n ps (i + 1) _ hi (fun p hq => hp p (by simp [hq])) (by rw [hsl, Nat.add_mul, Nat.add_mul]; omega)]
    have hfl : (ps.map (fun p => cellsL p.2)).flatten.length = ps.length * n := by
      rw [flat_len _ n (fun y hy => by obtain ⟨p, hp', rfl⟩ := List.mem_map.1 hy; exact (hp p (by simp [hp'])).1)]
      simp
    have e : (i + 1) * n = i * n + (cellsL x).length := by rw [Nat.add_mul, h1]; omega
    rw [e, splice_splice _ _ _ _ (by rw [hfl, h1]; exact hl')]
    simp

def buildSliceA (P : Program) (t : TypeId) (len : Nat) (parts : List (Nat × AV)) (st : St) (K : AV → St → Prop) : Prop := match elT P t with
  | some (e, n, _) => 0 < n ∧ len * n ≤ 16777216 ∧ (zeroC P e).map (·.length) = some n ∧ parts.map (·.1) = List.range' 0 len ∧ parts.length = len ∧
      (parts.all fun p => (cellsL p.2).length == n && (cellsL p.2).all cellish) = true ∧
      (match toDss (parts.map fun p => cellsL p.2) with
        | some xs => K (.own st.k n xs) (st.own e)
        | none => K (.psl n (parts.map fun p => cellsL p.2)) st)
  | none => False

theorem toDs_get : ∀ (as : List AV) (xs : List DV), toDs as = some xs → as.length = xs.length ∧ ∀ (j : Nat) (x : DV), xs[j]? = some x → ∃ a, as[j]? = some a ∧ toD a = some x
  | [], xs, h => by simp only [toDs, Option.some.injEq] at h; subst h; exact ⟨rfl, fun j x h => by simp at h⟩
  | a :: as, xs, h => by
    unfold toDs at h
    split at h
    · rename_i x ys h1 h2
      simp only [Option.some.injEq] at h
      subst h
      obtain ⟨h3, h4⟩ := toDs_get as ys h2
      refine ⟨by simp [h3], fun j y hy => ?_⟩
      cases j with
      | zero => simp only [List.getElem?_cons_zero, Option.some.injEq] at hy; subst hy; exact ⟨a, rfl, h1⟩
      | succ j => exact h4 j y (by simpa using hy)
    · cases h
theorem toDss_get : ∀ (as : List (List AV)) (xs : List (List DV)), toDss as = some xs → as.length = xs.length ∧ ∀ (j : Nat) (x : List DV), xs[j]? = some x → ∃ a, as[j]? = some a ∧ toDs a = some x
  | [], xs, h => by simp only [toDss, Option.some.injEq] at h; subst h; exact ⟨rfl, fun j x h => by simp at h⟩
  | a :: as, xs, h => by
    unfold toDss at h
    split at h
    · rename_i x ys h1 h2
      simp only [Option.some.injEq] at h
      subst h
      obtain ⟨h3, h4⟩ := toDss_get as ys h2
      refine ⟨by simp [h3], fun j y hy => ?_⟩
      cases j with
      | zero => simp only [List.getElem?_cons_zero, Option.some.injEq] at hy; subst hy; exact ⟨a, rfl, h1⟩
      | succ j => exact h4 j y (by simpa using hy)
    · cases h

section
variable {P : Program} {w : World} {g : Gh} {st : St}

theorem buildSlice_sound (hR : R w g st) {t : TypeId} {len : Nat} {parts : List (Nat × AV)} {K : AV → St → Prop} (h : buildSliceA P t len parts st K) {qs : List (Nat × Value)}
    (hl : parts.length = qs.length) (hp : ∀ (i : Nat) p q, parts[i]? = some p → qs[i]? = some q → p.1 = q.1 ∧ Rep g p.2 q.2) :
    ∃ v' w', (Instr.buildSlice t len qs.toArray).run P w = .ok v' w' ∧ ∃ r st' g', K r st' ∧ R w' g' st' ∧ Rep g' r v' ∧ g.le g' ∧ Below g.B w w' := by
  unfold buildSliceA at h
  split at h
  · rename_i e n by_ he
    obtain ⟨hn, hsmall, hz, hidx, hlen, hall, hK⟩ := h
    obtain ⟨hu, i, z, hi, hzz, hsize, hby, hzs⟩ := append_parts he hz
    have hzone : z.cells.toList.all (·.oneCell') = true := by
      cases hzc : zeroC P e with
      | none => rw [hzc] at hz; cases hz
      | some cs =>
        obtain ⟨z', hz1, -, hz3⟩ := zeroC_parts (P := P) (w := w) hzc
        have : z' = z := by
          simp [zeroValue, typeInfo, hi, hzz] at hz1
          exact hz1.symm
        rw [← this]; exact hz3
    have hparts : ∀ p ∈ parts, (cellsL p.2).length = n ∧ (cellsL p.2).all cellish = true := by
      intro p hp'
      have := List.all_eq_true.1 hall p hp'
      simpa using this
    let zero : Array Value := if len * n = 0 then #[] else z.cells
    let arr0 : Array Value := (Array.range (len * n)).map fun k => zero[k % zero.size]!
    have harr0 : arr0.toList.all (·.oneCell') = true := by
      rw [List.all_eq_true]
      intro u hu'
      simp only [arr0, Array.toList_map, Array.toList_range, List.mem_map, List.mem_range] at hu'
      obtain ⟨k, hk, rfl⟩ := hu'
      have hne : len * n ≠ 0 := by omega
      have hzero : zero = z.cells := by simp only [zero]; rw [if_neg hne]
      rw [hzero]
      have hlt : k % z.cells.size < z.cells.size := Nat.mod_lt _ (by omega)
      rw [getElem!_pos z.cells _ hlt]
      exact List.all_eq_true.1 hzone _ (by simp)
    have hRL := RepL.cells g arr0 harr0
    have hlen0 : (arr0.toList.map cellAV).length = len * n := by simp [arr0]
    have hfill := fillA_seq n parts 0 (arr0.toList.map cellAV) (by rw [hlen]; exact hidx) hparts (by rw [hlen0, Nat.zero_add, hlen]; exact Nat.le_refl _)
    obtain ⟨arr', e1, e2, e3, e4⟩ := fill_rep _ parts qs _ arr0 _ hRL hl hp hfill harr0
    have hflat : splice (arr0.toList.map cellAV) (0 * n) (parts.map (fun p => cellsL p.2)).flatten = (parts.map (fun p => cellsL p.2)).flatten := by
      have hf : (parts.map (fun p => cellsL p.2)).flatten.length = len * n := by
        rw [flat_len _ n (fun y hy => by obtain ⟨p, hp', rfl⟩ := List.mem_map.1 hy; exact (hparts p hp').1)]
        simp [hlen]
      simp only [splice, Nat.zero_mul, List.take_zero, List.nil_append, Nat.zero_add, hf]
      rw [List.drop_of_length_le (by omega)]
      simp
    rw [hflat] at e2
    have hasz : arr'.size = len * n := by
      rw [← e2.1, flat_len _ n (fun y hy => by obtain ⟨p, hp', rfl⟩ := List.mem_map.1 hy; exact (hparts p hp').1)]
      simp [hlen]
    have hrun : (Instr.buildSlice t len qs.toArray).run P w = .ok (.slice (some ⟨w.heap.size, 0, none⟩) len len) (w.alloc (.cells arr' e)) := by
      have hsm : ¬ len * n > 2 ^ 24 := by omega
      unfold Instr.buildSlice
      rw [Sem.run_bind, run_underlying hu]
      simp only [Result.andThen_ok]
      rw [Sem.run_bind, show (sizeOf e).run P w = .ok n w by simp [sizeOf, typeInfo, hi, hsize]]
      simp only [Result.andThen_ok, hsm, if_false]
      have hfin : ∀ zz : Array Value, zz = zero → (match Instr.fill (fun i => some (i * n, n)) ((Array.range (len * n)).map fun x => zz[x % zz.size]!) qs with
          | some cells => (do let a ← newRow e cells; pure (Value.slice (some a) len len) : Sem Value)
          | _ => stuck "buildSlice: a part of the wrong size").run P w = .ok (.slice (some ⟨w.heap.size, 0, none⟩) len len) (w.alloc (.cells arr' e)) := by
        rintro _ rfl
        rw [show Instr.fill (fun i => some (i * n, n)) ((Array.range (len * n)).map fun x => zero[x % zero.size]!) qs = some arr' from e1]
        rfl
      by_cases h0 : len * n = 0
      · rw [if_pos h0, Sem.run_bind, Sem.run_pure]
        exact hfin #[] (by simp only [zero]; rw [if_pos h0])
      · rw [if_neg h0, Sem.run_bind, show (zeroValue e).run P w = .ok z w by simp [zeroValue, typeInfo, hi, hzz]]
        exact hfin z.cells (by simp only [zero]; rw [if_neg h0])
    have hlc : ∀ y ∈ parts.map (fun p => cellsL p.2), y.length = n := fun y hy => by obtain ⟨p, hp', rfl⟩ := List.mem_map.1 hy; exact (hparts p hp').1
    have hcell : ∀ (i j : Nat) (x : List AV) (d : AV), (parts.map fun p => cellsL p.2)[i]? = some x → x[j]? = some d → arr'[i * n + j]? = some (arr'.getD (i * n + j) undef) ∧ Rep g d (arr'.getD (i * n + j) undef) := by
      intro i j x d h1 h2
      have h3 := flat_get _ n i j x d hlc h1 h2
      have hlt : i * n + j < arr'.size := by rw [← e2.1]; exact (List.getElem?_eq_some_iff.1 h3).1
      have h4 : arr'[i * n + j]? = some (arr'.getD (i * n + j) undef) := by simp [Array.getD, hlt]
      exact ⟨h4, e2.2 _ _ _ h3 h4⟩
    have hR1 := hR.allocPub e arr'
    have hle1 := g.le_publish (b := w.heap.size) (f := fun o => arr'[o]?) (fun o v hp => by rw [hR.pub_new _ _ (Nat.le_refl _)] at hp; cases hp)
    have hbel : Below g.B w (w.alloc (.cells arr' e)) := (Below.refl _ w).alloc hR.base _
    refine ⟨_, _, hrun, ?_⟩
    split at hK
    · rename_i xs hxs
      obtain ⟨hl1, hg1⟩ := toDss_get _ _ hxs
      have hxl : xs.length = len := by rw [← hl1]; simpa using hlen
      have hrow : RowD (g.publish w.heap.size (fun o => arr'[o]?)).pub n xs (fun k => arr'.getD k undef) := by
        refine ⟨fun i x hx => ?_, fun i j x d hx hd => ?_⟩
        · obtain ⟨a, ha, hd⟩ := hg1 i x hx
          rw [← (toDs_get _ _ hd).1]
          exact hlc a (List.mem_of_getElem? ha)
        · obtain ⟨a, ha, hda⟩ := hg1 i x hx
          obtain ⟨b, hb, hdb⟩ := (toDs_get _ _ hda).2 j d hd
          obtain ⟨-, hrep⟩ := hcell i j a b ha hb
          refine (toD_rep hdb hrep ?_).mono hle1.pub
          obtain ⟨p, hp', rfl⟩ : ∃ p ∈ parts, cellsL p.2 = a := by
            have := List.mem_of_getElem? ha
            obtain ⟨p, h1, h2⟩ := List.mem_map.1 this
            exact ⟨p, h1, h2⟩
          exact List.all_eq_true.1 (hparts p hp').2 _ (List.mem_of_getElem? hb)
      have hsl : RepD (g.publish w.heap.size (fun o => arr'[o]?)).pub (.sl n xs) (.slice (some ⟨w.heap.size, 0, none⟩) len len) := by
        have := hrow.rep (b := w.heap.size) (cap := xs.length) (Nat.le_refl _) (fun k hk => by
          simp only [Gh.publish, if_true]
          have : k < arr'.size := by rw [hasz, ← hxl]; exact hk
          simp [Array.getD, this])
        rw [hxl] at this
        exact this
      have hown : (w.alloc (.cells arr' e)).ownsRow (g.publish w.heap.size (fun o => arr'[o]?)).B e n (.slice (some ⟨w.heap.size, 0, none⟩) len len) len arr'.toList :=
        ⟨by simp [hasz], .inr ⟨w.heap.size, len, arr', rfl, hR.base, heap_alloc_new w _, Nat.le_refl _, by
          have : len ≤ len * n := Nat.le_mul_of_pos_right _ hn
          simp only [maxLen]; omega, hasz, List.take_of_length_le (by rw [Array.length_toList, hasz]; exact Nat.le_refl _)⟩⟩
      have hR2 := hR1.own e n (.slice (some ⟨w.heap.size, 0, none⟩) len len) len _ hown (fun b hb => by
        simp only [Value.ownBlock, Option.some.injEq] at hb
        subst hb
        refine ⟨fun o ho => ?_, fun i hi' e' => ?_, fun t x hx e' => ?_⟩
        · simp only [Gh.publish, if_true]
          rw [Array.getElem?_eq_none (by omega)]
        · have h5 := hR.obj_lt hi'
          have e2 : g.σ i = w.heap.size := e'
          omega
        · obtain ⟨a1, a2, a3, a4⟩ := x
          have := (hR.tok_lt hx e').2
          omega)
      refine ⟨_, _, _, hK, hR2, ?_, hle1.trans (Gh.le_own _ _), hbel⟩
      refine .own (by simp [Gh.own, Gh.publish, hR.hk]) hsl (fun x hx' => ?_)
      simp only [Gh.own, upd, show (g.publish w.heap.size (fun o => arr'[o]?)).k = st.k from hR.hk, if_true, Option.some.injEq] at hx'
      subst hx'
      simp [hxl]
    · refine ⟨_, _, _, hK, hR1, ?_, hle1, hbel⟩
      have hpl : (parts.map fun p => cellsL p.2).length = len := by simpa using hlen
      rcases Nat.eq_zero_or_pos len with e0 | e0
      · subst e0
        have : (parts.map fun p => cellsL p.2) = [] := List.eq_nil_of_length_eq_zero hpl
        rw [this]
        exact .psl0 _ _ _
      · have := Rep.psl (g := g.publish w.heap.size (fun o => arr'[o]?)) n (parts.map fun p => cellsL p.2) w.heap.size 0 len (fun k => arr'.getD k undef) (by omega) (fun i x hx => hlc x (List.mem_of_getElem? hx)) (by omega)
          (fun i j x d h1 h2 => by
            simp only [Gh.publish, if_true, Nat.zero_add]
            exact (hcell i j x d h1 h2).1)
          (fun i j x d h1 h2 => ((hcell i j x d h1 h2).2).mono hle1)
        rw [hpl] at this
        exact this
  · exact h.elim
end
end Go.AW
