/- Operations that read, write and make memory. -/
import Derived.Test.YtibiooglhpjojaaGreatDoorA5
set_option linter.unusedSimpArgs false
set_option linter.unusedVariables false
namespace Go.AW
open Go.RowKit

def cellsL : AV → List AV
  | .agg cs => cs
  | v => [v]
def cellish : AV → Bool
  | .agg _ | .tup _ | .bad => false
  | .d (.lit v) => v.oneCell'
  | _ => true
def splice {α : Type} (cells : List α) (off : Nat) (vs : List α) : List α := cells.take off ++ vs ++ cells.drop (off + vs.length)
theorem splice_length {α : Type} (cells : List α) (off : Nat) (vs : List α) (h : off + vs.length ≤ cells.length) : (splice cells off vs).length = cells.length := by
  simp [splice]; omega
theorem splice_get {α : Type} (cells : List α) (off : Nat) (vs : List α) (h : off + vs.length ≤ cells.length) (i : Nat) :
    (splice cells off vs)[i]? = if i < off then cells[i]? else if i < off + vs.length then vs[i - off]? else cells[i]? := by
  unfold splice
  have h1 : (cells.take off).length = off := by simp; omega
  by_cases c1 : i < off
  · rw [if_pos c1, List.append_assoc, List.getElem?_append_left (by omega), List.getElem?_take_of_lt c1]
  · rw [if_neg c1, List.append_assoc, List.getElem?_append_right (by omega), h1]
    by_cases c2 : i < off + vs.length
    · rw [if_pos c2, List.getElem?_append_left (by omega)]
    · rw [if_neg c2, List.getElem?_append_right (by omega), List.getElem?_drop]
      congr 1
      omega

theorem cellish_one {g : Gh} {x : AV} {v : Value} (h : Rep g x v) (hc : cellish x = true) : v.oneCell' = true := by
  cases h with
  | d h => cases h with
    | lit v hv => exact hv
    | sl0 => rfl
    | sl => rfl
  | own ht h hk => cases h with
    | sl0 => rfl
    | sl => rfl
  | agg => cases hc
  | tup => cases hc
  | undef => cases hc
  | _ => rfl
theorem cells_of_one {v : Value} (h : v.oneCell' = true) : v.cells = #[v] := by cases v <;> first | rfl | cases h
theorem cellsL_rep {g : Gh} {x : AV} {v : Value} (h : Rep g x v) (hc : (cellsL x).all cellish = true) : RepL g (cellsL x) v.cells ∧ v.cells.toList.all (·.oneCell') = true := by
  by_cases ha : ∃ cs, x = .agg cs
  · obtain ⟨cs, rfl⟩ := ha
    obtain ⟨vs, rfl, hl, hr⟩ := h.agg_inv
    refine ⟨⟨hl, hr⟩, List.all_eq_true.2 fun v hv => ?_⟩
    obtain ⟨i, hi⟩ := List.mem_iff_getElem?.1 hv
    have hi' : vs[i]? = some v := by rw [← Array.getElem?_toList]; exact hi
    have hlt : i < cs.length := by rw [hl]; exact (Array.getElem?_eq_some_iff.1 hi').1
    exact cellish_one (hr i cs[i] v (List.getElem?_eq_getElem hlt) hi') (List.all_eq_true.1 hc _ (by simp [cellsL]))
  · have hx : cellsL x = [x] := by cases x <;> first | rfl | exact absurd ⟨_, rfl⟩ ha
    rw [hx] at hc ⊢
    have h1 := cellish_one h (by simpa using hc)
    rw [cells_of_one h1]
    refine ⟨⟨rfl, fun i a v' h1 h2 => ?_⟩, by simpa using h1⟩
    cases i with
    | zero => simp at h1 h2; subst h1; subst h2; exact h
    | succ i => simp at h1

theorem RepL.splice {g : Gh} {cells vs : List AV} {arr : Array Value} {us : List Value} (h : RepL g cells arr) (hv : RepL g vs us.toArray) {off : Nat} (ho : off + vs.length ≤ cells.length) :
    RepL g (splice cells off vs) (AW.splice arr.toList off us).toArray := by
  have hl : vs.length = us.length := by simpa using hv.1
  have ha := h.1
  refine ⟨by rw [splice_length _ _ _ ho]; rw [List.size_toArray, splice_length _ _ _ (by simp; omega)]; simpa using ha, fun i a v h1 h2 => ?_⟩
  rw [splice_get _ _ _ ho] at h1
  rw [List.getElem?_toArray, splice_get _ _ _ (by simp; omega)] at h2
  rw [← hl] at h2
  by_cases c1 : i < off
  · rw [if_pos c1] at h1 h2
    exact h.2 i a v h1 (by simpa using h2)
  · rw [if_neg c1] at h1 h2
    by_cases c2 : i < off + vs.length
    · rw [if_pos c2] at h1 h2
      exact hv.2 (i - off) a v h1 (by simpa using h2)
    · rw [if_neg c2] at h1 h2
      exact h.2 i a v h1 (by simpa using h2)

theorem R.drew {w : World} {g : Gh} {st : St} (h : R w g st) : R w.drew g st := ⟨h.hn, h.hk, h.pub, h.obj, h.inj, h.sep, h.base, h.baseO, h.tok, h.tinj, h.liv⟩

section
variable {P : Program} {w : World} {g : Gh} {st : St}

/-- A variable inside an object is read. -/
theorem run_loadVar_obj (h : R w g st) {id off n : Nat} (hid : id < st.n) {t : TypeId} {agg : Bool} (ht : tsz P t = some (n, agg)) (ho : (sub (st.obj id).2 off n agg).ok) :
    ∃ v, (loadVar t ⟨g.σ id, off, none⟩).run P w = .ok v w ∧ Rep g (sub (st.obj id).2 off n agg).v v := by
  obtain ⟨arr, ha, hr⟩ := h.obj id hid
  obtain ⟨h1, h2, -, -⟩ := tsz_parts (P := P) (w := w) ht
  obtain ⟨v, hv, hrep⟩ := sub_rep hr ho
  refine ⟨v, ?_, hrep⟩
  have hv' := congrFun hv w
  cases agg with
  | true =>
    simp only [if_true, Result.ok.injEq, and_true] at hv'
    subst hv'
    have hle : off + n ≤ arr.size := by unfold sub at ho; simp only [if_true] at ho; rw [← hr.1]; exact ho
    have hl : (loadCells ⟨g.σ id, off, none⟩ n).run P w = .ok (arr.extract off (off + n)) w := by
      have := run_loadCells_list (P := P) w ⟨g.σ id, off, none⟩ (arr.extract off (off + n)).toList (fun j v hv => by
        rw [addr_add, cell_of_row w _ _ arr _ _ ha]
        rw [Array.getElem?_toList, Array.getElem?_extract] at hv
        split at hv
        · exact hv
        · cases hv)
      have hsz : (arr.extract off (off + n)).toList.length = n := by simp; omega
      rw [hsz, Array.toArray_toList] at this
      exact this
    unfold loadVar
    rw [Sem.run_bind, h2]
    simp [h1, hl]
  | false =>
    simp only [Bool.false_eq_true, if_false] at hv'
    unfold loadVar
    rw [Sem.run_bind, h2]
    simp only [Result.andThen_ok, Bool.false_eq_true, if_false, run_load, cell_of_row w _ _ arr _ _ ha]
    split at hv'
    · rename_i u hu
      rw [hu]
      simpa using hv'
    · cases hv'

/-- A variable inside an object is written. -/
theorem run_storeVar_obj (h : R w g st) {id off n : Nat} (hid : id < st.n) {t : TypeId} {agg : Bool} (ht : tsz P t = some (n, agg)) {x : AV} {v : Value} (hx : Rep g x v)
    (hl : (cellsL x).length = n) (hc : (cellsL x).all cellish = true) (ho : off + n ≤ (st.obj id).2.length) :
    ∃ w', (storeVar t ⟨g.σ id, off, none⟩ v).run P w = .ok () w' ∧ R w' g (st.setc id (splice (st.obj id).2 off (cellsL x))) ∧ Below g.B w w' := by
  obtain ⟨arr, ha, hr⟩ := h.obj id hid
  obtain ⟨h1, -, -, -⟩ := tsz_parts (P := P) (w := w) ht
  obtain ⟨hv, hone⟩ := cellsL_rep hx hc
  have hsz : v.cells.size = n := by rw [← hv.1]; exact hl
  have hst := run_storeCells_at (P := P) (g.σ id) off (st.obj id).1 v.cells.toList 0 arr w ha (by rw [← hr.1]; simp [hsz]; omega) (fun u hu => List.all_eq_true.1 hone u hu)
  refine ⟨_, by unfold storeVar; rw [Sem.run_bind, h1]; simp [hsz]; exact hst, ?_, ?_⟩
  · refine h.setRow hid (arr' := (AW.splice arr.toList off v.cells.toList).toArray) (RepL.splice hr (by simpa using hv) (by rw [hl]; exact ho)) ?_ (by simp) (fun k hk => setRow_other w _ k _ hk)
    have := setRow_heap w (g.σ id) arr (arr.toList.take (off + 0) ++ v.cells.toList ++ arr.toList.drop (off + 0 + v.cells.toList.length)).toArray _ (0, 0) ha
    simpa [AW.splice] using this
  · exact ⟨rfl, rfl, rfl, by simp, fun k hk => setRow_other w _ k _ (by have := h.baseO id hid; omega)⟩

theorem zeroC_parts {t : TypeId} {cs : List AV} (h : zeroC P t = some cs) : ∃ z, (zeroValue t).run P w = .ok z w ∧ cs = z.cells.toList.map cellAV ∧ z.cells.toList.all (·.oneCell') = true := by
  unfold zeroC at h
  split at h
  · rename_i i hi
    split at h
    · rename_i z hz
      split at h
      · rename_i ho
        simp only [Option.some.injEq] at h
        exact ⟨z, by simp [zeroValue, typeInfo, hi, hz], h.symm, ho⟩
      · cases h
    · cases h
  · cases h

theorem run_newVar (t : TypeId) (v : Value) : (newVar t v).run P w = .ok ⟨w.heap.size, 0, none⟩ (w.alloc (.cells v.cells t)) := by
  rfl

/-- What a struct literal puts where. -/
def fillA (place : Nat → Option (Nat × Nat)) (cells : List AV) : List (Nat × AV) → Option (List AV)
  | [] => some cells
  | (i, x) :: rest => match place i with
    | none => none
    | some (off, n) => if (cellsL x).length = n ∧ off + n ≤ cells.length ∧ (cellsL x).all cellish = true then fillA place (splice cells off (cellsL x)) rest else none

theorem fold_splice (off : Nat) : ∀ (l : List Value) (s : Nat) (cs : Array Value), off + s + l.length ≤ cs.size →
    ((l.zipIdx s).foldl (fun cs (x : Value × Nat) => cs.setIfInBounds (off + x.2) x.1) cs).toList = AW.splice cs.toList (off + s) l
  | [], s, cs, _ => by simp [AW.splice]
  | v :: l, s, cs, h => by
    simp only [List.length_cons] at h
    simp only [List.zipIdx_cons, List.foldl_cons]
    rw [fold_splice off l (s + 1) _ (by simp; omega)]
    apply List.ext_getElem?
    intro i
    rw [splice_get _ _ _ (by simp; omega), splice_get _ _ _ (by simp; omega)]
    simp only [Array.toList_setIfInBounds, List.getElem?_set, List.length_cons, Array.length_toList]
    by_cases c1 : i < off + s
    · rw [if_pos (by omega), if_pos c1, if_neg (by omega)]
    · rw [if_neg c1]
      by_cases c2 : i = off + s
      · subst c2
        rw [if_pos (by omega), if_pos rfl, if_pos (by omega), if_pos (by omega)]
        simp
      · rw [if_neg (by omega)]
        by_cases c3 : i < off + s + (l.length + 1)
        · rw [if_pos (by omega), if_pos c3]
          obtain ⟨j, rfl⟩ : ∃ j, i = off + s + (j + 1) := ⟨i - off - s - 1, by omega⟩
          have e1 : off + s + (j + 1) - (off + (s + 1)) = j := by omega
          have e2 : off + s + (j + 1) - (off + s) = j + 1 := by omega
          rw [e1, e2]
          simp
        · rw [if_neg (by omega), if_neg c3, if_neg (by omega)]

theorem fill_rep (place : Nat → Option (Nat × Nat)) : ∀ (ps : List (Nat × AV)) (qs : List (Nat × Value)) (cells : List AV) (arr : Array Value) (cells' : List AV),
    RepL g cells arr → ps.length = qs.length → (∀ (i : Nat) p q, ps[i]? = some p → qs[i]? = some q → p.1 = q.1 ∧ Rep g p.2 q.2) → fillA place cells ps = some cells' → arr.toList.all (·.oneCell') = true →
    ∃ arr', Instr.fill place arr qs = some arr' ∧ RepL g cells' arr' ∧ arr'.toList.all (·.oneCell') = true ∧ cells'.length = cells.length
  | [], [], cells, arr, cells', h, _, _, hf, ho => by
    simp only [fillA, Option.some.injEq] at hf
    subst hf
    exact ⟨arr, rfl, h, ho, rfl⟩
  | [], q :: qs, _, _, _, _, hl, _, _, _ => by simp at hl
  | p :: ps, [], _, _, _, _, hl, _, _, _ => by simp at hl
  | (i, x) :: ps, (j, v) :: qs, cells, arr, cells', h, hl, hp, hf, ho => by
    obtain ⟨hij, hx⟩ := hp 0 _ _ rfl rfl
    simp only at hij
    subst hij
    unfold fillA at hf
    unfold Instr.fill
    cases hpl : place i with
    | none => rw [hpl] at hf; cases hf
    | some z =>
      obtain ⟨off, n⟩ := z
      rw [hpl] at hf
      simp only at hf ⊢
      split at hf
      · rename_i hc
        obtain ⟨h1, h2, h3⟩ := hc
        obtain ⟨hv, hone⟩ := cellsL_rep hx h3
        have hsz : v.cells.size = n := by rw [← hv.1]; exact h1
        rw [if_neg (by rw [← h.1]; simp [hsz]; omega)]
        have hfold := fold_splice off v.cells.toList 0 arr (by rw [← h.1]; simp [hsz]; omega)
        have harr : v.cells.zipIdx.foldl (fun cs (x : Value × Nat) => cs.setIfInBounds (off + x.2) x.1) arr = (AW.splice arr.toList off v.cells.toList).toArray := by
          apply Array.ext'
          rw [← Array.foldl_toList, Array.toList_zipIdx]
          simpa using hfold
        have hs := RepL.splice h (us := v.cells.toList) (by simpa using hv) (off := off) (by omega)
        have hone' : (AW.splice arr.toList off v.cells.toList).all (·.oneCell') = true := by
          rw [List.all_eq_true]
          intro u hu
          simp only [AW.splice, List.mem_append] at hu
          rcases hu with (hu | hu) | hu
          · exact List.all_eq_true.1 ho u (List.mem_of_mem_take hu)
          · exact List.all_eq_true.1 hone u hu
          · exact List.all_eq_true.1 ho u (List.mem_of_mem_drop hu)
        obtain ⟨arr', e1, e2, e3, e4⟩ := fill_rep place ps qs _ _ cells' hs (by simpa using hl) (fun k p q hk1 hk2 => hp (k + 1) p q (by simpa using hk1) (by simpa using hk2)) hf (by simpa using hone')
        refine ⟨arr', ?_, e2, e3, by rw [e4, splice_length _ _ _ (by omega)]⟩
        rw [← e1]
        congr 1
      · cases hf
end
end Go.AW
