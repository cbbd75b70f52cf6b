/- The row's end for a law: from what its function does to what the row says. -/
import Derived.Test.YtibiooglhpjojaaGreatDoorB1
import Derived.Test.YtibiooglhpjojaaGreatDoorD1
import Derived.ProofKit
import Derived.OpenShut
set_option linter.unusedSimpArgs false
set_option linter.unusedVariables false
namespace Go.AW
open Go.RowKit Go.WideShapes Go.ChangeShapes Go.ChangeAt

def g0 (W : World) : Gh := ⟨pubOf W, fun _ => 0, 0, 0, fun _ => none, W.heap.size⟩
def st0 : St := ⟨0, fun _ => (0, []), 0, fun _ => none⟩
theorem R0 (W : World) : R W (g0 W) st0 where
  hn := rfl
  hk := rfl
  pub := fun _ _ _ h => h
  obj := fun i h => by cases h
  inj := fun i j h => by cases h
  sep := fun i h => by cases h
  base := Nat.le_refl _
  baseO := fun i h => by cases h
  tok := fun t e s v m h => by cases h
  tinj := fun t t' x x' b h => by cases h
  liv := fun t e h => by cases h
theorem rep_agg {W : World} {xs : List DV} {vs : Array Value} (h : RepCs (pubOf W) xs vs.toList) : Rep (g0 W) (.agg (xs.map .d)) (.agg vs) := by
  refine .agg _ _ (by simpa using h.1) fun i a v h1 h2 => ?_
  simp only [List.getElem?_map, Option.map_eq_some_iff] at h1
  obtain ⟨x, hx, rfl⟩ := h1
  exact .d (h.2 i x v hx (by simpa using h2))
theorem RepL.nil' (g : Gh) : RepL g [] #[] := ⟨rfl, fun i a v h => by simp at h⟩
theorem RepL.cons' {g : Gh} {a : AV} {v : Value} {as : List AV} {vs : Array Value} (h : Rep g a v) (h' : RepL g as vs) : RepL g (a :: as) (#[v] ++ vs) := by
  refine ⟨by simp [h'.1]; omega, fun i b u h1 h2 => ?_⟩
  cases i with
  | zero => simp at h1; subst h1; simp [Array.getElem?_append] at h2; subst h2; exact h
  | succ i =>
    refine h'.2 i b u (by simpa using h1) ?_
    rw [Array.getElem?_append] at h2
    simpa using h2
theorem law_calls {P : Program} {k : FuncId} {as : List AV} {vals : Array Value} {W : World} (hct : Ct P k as st0 (fun r s => r = .d (bl true) ∧ s = st0)) (hr : RepL (g0 W) as vals) :
    Calls P k vals W fun e W' => e = .returned (.bool true) ∧ Below W.heap.size W W' :=
  (hct.2 W (g0 W) vals (R0 W) hr).mono fun e w' ⟨r, st', g', v, he, ⟨hq, _⟩, _, hv, _, hb⟩ => by
    subst hq
    have := hv.lit_inv
    subst this
    exact ⟨he, hb⟩

section
variable {H : Type} {enc : TypeId × Value → H} {P : Program}
theorem trodAll_stays (hl : laidOutB P = true) {W W' : World} {sp : Nat → Bool} : ∀ {ts : List TypeId} {vs : List Value} {ds : List (DataW H)} {ps : List MemPlace}, (∀ t ∈ ts, P.readableRec t = true ∧ t < P.types.size) →
    DataW.TrodAll enc P W 0 (fun _ => true) true ts vs ds ps → (∀ x ∈ ps, W.sameAt W' x) → (∀ x ∈ ps, sp x.block = true) → DataW.TrodAll enc P W' 0 sp true ts vs ds ps
  | [], vs, ds, ps, _, h, _, _ => by
    obtain ⟨rfl, rfl, rfl⟩ := trodAll_nil h
    exact trodAll_mk0
  | t :: ts, vs, ds, ps, ht, h, hs, hp => by
    obtain ⟨v, vs', d, ds', p, q, rfl, rfl, rfl, h1, h2⟩ := trodAll_cons h
    exact trodAll_cons_mk (Go.WideElems.Trod_stays hl (ht t (by simp)).1 (ht t (by simp)).2 h1 (fun x hx => hs x (by simp [hx])) (fun x hx => hp x (by simp [hx])))
      (trodAll_stays hl (fun u hu => ht u (by simp [hu])) h2 (fun x hx => hs x (by simp [hx])) (fun x hx => hp x (by simp [hx])))
theorem trodAll_length {W : World} {b : Nat} {sp : Nat → Bool} {hd : Bool} : ∀ {ts : List TypeId} {vs : List Value} {ds : List (DataW H)} {ps : List MemPlace}, DataW.TrodAll enc P W b sp hd ts vs ds ps → ds.length = ts.length
  | [], vs, ds, ps, h => by obtain ⟨rfl, rfl, rfl⟩ := trodAll_nil h; rfl
  | t :: ts, vs, ds, ps, h => by
    obtain ⟨v, vs', d, ds', p, q, rfl, rfl, rfl, h1, h2⟩ := trodAll_cons h
    simp [trodAll_length h2]
theorem law_post {f : Func} {s : ChangeSpec} {apart fresh handsOn again : Bool} {W W' : World} {args : Array Value} {ds gs : List (DataW H)} {before : List MemPlace} {tb : TypeId}
    (hl : laidOutB P = true) (hr : f.resultTypes = #[tb]) (hb : P.underlying tb = some .bool) (hts : ∀ t ∈ f.params.toList, P.readableRec t = true ∧ t < P.types.size) (hv : s.vars = [])
    (hs : ∀ ds : List (DataW H), ds.length = f.params.toList.length → s.fn H ds = { results := [.lit (.bool true)], args := ds })
    (hW : DataW.Whole enc P f.params.toList s.vars apart W args.toList ds gs before) (hbel : Below W.heap.size W W') :
    s.post enc P f apart fresh handsOn again W args (.bool true) W' := by
  have hlt : ∀ p ∈ before, p.block < W.heap.size := fun p hp => hW.lt p hp
  have hold : ∀ p ∈ before, (fun b => decide (b < W.heap.size)) p.block = true := fun p hp => by simpa using hlt p hp
  have hW' := hW
  obtain ⟨p, q, h1, h2, rfl, hz, hn⟩ := hW
  rw [hv] at h2
  obtain ⟨rfl, rfl⟩ := trodVars_none h2
  have hlen := trodAll_length h1
  have e := hs ds hlen
  have hargs : ∀ sp : Nat → Bool, (∀ x ∈ p ++ ([] : List MemPlace), sp x.block = true) → DataW.TrodAll enc P W' 0 sp true f.params.toList args.toList ds p := fun sp hsp =>
    trodAll_stays hl hts h1 (fun x hx => hbel.same (hlt x (by simp [hx]))) (fun x hx => hsp x (by simp [hx]))
  have hres : ∀ (b : Nat) (sp : Nat → Bool) (hd : Bool), DataW.TrodAll enc P W' b sp hd f.resultTypes.toList ((Value.bool true).resultList f.resultTypes.size) (s.fn H (ds ++ [])).results [] := fun b sp hd => by
    rw [hr, List.append_nil, e]
    exact trodAll_cons_mk (shut_bool hb _) trodAll_mk0
  have hvars : ∀ sp : Nat → Bool, DataW.TrodVars enc P W' sp s.vars (s.fn H (ds ++ [])).vars [] := fun sp => by
    rw [List.append_nil, e, hv]; exact rfl
  refine ⟨ds, [], p ++ [], [], p, [], hW', hres _ _ _, by rw [List.append_nil, e]; exact hargs _ hold, hvars _, World.keptBut_mono (fun x hx => ⟨hx, ?_⟩) (hbel.frame (· ∈ p ++ [])), fun _ => ?_⟩
  · exact Or.inr (by simpa using hx)
  · refine ⟨?_, _, _, ([] ++ p) ++ [], ⟨[] ++ p, [], (by
      have h3 := hargs (fun _ => true) (fun _ _ => rfl)
      have h4 : DataW.TrodAll enc P W' 0 (fun _ => true) true f.params.toList args.toList (s.fn H (ds ++ [])).args p := by rw [List.append_nil, e]; exact h3
      exact trodAll_append h4 (hres _ _ _)), hvars _, rfl, ?_, ?_⟩, ?_⟩
    · exact ok_one hr rfl (okWide_bool_mk hb _)
    · intro b off hp
      have hin : MemPlace.cell b off ∈ p ++ [] := by simpa using hp
      rw [hbel.frozen (hlt _ hin)]
      exact hz b off hin
    · intro ha
      simpa using hn ha
    · intro x hx _
      simpa using hx
end
end Go.AW
