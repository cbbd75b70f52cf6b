/- Methods of a type that is no pointer, by its table. -/
import Derived.Test.YtibiooglhpjojaaGreatDoorA18
import Derived.ChangeKeysEq
set_option linter.unusedSimpArgs false
set_option linter.unusedVariables false
namespace Go.AW
open Go.RowKit

def methB (P : Program) (t : TypeId) (name : String) : Option FuncId := match P.info? t, P.underlying t with
  | some i, some d => (match i.methods.find? (·.name == name), d with
    | _, .pointer _ => none
    | some m, _ => (match m.path.isEmpty, m.func with
      | true, some (f, false) => some f
      | _, _ => none)
    | none, _ => none)
  | _, _ => none

theorem methB_parts {P : Program} {t : TypeId} {name : String} {k : FuncId} (h : methB P t name = some k) : ∃ i d m, P.info? t = some i ∧ P.underlying t = some d ∧ i.methods.find? (·.name == name) = some m ∧ m.path.toList = [] ∧ m.func = some (k, false) ∧ ∀ e, d ≠ .pointer e := by
  unfold methB at h
  split at h
  · rename_i i d hi hd
    refine ⟨i, d, ?_⟩
    split at h
    · cases h
    · rename_i m hm hp
      split at h
      · rename_i f hpath hf
        cases h
        refine ⟨m, hi, hd, hm, ?_, hf, fun e he => ?_⟩
        · have : m.path = #[] := by simpa using hpath
          rw [this]
        · exact hp e he
      · cases h
    · cases h
  · cases h

theorem Meth.of {P : Program} {t : TypeId} {name : String} {k : FuncId} (h : methB P t name = some k) : Meth P t name k := by
  obtain ⟨i, d, m, hi, hd, hm, hpath, hf, hp⟩ := methB_parts h
  intro v w
  have : P.types.size + Made.depth = (P.types.size + (Made.depth - 1)) + 1 := by have : 0 < Made.depth := by decide
                                                                                 omega
  rw [this]
  unfold method
  rw [Sem.run_bind, run_typeInfo w hi]
  simp only [Result.andThen_ok, hm, hpath, follow, hf, Sem.run_bind, Sem.run_pure, Place.get]
  unfold receiverAt
  have hu := run_underlying hd w
  cases d <;> first | exact absurd rfl (hp _) | simp [Sem.run_bind, hu, Place.get]
theorem NilOk.of {P : Program} {t : TypeId} {name : String} {k : FuncId} (h : methB P t name = some k) (v : Value) : NilOk P t v name := by
  obtain ⟨i, d, m, hi, hd, hm, hpath, hf, hp⟩ := methB_parts h
  intro w
  have : P.types.size + Made.depth = (P.types.size + (Made.depth - 1)) + 1 := by have : 0 < Made.depth := by decide
                                                                                 omega
  rw [this]
  unfold nilAhead
  rw [Sem.run_bind, run_typeInfo w hi]
  have hu := run_underlying hd w
  simp only [Result.andThen_ok, hm, hpath, followBlind, hf, Sem.run_bind, Sem.run_pure, hu]
  cases d <;> first | exact absurd rfl (hp _) | rfl
end Go.AW
