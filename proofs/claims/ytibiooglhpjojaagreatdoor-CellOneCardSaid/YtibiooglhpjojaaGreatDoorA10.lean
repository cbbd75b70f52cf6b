/- Struct and array literals; what each operation asks. -/
import Derived.Test.YtibiooglhpjojaaGreatDoorA9
set_option linter.unusedSimpArgs false
set_option linter.unusedVariables false
namespace Go.AW
open Go.RowKit

/-- An array's element: how many, its type, how many cells. -/
def arT (P : Program) (t : TypeId) : Option (Nat × TypeId × Nat) := match P.underlying t with
  | some (.array n e) => (P.info? e).map fun i => (n, e, i.size)
  | _ => none

/-- Is a type a struct? -/
def isStr (P : Program) (t : TypeId) : Bool := match P.underlying t with
  | some (.struct _) => true
  | _ => false

def plc : Option (Nat × Option (Nat × Bool)) → Option (Nat × Nat)
  | some (off, some (n, _)) => some (off, n)
  | _ => none

def buildA (P : Program) (t : TypeId) (parts : List (Nat × AV)) : PV := match zeroC P t with
  | some zs => (match arT P t with
    | some (_, _, n) => (match fillA (fun i => some (i * n, n)) zs parts with
      | some cs => ⟨True, .agg cs⟩
      | none => fails)
    | none => (match fillA (fun i => plc (flds P t)[i]?) zs parts with
      | some cs => ⟨((flds P t).all fun x => x.2.isSome) = true ∧ isStr P t = true, .agg cs⟩
      | none => fails))
  | none => fails

section
variable {P : Program} {w : World} {g : Gh} {st : St}

theorem zeroC_zero {t : TypeId} {zs : List AV} (h : zeroC P t = some zs) : ∃ i z, P.info? t = some i ∧ i.zero = some z ∧ zs = z.cells.toList.map cellAV ∧ z.cells.toList.all (·.oneCell') = true := by
  unfold zeroC at h
  split at h
  · rename_i i hi
    split at h
    · rename_i z hz
      split at h
      · rename_i ho
        simp only [Option.some.injEq] at h
        exact ⟨i, z, hi, hz, h.symm, ho⟩
      · cases h
    · cases h
  · cases h

theorem fill_ext (p p' : Nat → Option (Nat × Nat)) (h : ∀ i, p i = p' i) (cells : Array Value) (l : List (Nat × Value)) : Instr.fill p cells l = Instr.fill p' cells l := by
  rw [show p = p' from funext h]

theorem places_of : ∀ (fs : List Field), (fs.all fun f => (tsz P f.type).isSome) = true →
    ∃ pl, fs.mapM (fun f => (P.info? f.type).map fun i => (f.offset, i.size)) = some pl ∧ ∀ i : Nat, pl[i]? = plc (fs.map fun f => (f.offset, tsz P f.type))[i]?
  | [], _ => ⟨[], rfl, fun i => by simp [plc]⟩
  | f :: fs, h => by
    simp only [List.all_cons, Bool.and_eq_true] at h
    obtain ⟨pl, h1, h2⟩ := places_of fs h.2
    obtain ⟨⟨n, a⟩, ht⟩ := Option.isSome_iff_exists.1 h.1
    have hi : ∃ i, P.info? f.type = some i ∧ i.size = n := by
      unfold tsz at ht
      split at ht
      · rename_i i d hi hd
        simp only [Option.some.injEq, Prod.mk.injEq] at ht
        exact ⟨i, hi, ht.1⟩
      · cases ht
    obtain ⟨i, hi, rfl⟩ := hi
    refine ⟨(f.offset, i.size) :: pl, by simp [hi, h1], fun j => ?_⟩
    cases j with
    | zero => simp [ht, plc]
    | succ j => simpa using h2 j

theorem buildA_sound {t : TypeId} {parts : List (Nat × AV)} (h : (buildA P t parts).ok) {qs : List (Nat × Value)} (hl : parts.length = qs.length)
    (hp : ∀ (i : Nat) p q, parts[i]? = some p → qs[i]? = some q → p.1 = q.1 ∧ Rep g p.2 q.2) :
    ∃ v, (Instr.build t qs.toArray).run P w = .ok v w ∧ Rep g (buildA P t parts).v v := by
  unfold buildA at h ⊢
  split at h
  · rename_i zs hzs
    obtain ⟨i, z, hi, hz, rfl, hone⟩ := zeroC_zero hzs
    have hRL := RepL.cells g z.cells hone
    split at h
    · rename_i k e n ha
      split at h
      · rename_i cs hf
        obtain ⟨arr', e1, e2, -, -⟩ := fill_rep _ parts qs _ _ _ hRL hl hp hf hone
        refine ⟨.agg arr', run_build w t _ arr' ?_, by exact .agg _ _ e2.1 e2.2⟩
        unfold arT at ha
        split at ha
        · rename_i k' e' hu
          simp only [Option.map_eq_some_iff, Prod.mk.injEq] at ha
          obtain ⟨ie, hie, rfl, rfl, rfl⟩ := ha
          unfold Program.built
          simp only [hi, hu, hz, hie]
          exact e1
        · cases ha
      · exact h.elim
    · rename_i ha
      split at h
      · rename_i cs hf
        obtain ⟨arr', e1, e2, -, -⟩ := fill_rep _ parts qs _ _ _ hRL hl hp hf hone
        refine ⟨.agg arr', run_build w t _ arr' ?_, by exact .agg _ _ e2.1 e2.2⟩
        obtain ⟨h1, h2⟩ := h
        have hs : ∃ fs, P.underlying t = some (.struct fs) := by
          unfold isStr at h2
          split at h2
          · rename_i fs hu; exact ⟨fs, hu⟩
          · cases h2
        obtain ⟨fs, hu⟩ := hs
        unfold flds at h1 e1
        simp only [hu] at h1 e1
        obtain ⟨pl, hpl, hget⟩ := places_of (P := P) fs.toList (by rw [List.all_map] at h1; exact h1)
        unfold Program.built
        simp only [hi, hu, hz, hpl]
        rw [← e1]
        refine fill_ext _ _ (fun j => ?_) _ _
        rw [List.getElem?_toArray]
        exact hget j
      · exact h.elim
  · exact h.elim
end

/-- A branch that is not decided: 'simp' leaves its sides alone. -/
def Br (b : Bool) (x y : Prop) : Prop := (b = true → x) ∧ (b = false → y)
theorem Br_true (x y : Prop) : Br true x y = x := by simp [Br]
theorem Br_false (x y : Prop) : Br false x y = y := by simp [Br]
theorem Br.intro {b : Bool} {x y : Prop} (h : b = true → x) (h' : b = false → y) : Br b x y := ⟨h, h'⟩
theorem Br.mono {b : Bool} {x y x' y' : Prop} (h : Br b x y) (hx : x → x') (hy : y → y') : Br b x' y' := ⟨fun e => hx (h.1 e), fun e => hy (h.2 e)⟩

abbrev Tm := Nat → AV
def undefAV : AV := .d (.lit undef)

def partsA (tm : Tm) (ps : Array (Nat × Operand)) : List (Nat × AV) := ps.toList.map fun p => (p.1, opnd tm p.2)
def argsA (tm : Tm) (xs : Array Operand) : List AV := xs.toList.map (opnd tm)
def isAppend : Builtin → Bool
  | .append => true
  | _ => false

/-- The operations that read, write or make memory, or call. -/
def eff (P : Program) (tm : Tm) (st : St) (K : AV → St → Prop) : Op → Prop
  | .load t x => (match opnd tm x with
    | .ptr id off => (match tsz P t with
      | some (n, a) => opOk x = true ∧ (sub (st.obj id).2 off n a).ok ∧ K (sub (st.obj id).2 off n a).v st
      | none => False)
    | .pp cs => (match tsz P t with
      | some (n, a) => opOk x = true ∧ (sub cs 0 n a).ok ∧ K (sub cs 0 n a).v st
      | none => False)
    | _ => False)
  | .store t x y => (match opnd tm x with
    | .ptr id off => (match tsz P t with
      | some (n, _) => opOk x = true ∧ opOk y = true ∧ (cellsL (opnd tm y)).length = n ∧ (cellsL (opnd tm y)).all cellish = true ∧ off + n ≤ (st.obj id).2.length ∧
          K undefAV (st.setc id (splice (st.obj id).2 off (cellsL (opnd tm y))))
      | none => False)
    | _ => False)
  | .alloc t => (match zeroC P t with
    | some cs => K (.ptr st.n 0) (st.push t cs)
    | none => False)
  | .box t x => opOk x = true ∧ (cellsL (opnd tm x)).all cellish = true ∧ K (.ptr st.n 0) (st.push t (cellsL (opnd tm x)))
  | .build t ps => (ps.toList.all fun p => opOk p.2) = true ∧ (buildA P t (partsA tm ps)).ok ∧ K (buildA P t (partsA tm ps)).v st
  | .buildSlice t len ps => (ps.toList.all fun p => opOk p.2) = true ∧ buildSliceA P t len (partsA tm ps) st K
  | .call c => (match c.callee with
    | .value f => opOk f = true ∧ c.args.toList.all opOk = true ∧ callA P (opnd tm f) (argsA tm c.args) st K
    | .invoke r name => opOk r = true ∧ c.args.toList.all opOk = true ∧ invokeA P (opnd tm r) name (argsA tm c.args) st K
    | .builtin b => (match isAppend b, c.args.toList, c.argTypes.toList with
      | true, [s, x], [t, t'] => opOk s = true ∧ opOk x = true ∧ t = t' ∧ appendA P t (opnd tm s) (opnd tm x) st K
      | _, _, _ => (evCall P tm c.callee c.args.toList c.argTypes.toList).ok ∧ K (evCall P tm c.callee c.args.toList c.argTypes.toList).v st))
  | op => (ev P tm op).ok ∧ K (ev P tm op).v st

def dstOk (nt : Nat) (dst : Option Nat) : Bool := match dst with | some d => decide (d < nt) | none => true
def wpO (P : Program) (nt : Nat) (o : Oper) (tm : Tm) (st : St) (K : Tm → St → Prop) : Prop := dstOk nt o.dst = true ∧ eff P tm st (fun v st' => K (put tm o.dst v) st') o.op
end Go.AW
