/- What an operation that only computes does to abstract values, and that the machine does so. -/
import Derived.Test.YtibiooglhpjojaaGreatDoorA1
set_option linter.unusedSimpArgs false
set_option linter.unusedVariables false
namespace Go.AW
open Go.RowKit

def cellAV (v : Value) : AV := match v with
  | .slice none 0 0 => .nil
  | v => .d (.lit v)
theorem cellAV_rep (g : Gh) {v : Value} (h : v.oneCell' = true) : Rep g (cellAV v) v := by
  unfold cellAV
  split
  · exact .nil
  · exact .d (.lit _ h)

def constAV (v : Value) : AV := match v with
  | .agg cs => .agg (cs.toList.map cellAV)
  | v => cellAV v
def constOk (v : Value) : Bool := match v with
  | .agg cs => cs.toList.all (·.oneCell')
  | v => v.oneCell'
theorem RepL.cells (g : Gh) (cs : Array Value) (h : cs.toList.all (·.oneCell') = true) : RepL g (cs.toList.map cellAV) cs := by
  refine ⟨by simp, fun i a v h1 h2 => ?_⟩
  simp only [List.getElem?_map, Array.getElem?_toList, h2, Option.map_some, Option.some.injEq] at h1
  subst h1
  exact cellAV_rep g (List.all_eq_true.1 h v (by simpa using Array.mem_of_getElem? h2))
theorem constAV_rep (g : Gh) {v : Value} (h : constOk v = true) : Rep g (constAV v) v := by
  unfold constOk at h
  unfold constAV
  split
  · rename_i cs
    have := RepL.cells g cs h
    exact .agg _ _ this.1 this.2
  · rename_i hv
    exact cellAV_rep g (by first | exact h | (split at h <;> simp_all))

def opnd (tm : Nat → AV) : Operand → AV
  | .tmp t => tm t
  | .const v => constAV v
  | .global _ => .bad
  | .func f => .fn (.func f) [] []
def opOk : Operand → Bool
  | .const v => constOk v
  | .global _ => false
  | _ => true
theorem opnd_rep {g : Gh} {nt : Nat} {tm : Nat → AV} {a : Act} (h : RT g nt tm a) {x : Operand} (hx : opOk x = true) : Rep g (opnd tm x) (a.eval x) := by
  cases x with
  | tmp t => exact h.rep t
  | const v => exact constAV_rep g hx
  | global n => cases hx
  | func f => exact .fn _ [] [] #[] #[] rfl (fun i a v h => by simp at h) rfl (fun i a v h => by simp at h)

structure PV where
  ok : Prop
  v : AV
def fails : PV := ⟨False, .bad⟩

def tsz (P : Program) (t : TypeId) : Option (Nat × Bool) := match P.info? t, P.underlying t with
  | some i, some d => some (i.size, match d with | .struct _ | .array _ _ => true | _ => false)
  | _, _ => none
def flds (P : Program) (s : TypeId) : List (Nat × Option (Nat × Bool)) := match P.underlying s with
  | some (.struct fs) => fs.toList.map fun f => (f.offset, tsz P f.type)
  | _ => []
/-- A slice's element: its type, how many cells, how many bytes. -/
def elT (P : Program) (t : TypeId) : Option (TypeId × Nat × Nat) := match P.underlying t with
  | some (.slice e) => (P.info? e).map fun i => (e, i.size, i.bytes)
  | _ => none
def zeroC (P : Program) (t : TypeId) : Option (List AV) := match P.info? t with
  | some i => (match i.zero with
    | some z => if z.cells.toList.all (·.oneCell') then some (z.cells.toList.map cellAV) else none
    | none => none)
  | none => none

def intRes (op : BinOp) (k : IntKind) (a b : Int) : PV := match op with
  | .add => ⟨True, .d (.lit (.int k (k.wrap (a + b))))⟩
  | .sub => ⟨True, .d (.lit (.int k (k.wrap (a - b))))⟩
  | .mul => ⟨True, .d (.lit (.int k (k.wrap (a * b))))⟩
  | .quo => ⟨b ≠ 0, .d (.lit (.int k (k.wrap (a.tdiv b))))⟩
  | .rem => ⟨b ≠ 0, .d (.lit (.int k (a.tmod b)))⟩
  | .eql => ⟨True, .d (.lit (.bool (a == b)))⟩
  | .neq => ⟨True, .d (.lit (.bool (a != b)))⟩
  | .lss => ⟨True, .d (.lit (.bool (decide (a < b))))⟩
  | .leq => ⟨True, .d (.lit (.bool (decide (a ≤ b))))⟩
  | .gtr => ⟨True, .d (.lit (.bool (decide (a > b))))⟩
  | .geq => ⟨True, .d (.lit (.bool (decide (a ≥ b))))⟩
  | _ => fails
def strRes (op : BinOp) (a b : ByteArray) : PV := match op with
  | .add => ⟨((a.size + b.size : Nat) : Int) ≤ 9223372036854775807, .d (.lit (.string (a ++ b)))⟩
  | .eql => ⟨True, .d (.lit (.bool (a.toList == b.toList)))⟩
  | .neq => ⟨True, .d (.lit (.bool (!(a.toList == b.toList))))⟩
  | .lss => ⟨True, .d (.lit (.bool (Op.bytesLess a.toList b.toList)))⟩
  | .gtr => ⟨True, .d (.lit (.bool (!(Op.bytesLess a.toList b.toList || (a.toList == b.toList)))))⟩
  | .leq => ⟨True, .d (.lit (.bool (Op.bytesLess a.toList b.toList || (a.toList == b.toList))))⟩
  | .geq => ⟨True, .d (.lit (.bool (!(Op.bytesLess a.toList b.toList))))⟩
  | _ => fails
def boolRes (P : Program) (t : TypeId) (op : BinOp) (a b : Bool) : PV := match op with
  | .eql => ⟨P.underlying t = some .bool, .d (.lit (.bool (a == b)))⟩
  | .neq => ⟨P.underlying t = some .bool, .d (.lit (.bool (!(a == b))))⟩
  | _ => fails

def sub (cells : List AV) (off n : Nat) (agg : Bool) : PV :=
  if agg then ⟨off + n ≤ cells.length, .agg ((cells.drop off).take n)⟩ else ⟨off < cells.length, cells.getD off .bad⟩

def at_ (xs : List (List AV)) (i : Int) : PV := ⟨0 ≤ i ∧ i < (xs.length : Int), .pp (xs.getD i.toNat [])⟩

/-- A slice's elements, if it is one. -/
def elems : AV → Option (Nat × List (List AV))
  | .d (.sl s xs) => some (s, xs.map (·.map .d))
  | .own _ s xs => some (s, xs.map (·.map .d))
  | .psl s xs => some (s, xs)
  | .nil => some (0, [])
  | _ => none
def lenOf : AV → Option (Nat × Bool)
  | .d (.sl _ xs) => some (xs.length, false)
  | .own _ _ xs => some (xs.length, false)
  | .psl _ xs => some (xs.length, false)
  | .nil => some (0, false)
  | .d (.lit (.string s)) => some (s.size, true)
  | _ => none
def lenTy (P : Program) (t : TypeId) (str : Bool) : Prop := match P.underlying t, str with
  | some (.slice _), false => True
  | some .string, true => True
  | _, _ => False

/-- No method of a nil pointer stands behind this interface value. -/
def NilOk (P : Program) (t : TypeId) (v : Value) (name : String) : Prop := ∀ w : World, (nilAhead (P.types.size + Made.depth) t v name).run P w = .ok (some false) w

def checked (P : Program) : AV → PV
  | .ptr id off => ⟨True, .ptr id off⟩
  | .pp cs => ⟨True, .pp cs⟩
  | .ifc t v => ⟨True, .ifc t v⟩
  | .fn (.method name) [.ifc t (.agg [])] [] => ⟨NilOk P t (.agg #[]) name, .fn (.method name) [.ifc t (.agg [])] []⟩
  | .fn (.func f) fs cs => ⟨True, .fn (.func f) fs cs⟩
  | _ => fails

def isLenB : Builtin → Bool
  | .len => true
  | _ => false

def evCall (P : Program) (tm : Nat → AV) (callee : Callee) (args : List Operand) (tys : List TypeId) : PV := match callee, args, tys with
  | .builtin b, [x], [t] => (match isLenB b, lenOf (opnd tm x) with
    | true, some (n, str) => ⟨opOk x = true ∧ lenTy P t str, .d (.lit (.int .i64 n))⟩
    | _, _ => fails)
  | _, _, _ => fails

def ev (P : Program) (tm : Nat → AV) : Op → PV
  | .move x | .assign x => ⟨opOk x = true, opnd tm x⟩
  | .pick c x y => (match opnd tm c with
    | .d (.lit (.bool b)) => ⟨opOk x = true ∧ opOk y = true ∧ opOk c = true, if b then opnd tm x else opnd tm y⟩
    | _ => fails)
  | .nilCheck x => ⟨opOk x = true ∧ (checked P (opnd tm x)).ok, (checked P (opnd tm x)).v⟩
  | .binOp op t x y _ => (match opnd tm x, opnd tm y with
    | .d (.lit (.int k a)), .d (.lit (.int k' b)) => ⟨opOk x = true ∧ opOk y = true ∧ k = k' ∧ (intRes op k a b).ok, (intRes op k a b).v⟩
    | .d (.lit (.string a)), .d (.lit (.string b)) => ⟨opOk x = true ∧ opOk y = true ∧ (strRes op a b).ok, (strRes op a b).v⟩
    | .d (.lit (.bool a)), .d (.lit (.bool b)) => ⟨opOk x = true ∧ opOk y = true ∧ (boolRes P t op a b).ok, (boolRes P t op a b).v⟩
    | _, _ => fails)
  | .unOp op _ x => (match op, opnd tm x with
    | .not, .d (.lit (.bool b)) => ⟨opOk x = true, .d (.lit (.bool (!b)))⟩
    | .neg, .d (.lit (.int k n)) => ⟨opOk x = true, .d (.lit (.int k (k.wrap (0 - n))))⟩
    | _, _ => fails)
  | .fieldAddr s x f => (match (flds P s)[f]?, opnd tm x with
    | some (off, some (n, _)), .ptr id o => ⟨opOk x = true ∧ n ≠ 0, .ptr id (o + off)⟩
    | some (off, some (n, _)), .pp cs => ⟨opOk x = true ∧ n ≠ 0, .pp (cs.drop off)⟩
    | _, _ => fails)
  | .field s x f => (match (flds P s)[f]?, opnd tm x with
    | some (off, some (n, a)), .agg cs => ⟨opOk x = true ∧ (sub cs off n a).ok, (sub cs off n a).v⟩
    | _, _ => fails)
  | .indexAddr t x i => (match elT P t, elems (opnd tm x), opnd tm i with
    | some (_, n, _), some (s, xs), .d (.lit (.int _ k)) => ⟨opOk x = true ∧ opOk i = true ∧ n = s ∧ (at_ xs k).ok, (at_ xs k).v⟩
    | _, _, _ => fails)
  | .index t x i => (match opnd tm x, opnd tm i with
    | .d (.lit (.string s)), .d (.lit (.int _ k)) => ⟨opOk x = true ∧ opOk i = true ∧ P.underlying t = some .string ∧ 0 ≤ k ∧ k < s.size, .d (.lit (.int .u8 (((s.data.toList).getD k.toNat 0).toNat)))⟩
    | _, _ => fails)
  | .extract x i => (match opnd tm x with
    | .tup vs => ⟨opOk x = true ∧ i < vs.length, vs.getD i .bad⟩
    | _ => fails)
  | .makeFunc f fs cs => ⟨fs.toList.all opOk = true ∧ cs.toList.all opOk = true, .fn f (fs.toList.map (opnd tm)) (cs.toList.map (opnd tm))⟩
  | .makeInterface t x => ⟨opOk x = true ∧ (match P.underlying t with | some (.interface _) => False | some _ => True | none => False), .ifc t (opnd tm x)⟩
  | .load t x => (match tsz P t, opnd tm x with
    | some (n, a), .pp cs => ⟨opOk x = true ∧ (sub cs 0 n a).ok, (sub cs 0 n a).v⟩
    | _, _ => fails)
  | .call c => evCall P tm c.callee c.args.toList c.argTypes.toList
  | _ => fails

end Go.AW
