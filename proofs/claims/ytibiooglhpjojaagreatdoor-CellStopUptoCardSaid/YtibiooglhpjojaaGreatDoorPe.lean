/- Typed functions from trees. · Typed operations say what the rows say. · A tree as a typed function. · A chain of functions: contracts, what they give, what they are as typed functions. · A universe by a list of structures; tables by lists. · The library's strconv.Itoa in a chain. · Loops of typed functions. · Guards: values that are there only where something holds. · What a row's reading of the arguments gives: abstract values; and the row's end. · The row's end for a law: from what its function does to what the row says. · From a chain to a law: arguments that are data. · The library's table, out of what a row says of listed variables. -/
import Derived.Test.YtibiooglhpjojaaGreatDoorPb
import Derived.Test.YtibiooglhpjojaaGreatDoorPd
import Derived.Sort.Grow
import Derived.Deep.Draws
import Derived.Below
import Derived.ChangeSame
import Derived.ChangeReads
import Derived.WideKeyArgs
import Derived.ProofKit
import Derived.OpenShut
set_option linter.unusedSimpArgs false
set_option linter.unusedVariables false
namespace Go.AW
open Go.RowKit

inductive Ty where
  | ik (k : IntKind)
  | bool
  | str
  | li (t : Ty)
  | st (n : Nat)
  | opt (t : Ty)
  deriving DecidableEq

/-- Types of data: what they are in Lean, their rows. -/
structure Uni where
  S : Nat → Type
  e : (m : Nat) → S m → Row
  sz : Nat → Nat
  hsz : ∀ m x, (e m x).length = sz m

abbrev Ty.T (U : Uni) : Ty → Type
  | .ik _ => Int
  | .bool => Bool
  | .str => ByteArray
  | .li t => List (t.T U)
  | .st n => U.S n
  | .opt t => Option (t.T U)
def Ty.sz (U : Uni) : Ty → Nat
  | .st n => U.sz n
  | .opt _ => 0
  | .ik _ | .bool | .str | .li _ => 1
def Ty.e (U : Uni) : (t : Ty) → t.T U → Row
  | .ik k, x => [.lit (.int k x)]
  | .bool, x => [.lit (.bool x)]
  | .str, x => [.lit (.string x)]
  | .li t, xs => [slv (t.sz U) (List.map (t.e U) xs)]
  | .st n, x => U.e n x
  | .opt t, x => match x with
    | none => []
    | some x => t.e U x
def Ty.pl : Ty → Bool
  | .opt _ => false
  | .ik _ | .bool | .str | .li _ | .st _ => true
theorem Ty.e_len (U : Uni) {t : Ty} (h : t.pl = true) (x : t.T U) : (t.e U x).length = t.sz U := by
  cases t with
  | st n => exact U.hsz n x
  | opt t => simp [Ty.pl] at h
  | ik k => rfl
  | bool => rfl
  | str => rfl
  | li t => rfl

structure GetE (U : Uni) (m : Nat) where
  off : Nat
  n : Nat
  t : Ty
  f : U.S m → t.T U
  ok : ∀ x, off + n ≤ (U.e m x).length ∧ ((U.e m x).drop off).take n = t.e U (f x)
structure SetE (U : Uni) (m : Nat) where
  off : Nat
  t : Ty
  f : U.S m → t.T U → U.S m
  ok : ∀ x y, off + (t.e U y).length ≤ (U.e m x).length ∧ splice (U.e m x) off (t.e U y) = U.e m (f x y)
structure EqE (U : Uni) (m : Nat) where
  ks : List Nat
  f : U.S m → U.S m → Bool
  ok : ∀ x y, eqR ks (U.e m x) (U.e m y) = some (f x y)
structure Tabs (U : Uni) where
  get : (m : Nat) → List (GetE U m)
  set : (m : Nat) → List (SetE U m)
  eq : (m : Nat) → Option (EqE U m)

def Env (U : Uni) : List Ty → Type
  | [] => Unit
  | t :: ts => t.T U × Env U ts
def Env.rows (U : Uni) : (ts : List Ty) → Env U ts → List Row
  | [], _ => []
  | t :: ts, e => t.e U e.1 :: Env.rows U ts e.2
def pushT : List Ty → List Ty → List Ty
  | [], ts => ts
  | t :: l, ts => pushT l (t :: ts)
def push (U : Uni) : (l ts : List Ty) → Env U l → Env U ts → Env U (pushT l ts)
  | [], _, _, e => e
  | t :: l, ts, v, e => push U l (t :: ts) v.2 (v.1, e)
def pushTo : List Ty → List Ty → List Ty
  | [], ts => ts
  | t :: l, ts => pushTo l (.opt t :: ts)
def pusho (U : Uni) : (l ts : List Ty) → Option (Env U l) → Env U ts → Env U (pushTo l ts)
  | [], _, _, e => e
  | t :: l, ts, r, e => pusho U l (.opt t :: ts) (r.map fun (x : Env U (t :: l)) => x.2) (r.map fun (x : Env U (t :: l)) => x.1, e)

/-- A typed atom: what it is where it is there. -/
structure TA (U : Uni) (ts : List Ty) where
  t : Ty
  f : Env U ts → Option (t.T U)

def lookT (U : Uni) : (ts : List Ty) → Nat → Option (TA U ts)
  | [], _ => none
  | .opt t :: _, 0 => some ⟨t, fun e => e.1⟩
  | .ik k :: _, 0 => some ⟨.ik k, fun e => some e.1⟩
  | .bool :: _, 0 => some ⟨.bool, fun e => some e.1⟩
  | .str :: _, 0 => some ⟨.str, fun e => some e.1⟩
  | .li t :: _, 0 => some ⟨.li t, fun e => some e.1⟩
  | .st n :: _, 0 => some ⟨.st n, fun e => some e.1⟩
  | _ :: ts, j + 1 => match lookT U ts j with
    | some a => some ⟨a.t, fun e => a.f e.2⟩
    | none => none
abbrev Hs (U : Uni) := List (Sigma fun t : Ty => t.T U)
def atT (U : Uni) (ts : List Ty) (n : Nat) (hs : Hs U) : At → Option (TA U ts × Hs U)
  | .v i => if i < n then (match lookT U ts (n - 1 - i) with
    | some a => some (a, hs)
    | none => none) else none
  | .c [.lit (.int k x)] => some (⟨.ik k, fun _ => some x⟩, hs)
  | .c [.lit (.bool x)] => some (⟨.bool, fun _ => some x⟩, hs)
  | .c [.lit (.string x)] => some (⟨.str, fun _ => some x⟩, hs)
  | .c r => match hs with
    | [] => none
    | h :: hs => if eqRow (h.1.e U h.2) r = true then some (⟨h.1, fun _ => some h.2⟩, hs) else none
def atsT (U : Uni) (ts : List Ty) (n : Nat) : Hs U → List At → Option (List (TA U ts) × Hs U)
  | hs, [] => some ([], hs)
  | hs, a :: as => match atT U ts n hs a with
    | some (x, hs) => (match atsT U ts n hs as with
      | some (xs, hs) => some (x :: xs, hs)
      | none => none)
    | none => none

/-- A typed atom tells of a row. -/
def TA.of {U : Uni} {ts : List Ty} (A : TA U ts) (e : Env U ts) (r : Row) : Prop := ∀ x, A.f e = some x → r = A.t.e U x

theorem lookT_ok (U : Uni) : ∀ (ts : List Ty) (j : Nat) (A : TA U ts), lookT U ts j = some A → ∀ e, ∃ r, (Env.rows U ts e)[j]? = some r ∧ A.of e r
  | [], _, _, h, _ => by simp [lookT] at h
  | t :: ts, 0, A, h, e => by
    refine ⟨t.e U e.1, rfl, ?_⟩
    cases t <;> simp only [lookT, Option.some.injEq] at h <;> subst h <;> intro x hx
    case opt t => simp only at hx; simp only [Ty.e]; rw [hx]
    all_goals (simp only [Option.some.injEq] at hx; subst hx; rfl)
  | t :: ts, j + 1, A, h, e => by
    have h' : (match lookT U ts j with
      | some a => some (⟨a.t, fun e => a.f e.2⟩ : TA U (t :: ts))
      | none => none) = some A := by cases t <;> exact h
    cases hl : lookT U ts j with
    | none => simp [hl] at h'
    | some a =>
      simp only [hl, Option.some.injEq] at h'; subst h'
      have ⟨r, h1, h2⟩ := lookT_ok U ts j a hl e.2
      exact ⟨r, h1, fun x hx => h2 x hx⟩
theorem rows_len (U : Uni) : ∀ (ts : List Ty) (e : Env U ts), (Env.rows U ts e).length = ts.length
  | [], _ => rfl
  | _ :: ts, e => by simp [Env.rows, rows_len U ts e.2]
theorem rev_get {α : Type} (l : List α) (i n : Nat) (hn : n = l.length) (hi : i < n) : l.reverse[i]? = l[n - 1 - i]? := by
  subst hn; rw [List.getElem?_reverse hi]
theorem atT_ok (U : Uni) (ts : List Ty) (n : Nat) (hn : n = ts.length) (hs : Hs U) (a : At) (A : TA U ts) (hs' : Hs U) (h : atT U ts n hs a = some (A, hs')) (e : Env U ts) :
    ∃ r, a.ev (Env.rows U ts e).reverse = some r ∧ A.of e r := by
  unfold atT at h
  split at h
  · rename_i i
    split at h
    · rename_i hi
      split at h
      · rename_i A' hl
        simp only [Option.some.injEq, Prod.mk.injEq] at h
        obtain ⟨rfl, _⟩ := h
        have ⟨r, h1, h2⟩ := lookT_ok U ts _ _ hl e
        exact ⟨r, by simp only [At.ev]; rw [rev_get _ i n (by rw [hn, rows_len]) hi]; exact h1, h2⟩
      · simp at h
    · simp at h
  · simp only [Option.some.injEq, Prod.mk.injEq] at h
    obtain ⟨rfl, _⟩ := h
    exact ⟨_, rfl, fun x hx => by cases hx; rfl⟩
  · simp only [Option.some.injEq, Prod.mk.injEq] at h
    obtain ⟨rfl, _⟩ := h
    exact ⟨_, rfl, fun x hx => by cases hx; rfl⟩
  · simp only [Option.some.injEq, Prod.mk.injEq] at h
    obtain ⟨rfl, _⟩ := h
    exact ⟨_, rfl, fun x hx => by cases hx; rfl⟩
  · split at h
    · simp at h
    · split at h
      · rename_i hq
        simp only [Option.some.injEq, Prod.mk.injEq] at h
        obtain ⟨rfl, _⟩ := h
        exact ⟨_, rfl, fun x hx => by cases hx; exact (eqRow_eq hq).symm⟩
      · simp at h

/-- Of a list of atoms. -/
def TAs.of {U : Uni} {ts : List Ty} (e : Env U ts) : List (TA U ts) → List Row → Prop
  | [], [] => True
  | A :: As, r :: rs => A.of e r ∧ TAs.of e As rs
  | _, _ => False
theorem atsT_ok (U : Uni) (ts : List Ty) (n : Nat) (hn : n = ts.length) : ∀ (as : List At) (hs : Hs U) (As : List (TA U ts)) (hs' : Hs U), atsT U ts n hs as = some (As, hs') → ∀ e : Env U ts,
    ∃ rs, evs (Env.rows U ts e).reverse as = some rs ∧ TAs.of e As rs
  | [], hs, As, hs', h, e => by
    simp only [atsT, Option.some.injEq, Prod.mk.injEq] at h
    obtain ⟨rfl, _⟩ := h
    exact ⟨[], rfl, trivial⟩
  | a :: as, hs, As, hs', h, e => by
    simp only [atsT] at h
    split at h
    · rename_i x hs1 h1
      split at h
      · rename_i xs hs2 h2
        simp only [Option.some.injEq, Prod.mk.injEq] at h
        obtain ⟨rfl, _⟩ := h
        have ⟨r, h3, h4⟩ := atT_ok U ts n hn hs a x hs1 h1 e
        have ⟨rs, h5, h6⟩ := atsT_ok U ts n hn as hs1 xs hs2 h2 e
        exact ⟨r :: rs, by simp [evs, h3, h5], h4, h6⟩
      · simp at h
    · simp at h

-- operations
def w1 {U : Uni} {ts : List Ty} {α β : Type} (a : Env U ts → Option α) (f : α → Option β) : Env U ts → Option β := fun e => (a e).bind f
def w2 {U : Uni} {ts : List Ty} {α β γ : Type} (a : Env U ts → Option α) (b : Env U ts → Option β) (f : α → β → Option γ) : Env U ts → Option γ := fun e => (a e).bind fun x => (b e).bind fun y => f x y
def w3 {U : Uni} {ts : List Ty} {α β γ δ : Type} (a : Env U ts → Option α) (b : Env U ts → Option β) (c : Env U ts → Option γ) (f : α → β → γ → Option δ) : Env U ts → Option δ := fun e => (a e).bind fun x => (b e).bind fun y => (c e).bind fun z => f x y z
def intT (U : Uni) (ts : List Ty) (op : BinOp) (k : IntKind) (a b : Env U ts → Option Int) : Option (TA U ts) := match op with
  | .add => some ⟨.ik k, w2 a b fun x y => some (k.wrap (x + y))⟩
  | .sub => some ⟨.ik k, w2 a b fun x y => some (k.wrap (x - y))⟩
  | .mul => some ⟨.ik k, w2 a b fun x y => some (k.wrap (x * y))⟩
  | .quo => some ⟨.ik k, w2 a b fun x y => if y = 0 then none else some (k.wrap (x.tdiv y))⟩
  | .rem => some ⟨.ik k, w2 a b fun x y => if y = 0 then none else some (x.tmod y)⟩
  | .eql => some ⟨.bool, w2 a b fun x y => some (x == y)⟩
  | .neq => some ⟨.bool, w2 a b fun x y => some (x != y)⟩
  | .lss => some ⟨.bool, w2 a b fun x y => some (decide (x < y))⟩
  | .leq => some ⟨.bool, w2 a b fun x y => some (decide (x ≤ y))⟩
  | .gtr => some ⟨.bool, w2 a b fun x y => some (decide (x > y))⟩
  | .geq => some ⟨.bool, w2 a b fun x y => some (decide (x ≥ y))⟩
  | _ => none
def strT (U : Uni) (ts : List Ty) (op : BinOp) (a b : Env U ts → Option ByteArray) : Option (TA U ts) := match op with
  | .add => some ⟨.str, w2 a b fun x y => if x.size + y.size ≤ 9223372036854775807 then some (x ++ y) else none⟩
  | .eql => some ⟨.bool, w2 a b fun x y => some (x.toList == y.toList)⟩
  | .neq => some ⟨.bool, w2 a b fun x y => some (!(x.toList == y.toList))⟩
  | .lss => some ⟨.bool, w2 a b fun x y => some (Op.bytesLess x.toList y.toList)⟩
  | .gtr => some ⟨.bool, w2 a b fun x y => some (!(Op.bytesLess x.toList y.toList || (x.toList == y.toList)))⟩
  | .leq => some ⟨.bool, w2 a b fun x y => some (Op.bytesLess x.toList y.toList || (x.toList == y.toList))⟩
  | .geq => some ⟨.bool, w2 a b fun x y => some (!(Op.bytesLess x.toList y.toList))⟩
  | _ => none
def bolT (U : Uni) (ts : List Ty) (op : BinOp) (a b : Env U ts → Option Bool) : Option (TA U ts) := match op with
  | .eql => some ⟨.bool, w2 a b fun x y => some (x == y)⟩
  | .neq => some ⟨.bool, w2 a b fun x y => some (!(x == y))⟩
  | _ => none
def castT {U : Uni} {s t : Ty} (h : s = t) (x : s.T U) : t.T U := h ▸ x
def castS {U : Uni} {m n : Nat} (h : m = n) (x : U.S m) : U.S n := h ▸ x
def scal : Ty → Bool
  | .ik _ | .bool | .str => true
  | .li _ | .st _ | .opt _ => false
def mkT (U : Uni) (ts : List Ty) (t : Ty) : List (TA U ts) → Option (Env U ts → Option (List (t.T U)))
  | [] => some fun _ => some []
  | A :: As => if h : A.t = t then (match mkT U ts t As with
    | some g => some fun e => (A.f e).bind fun x => (g e).bind fun xs => some (castT h x :: xs)
    | none => none) else none
def findG {U : Uni} {m : Nat} (off n : Nat) : List (GetE U m) → Option (GetE U m)
  | [] => none
  | g :: l => if (Nat.beq g.off off && Nat.beq g.n n) = true then some g else findG off n l
def findS {U : Uni} {m : Nat} (off : Nat) (t : Ty) : List (SetE U m) → Option (SetE U m)
  | [] => none
  | g :: l => if (Nat.beq g.off off && decide (t = g.t)) = true then some g else findS off t l
def appT {U : Uni} {ts : List Ty} {t : Ty} (b : Nat) (a c : Env U ts → Option (List (t.T U))) : Env U ts → Option (List (t.T U)) := w2 a c fun x y => if x.length + y.length ≤ 9223372036854775807 ∧ (x.length + y.length) * b ≤ 140737488355328 then some (x ++ y) else none
def castF {U : Uni} {ts : List Ty} {s t : Ty} (h : s = t) (f : Env U ts → Option (List (s.T U))) : Env U ts → Option (List (t.T U)) := fun e => (f e).bind fun y => some (castT (congrArg Ty.li h) y)
def opT (U : Uni) (tb : Tabs U) (ts : List Ty) (f : Fo) (as : List (TA U ts)) : Option (TA U ts) := match f, as with
  | .get 0 n, [⟨.ik k, a⟩] => if Nat.beq n 1 = true then some ⟨.ik k, a⟩ else none
  | .get 0 n, [⟨.bool, a⟩] => if Nat.beq n 1 = true then some ⟨.bool, a⟩ else none
  | .get 0 n, [⟨.str, a⟩] => if Nat.beq n 1 = true then some ⟨.str, a⟩ else none
  | .get 0 n, [⟨.li t, a⟩] => if Nat.beq n 1 = true then some ⟨.li t, a⟩ else none
  | .get off n, [⟨.st m, a⟩] => (match findG off n (tb.get m) with
    | some g => some ⟨g.t, w1 a fun x => some (g.f x)⟩
    | none => if (Nat.beq off 0 && Nat.beq n (U.sz m)) = true then some ⟨.st m, a⟩ else none)
  | .set off, [⟨.st m, a⟩, ⟨t, b⟩] => (match findS off t (tb.set m) with
    | some g => if h : t = g.t then some ⟨.st m, w2 a b fun x y => some (g.f x (castT h y))⟩ else none
    | none => none)
  | .bin op, [⟨.ik k, a⟩, ⟨.ik k', b⟩] => if k = k' then intT U ts op k a b else none
  | .bin op, [⟨.str, a⟩, ⟨.str, b⟩] => strT U ts op a b
  | .bbin op, [⟨.bool, a⟩, ⟨.bool, b⟩] => bolT U ts op a b
  | .asb, [⟨.bool, a⟩] => some ⟨.bool, w1 a fun (x : Bool) => some x⟩
  | .neg, [⟨.ik k, a⟩] => some ⟨.ik k, w1 a fun (x : Int) => some (k.wrap (0 - x))⟩
  | .not, [⟨.bool, a⟩] => some ⟨.bool, w1 a fun (x : Bool) => some (!x)⟩
  | .and, [⟨.bool, a⟩, ⟨.bool, b⟩] => some ⟨.bool, fun e => (a e).bind fun (x : Bool) => if x = true then b e else some false⟩
  | .andn, [⟨.bool, a⟩, ⟨.bool, b⟩] => some ⟨.bool, fun e => (a e).bind fun (x : Bool) => if x = true then (b e).bind fun (y : Bool) => some (!y) else some false⟩
  | .eqr ne ks, [⟨.st m, a⟩, ⟨.st m', b⟩] => if h : m' = m then (match tb.eq m with
    | some q => if q.ks = ks then some ⟨.bool, w2 a b fun (x : U.S m) (y : U.S m') => some (q.f x (castS h y) != ne)⟩ else none
    | none => none) else none
  | .len, [⟨.li t, a⟩] => some ⟨.ik .i64, w1 a fun (x : List (t.T U)) => some (x.length : Int)⟩
  | .slen, [⟨.str, a⟩] => some ⟨.ik .i64, w1 a fun (x : ByteArray) => some (x.size : Int)⟩
  | .idx n, [⟨.li t, a⟩, ⟨.ik _, b⟩] => if Nat.beq (t.sz U) n = true then some ⟨t, w2 a b fun (x : List (t.T U)) (i : Int) => if 0 ≤ i ∧ i < (x.length : Int) then x[i.toNat]? else none⟩ else none
  | .sidx, [⟨.str, a⟩, ⟨.ik _, b⟩] => some ⟨.ik .u8, w2 a b fun (x : ByteArray) (i : Int) => if 0 ≤ i ∧ i < (x.size : Int) then some ((((x.data.toList).getD i.toNat 0).toNat : Nat) : Int) else none⟩
  | .scut, [⟨.str, a⟩, ⟨.ik _, b⟩, ⟨.ik _, c⟩] => some ⟨.str, w3 a b c fun (x : ByteArray) (l h : Int) => if 0 ≤ l ∧ l ≤ h ∧ h ≤ (x.size : Int) then some (x.extract l.toNat h.toNat) else none⟩
  | .cut n, [⟨.li t, a⟩, ⟨.ik _, b⟩, ⟨.ik _, c⟩] => if Nat.beq (t.sz U) n = true then some ⟨.li t, w3 a b c fun (x : List (t.T U)) (l h : Int) => if 0 ≤ l ∧ l ≤ h ∧ h ≤ (x.length : Int) then some ((x.take h.toNat).drop l.toNat) else none⟩ else none
  | .app n b, [⟨.li t, a⟩, ⟨.li t', c⟩] => if h : t' = t then (if (Nat.beq (t.sz U) n && t.pl) = true then
      some ⟨.li t, appT b a (castF h c)⟩ else none) else none
  | .mk n, A :: As => if (Nat.beq (A.t.sz U) n && A.t.pl) = true then (match mkT U ts A.t (A :: As) with
    | some g => some ⟨.li A.t, g⟩
    | none => none) else none
  | .pick, [⟨.bool, c⟩, ⟨t, a⟩, ⟨t', b⟩] => if h : t' = t then (if scal t = true then some ⟨t, fun e => (c e).bind fun (x : Bool) => if x = true then a e else (b e).bind fun y => some (castT h y)⟩ else none) else none
  | .mm mx, [⟨.ik k, a⟩, ⟨.ik k', b⟩] => if k = k' then some ⟨.ik k, w2 a b fun (x y : Int) => some (if mx = true then max x y else min x y : Int)⟩ else none
  | _, _ => none
end Go.AW

namespace Go.AW
open Go.RowKit

theorem w1_some {U : Uni} {ts : List Ty} {α β : Type} {a : Env U ts → Option α} {f : α → Option β} {e : Env U ts} {v : β} (h : w1 a f e = some v) : ∃ x, a e = some x ∧ f x = some v := by
  simp only [w1] at h; cases ha : a e with
  | none => simp [ha] at h
  | some x => exact ⟨x, rfl, by simpa [ha] using h⟩
theorem w2_some {U : Uni} {ts : List Ty} {α β γ : Type} {a : Env U ts → Option α} {b : Env U ts → Option β} {f : α → β → Option γ} {e : Env U ts} {v : γ} (h : w2 a b f e = some v) : ∃ x y, a e = some x ∧ b e = some y ∧ f x y = some v := by
  simp only [w2] at h; cases ha : a e with
  | none => simp [ha] at h
  | some x => cases hb : b e with
    | none => simp [ha, hb] at h
    | some y => exact ⟨x, y, rfl, rfl, by simpa [ha, hb] using h⟩
theorem w3_some {U : Uni} {ts : List Ty} {α β γ δ : Type} {a : Env U ts → Option α} {b : Env U ts → Option β} {c : Env U ts → Option γ} {f : α → β → γ → Option δ} {e : Env U ts} {v : δ} (h : w3 a b c f e = some v) : ∃ x y z, a e = some x ∧ b e = some y ∧ c e = some z ∧ f x y z = some v := by
  simp only [w3] at h; cases ha : a e with
  | none => simp [ha] at h
  | some x => cases hb : b e with
    | none => simp [ha, hb] at h
    | some y => cases hc : c e with
      | none => simp [ha, hb, hc] at h
      | some z => exact ⟨x, y, z, rfl, rfl, rfl, by simpa [ha, hb, hc] using h⟩
theorem intT_ok (U : Uni) (ts : List Ty) {op : BinOp} {k : IntKind} {a b : Env U ts → Option Int} {O : TA U ts} (h : intT U ts op k a b = some O) {e : Env U ts} {x y : Int} (ha : a e = some x) (hb : b e = some y) {v : O.t.T U} (hv : O.f e = some v) :
    intO op k x y = some (O.t.e U v) := by
  cases op <;> simp only [intT, Option.some.injEq, reduceCtorEq] at h <;> subst h <;> simp only [w2, ha, hb, Option.bind_some] at hv
  case quo => split at hv; · simp at hv
              · rename_i hn; cases hv; simp only [intO, if_neg hn]; rfl
  case rem => split at hv; · simp at hv
              · rename_i hn; cases hv; simp only [intO, if_neg hn]; rfl
  all_goals (cases hv; rfl)
theorem strT_ok (U : Uni) (ts : List Ty) {op : BinOp} {a b : Env U ts → Option ByteArray} {O : TA U ts} (h : strT U ts op a b = some O) {e : Env U ts} {x y : ByteArray} (ha : a e = some x) (hb : b e = some y) {v : O.t.T U} (hv : O.f e = some v) :
    strO op x y = some (O.t.e U v) := by
  cases op <;> simp only [strT, Option.some.injEq, reduceCtorEq] at h <;> subst h <;> simp only [w2, ha, hb, Option.bind_some] at hv
  case add => split at hv
              · rename_i hn; cases hv; simp only [strO, if_pos hn]; rfl
              · simp at hv
  all_goals (cases hv; rfl)
theorem bolT_ok (U : Uni) (ts : List Ty) {op : BinOp} {a b : Env U ts → Option Bool} {O : TA U ts} (h : bolT U ts op a b = some O) {e : Env U ts} {x y : Bool} (ha : a e = some x) (hb : b e = some y) {v : O.t.T U} (hv : O.f e = some v) :
    boolO op x y = some (O.t.e U v) := by
  cases op <;> simp only [bolT, Option.some.injEq, reduceCtorEq] at h <;> subst h <;> simp only [w2, ha, hb, Option.bind_some] at hv
  all_goals (cases hv; rfl)
theorem findG_ok {U : Uni} {m off n : Nat} : ∀ {l : List (GetE U m)} {g : GetE U m}, findG off n l = some g → g.off = off ∧ g.n = n
  | [], g, h => by simp [findG] at h
  | x :: l, g, h => by
    simp only [findG] at h
    split at h
    · rename_i hc; cases h; rw [Bool.and_eq_true] at hc; exact ⟨Nat.eq_of_beq_eq_true hc.1, Nat.eq_of_beq_eq_true hc.2⟩
    · exact findG_ok h
theorem findS_ok {U : Uni} {m off : Nat} {t : Ty} : ∀ {l : List (SetE U m)} {g : SetE U m}, findS off t l = some g → g.off = off
  | [], g, h => by simp [findS] at h
  | x :: l, g, h => by
    simp only [findS] at h
    split at h
    · rename_i hc; cases h; rw [Bool.and_eq_true] at hc; exact Nat.eq_of_beq_eq_true hc.1
    · exact findS_ok h
theorem castT_e {U : Uni} {s t : Ty} (h : s = t) (x : s.T U) : t.e U (castT h x) = s.e U x := by subst h; rfl
theorem castS_e {U : Uni} {m n : Nat} (h : m = n) (x : U.S m) : U.e n (castS h x) = U.e m x := by subst h; rfl
theorem slv_map_ne {n : Nat} {α : Type} (f : α → List DV) (xs : List α) (h : xs ≠ []) : slv n (xs.map f) = .sl n (xs.map f) := by
  cases xs with
  | nil => exact absurd rfl h
  | cons x l => rfl
/-- An empty slice has one form. -/
theorem slv_cases {n : Nat} (xs : List Row) : ∃ s, slv n xs = .sl s xs ∧ (s = n ∨ xs = []) := by
  cases xs with
  | nil => exact ⟨0, rfl, .inr rfl⟩
  | cons x l => exact ⟨n, rfl, .inl rfl⟩
theorem mkT_ok {U : Uni} {ts : List Ty} (t : Ty) : ∀ (As : List (TA U ts)) (g : Env U ts → Option (List (t.T U))), mkT U ts t As = some g → ∀ (e : Env U ts) (rs : List Row), TAs.of e As rs → ∀ v, g e = some v → rs = v.map (t.e U)
  | [], g, h, e, rs, hr, v, hv => by
    simp only [mkT, Option.some.injEq] at h; subst h; cases hv
    cases rs with
    | nil => rfl
    | cons r rs => exact hr.elim
  | A :: As, g, h, e, rs, hr, v, hv => by
    simp only [mkT] at h
    split at h
    · rename_i hc
      split at h
      · rename_i g' hg
        simp only [Option.some.injEq] at h; subst h
        cases rs with
        | nil => exact hr.elim
        | cons r rs =>
          cases ha : A.f e with
          | none => simp [ha] at hv
          | some x =>
            cases hb : g' e with
            | none => simp [ha, hb] at hv
            | some xs =>
              simp only [ha, hb, Option.bind_some, Option.some.injEq] at hv; subst hv
              rw [List.map_cons, castT_e, ← hr.1 x ha, ← mkT_ok t As g' hg e rs hr.2 xs hb]
      · simp at h
    · simp at h
theorem all_len {U : Uni} {t : Ty} {n : Nat} (hp : t.pl = true) (hn : t.sz U = n) (xs : List (t.T U)) : ((xs.map (t.e U)).all fun y => y.length == n) = true := by
  simp only [List.all_map, List.all_eq_true, Function.comp]
  intro x _
  rw [Ty.e_len U hp, hn]; exact beq_self_eq_true n
theorem TAs1 {U : Uni} {ts : List Ty} {e : Env U ts} {A : TA U ts} {rs : List Row} (h : TAs.of e [A] rs) : ∃ r, rs = [r] ∧ A.of e r := by
  cases rs with
  | nil => exact h.elim
  | cons r rs => cases rs with
    | nil => exact ⟨r, rfl, h.1⟩
    | cons _ _ => exact h.2.elim
theorem TAs2 {U : Uni} {ts : List Ty} {e : Env U ts} {A B : TA U ts} {rs : List Row} (h : TAs.of e [A, B] rs) : ∃ r s, rs = [r, s] ∧ A.of e r ∧ B.of e s := by
  cases rs with
  | nil => exact h.elim
  | cons r rs => have ⟨s, hs, h2⟩ := TAs1 h.2; exact ⟨r, s, by rw [hs], h.1, h2⟩
theorem TAs3 {U : Uni} {ts : List Ty} {e : Env U ts} {A B C : TA U ts} {rs : List Row} (h : TAs.of e [A, B, C] rs) : ∃ r s t, rs = [r, s, t] ∧ A.of e r ∧ B.of e s ∧ C.of e t := by
  cases rs with
  | nil => exact h.elim
  | cons r rs => have ⟨s, t, hs, h2, h3⟩ := TAs2 h.2; exact ⟨r, s, t, by rw [hs], h.1, h2, h3⟩
theorem opT_ok (U : Uni) (tb : Tabs U) (ts : List Ty) (f : Fo) (As : List (TA U ts)) (O : TA U ts) (h : opT U tb ts f As = some O) (e : Env U ts) (rs : List Row) (hr : TAs.of e As rs) (v : O.t.T U) (hv : O.f e = some v) :
    evF f rs = some (O.t.e U v) := by
  unfold opT at h
  split at h
  · -- one
    rename_i n k a
    obtain ⟨r, rfl, h1⟩ := TAs1 hr
    split at h
    · rename_i hn
      obtain rfl := Nat.eq_of_beq_eq_true hn
      cases h
      have := h1 _ hv
      subst this
      simp [evF, Ty.e]
    · simp at h
  · -- one
    rename_i n a
    obtain ⟨r, rfl, h1⟩ := TAs1 hr
    split at h
    · rename_i hn
      obtain rfl := Nat.eq_of_beq_eq_true hn
      cases h
      have := h1 _ hv
      subst this
      simp [evF, Ty.e]
    · simp at h
  · -- one
    rename_i n a
    obtain ⟨r, rfl, h1⟩ := TAs1 hr
    split at h
    · rename_i hn
      obtain rfl := Nat.eq_of_beq_eq_true hn
      cases h
      have := h1 _ hv
      subst this
      simp [evF, Ty.e]
    · simp at h
  · -- one
    rename_i n t a
    obtain ⟨r, rfl, h1⟩ := TAs1 hr
    split at h
    · rename_i hn
      obtain rfl := Nat.eq_of_beq_eq_true hn
      cases h
      have := h1 _ hv
      subst this
      simp [evF, Ty.e]
    · simp at h
  · -- get
    rename_i off n m a
    obtain ⟨r, rfl, h1⟩ := TAs1 hr
    split at h
    · rename_i g hg
      cases h
      have ⟨x, hx, hfx⟩ := w1_some hv
      cases hfx
      have ⟨h2, h3⟩ := findG_ok hg
      have ⟨h4, h5⟩ := g.ok x
      have := h1 x hx
      subst this
      simp only [evF, Ty.e]
      rw [← h2, ← h3]
      erw [if_pos h4, h5]
    · split at h
      · rename_i hc
        rw [Bool.and_eq_true] at hc
        obtain rfl := Nat.eq_of_beq_eq_true hc.1
        obtain rfl := Nat.eq_of_beq_eq_true hc.2
        cases h
        have := h1 _ hv
        subst this
        have hl := U.hsz m v
        simp only [evF, Ty.e, List.drop_zero]
        erw [if_pos (by rw [hl]; omega), List.take_of_length_le (by rw [hl]; exact Nat.le_refl _)]
      · simp at h
  · -- set
    rename_i off m a t b
    obtain ⟨r, s, rfl, h1, h2⟩ := TAs2 hr
    split at h
    · rename_i g hg
      split at h
      · rename_i hc
        cases h
        have ⟨x, y, hx, hy, hfx⟩ := w2_some hv
        cases hfx
        have h3 := findS_ok hg
        have ⟨h4, h5⟩ := g.ok x (castT hc y)
        have e1 := h1 x hx
        have e2 := h2 y hy
        subst e1; subst e2
        rw [castT_e] at h4 h5
        simp only [evF, Ty.e]
        rw [← h3]
        erw [if_pos h4, h5]
      · simp at h
    · simp at h
  · -- int
    rename_i op k a k' b
    obtain ⟨r, s, rfl, h1, h2⟩ := TAs2 hr
    split at h
    · rename_i hk
      subst hk
      have : ∃ x y, a e = some x ∧ b e = some y := by
        cases op <;> simp only [intT, Option.some.injEq, reduceCtorEq] at h <;> subst h <;> (have ⟨x, y, hx, hy, _⟩ := w2_some hv; exact ⟨x, y, hx, hy⟩)
      obtain ⟨x, y, hx, hy⟩ := this
      have e1 := h1 x hx
      have e2 := h2 y hy
      subst e1; subst e2
      simp only [evF, Ty.e, binO, if_true]
      exact intT_ok U ts h hx hy hv
    · simp at h
  · -- str
    rename_i op a b
    obtain ⟨r, s, rfl, h1, h2⟩ := TAs2 hr
    have : ∃ x y, a e = some x ∧ b e = some y := by
      cases op <;> simp only [strT, Option.some.injEq, reduceCtorEq] at h <;> subst h <;> (have ⟨x, y, hx, hy, _⟩ := w2_some hv; exact ⟨x, y, hx, hy⟩)
    obtain ⟨x, y, hx, hy⟩ := this
    have e1 := h1 x hx
    have e2 := h2 y hy
    subst e1; subst e2
    simp only [evF, Ty.e, binO]
    exact strT_ok U ts h hx hy hv
  · -- bool
    rename_i op a b
    obtain ⟨r, s, rfl, h1, h2⟩ := TAs2 hr
    have : ∃ x y, a e = some x ∧ b e = some y := by
      cases op <;> simp only [bolT, Option.some.injEq, reduceCtorEq] at h <;> subst h <;> (have ⟨x, y, hx, hy, _⟩ := w2_some hv; exact ⟨x, y, hx, hy⟩)
    obtain ⟨x, y, hx, hy⟩ := this
    have e1 := h1 x hx
    have e2 := h2 y hy
    subst e1; subst e2
    simp only [evF, Ty.e]
    exact bolT_ok U ts h hx hy hv
  · -- asb
    obtain ⟨r, rfl, h1⟩ := TAs1 hr
    cases h
    have ⟨x, hx, hfx⟩ := w1_some hv
    cases hfx
    have := h1 _ hx
    subst this
    rfl
  · -- neg
    obtain ⟨r, rfl, h1⟩ := TAs1 hr
    cases h
    have ⟨x, hx, hfx⟩ := w1_some hv
    cases hfx
    have := h1 x hx
    subst this
    rfl
  · -- not
    obtain ⟨r, rfl, h1⟩ := TAs1 hr
    cases h
    have ⟨x, hx, hfx⟩ := w1_some hv
    cases hfx
    have := h1 x hx
    subst this
    rfl
  · -- and
    rename_i a b
    obtain ⟨r, s, rfl, h1, h2⟩ := TAs2 hr
    cases h
    simp only at hv
    cases hx : a e with
    | none => simp [hx] at hv
    | some x =>
      simp only [hx, Option.bind_some] at hv
      have e1 := h1 x hx
      subst e1
      cases x with
      | true =>
        simp only [if_true] at hv
        have e2 := h2 v hv
        subst e2
        rfl
      | false => simp only [Bool.false_eq_true, if_false, Option.some.injEq] at hv; subst hv; rfl
  · -- andn
    rename_i a b
    obtain ⟨r, s, rfl, h1, h2⟩ := TAs2 hr
    cases h
    simp only at hv
    cases hx : a e with
    | none => simp [hx] at hv
    | some x =>
      simp only [hx, Option.bind_some] at hv
      have e1 := h1 x hx
      subst e1
      cases x with
      | true =>
        simp only [if_true] at hv
        cases hy : b e with
        | none => simp [hy] at hv
        | some y =>
          simp only [hy, Option.bind_some, Option.some.injEq] at hv
          have e2 := h2 y hy
          subst e2; subst hv
          rfl
      | false => simp only [Bool.false_eq_true, if_false, Option.some.injEq] at hv; subst hv; rfl
  · -- eqr
    rename_i ne ks m a m' b
    obtain ⟨r, s, rfl, h1, h2⟩ := TAs2 hr
    split at h
    · rename_i hm
      split at h
      · rename_i q hq
        split at h
        · rename_i hk
          cases h
          have ⟨x, y, hx, hy, hfx⟩ := w2_some hv
          cases hfx
          have e1 := h1 x hx
          have e2 := h2 y hy
          subst e1; subst e2
          have := q.ok x (castS hm y)
          rw [castS_e] at this
          simp only [evF, Ty.e]
          rw [← hk]
          erw [this]; rfl
        · simp at h
      · simp at h
    · simp at h
  · -- len
    rename_i t a
    obtain ⟨r, rfl, h1⟩ := TAs1 hr
    cases h
    have ⟨x, hx, hfx⟩ := w1_some hv
    cases hfx
    have := h1 x hx
    subst this
    simp only [Ty.e]
    have ⟨s, hs, _⟩ := slv_cases (n := t.sz U) (List.map (t.e U) x)
    rw [hs]
    simp only [evF, List.length_map]
  · -- slen
    obtain ⟨r, rfl, h1⟩ := TAs1 hr
    cases h
    have ⟨x, hx, hfx⟩ := w1_some hv
    cases hfx
    have := h1 x hx
    subst this
    rfl
  · -- idx
    rename_i n t a k b
    obtain ⟨r, s, rfl, h1, h2⟩ := TAs2 hr
    split at h
    · rename_i hn
      have hn := Nat.eq_of_beq_eq_true hn
      cases h
      have ⟨x, i, hx, hi, hfx⟩ := w2_some hv
      have e1 := h1 x hx
      have e2 := h2 i hi
      subst e1; subst e2
      split at hfx
      · rename_i hb
        have hne : x ≠ [] := by intro h0; subst h0; simp at hb; omega
        simp only [Ty.e, slv_map_ne _ x hne, evF, List.length_map]
        rw [if_pos ⟨hn, hb.1, hb.2⟩]
        simp only [Option.some.injEq, List.getD_eq_getElem?_getD, List.getElem?_map, hfx, Option.map_some, Option.getD_some]
      · simp at hfx
    · simp at h
  · -- sidx
    obtain ⟨r, s, rfl, h1, h2⟩ := TAs2 hr
    cases h
    have ⟨x, i, hx, hi, hfx⟩ := w2_some hv
    have e1 := h1 x hx
    have e2 := h2 i hi
    subst e1; subst e2
    split at hfx
    · rename_i hb
      cases hfx
      simp only [Ty.e, evF, if_pos hb]
    · simp at hfx
  · -- scut
    obtain ⟨r, s, t, rfl, h1, h2, h3⟩ := TAs3 hr
    cases h
    have ⟨x, l, u, hx, hl, hu, hfx⟩ := w3_some hv
    have e1 := h1 x hx
    have e2 := h2 l hl
    have e3 := h3 u hu
    subst e1; subst e2; subst e3
    split at hfx
    · rename_i hb
      cases hfx
      simp only [Ty.e, evF, if_pos hb]
    · simp at hfx
  · -- cut
    rename_i n t a k b k' c
    obtain ⟨r, s, t', rfl, h1, h2, h3⟩ := TAs3 hr
    split at h
    · rename_i hn
      have hn := Nat.eq_of_beq_eq_true hn
      cases h
      have ⟨x, l, u, hx, hl, hu, hfx⟩ := w3_some hv
      have e1 := h1 x hx
      have e2 := h2 l hl
      have e3 := h3 u hu
      subst e1; subst e2; subst e3
      split at hfx
      · rename_i hb
        cases hfx
        have ⟨s, hs, hs'⟩ := slv_cases (n := t.sz U) (List.map (t.e U) x)
        simp only [Ty.e, hs, evF, List.length_map]
        rw [if_pos ⟨by rw [← hn]; exact hs', hb.1, hb.2.1, hb.2.2⟩, hn, List.map_drop, List.map_take]
      · simp at hfx
    · simp at h
  · -- app
    rename_i n b t a t' c
    obtain ⟨r, s, rfl, h1, h2⟩ := TAs2 hr
    split at h
    · rename_i ht
      subst ht
      split at h
      · rename_i hc
        rw [Bool.and_eq_true] at hc
        have hn := Nat.eq_of_beq_eq_true hc.1
        cases h
        have hv2 : appT b a (castF rfl c) e = some v := hv
        have ⟨x, y, hx, hy, hfx⟩ := w2_some hv2
        have hy : (c e).bind (fun y => some y) = some y := hy
        cases hcy : c e with
        | none => simp [hcy] at hy
        | some y' =>
          simp only [hcy, Option.bind_some, Option.some.injEq] at hy
          have hy : y' = y := hy
          subst hy
          have e1 := h1 x hx
          have e2 := h2 y' hcy
          subst e1; subst e2
          split at hfx
          · rename_i hb
            cases hfx
            have ⟨s1, hs, hs'⟩ := slv_cases (n := t'.sz U) (List.map (t'.e U) x)
            have ⟨s2, hq, hq'⟩ := slv_cases (n := t'.sz U) (List.map (t'.e U) y')
            simp only [Ty.e, hs, hq, evF, List.length_map]
            rw [if_pos ⟨by rw [← hn]; exact hs', by rw [← hn]; exact hq', all_len hc.2 hn y', hb.1, hb.2⟩, hn, List.map_append]
          · simp at hfx
      · simp at h
    · simp at h
  · -- mk
    rename_i n A As'
    split at h
    · rename_i hc
      rw [Bool.and_eq_true] at hc
      have hn := Nat.eq_of_beq_eq_true hc.1
      split at h
      · rename_i g hg
        cases h
        have := mkT_ok A.t (A :: As') g hg e rs hr v hv
        subst this
        simp only [Ty.e]
        unfold evF
        cases v with
        | nil => simp only [List.map_nil, List.all_nil, if_true]; rw [hn]
        | cons x l =>
          have := all_len hc.2 hn (x :: l)
          simp only [this, if_true]; rw [hn]
      · simp at h
    · simp at h
  · -- pick
    rename_i c t a t' b
    obtain ⟨r, s, u, rfl, h1, h2, h3⟩ := TAs3 hr
    split at h
    · rename_i ht
      subst ht
      split at h
      · rename_i hs
        cases h
        simp only at hv
        cases hx : c e with
        | none => simp [hx] at hv
        | some x =>
          simp only [hx, Option.bind_some] at hv
          have e1 := h1 x hx
          subst e1
          have key : ∀ w : t'.T U, ∃ z, t'.e U w = [.lit z] := by
            intro w; cases t' <;> simp only [scal, Bool.false_eq_true] at hs
            · exact ⟨_, rfl⟩
            · exact ⟨_, rfl⟩
            · exact ⟨_, rfl⟩
          have ⟨z, hz⟩ := key v
          cases x with
          | true =>
            simp only [if_true] at hv
            have e2 := h2 v hv
            subst e2
            simp only [Ty.e, evF, if_true]
            rw [hz]
          | false =>
            simp only [Bool.false_eq_true, if_false] at hv
            cases hy : b e with
            | none => simp [hy] at hv
            | some y =>
              simp only [hy, Option.bind_some, castT, Option.some.injEq] at hv
              subst hv
              have e3 := h3 y hy
              subst e3
              simp only [Ty.e, evF, Bool.false_eq_true, if_false]
              rw [hz]
      · simp at h
    · simp at h
  · -- mm
    rename_i mx k a k' b
    obtain ⟨r, s, rfl, h1, h2⟩ := TAs2 hr
    split at h
    · rename_i hk
      subst hk
      cases h
      have ⟨x, y, hx, hy, hfx⟩ := w2_some hv
      cases hfx
      have e1 := h1 x hx
      have e2 := h2 y hy
      subst e1; subst e2
      simp only [Ty.e, evF, if_true]
    · simp at h
  · simp at h
end Go.AW

namespace Go.AW
open Go.RowKit

structure TC (U : Uni) where
  as : List Ty
  rs : List Ty
  F : Env U as → Option (Env U rs)
abbrev Res (U : Uni) (rt : List Ty) : List (List Ty) → Type
  | [] => Env U rt
  | l :: ls => Env U l ⊕ Res U rt ls
def Res.rs (U : Uni) (rt : List Ty) : (ls : List (List Ty)) → Res U rt ls → Rs
  | [], r => .fin (Env.rows U rt r)
  | l :: _, .inl v => .nxt (Env.rows U l v)
  | _ :: ls, .inr r => .esc (Res.rs U rt ls r)
def valsT (U : Uni) (ts : List Ty) : List (TA U ts) → (l : List Ty) → Option (Env U ts → Option (Env U l))
  | [], [] => some fun _ => some ()
  | A :: As, t :: l => if h : A.t = t then (match valsT U ts As l with
    | some g => some fun e => (A.f e).bind fun x => (g e).bind fun y => some (castT h x, y)
    | none => none) else none
  | _, _ => none
def loopT {A B : Type} : Nat → (A → Option (A ⊕ B)) → A → Option B
  | 0, _, _ => none
  | n + 1, f, v => match f v with
    | some (.inl v') => loopT n f v'
    | some (.inr r) => some r
    | none => none
theorem lpEx : ∃ f : (A B : Type) → (A → Option (A ⊕ B)) → A → Option B, f = fun _ _ => loopT FUEL' := ⟨_, rfl⟩
/-- A loop, not to be opened by evaluation. -/
noncomputable def loopS {A B : Type} (f : A → Option (A ⊕ B)) (v : A) : Option B := Classical.choose lpEx A B f v
theorem loopS_eq {A B : Type} (f : A → Option (A ⊕ B)) (v : A) : loopS f v = loopT FUEL' f v := by
  unfold loopS; rw [Classical.choose_spec lpEx]
def tysOf {U : Uni} {ts : List Ty} : List (TA U ts) → List Ty
  | [] => []
  | A :: As => A.t :: tysOf As
def boolT {U : Uni} {ts : List Ty} (A : TA U ts) : Option (Env U ts → Option Bool) := match A with
  | ⟨.bool, f⟩ => some f
  | _ => none
noncomputable def comp (U : Uni) (tb : Tabs U) (con : Nat → Option (TC U)) (rt : List Ty) : Tr → (n : Nat) → (ts : List Ty) → (ls : List (List Ty)) → Hs U → Option ((Env U ts → Option (Res U rt ls)) × Hs U)
  | .fin as, n, ts, [], hs => (match atsT U ts n hs as with
    | some (As, hs) => (match valsT U ts As rt with
      | some g => some (g, hs)
      | none => none)
    | none => none)
  | .nxt as, n, ts, l :: _, hs => (match atsT U ts n hs as with
    | some (As, hs) => (match valsT U ts As l with
      | some g => some (fun e => (g e).bind fun v => some (.inl v), hs)
      | none => none)
    | none => none)
  | .esc t, n, ts, _ :: ls, hs => (match comp U tb con rt t n ts ls hs with
    | some (g, hs) => some (fun e => (g e).bind fun r => some (.inr r), hs)
    | none => none)
  | .op none f as t, n, ts, ls, hs => (match atsT U ts n hs as with
    | some (As, hs) => (match opT U tb ts f As with
      | some O => (match comp U tb con rt t (n + 1) (O.t :: ts) ls hs with
        | some (g, hs) => some (fun e => (O.f e).bind fun v => g (v, e), hs)
        | none => none)
      | none => none)
    | none => none)
  | .op (some a) f as t, n, ts, ls, hs => (match atT U ts n hs a with
    | some (A, hs) => (match boolT A with
      | some c => (match atsT U ts n hs as with
        | some (As, hs) => (match opT U tb ts f As with
          | some O => (match comp U tb con rt t (n + 1) (.opt O.t :: ts) ls hs with
            | some (g, hs) => some (fun e => (c e).bind fun b => (if b = true then (O.f e).bind fun v => some (some v) else some none).bind fun v => g (v, e), hs)
            | none => none)
          | none => none)
        | none => none)
      | none => none)
    | none => none)
  | .ite a x y, n, ts, ls, hs => (match atT U ts n hs a with
    | some (A, hs) => (match boolT A with
      | some c => (match comp U tb con rt x n ts ls hs with
        | some (gx, hs) => (match comp U tb con rt y n ts ls hs with
          | some (gy, hs) => some (fun e => (c e).bind fun b => if b = true then gx e else gy e, hs)
          | none => none)
        | none => none)
      | none => none)
    | none => none)
  | .call none k as m t, n, ts, ls, hs => (match con k with
    | some C => if Nat.beq m C.rs.length = true then (match atsT U ts n hs as with
      | some (As, hs) => (match valsT U ts As C.as with
        | some v => (match comp U tb con rt t (n + m) (pushT C.rs ts) ls hs with
          | some (g, hs) => some (fun e => (v e).bind fun a => (C.F a).bind fun r => g (push U C.rs ts r e), hs)
          | none => none)
        | none => none)
      | none => none) else none
    | none => none)
  | .call (some a) k as m t, n, ts, ls, hs => (match con k with
    | some C => if Nat.beq m C.rs.length = true then (match atT U ts n hs a with
      | some (A, hs) => (match boolT A with
        | some c => (match atsT U ts n hs as with
          | some (As, hs) => (match valsT U ts As C.as with
            | some v => (match comp U tb con rt t (n + m) (pushTo C.rs ts) ls hs with
              | some (g, hs) => some (fun e => (c e).bind fun b => (if b = true then (v e).bind fun a => (C.F a).bind fun r => some (some r) else some none).bind fun r => g (pusho U C.rs ts r e), hs)
              | none => none)
            | none => none)
          | none => none)
        | none => none)
      | none => none) else none
    | none => none)
  | .loop init body, n, ts, ls, hs => (match atsT U ts n hs init with
    | some (As, hs) => (match valsT U ts As (tysOf As) with
      | some v => (match comp U tb con rt body (n + As.length) (pushT (tysOf As) ts) (tysOf As :: ls) hs with
        | some (g, hs) => some (fun e => (v e).bind fun v => loopS (fun v => g (push U (tysOf As) ts v e)) v, hs)
        | none => none)
      | none => none)
    | none => none)
  | _, _, _, _, _ => none

theorem valsT_ok (U : Uni) (ts : List Ty) : ∀ (As : List (TA U ts)) (l : List Ty) (g : Env U ts → Option (Env U l)), valsT U ts As l = some g → ∀ (e : Env U ts) (rs : List Row), TAs.of e As rs → ∀ v, g e = some v → rs = Env.rows U l v
  | [], [], g, h, e, rs, hr, v, hv => by
    cases rs with
    | nil => rfl
    | cons _ _ => exact hr.elim
  | [], _ :: _, g, h, _, _, _, _, _ => by simp [valsT] at h
  | _ :: _, [], g, h, _, _, _, _, _ => by simp [valsT] at h
  | A :: As, t :: l, g, h, e, rs, hr, v, hv => by
    simp only [valsT] at h
    split at h
    · rename_i hc
      split at h
      · rename_i g' hg
        simp only [Option.some.injEq] at h; subst h
        cases rs with
        | nil => exact hr.elim
        | cons r rs =>
          cases ha : A.f e with
          | none => simp [ha] at hv
          | some x =>
            cases hb : g' e with
            | none => simp [ha, hb] at hv
            | some xs =>
              simp only [ha, hb, Option.bind_some] at hv; cases hv
              simp only [Env.rows]
              rw [castT_e, ← hr.1 x ha, ← valsT_ok U ts As l g' hg e rs hr.2 xs hb]
      · simp at h
    · simp at h
theorem push_rows (U : Uni) : ∀ (l ts : List Ty) (v : Env U l) (e : Env U ts), (Env.rows U _ (push U l ts v e)).reverse = (Env.rows U ts e).reverse ++ Env.rows U l v
  | [], ts, v, e => by simp [push, Env.rows, pushT]
  | t :: l, ts, v, e => by
    have := push_rows U l (t :: ts) v.2 (v.1, e)
    simp only [push, pushT] at this ⊢
    rw [this]; simp only [Env.rows, List.reverse_cons, List.append_assoc, List.singleton_append]
theorem pusho_rows (U : Uni) : ∀ (l ts : List Ty) (v : Env U l) (e : Env U ts), (Env.rows U _ (pusho U l ts (some v) e)).reverse = (Env.rows U ts e).reverse ++ Env.rows U l v
  | [], ts, v, e => by simp [pusho, Env.rows, pushTo]
  | t :: l, ts, v, e => by
    have := pusho_rows U l (.opt t :: ts) v.2 (some v.1, e)
    simp only [pusho, pushTo, Option.map_some] at this ⊢
    rw [this]; simp only [Env.rows, List.reverse_cons, List.append_assoc, List.singleton_append]; rfl
theorem pusho_none (U : Uni) : ∀ (l ts : List Ty) (e : Env U ts), (Env.rows U _ (pusho U l ts none e)).reverse = (Env.rows U ts e).reverse ++ List.replicate l.length []
  | [], ts, e => by simp [pusho, Env.rows, pushTo]
  | t :: l, ts, e => by
    have := pusho_none U l (.opt t :: ts) ((none : Option (t.T U)), e)
    simp only [pusho, pushTo, Option.map_none] at this ⊢
    rw [this]; simp only [Env.rows, List.reverse_cons, List.append_assoc, List.singleton_append, List.length_cons, List.replicate_succ]; rfl
theorem pushT_len : ∀ (l ts : List Ty), (pushT l ts).length = ts.length + l.length
  | [], ts => rfl
  | t :: l, ts => by simp only [pushT]; rw [pushT_len l (t :: ts)]; simp only [List.length_cons]; omega
theorem pushTo_len : ∀ (l ts : List Ty), (pushTo l ts).length = ts.length + l.length
  | [], ts => rfl
  | t :: l, ts => by simp only [pushTo]; rw [pushTo_len l (.opt t :: ts)]; simp only [List.length_cons]; omega
theorem tysOf_len {U : Uni} {ts : List Ty} : ∀ As : List (TA U ts), (tysOf As).length = As.length
  | [] => rfl
  | _ :: As => by simp [tysOf, tysOf_len As]
theorem boolT_ok {U : Uni} {ts : List Ty} {A : TA U ts} {c : Env U ts → Option Bool} (h : boolT A = some c) {e : Env U ts} {r : Row} (hr : A.of e r) {b : Bool} (hb : c e = some b) : r = [.lit (.bool b)] := by
  unfold boolT at h
  split at h
  · cases h; exact hr b hb
  · simp at h
theorem bind_some' {α β : Type} {o : Option α} {f : α → Option β} {v : β} (h : o.bind f = some v) : ∃ x, o = some x ∧ f x = some v := by
  cases o with
  | none => simp at h
  | some x => exact ⟨x, rfl, h⟩
theorem loopT_ok {A B : Type} (f : A → Option (A ⊕ B)) (F : List Row → Option Rs) (ra : A → List Row) (rb : B → Rs) (h : ∀ v r, f v = some r → F (ra v) = some (match r with | .inl v => .nxt (ra v) | .inr r => .esc (rb r))) :
    ∀ n v r, loopT n f v = some r → loopN n F (ra v) = some (rb r)
  | 0, v, r, hl => by simp [loopT] at hl
  | n + 1, v, r, hl => by
    simp only [loopT] at hl
    split at hl
    · rename_i v' hv
      simp only [loopN, h v _ hv]
      exact loopT_ok f F ra rb h n v' r hl
    · rename_i r' hv
      cases hl
      simp only [loopN, h v _ hv]
    · simp at hl
theorem comp_ok (U : Uni) (tb : Tabs U) (con : Nat → Option (TC U)) (rt : List Ty) (Γ : Den) (HC : ∀ k C, con k = some C → ∀ a r, C.F a = some r → Γ k (Env.rows U C.as a) = some (Env.rows U C.rs r)) :
    ∀ (t : Tr) (n : Nat) (ts : List Ty) (ls : List (List Ty)) (hs : Hs U) (g : Env U ts → Option (Res U rt ls)) (hs' : Hs U), n = ts.length → comp U tb con rt t n ts ls hs = some (g, hs') →
      ∀ e r, g e = some r → run Γ t (Env.rows U ts e).reverse = some (Res.rs U rt ls r) := by
  intro t
  induction t with
  | fin as =>
    intro n ts ls hs g hs' hn h e r hr
    cases ls with
    | cons _ _ => simp [comp] at h
    | nil =>
      simp only [comp] at h
      split at h
      · rename_i As hs1 ha
        split at h
        · rename_i g' hg
          cases h
          have ⟨rs, h1, h2⟩ := atsT_ok U ts n hn as hs As _ ha e
          simp only [run, h1, Option.map_some, Res.rs]
          rw [valsT_ok U ts As rt _ hg e rs h2 r hr]
        · simp at h
      · simp at h
  | nxt as =>
    intro n ts ls hs g hs' hn h e r hr
    cases ls with
    | nil => simp [comp] at h
    | cons l ls =>
      simp only [comp] at h
      split at h
      · rename_i As hs1 ha
        split at h
        · rename_i g' hg
          cases h
          have ⟨v, hv, hr⟩ := bind_some' hr
          cases hr
          have ⟨rs, h1, h2⟩ := atsT_ok U ts n hn as hs As _ ha e
          simp only [run, h1, Option.map_some, Res.rs]
          rw [valsT_ok U ts As l _ hg e rs h2 v hv]
        · simp at h
      · simp at h
  | esc t ih =>
    intro n ts ls hs g hs' hn h e r hr
    cases ls with
    | nil => simp [comp] at h
    | cons l ls =>
      simp only [comp] at h
      split at h
      · rename_i g' hs1 hg
        cases h
        have ⟨v, hv, hr⟩ := bind_some' hr
        cases hr
        simp only [run, ih n ts ls hs g' _ hn hg e v hv, Option.map_some, Res.rs]
      · simp at h
  | op gd f as t ih =>
    intro n ts ls hs g hs' hn h e r hr
    cases gd with
    | none =>
      simp only [comp] at h
      split at h
      · rename_i As hs1 ha
        split at h
        · rename_i O hO
          split at h
          · rename_i g' hs2 hg
            cases h
            have ⟨v, hv, hr⟩ := bind_some' hr
            have ⟨rs, h1, h2⟩ := atsT_ok U ts n hn as hs As _ ha e
            have h3 := opT_ok U tb ts f As O hO e rs h2 v hv
            have h4 := ih (n + 1) (O.t :: ts) ls hs1 g' _ (by rw [hn]; rfl) hg (v, e) r hr
            simp only [run, gate, h1, Option.bind_some, h3]
            simp only [Env.rows, List.reverse_cons] at h4
            exact h4
          · simp at h
        · simp at h
      · simp at h
    | some a =>
      simp only [comp] at h
      split at h
      · rename_i A hs0 hA
        split at h
        · rename_i c hc
          split at h
          · rename_i As hs1 ha
            split at h
            · rename_i O hO
              split at h
              · rename_i g' hs2 hg
                cases h
                have ⟨b, hb, hr⟩ := bind_some' hr
                have ⟨w, hw, hr⟩ := bind_some' hr
                have ⟨ra, h5, h6⟩ := atT_ok U ts n hn hs a A _ hA e
                have h7 := boolT_ok hc h6 hb
                subst h7
                have h4 := ih (n + 1) (.opt O.t :: ts) ls hs1 g' _ (by rw [hn]; rfl) hg (w, e) r hr
                simp only [Env.rows, List.reverse_cons] at h4
                cases b with
                | false =>
                  simp only [Bool.false_eq_true, if_false, Option.some.injEq] at hw
                  subst hw
                  simp only [run, gate, h5]
                  exact h4
                | true =>
                  simp only [if_true] at hw
                  have ⟨v, hv, hw⟩ := bind_some' hw
                  cases hw
                  have ⟨rs, h1, h2⟩ := atsT_ok U ts n hn as hs0 As _ ha e
                  have h3 := opT_ok U tb ts f As O hO e rs h2 v hv
                  simp only [run, gate, h5, h1, Option.bind_some, h3]
                  exact h4
              · simp at h
            · simp at h
          · simp at h
        · simp at h
      · simp at h
  | ite a x y ihx ihy =>
    intro n ts ls hs g hs' hn h e r hr
    simp only [comp] at h
    split at h
    · rename_i A hs0 hA
      split at h
      · rename_i c hc
        split at h
        · rename_i gx hs1 hx
          split at h
          · rename_i gy hs2 hy
            cases h
            have ⟨b, hb, hr⟩ := bind_some' hr
            have ⟨ra, h5, h6⟩ := atT_ok U ts n hn hs a A _ hA e
            have h7 := boolT_ok hc h6 hb
            subst h7
            cases b with
            | true =>
              simp only [if_true] at hr
              simp only [run, h5, if_true]
              exact ihx n ts ls hs0 gx _ hn hx e r hr
            | false =>
              simp only [Bool.false_eq_true, if_false] at hr
              simp only [run, h5, Bool.false_eq_true, if_false]
              exact ihy n ts ls hs1 gy _ hn hy e r hr
          · simp at h
        · simp at h
      · simp at h
    · simp at h
  | call gd k as m t ih =>
    intro n ts ls hs g hs' hn h e r hr
    cases gd with
    | none =>
      simp only [comp] at h
      split at h
      · rename_i C hC
        split at h
        · rename_i hm
          have hm := Nat.eq_of_beq_eq_true hm
          split at h
          · rename_i As hs1 ha
            split at h
            · rename_i vv hvv
              split at h
              · rename_i g' hs2 hg
                cases h
                have ⟨a, hav, hr⟩ := bind_some' hr
                have ⟨o, ho, hr⟩ := bind_some' hr
                have ⟨rs, h1, h2⟩ := atsT_ok U ts n hn as hs As _ ha e
                have h3 := valsT_ok U ts As C.as vv hvv e rs h2 a hav
                have h4 := HC k C hC a o ho
                have h5 := ih (n + m) (pushT C.rs ts) ls hs1 g' _ (by rw [pushT_len, hn, hm]) hg _ r hr
                rw [push_rows] at h5
                simp only [run, gate, h1, Option.bind_some, h3, h4]
                rw [if_pos (by rw [rows_len, hm])]
                exact h5
              · simp at h
            · simp at h
          · simp at h
        · simp at h
      · simp at h
    | some a =>
      simp only [comp] at h
      split at h
      · rename_i C hC
        split at h
        · rename_i hm
          have hm := Nat.eq_of_beq_eq_true hm
          split at h
          · rename_i A hs0 hA
            split at h
            · rename_i c hc
              split at h
              · rename_i As hs1 ha
                split at h
                · rename_i vv hvv
                  split at h
                  · rename_i g' hs2 hg
                    cases h
                    have ⟨b, hb, hr⟩ := bind_some' hr
                    have ⟨w, hw, hr⟩ := bind_some' hr
                    have ⟨ra, h5, h6⟩ := atT_ok U ts n hn hs a A _ hA e
                    have h7 := boolT_ok hc h6 hb
                    subst h7
                    have h8 := ih (n + m) (pushTo C.rs ts) ls hs1 g' _ (by rw [pushTo_len, hn, hm]) hg _ r hr
                    cases b with
                    | false =>
                      simp only [Bool.false_eq_true, if_false, Option.some.injEq] at hw
                      subst hw
                      rw [pusho_none] at h8
                      simp only [run, gate, h5, hm]
                      exact h8
                    | true =>
                      simp only [if_true] at hw
                      have ⟨av, hav, hw⟩ := bind_some' hw
                      have ⟨o, ho, hw⟩ := bind_some' hw
                      cases hw
                      rw [pusho_rows] at h8
                      have ⟨rs, h1, h2⟩ := atsT_ok U ts n hn as hs0 As _ ha e
                      have h3 := valsT_ok U ts As C.as vv hvv e rs h2 av hav
                      have h4 := HC k C hC av o ho
                      simp only [run, gate, h5, h1, Option.bind_some, h3, h4]
                      rw [if_pos (by rw [rows_len, hm])]
                      exact h8
                  · simp at h
                · simp at h
              · simp at h
            · simp at h
          · simp at h
        · simp at h
      · simp at h
  | loop init body ih =>
    intro n ts ls hs g hs' hn h e r hr
    simp only [comp] at h
    split at h
    · rename_i As hs1 ha
      split at h
      · rename_i vv hvv
        split at h
        · rename_i g' hs2 hg
          cases h
          have ⟨v, hv, hr⟩ := bind_some' hr
          have ⟨rs, h1, h2⟩ := atsT_ok U ts n hn init hs As _ ha e
          have h3 := valsT_ok U ts As _ vv hvv e rs h2 v hv
          simp only [run, h1, Option.bind_some, h3]
          rw [loopS_eq] at hr
          refine loopT_ok _ _ (Env.rows U (tysOf As)) (Res.rs U rt ls) ?_ _ v r hr
          intro v1 r1 hr1
          have h5 := ih (n + As.length) (pushT (tysOf As) ts) (tysOf As :: ls) hs1 g' _ (by rw [pushT_len, hn, tysOf_len]) hg _ r1 hr1
          rw [push_rows] at h5
          rw [h5]
          cases r1 <;> rfl
        · simp at h
      · simp at h
    · simp at h
  | err c d =>
    intro n ts ls hs g hs' hn h e r hr
    simp [comp] at h
end Go.AW

namespace Go.AW
open Go.RowKit

theorem evs_same : ∀ {ρ : List Row} {as : List At}, evs ρ as = evs ρ as := rfl
theorem loopN_mono {f g : List Row → Option Rs} (h : ∀ v r, f v = some r → g v = some r) : ∀ n v r, loopN n f v = some r → loopN n g v = some r
  | 0, v, r, hr => by simp [loopN] at hr
  | n + 1, v, r, hr => by
    simp only [loopN] at hr ⊢
    cases hf : f v with
    | none => rw [hf] at hr; simp at hr
    | some x =>
      rw [hf] at hr; rw [h v x hf]
      cases x with
      | fin _ => simp at hr
      | nxt vs => exact loopN_mono h n vs r hr
      | esc r' => exact hr
/-- More is known of callees: more is given. -/
theorem run_mono {Γ Γ' : Den} (h : ∀ k ρ o, Γ k ρ = some o → Γ' k ρ = some o) : ∀ (t : Tr) (ρ : List Row) (r : Rs), run Γ t ρ = some r → run Γ' t ρ = some r := by
  intro t
  induction t with
  | fin as => intro ρ r hr; exact hr
  | nxt as => intro ρ r hr; exact hr
  | esc t ih =>
    intro ρ r hr
    simp only [run, Option.map_eq_some_iff] at hr ⊢
    obtain ⟨x, hx, rfl⟩ := hr
    exact ⟨x, ih ρ x hx, rfl⟩
  | op g f as t ih =>
    intro ρ r hr
    simp only [run] at hr ⊢
    cases hg : gate ρ g with
    | none => rw [hg] at hr; simp at hr
    | some b =>
      rw [hg] at hr
      cases b with
      | false => exact ih _ _ hr
      | true =>
        simp only at hr ⊢
        have ⟨rs, h1, hr⟩ := bind_some' hr
        have ⟨x, h2, hr⟩ := bind_some' hr
        simp only [h1, h2, Option.bind_some]
        exact ih _ _ hr
  | ite a x y ihx ihy =>
    intro ρ r hr
    simp only [run] at hr ⊢
    split at hr
    · rename_i b hb
      split at hr
      · rename_i hb'; rw [if_pos hb']; exact ihx _ _ hr
      · rename_i hb'; rw [if_neg hb']; exact ihy _ _ hr
    · simp at hr
  | call g k as n t ih =>
    intro ρ r hr
    simp only [run] at hr ⊢
    cases hg : gate ρ g with
    | none => rw [hg] at hr; simp at hr
    | some b =>
      rw [hg] at hr
      cases b with
      | false => exact ih _ _ hr
      | true =>
        simp only at hr ⊢
        have ⟨rs, h1, hr⟩ := bind_some' hr
        have ⟨x, h2, hr⟩ := bind_some' hr
        simp only [h1, h k rs x h2, Option.bind_some]
        split at hr
        · rename_i hn; rw [if_pos hn]; exact ih _ _ hr
        · simp at hr
  | loop init body ih =>
    intro ρ r hr
    simp only [run] at hr ⊢
    have ⟨vs, h1, hr⟩ := bind_some' hr
    simp only [h1, Option.bind_some]
    exact loopN_mono (fun v r hv => ih _ _ hv) _ _ _ hr
  | err c d => intro ρ r hr; simp [run] at hr

/-- A chain: contracts, hints for loops; the newest first. What is shown by hand stands in 'T.con'; 'B': what it gives. -/
abbrev Ch := List (Nat × Spec × List (Nat × Hint))
def conL (T : Tab) (l : Ch) (k : Nat) : Option Spec := match lk k l with
  | some x => some x.1
  | none => lk k T.con
def Tab.at (T : Tab) (l : Ch) (h : List (Nat × Hint)) : Cf := { T.cf with con := conL T l, hint := fun k => (lk k h).getD {} }
/-- What the functions of a chain give. -/
def denL (T : Tab) (B : Den) : Ch → Den
  | [] => B
  | (k, sp, h) :: l => fun k' ρ => if Nat.beq k' k = true then out (denL T B l) (tree (T.at l h) k sp) ρ else denL T B l k' ρ
def Agrees (T : Tab) (B : Den) (Γ : Den) (l : Ch) : Prop := ∀ k sp, conL T l k = some sp → ∀ ρ, Γ k ρ = denL T B l k ρ
theorem Agrees.tail {T : Tab} {B : Den} {Γ : Den} {k : Nat} {x : Spec × List (Nat × Hint)} {l : Ch} (h : Agrees T B Γ ((k, x) :: l)) (hk : conL T l k = none) : Agrees T B Γ l := by
  intro k' sp' hl ρ
  have hne : Nat.beq k' k = false := by
    cases hb : Nat.beq k' k with
    | false => rfl
    | true => rw [Nat.eq_of_beq_eq_true hb, hk] at hl; simp at hl
  have := h k' sp' (by simp only [conL, lk, hne, Bool.false_eq_true, if_false]; exact hl) ρ
  rw [this]
  simp only [denL, hne, Bool.false_eq_true, if_false]
theorem comp_err {U : Uni} {tb : Tabs U} {con : Nat → Option (TC U)} {rt : List Ty} {t : Tr} {n : Nat} {ts : List Ty} {ls : List (List Ty)} {hs : Hs U} {x : (Env U ts → Option (Res U rt ls)) × Hs U} (h : comp U tb con rt t n ts ls hs = some x) : isErr t = false := by
  cases t with
  | err c d => simp [comp] at h
  | _ => rfl

def env0 (U : Uni) : Env U [] := ()
structure Chain (P : Program) (U : Uni) (T : Tab) (B : Den) (l : Ch) (tc : List (Nat × TC U)) : Prop where
  ok : ∀ Γ h, Agrees T B Γ l → ConsOk P (T.at l h) Γ
  dom : ∀ k ρ o, denL T B l k ρ = some o → ∃ sp, conL T l k = some sp
  den : ∀ k C, lk k tc = some C → ∀ a r, C.F a = some r → denL T B l k (Env.rows U C.as a) = some (Env.rows U C.rs r)
theorem Chain.nil {P : Program} {U : Uni} {T : Tab} (hT : T.con.isEmpty = true) : Chain P U T (fun _ _ => none) [] [] := by
  have hT : T.con = [] := by simpa using hT
  exact ⟨fun Γ _ _ k sp h => by simp [Tab.at, conL, lk, hT] at h, fun k ρ o h => by simp [denL] at h, fun k C h => by simp [lk] at h⟩
theorem Chain.cons {P : Program} {U : Uni} {T : Tab} {B : Den} {l : Ch} {tc : List (Nat × TC U)} (tb : Tabs U) (hc : CfOk P T.cf) (H : Chain P U T B l tc) {k : Nat} {sp : Spec} {h : List (Nat × Hint)} {C : TC U} {hs : Hs U} (n : Nat)
    (hn : Nat.beq n C.as.length = true) (hk : (conL T l k).isNone = true) (hk' : (lk k tc).isNone = true) (g : Env U (pushT C.as []) → Option (Env U C.rs)) (hg : comp U tb (fun j => lk j tc) C.rs (tree (T.at l h) k sp) n (pushT C.as []) [] hs = some (g, []))
    (hF : ∀ a, C.F a = g (push U C.as [] a (env0 U))) : Chain P U T B ((k, sp, h) :: l) ((k, C) :: tc) := by
  have hk : conL T l k = none := by simpa using hk
  have hk' : lk k tc = none := by simpa using hk'
  have hcl : ∀ h, CfOk P (T.at l h) := fun _ => ⟨hc.mo, hc.ti, hc.fn, hc.meth, hc.nilok⟩
  refine ⟨fun Γ h' hA k' sp' hh => ?_, fun k' ρ o ho => ?_, fun k' C' hh a r hr => ?_⟩
  · have hT := hA.tail hk
    have hok := fun h => H.ok Γ h hT
    by_cases he : Nat.beq k' k = true
    · simp only [Tab.at, conL, lk, he, if_true, Option.some.injEq] at hh
      subst hh
      rw [Nat.eq_of_beq_eq_true he]
      refine tree_ok (hcl h) (hok h) rfl (comp_err hg) fun ρ outs hΓ => ?_
      have := hA k sp (by simp only [conL, lk, Nat.beq_refl, if_true]) ρ
      rw [this] at hΓ
      simp only [denL, Nat.beq_refl, if_true, out] at hΓ
      split at hΓ
      · rename_i rs hrs
        cases hΓ
        refine run_mono (fun k2 ρ2 o ho => ?_) _ _ _ hrs
        have ⟨sp2, h2⟩ := H.dom _ _ _ ho
        rw [hT k2 sp2 h2 ρ2]; exact ho
      · simp at hΓ
    · simp only [Tab.at, conL, lk, he, if_false] at hh
      exact hok h' k' sp' hh
  · by_cases he : Nat.beq k' k = true
    · exact ⟨sp, by simp only [conL, lk, he, if_true]⟩
    · simp only [denL, he, if_false] at ho
      have ⟨sp', h'⟩ := H.dom _ _ _ ho
      exact ⟨sp', by simp only [conL, lk, he, if_false]; exact h'⟩
  · simp only [lk] at hh
    split at hh
    · rename_i he
      cases hh
      rw [Nat.eq_of_beq_eq_true he]
      simp only [denL, Nat.beq_refl, if_true, out]
      rw [hF] at hr
      have := comp_ok U tb (fun j => lk j tc) C.rs (denL T B l) H.den (tree (T.at l h) k sp) n (pushT C.as []) [] hs g [] (by rw [pushT_len, Nat.eq_of_beq_eq_true hn]; simp) hg _ r hr
      rw [push_rows] at this
      simp only [Env.rows, List.reverse_nil, List.nil_append] at this
      rw [this]; rfl
    · rename_i he
      simp only [denL, he, if_false]
      exact H.den k' C' hh a r hr
end Go.AW

namespace Go.AW
open Go.RowKit
structure StE where
  T : Type
  row : T → Row
  n : Nat
  h : ∀ x, (row x).length = n
def stD : StE := ⟨Unit, fun _ => [], 0, fun _ => rfl⟩
def lkS (i : Nat) : List (Nat × StE) → StE
  | [] => stD
  | (j, x) :: l => if Nat.beq i j = true then x else lkS i l
def uniOf (l : List (Nat × StE)) : Uni := ⟨fun m => (lkS m l).T, fun m => (lkS m l).row, fun m => (lkS m l).n, fun m => (lkS m l).h⟩
def pickL {β : Nat → Type} (m : Nat) : List (Sigma β) → Option (β m)
  | [] => none
  | x :: l => if h : x.1 = m then some (h ▸ x.2) else pickL m l
def tbOf (U : Uni) (gs : List (Sigma fun m => List (GetE U m))) (ss : List (Sigma fun m => List (SetE U m))) (es : List (Sigma fun m => EqE U m)) : Tabs U :=
  ⟨fun m => (pickL m gs).getD [], fun m => (pickL m ss).getD [], fun m => pickL m es⟩
end Go.AW

namespace Go.AW
open Go.RowKit
theorem below_grow {B : Nat} {w : World} (q : Nat) (os : Array Obj) (hB : B ≤ w.heap.size) : Below B w (Sort.grow (w.drewN q) os) :=
  ⟨rfl, rfl, rfl, by show w.heap.size ≤ (w.heap ++ os).size; simp, fun i hi => by
    show (w.heap ++ os)[i]? = w.heap[i]?
    exact Array.getElem?_append_left (by omega)⟩
def spI : Spec := ⟨[.one (.v 0) (some (.w 1))], ⟨1, [], 2, 0, [], [], [], []⟩, ⟨[0], [], [], [], [], 0⟩, [(0, ⟨none, .one (.c []) none⟩)], false⟩
def I64 (n : Int) : Prop := -9223372036854775808 ≤ n ∧ n ≤ 9223372036854775807
instance (n : Int) : Decidable (I64 n) := by unfold I64; infer_instance
def itoaB (n : Int) : ByteArray := ⟨(Lib.itoa n).toArray⟩
def itoaF (n : Int) : Option (ByteArray × Unit) := if I64 n then some (itoaB n, ()) else none
def itoaD : List Row → Option (List Row)
  | [[.lit (.int .i64 n)]] => if I64 n then some [[.lit (.string (itoaB n))]] else none
  | _ => none
theorem itoaD_inv {ρ outs : List Row} (h : itoaD ρ = some outs) : ∃ n, ρ = [[.lit (.int .i64 n)]] ∧ I64 n ∧ outs = [[.lit (.string (itoaB n))]] := by
  unfold itoaD at h
  split at h
  · rename_i n
    split at h
    · rename_i hn; cases h; exact ⟨n, rfl, hn, rfl⟩
    · cases h
  · cases h
theorem itoa_spec {P : Program} {Γ : Den} {k : Nat} (hE : enters P k = true)
    (hI : ∀ (n : Int), -9223372036854775808 ≤ n → n ≤ 9223372036854775807 → ∀ w, Lib.TabIs P w "internal/strconv.uint64pow10" .u64 Lib.pow10Tab → Calls P k #[.int .i64 n] w fun e w' => e = .returned (.string ⟨(Lib.itoa n).toArray⟩) ∧ ∃ j os, w' = Sort.grow (w.drewN j) os)
    (hΓ : ∀ ρ, Γ k ρ = itoaD ρ) : SpecOk P Γ k spI := by
  refine hand_ok (hq := ⟨⟨2, [], 3, 0, [], [], [], [(.w 2, 0, 0)]⟩, [(0, ⟨none, .one (.v 1) (some (.w 2))⟩)]⟩) (hn := []) rfl rfl ?_
  intro E st as outs J hm hlen hrv hg hfin
  rw [hΓ] at hg
  obtain ⟨n, hρ, hn, rfl⟩ := itoaD_inv hg
  obtain ⟨a, rfl⟩ : ∃ a, as = [a] := by
    rcases as with - | ⟨a, - | ⟨b, l⟩⟩
    · simp [spI] at hlen
    · exact ⟨a, rfl⟩
    · simp [spI] at hlen
  have hv := hrv 0 _ a rfl rfl
  have ha : a = .d (.lit (.int .i64 n)) := by
    cases hv with
    | one1 h1 h2 h3 h4 =>
      simp only [At.ev, hρ, List.getElem?_cons_zero, Option.some.injEq, List.cons.injEq, and_true] at h1
      subst h1
      have hsl : ∀ s xs, slv s xs ≠ DV.lit (.int .i64 n) := fun s xs => by cases xs <;> simp [slv]
      cases a <;> simp [toD] at h4
      · exact congrArg AV.d h4
      · exact absurd h4 (hsl _ _)
  subst ha
  refine ⟨hE, fun w g vals hR hvals => ?_⟩
  obtain rfl : vals = #[.int .i64 n] := by
    have hsz := hvals.1
    have h0 : 0 < vals.size := by rw [← hsz]; simp
    have := (hvals.2 0 _ _ rfl (Array.getElem?_eq_getElem h0)).lit_inv
    apply Array.toList_inj.1
    apply List.ext_getElem
    · simp at hsz ⊢; omega
    · intro i h1 h2
      simp at h2; subst h2
      simpa using this
  refine (hI n hn.1 hn.2 w (hR.tg w (Below.refl _ _))).mono ?_
  rintro e w' ⟨rfl, j, os, rfl⟩
  refine ⟨.d (.lit (.string (itoaB n))), st, g, .string (itoaB n), rfl, ?_, hR.toR.below (below_grow j os (Nat.le_refl _)), .d (.lit _ rfl), Gh.le.refl g, below_grow j os hR.base⟩
  exact hfin E spI.pre (.one (.c [.lit (.string (itoaB n))]) none) _ st (.refl E) hm (.one0 rfl rfl) rfl
/-- A chain's beginning: strconv.Itoa. -/
def baseI (k : Nat) : Den := fun j ρ => if Nat.beq j k = true then itoaD ρ else none
theorem Chain.itoa {P : Program} {U : Uni} {T : Tab} {k : Nat} (hT : T.con = [(k, spI)]) (hE : enters P k = true)
    (hI : ∀ (n : Int), -9223372036854775808 ≤ n → n ≤ 9223372036854775807 → ∀ w, Lib.TabIs P w "internal/strconv.uint64pow10" .u64 Lib.pow10Tab → Calls P k #[.int .i64 n] w fun e w' => e = .returned (.string ⟨(Lib.itoa n).toArray⟩) ∧ ∃ j os, w' = Sort.grow (w.drewN j) os) :
    Chain P U T (baseI k) [] [(k, ⟨[.ik .i64], [.str], fun (a : Int × Unit) => itoaF a.1⟩)] := by
  refine ⟨fun Γ h hA k' sp hs => ?_, fun k' ρ o ho => ?_, fun k' C hC a r hr => ?_⟩
  · simp only [Tab.at, conL, lk, hT] at hs
    split at hs
    · rename_i he
      cases hs
      rw [Nat.eq_of_beq_eq_true he]
      refine itoa_spec hE hI fun ρ => ?_
      rw [hA k spI (by simp only [conL, lk, hT, Nat.beq_refl, if_true]) ρ]
      simp only [denL, baseI, Nat.beq_refl, if_true]
    · cases hs
  · simp only [denL, baseI] at ho
    split at ho
    · rename_i he
      exact ⟨spI, by simp only [conL, lk, hT, he, if_true]⟩
    · cases ho
  · simp only [lk] at hC
    split at hC
    · rename_i he
      cases hC
      rw [Nat.eq_of_beq_eq_true he]
      simp only [itoaF] at hr
      split at hr
      · rename_i hn
        cases hr
        simp only [denL, baseI, Nat.beq_refl, if_true]
        show itoaD [[.lit (.int .i64 a.1)]] = _
        simp only [itoaD, if_pos hn]
        rfl
      · cases hr
    · cases hC
end Go.AW

namespace Go.AW
open Go.RowKit

theorem FUEL_eq : FUEL' = 4611686018427387904 := rfl
/-- A loop over a list: by place, by element; what comes of a step; the end. -/
def forR {α S B : Type} (stp : Nat → α → S → Option (S ⊕ B)) (fin : S → Option B) : Nat → List α → S → Option B
  | _, [], s => fin s
  | i, x :: xs, s => match stp i x s with
    | some (.inl s') => forR stp fin (i + 1) xs s'
    | some (.inr r) => some r
    | none => none
theorem loopT_forR {α S B : Type} {f : Int × S → Option ((Int × S) ⊕ B)} {xs : List α} {stp : Nat → α → S → Option (S ⊕ B)} {fin : S → Option B}
    (h1 : ∀ (i : Nat) (x : α) (s : S), i < xs.length → xs[i]? = some x → f ((i : Int), s) = match stp i x s with
      | some (.inl s') => some (.inl ((i : Int) + 1, s'))
      | some (.inr r) => some (.inr r)
      | none => none)
    (h2 : ∀ s, f ((xs.length : Int), s) = (fin s).bind fun r => some (.inr r)) :
    ∀ (ys : List α) (i n : Nat) (s : S), ys.length < n → (∀ j, ys[j]? = xs[i + j]?) → i ≤ xs.length → loopT n f ((i : Int), s) = forR stp fin i ys s
  | [], i, 0, s, hn, _, _ => by simp at hn
  | [], i, n + 1, s, hn, hy, hi => by
    have e : i = xs.length := by
      have := hy 0
      simp only [List.getElem?_nil, Nat.add_zero] at this
      have := (List.getElem?_eq_none_iff.1 this.symm)
      omega
    subst e
    simp only [loopT, h2, forR]
    cases fin s <;> rfl
  | y :: ys, i, 0, s, hn, _, _ => by simp at hn
  | y :: ys, i, n + 1, s, hn, hy, hi => by
    have hx : xs[i]? = some y := by have := hy 0; simpa using this.symm
    have hlt : i < xs.length := (List.getElem?_eq_some_iff.1 hx).1
    simp only [loopT, h1 i y s hlt hx, forR]
    cases hs : stp i y s with
    | none => rfl
    | some r =>
      cases r with
      | inr r => rfl
      | inl s' =>
        have := loopT_forR h1 h2 ys (i + 1) n s' (by simp at hn; omega) (fun j => by
          have := hy (j + 1)
          rw [List.getElem?_cons_succ] at this
          rw [this]; congr 1; omega) hlt
        simp only
        rw [← this]; rfl
theorem loopS_forR {α S B : Type} {f : Int × S → Option ((Int × S) ⊕ B)} (xs : List α) (stp : Nat → α → S → Option (S ⊕ B)) (fin : S → Option B) (hl : xs.length < 4611686018427387904)
    (h1 : ∀ (i : Nat) (x : α) (s : S), i < xs.length → xs[i]? = some x → f ((i : Int), s) = match stp i x s with
      | some (.inl s') => some (.inl ((i : Int) + 1, s'))
      | some (.inr r) => some (.inr r)
      | none => none)
    (h2 : ∀ s, f ((xs.length : Int), s) = (fin s).bind fun r => some (.inr r)) (s : S) : loopS f (0, s) = forR stp fin 0 xs s := by
  rw [loopS_eq]
  exact loopT_forR h1 h2 xs 0 FUEL' s (by rw [FUEL_eq]; exact hl) (fun j => by simp) (Nat.zero_le _)
theorem wrap_in {n : Int} (h : -9223372036854775808 ≤ n) (h' : n ≤ 9223372036854775807) : IntKind.i64.wrap n = n := by rw [IntKind.wrap_i64]; omega
theorem wrap_succ {i n : Nat} (hi : i < n) (hn : n < 4611686018427387904) : IntKind.i64.wrap ((i : Int) + 1) = (i : Int) + 1 := wrap_in (by omega) (by omega)
theorem idx_some {α : Type} {xs : List α} {i : Nat} {x : α} (h : xs[i]? = some x) : (if 0 ≤ (i : Int) ∧ (i : Int) < ((xs.length : Nat) : Int) then xs[((i : Int)).toNat]? else none) = some x := by
  have hlt : i < xs.length := (List.getElem?_eq_some_iff.1 h).1
  rw [if_pos ⟨by omega, by omega⟩, Int.toNat_natCast, h]
theorem dec_lt {i n : Nat} (h : i < n) : decide ((i : Int) < ((n : Nat) : Int)) = true := by simp; exact h
theorem dec_nlt (n : Nat) : decide (((n : Nat) : Int) < ((n : Nat) : Int)) = false := by simp
theorem app_fit {α : Type} {xs ys : List α} {b : Nat} (h : (xs.length + ys.length) * b ≤ 140737488355328) (hl : xs.length + ys.length ≤ 9223372036854775807) : (if xs.length + ys.length ≤ 9223372036854775807 ∧ (xs.length + ys.length) * b ≤ 140737488355328 then some (xs ++ ys) else none) = some (xs ++ ys) := if_pos ⟨hl, h⟩
/-- What each step leaves on. -/
theorem forR_copy {α B : Type} {b : Nat} (fin : List α × Unit → Option B) : ∀ (ys xs acc : List α) (i : Nat), (acc.length + ys.length) * b ≤ 140737488355328 → acc.length + ys.length ≤ 9223372036854775807 →
    forR (fun _ x (s : List α × Unit) => if s.1.length + 1 ≤ 9223372036854775807 ∧ (s.1.length + 1) * b ≤ 140737488355328 then some (.inl (s.1 ++ [x], ())) else none) fin i ys (acc, ()) = fin (acc ++ ys, ())
  | [], xs, acc, i, _, _ => by simp [forR]
  | y :: ys, xs, acc, i, h, hl => by
    have h1 : (acc.length + 1) * b ≤ 140737488355328 := Nat.le_trans (Nat.mul_le_mul_right b (by simp)) h
    have h2 : acc.length + 1 ≤ 9223372036854775807 := by simp at hl; omega
    simp only [forR]
    rw [if_pos ⟨h2, h1⟩]
    have := forR_copy fin ys xs (acc ++ [y]) (i + 1) (by simp at h ⊢; rw [show acc.length + 1 + ys.length = acc.length + (ys.length + 1) by omega]; exact h) (by simp at hl ⊢; omega)
    simpa using this
/-- What is appended where it fits. -/
def apN {α : Type} (b : Nat) (xs ys : List α) : Option (List α) := if xs.length + ys.length ≤ 9223372036854775807 ∧ (xs.length + ys.length) * b ≤ 140737488355328 then some (xs ++ ys) else none
theorem loop_copyS {α B : Type} (xs : List α) (b : Nat) (K : List α → Option B) (f : Int × List α × Unit → Option ((Int × List α × Unit) ⊕ B)) (h : xs.length * b ≤ 140737488355328) (hl : xs.length < 4611686018427387904)
    (h1 : ∀ (i : Nat) (x : α) (acc : List α), i < xs.length → xs[i]? = some x → f ((i : Int), acc, ()) = (apN b acc [x]).bind fun v => some (Sum.inl (IntKind.i64.wrap ((i : Int) + 1), v, ())))
    (h2 : ∀ acc, f ((xs.length : Int), acc, ()) = (K acc).bind fun r => some (Sum.inr r)) : loopS f (0, [], ()) = K xs := by
  have := loopS_forR (S := List α × Unit) (f := f) xs (fun _ x (s : List α × Unit) => if s.1.length + 1 ≤ 9223372036854775807 ∧ (s.1.length + 1) * b ≤ 140737488355328 then some (.inl (s.1 ++ [x], ())) else none) (fun s => K s.1) hl
    (fun i x s hi hx => by
      obtain ⟨acc, u⟩ := s
      rw [h1 i x acc hi hx]
      simp only [apN, List.length_singleton, wrap_succ hi hl]
      split <;> rfl) (fun s => h2 s.1) ([], ())
  rw [this, forR_copy (fun s => K s.1) xs xs [] 0 (by simpa using h) (by simp; omega)]
  simp
theorem loop_copy {α B : Type} (xs : List α) (b : Nat) (z : List α) (K : List α → Option B) (f : Int × List α × Unit → Option ((Int × List α × Unit) ⊕ B)) (h : xs.length * b ≤ 140737488355328) (hl : xs.length < 4611686018427387904)
    (hf : ∀ (i : Int) (acc : List α), f (i, acc, ()) = if decide (i < ((List.length xs : Nat) : Int)) = true then (if decide (i < ((List.length xs : Nat) : Int)) = true then
        (if 0 ≤ i ∧ i < ((List.length xs : Nat) : Int) then (xs)[(i).toNat]? else none : Option α).bind (fun x => (apN b acc [x]).bind fun v => some (Sum.inl (IntKind.i64.wrap (i + 1), v, ())))
        else (apN b acc z).bind fun v => some (Sum.inl (IntKind.i64.wrap (i + 1), v, ())))
      else (K acc).bind fun r => some (Sum.inr r)) : loopS f (0, [], ()) = K xs := by
  refine loop_copyS xs b K f h hl (fun i x acc hi hx => ?_) (fun acc => ?_)
  · rw [hf, dec_lt hi]
    simp only [if_true]
    rw [idx_some hx]
    rfl
  · rw [hf, dec_nlt]
    simp only [Bool.false_eq_true, if_false]
theorem ite_bind {α β : Type} (c : Prop) [Decidable c] (x y : Option α) (f : α → Option β) : (if c then x else y).bind f = if c then x.bind f else y.bind f := by split <;> rfl
/-- A loop's end, with what holds behind so many steps. -/
theorem forR_inv {α S B : Type} {stp : Nat → α → S → Option (S ⊕ B)} {fin : S → Option B} (I : Nat → S → Prop) : ∀ (xs : List α) (i : Nat) (s : S), I i s → (∀ j x s, xs[j]? = some x → I (i + j) s → ∃ s', stp (i + j) x s = some (.inl s') ∧ I (i + j + 1) s') →
    ∃ s', forR stp fin i xs s = fin s' ∧ I (i + xs.length) s'
  | [], i, s, h, _ => ⟨s, rfl, h⟩
  | x :: xs, i, s, h, hs => by
    obtain ⟨s', h1, h2⟩ := hs 0 x s rfl h
    simp only [Nat.add_zero] at h1 h2
    obtain ⟨s2, h3, h4⟩ := forR_inv (fin := fin) I xs (i + 1) s' h2 fun j y t hy ht => by
      have e : i + 1 + j = i + (j + 1) := by omega
      rw [e] at ht ⊢
      exact hs (j + 1) y t (by simpa using hy) ht
    refine ⟨s2, ?_, ?_⟩
    · simp only [forR, h1, h3]
    · rw [List.length_cons, show i + (xs.length + 1) = i + 1 + xs.length by omega]; exact h4
/-- A loop that ends, in its midst or at its end. -/
theorem forR_total {α S B : Type} {stp : Nat → α → S → Option (S ⊕ B)} {fin : S → Option B} {Q : B → Prop} (I : Nat → S → Prop) : ∀ (xs : List α) (i : Nat) (s : S), I i s → (∀ j x s, xs[j]? = some x → I (i + j) s → (∃ s', stp (i + j) x s = some (.inl s') ∧ I (i + j + 1) s') ∨ ∃ r, stp (i + j) x s = some (.inr r) ∧ Q r) →
    (∀ s, I (i + xs.length) s → ∃ r, fin s = some r ∧ Q r) → ∃ r, forR stp fin i xs s = some r ∧ Q r
  | [], i, s, h, _, hf => hf s h
  | x :: xs, i, s, h, hs, hf => by
    rcases hs 0 x s rfl h with ⟨s', h1, h2⟩ | ⟨r, h1, h2⟩
    · simp only [Nat.add_zero] at h1 h2
      obtain ⟨r, h3, h4⟩ := forR_total I xs (i + 1) s' h2 (fun j y t hy ht => by
        have e : i + 1 + j = i + (j + 1) := by omega
        rw [e] at ht ⊢
        exact hs (j + 1) y t (by simpa using hy) ht) (fun s hs => hf s (by rw [List.length_cons, show i + (xs.length + 1) = i + 1 + xs.length by omega]; exact hs))
      exact ⟨r, by simp only [forR, h1, h3], h4⟩
    · simp only [Nat.add_zero] at h1
      exact ⟨r, by simp only [forR, h1], h2⟩
end Go.AW

namespace Go.AW
section
variable {α β γ : Type} {c : Prop} [Decidable c]
theorem gS (x y : α) (f : α → Option β) : (if c then some x else some y).bind f = f (if c then x else y) := by split <;> rfl
theorem gA (x : α) (h : α → Option β) (g : β → Option γ) (z : Option γ) : (if c then ((if c then some x else none).bind h).bind g else z) = if c then (h x).bind g else z := by split <;> rfl
theorem gA3 {δ : Type} (x : α) (h : α → Option β) (k : β → Option δ) (g : δ → Option γ) (z : Option γ) : (if c then (((if c then some x else none).bind h).bind k).bind g else z) = if c then ((h x).bind k).bind g else z := by split <;> rfl
theorem gA' (x : α) (h : α → Option β) (z : Option β) : (if c then (if c then some x else none).bind h else z) = if c then h x else z := by split <;> rfl
theorem gB (x y z : α) : (if c then (if c then x else y) else z) = if c then x else z := by split <;> rfl
theorem gC (b : Bool) (p : Option β) (x : α) (h : α → Option β) : (if b = true then p else ((if (!b) = true then some x else none).bind h)) = if b = true then p else h x := by cases b <;> rfl
theorem gM (x : α) (f : α → β) : (if c then some x else none).map f = if c then some (f x) else none := by split <;> rfl
theorem gO (x : α) (h : α → β) : (if c then some x else none).bind (fun y => some (h y)) = if c then some (h x) else none := by split <;> rfl
theorem gAnd (b x : Bool) : (if b = true then x else false) = (b && x) := by cases b <;> rfl
theorem gOr (b x : Bool) : (if b = true then true else x) = (b || x) := by cases b <;> rfl
theorem gSS (x y : α) : (if c then some x else some y) = some (if c then x else y) := by split <;> rfl
theorem gId (b : Bool) : (if b = true then true else false) = b := by cases b <;> rfl
theorem gD (p q : Bool) (t : Option β) (x : α) (h : α → Option β) (g : β → Option γ) (z : Option γ) : (if p = true then (if q = true then t else (if (p && !q) = true then some x else none).bind h).bind g else z) = if p = true then (if q = true then t else h x).bind g else z := by cases p <;> cases q <;> rfl
theorem gE (p q : Bool) (t : Option β) (x : α) (h : α → Option β) (g : β → Option γ) (z : Option γ) : (if p = true then (if q = true then (if (p && q) = true then some x else none).bind h else t).bind g else z) = if p = true then (if q = true then h x else t).bind g else z := by cases p <;> cases q <;> rfl
theorem gF (p q : Bool) (t : Option α) (x : α) (g : α → Option γ) (z : Option γ) : (if p = true then (if q = true then (if (p && q) = true then some x else none) else t).bind g else z) = if p = true then (if q = true then some x else t).bind g else z := by cases p <;> cases q <;> rfl
end
open Go.RowKit
theorem loopT_total {A B : Type} {f : A → Option (A ⊕ B)} (I : Nat → A → Prop) {Q : B → Prop} (h : ∀ m v, I m v → (∃ r, f v = some (.inr r) ∧ Q r) ∨ ∃ m' v', m' < m ∧ f v = some (.inl v') ∧ I m' v') :
    ∀ n m v, m < n → I m v → ∃ r, loopT n f v = some r ∧ Q r
  | 0, m, v, hm, _ => absurd hm (Nat.not_lt_zero m)
  | n + 1, m, v, hm, hI => by
    rcases h m v hI with ⟨r, h1, h2⟩ | ⟨m', v', h1, h2, h3⟩
    · exact ⟨r, by simp only [loopT, h1], h2⟩
    · obtain ⟨r, h4, h5⟩ := loopT_total I h n m' v' (by omega) h3
      exact ⟨r, by simp only [loopT, h2, h4], h5⟩
/-- A loop that comes to its end: a number falls. -/
theorem loopS_total {A B : Type} {f : A → Option (A ⊕ B)} (I : Nat → A → Prop) {Q : B → Prop} (n : Nat) (v : A) (hn : n < 4611686018427387904) (h0 : I n v)
    (h : ∀ m v, I m v → (∃ r, f v = some (.inr r) ∧ Q r) ∨ ∃ m' v', m' < m ∧ f v = some (.inl v') ∧ I m' v') : ∃ r, loopS f v = some r ∧ Q r := by
  rw [loopS_eq]
  exact loopT_total I h FUEL' n v (by rw [FUEL_eq]; exact hn) h0
theorem step_of {A B : Type} {o : Option (A ⊕ B)} {m : Nat} {I : Nat → A → Prop} {Q : B → Prop} (h : ∃ r, o = some r ∧ ((∃ b, r = .inr b ∧ Q b) ∨ ∃ m' v', m' < m ∧ r = .inl v' ∧ I m' v')) :
    (∃ r, o = some (.inr r) ∧ Q r) ∨ ∃ m' v', m' < m ∧ o = some (.inl v') ∧ I m' v' := by
  obtain ⟨r, h1, ⟨b, rfl, h2⟩ | ⟨m', v', h2, rfl, h3⟩⟩ := h
  · exact .inl ⟨b, h1, h2⟩
  · exact .inr ⟨m', v', h2, h1, h3⟩
theorem ex_unit {α : Type} {o : Option (α × Unit)} (h : ∃ r, o = some r ∧ True) : ∃ x, o = some (x, ()) := by
  obtain ⟨⟨x, u⟩, h, -⟩ := h; exact ⟨x, h⟩
end Go.AW

namespace Go.AW
open Go.RowKit Go.WideShapes Go.ChangeShapes

def RepCs (pub : Nat → Nat → Option Value) (xs : List DV) (cs : List Value) : Prop := xs.length = cs.length ∧ ∀ (i : Nat) (x : DV) (v : Value), xs[i]? = some x → cs[i]? = some v → RepD pub x v
theorem RepCs.nil (pub : Nat → Nat → Option Value) : RepCs pub [] [] := ⟨rfl, fun i x v h => by simp at h⟩
theorem RepCs.cons {pub : Nat → Nat → Option Value} {x : DV} {v : Value} {xs : List DV} {cs : List Value} (h : RepD pub x v) (h' : RepCs pub xs cs) : RepCs pub (x :: xs) (v :: cs) := by
  refine ⟨by simp [h'.1], fun i y u h1 h2 => ?_⟩
  cases i with
  | zero => simp at h1 h2; subst h1; subst h2; exact h
  | succ i => exact h'.2 i y u (by simpa using h1) (by simpa using h2)
theorem RepCs.append {pub : Nat → Nat → Option Value} : ∀ {xs : List DV} {cs : List Value} {ys : List DV} {ds : List Value}, RepCs pub xs cs → RepCs pub ys ds → RepCs pub (xs ++ ys) (cs ++ ds)
  | [], [], _, _, _, h => h
  | [], _ :: _, _, _, h, _ => by simp [RepCs] at h
  | _ :: _, [], _, _, h, _ => by simp [RepCs] at h
  | x :: xs, v :: cs, _, _, h, h' => by
    refine RepCs.cons (h.2 0 x v rfl rfl) (RepCs.append ⟨by simpa using h.1, fun i a b h1 h2 => h.2 (i + 1) a b (by simpa using h1) (by simpa using h2)⟩ h')
/-- From a place on. -/
def RepAt (pub : Nat → Nat → Option Value) (cs : List Value) (o : Nat) (xs : List DV) : Prop := RepCs pub xs (cs.drop o)
theorem RepAt.nil {pub : Nat → Nat → Option Value} {cs : List Value} {o : Nat} (h : cs.length = o) : RepAt pub cs o [] := by
  unfold RepAt; rw [List.drop_eq_nil_of_le (by omega)]; exact .nil pub
theorem RepAt.app {pub : Nat → Nat → Option Value} {cs : List Value} {o n : Nat} {xs ys : List DV} (h : RepCs pub xs ((cs.drop o).take n)) (h' : RepAt pub cs (o + n) ys) : RepAt pub cs o (xs ++ ys) := by
  unfold RepAt at h' ⊢
  rw [← List.take_append_drop n (cs.drop o), List.drop_drop]
  exact h.append h'
theorem RepAt.one {pub : Nat → Nat → Option Value} {cs : List Value} {o : Nat} {x : DV} {ys : List DV} (h : RepCs pub [x] ((cs.drop o).take 1)) (h' : RepAt pub cs (o + 1) ys) : RepAt pub cs o (x :: ys) := RepAt.app h h'

section
variable {H : Type} {enc : TypeId × Value → H} {P : Program} {W : World} {n : Nat} {t : TypeId} {cs : List Value} {x : DataW H × List MemPlace}
abbrev rdT (enc : TypeId × Value → H) (P : Program) (W : World) (n : Nat) (t : TypeId) (cs : List Value) : Option (DataW H × List MemPlace) := DataW.trod enc P W 0 (fun _ => true) true n t cs
def pubOf (W : World) (b o : Nat) : Option Value := W.cell? ⟨b, o, none⟩
/-- How much a reading holds. -/
structure Bulk (H : Type) where
  b : DataW H → Nat
  all : List (DataW H) → Nat
  str : ∀ s, b (.lit (.string s)) = s.length + 1
  slice : ∀ e s, b (.slice e s) = all e + all s + 1
  agg : ∀ p, b (.agg p) = all p + 1
  nil : all [] = 0
  cons : ∀ d r, all (d :: r) = b d + all r
  pos : ∀ d, 1 ≤ b d
theorem Bulk.le {H : Type} (B : Bulk H) : ∀ {l : List (DataW H)} {d : DataW H}, d ∈ l → B.b d ≤ B.all l
  | x :: l, d, h => by
    rw [B.cons]
    cases h with
    | head => omega
    | tail _ h => have := B.le h; omega
theorem Bulk.len {H : Type} (B : Bulk H) : ∀ (l : List (DataW H)), l.length ≤ B.all l
  | [] => by simp
  | x :: l => by
    have := B.len l
    have := B.pos x
    rw [B.cons]; simp; omega
variable {B : Bulk H} {N : Nat}
/-- How cells of a type are taken: by a value that they are, of which something is known. -/
def Dec (B : Bulk H) (N : Nat) (enc : TypeId × Value → H) (P : Program) (W : World) (t : TypeId) {α : Type} (cells : α → List DV) (Ok : α → Prop) : Prop :=
  ∀ (n : Nat) (cs : List Value) (x : DataW H × List MemPlace), rdT enc P W n t cs = some x → B.b x.1 ≤ N → ∃ a, RepCs (pubOf W) (cells a) cs ∧ Ok a
theorem dec_int (ht : P.underlying t = some (.int .i64)) : Dec B N enc P W t (fun m : Int => [.lit (.int .i64 m)]) I64 := by
  intro n cs x h hb
  cases n with
  | zero => simp [rdT, DataW.trod] at h
  | succ n =>
    unfold rdT DataW.trod at h
    rw [ht] at h
    rcases cs with - | ⟨v, - | ⟨u, cs⟩⟩
    · cases h
    · cases v with
      | int k m =>
        simp only at h
        split at h
        · rename_i hk
          obtain ⟨rfl, hw⟩ := hk
          refine ⟨m, .cons (.lit _ rfl) (.nil _), ?_⟩
          simp only [Lit.wf, Bool.and_eq_true, decide_eq_true_eq] at hw
          exact hw
        · cases h
      | _ => cases h
    · cases v <;> cases h
theorem dec_bool (ht : P.underlying t = some .bool) : Dec B N enc P W t (fun b : Bool => [.lit (.bool b)]) (fun _ => True) := by
  intro n cs x h hb
  cases n with
  | zero => simp [rdT, DataW.trod] at h
  | succ n =>
    unfold rdT DataW.trod at h
    rw [ht] at h
    rcases cs with - | ⟨v, - | ⟨u, cs⟩⟩
    · cases h
    · cases v with
      | bool b => exact ⟨b, .cons (.lit _ rfl) (.nil _), trivial⟩
      | _ => cases h
    · cases v <;> cases h
theorem dec_str (ht : P.underlying t = some .string) : Dec B N enc P W t (fun s : ByteArray => [.lit (.string s)]) (fun s => s.size ≤ N) := by
  intro n cs x h hb
  cases n with
  | zero => simp [rdT, DataW.trod] at h
  | succ n =>
    unfold rdT DataW.trod at h
    rw [ht] at h
    rcases cs with - | ⟨v, - | ⟨u, cs⟩⟩
    · cases h
    · cases v with
      | string s =>
        simp only at h
        split at h
        · rename_i hs
          cases h
          rw [B.str] at hb
          have hsz : s.data.toList.length = s.size := Array.length_toList
          exact ⟨s, .cons (.lit _ rfl) (.nil _), by omega⟩
        · cases h
      | _ => cases h
    · cases v <;> cases h

theorem mapM_all {α β : Type} {f : α → Option β} : ∀ {l : List α} {r : List β}, l.mapM f = some r → r.length = l.length ∧ ∀ (i : Nat) (a : α), l[i]? = some a → ∃ b, f a = some b ∧ b ∈ r
  | [], r, h => by simp at h; subst h; exact ⟨rfl, fun i a h => by simp at h⟩
  | a :: l, r, h => by
    rw [List.mapM_cons] at h
    simp only [Option.bind_eq_bind, Option.bind_eq_some_iff, Option.pure_def, Option.some.injEq] at h
    obtain ⟨b, hb, r', hr, rfl⟩ := h
    obtain ⟨h1, h2⟩ := mapM_all hr
    refine ⟨by simp [h1], fun i a' hi => ?_⟩
    cases i with
    | zero => simp at hi; subst hi; exact ⟨b, hb, List.mem_cons_self ..⟩
    | succ i => obtain ⟨b', q1, q2⟩ := h2 i a' (by simpa using hi); exact ⟨b', q1, List.mem_cons_of_mem _ q2⟩
theorem choose_list {α : Type} (Q : Nat → α → Prop) : ∀ (n : Nat), (∀ i, i < n → ∃ a, Q i a) → ∃ l : List α, l.length = n ∧ ∀ (i : Nat) (a : α), l[i]? = some a → Q i a
  | 0, _ => ⟨[], rfl, fun i a h => by simp at h⟩
  | n + 1, h => by
    obtain ⟨l, hl, hq⟩ := choose_list Q n fun i hi => h i (by omega)
    obtain ⟨a, ha⟩ := h n (by omega)
    refine ⟨l ++ [a], by simp [hl], fun i b hb => ?_⟩
    rw [List.getElem?_append] at hb
    split at hb
    · exact hq i b hb
    · have : i = n := by
        have := (List.getElem?_eq_some_iff.1 hb).1
        simp at this; omega
      subst this
      simp [hl] at hb
      subst hb; exact ha
theorem add_none (b o i : Nat) : (⟨b, o, none⟩ : Addr).add i = ⟨b, o + i, none⟩ := by
  unfold Addr.add; split <;> simp_all
theorem cells?_get {a : Addr} {m : Nat} {ds : List Value} (h : W.cells? 0 a m = some ds) : ds.length = m ∧ ∀ (j : Nat) (v : Value), ds[j]? = some v → W.cell? (a.add j) = some v := by
  unfold World.cells? at h
  rw [if_pos (Nat.zero_le _)] at h
  have key : ∀ (l : List Nat) (ds : List Value), l.mapM (fun i => W.cell? (a.add i)) = some ds → ds.length = l.length ∧ ∀ (j : Nat) (k : Nat) (v : Value), l[j]? = some k → ds[j]? = some v → W.cell? (a.add k) = some v := by
    intro l
    induction l with
    | nil => intro ds h; simp at h; subst h; exact ⟨rfl, fun j k v h => by simp at h⟩
    | cons i l ih =>
      intro ds h
      rw [List.mapM_cons] at h
      simp only [Option.bind_eq_bind, Option.bind_eq_some_iff, Option.pure_def, Option.some.injEq] at h
      obtain ⟨b, hb, r', hr, rfl⟩ := h
      obtain ⟨h1, h2⟩ := ih r' hr
      refine ⟨by simp [h1], fun j k v hj hv => ?_⟩
      cases j with
      | zero => simp at hj hv; subst hj; subst hv; exact hb
      | succ j => exact h2 j k v (by simpa using hj) (by simpa using hv)
  obtain ⟨h1, h2⟩ := key _ _ h
  rw [List.length_range] at h1
  refine ⟨h1, fun j v hv => h2 j j v ?_ hv⟩
  have := (List.getElem?_eq_some_iff.1 hv).1
  rw [List.getElem?_range (by omega)]
theorem dec_sl {e : TypeId} {α : Type} {cells : α → List DV} {Ok : α → Prop} {s : Nat} (ht : P.underlying t = some (.slice e)) (hs : P.cellsOf e = s) (hp : 0 < s) (hD : Dec B N enc P W e cells Ok) :
    Dec B N enc P W t (fun l : List α => [slv s (l.map cells)]) (fun l => l.length ≤ N ∧ ∀ a ∈ l, Ok a) := by
  intro n cs x h hb
  cases n with
  | zero => simp [rdT, DataW.trod] at h
  | succ n =>
    unfold rdT DataW.trod at h
    rw [ht] at h
    rcases cs with - | ⟨v, - | ⟨u, cs⟩⟩
    · cases h
    · cases v with
      | slice a len cap =>
        cases a with
        | none =>
          cases len with
          | zero =>
            cases cap with
            | zero => exact ⟨[], .cons (.sl0 _ _ _) (.nil _), by simp, fun a h => by simp at h⟩
            | succ c => cases h
          | succ l => cases h
        | some a =>
          simp only at h
          split at h
          · rename_i hc
            obtain ⟨-, hlc, hcm⟩ := hc
            simp only [Option.bind_eq_some_iff] at h
            obtain ⟨elems, he, h⟩ := h
            simp only [Option.map_eq_some_iff] at h
            obtain ⟨rest, -, rfl⟩ := h
            simp only at hb
            rw [B.slice] at hb
            have hel := B.len (elems.map (·.1))
            rw [List.length_map] at hel
            obtain ⟨h1, h2⟩ := mapM_all he
            have h3 : ∀ i, i < len → ∃ a' : α, ∃ ds, W.cells? 0 (a.add (i * s)) s = some ds ∧ RepCs (pubOf W) (cells a') ds ∧ Ok a' := by
              intro i hi
              obtain ⟨b, hb', hbm⟩ := h2 i i (by simp [hi])
              simp only [Option.bind_eq_some_iff] at hb'
              obtain ⟨ds, hd, hb'⟩ := hb'
              have hle := B.le (List.mem_map_of_mem (f := (·.1)) hbm)
              obtain ⟨a', h4, h5⟩ := hD n ds b hb' (by omega)
              rw [hs] at hd
              exact ⟨a', ds, hd, h4, h5⟩
            obtain ⟨l, hl, hq⟩ := choose_list (fun i (a' : α) => ∃ ds, W.cells? 0 (a.add (i * s)) s = some ds ∧ RepCs (pubOf W) (cells a') ds ∧ Ok a') len h3
            refine ⟨l, .cons (RepD.slv ?_) (.nil _), by have h1' : elems.length = len := by { simpa using h1 }; omega, fun a' ha' => ?_⟩
            · rcases Nat.eq_zero_or_pos len with e0 | e0
              · subst e0
                have : l = [] := List.eq_nil_of_length_eq_zero hl
                subst this
                exact .sl0 _ _ _
              · have hspot : a.spot = none := by
                  obtain ⟨a', ds, hd, -, -⟩ := h3 0 e0
                  obtain ⟨hdl, hdc⟩ := cells?_get hd
                  have := hdc 0 (ds[0]'(by omega)) (by simp [List.getElem?_eq_getElem (show 0 < ds.length by omega)])
                  unfold World.cell? at this
                  split at this
                  · split at this
                    · cases this
                    · rename_i hsp
                      simpa [Addr.add] using hsp
                  · cases this
                have ha : a = ⟨a.block, a.off, none⟩ := by cases a; simp_all
                have hlen : (l.map cells).length = len := by simp [hl]
                have hcell : ∀ (i j : Nat) (a' : α) (d : DV), l[i]? = some a' → (cells a')[j]? = some d → ∃ v, pubOf W a.block (a.off + i * s + j) = some v ∧ RepD (pubOf W) d v := by
                  intro i j a' d hi hj
                  obtain ⟨ds, hd, hrep, -⟩ := hq i a' hi
                  obtain ⟨hdl, hdc⟩ := cells?_get hd
                  have hjl : j < ds.length := by rw [← hrep.1]; exact (List.getElem?_eq_some_iff.1 hj).1
                  refine ⟨ds[j], ?_, hrep.2 j d _ hj (List.getElem?_eq_getElem hjl)⟩
                  have := hdc j ds[j] (List.getElem?_eq_getElem hjl)
                  rw [ha, add_none, add_none] at this
                  exact this
                have := RepD.sl (pub := pubOf W) s (l.map cells) a.block a.off cap (fun k => (pubOf W a.block (a.off + k)).getD undef) (by omega) (fun i y hy => ?_) (by omega) (fun i j y d hy hd => ?_) (fun i j y d hy hd => ?_)
                · rw [hlen] at this
                  rw [ha]
                  exact this
                · simp only [List.getElem?_map, Option.map_eq_some_iff] at hy
                  obtain ⟨a', hi, rfl⟩ := hy
                  obtain ⟨ds, hd, hrep, -⟩ := hq i a' hi
                  rw [hrep.1]; exact (cells?_get hd).1
                · simp only [List.getElem?_map, Option.map_eq_some_iff] at hy
                  obtain ⟨a', hi, rfl⟩ := hy
                  obtain ⟨v, hv, -⟩ := hcell i j a' d hi hd
                  simp only [← Nat.add_assoc]
                  rw [hv]; rfl
                · simp only [List.getElem?_map, Option.map_eq_some_iff] at hy
                  obtain ⟨a', hi, rfl⟩ := hy
                  obtain ⟨v, hv, hr⟩ := hcell i j a' d hi hd
                  simp only [← Nat.add_assoc]
                  rw [hv]; exact hr
            · obtain ⟨i, hi⟩ := List.getElem?_of_mem ha'
              exact (hq i a' hi).choose_spec.2.2
          · cases h
      | _ => cases h
    · cases v <;> first | cases h | (rename_i a len cap; cases a <;> cases len <;> cases cap <;> cases h)
/-- A struct's fields. -/
theorem dec_fields {fs : Array Field} (ht : P.underlying t = some (.struct fs)) (h : rdT enc P W n t cs = some x) (hb : B.b x.1 ≤ N) : cs.length = P.cellsOf t ∧ ∃ m, ∀ (i : Nat) (f : Field), fs[i]? = some f → ∃ y, rdT enc P W m f.type ((cs.drop f.offset).take (P.cellsOf f.type)) = some y ∧ B.b y.1 ≤ N := by
  cases n with
  | zero => simp [rdT, DataW.trod] at h
  | succ n =>
    unfold rdT DataW.trod at h
    rw [ht] at h
    have h' : (if cs.length = P.cellsOf t then (fs.toList.mapM fun f => DataW.trod enc P W 0 (fun _ => true) true n f.type ((cs.drop f.offset).take (P.cellsOf f.type))).map fun xs => (DataW.agg (xs.map (·.1)), xs.flatMap (·.2)) else none) = some x := by
      rcases cs with - | ⟨v, - | ⟨u, cs⟩⟩
      · exact h
      · cases v <;> first | exact h | (rename_i a len cap; cases a <;> cases len <;> cases cap <;> exact h)
      · cases v <;> first | exact h | (rename_i a len cap; cases a <;> cases len <;> cases cap <;> exact h)
    split at h'
    · rename_i hl
      simp only [Option.map_eq_some_iff] at h'
      obtain ⟨xs, hx, rfl⟩ := h'
      simp only at hb
      rw [B.agg] at hb
      refine ⟨hl, n, fun i f hf => ?_⟩
      obtain ⟨y, q1, q2⟩ := (mapM_all hx).2 i f (by simpa using hf)
      have hle := B.le (List.mem_map_of_mem (f := (·.1)) q2)
      exact ⟨y, q1, by omega⟩
    · cases h'
end
end Go.AW

namespace Go.AW
open Go.RowKit Go.WideShapes Go.ChangeShapes Go.ChangeAt

def g0 (W : World) : Gh := ⟨pubOf W, fun _ => 0, 0, 0, fun _ => none, W.heap.size⟩
def st0 : St := ⟨0, fun _ => (0, []), 0, fun _ => none⟩
theorem R0 (W : World) : R W (g0 W) st0 where
  hn := rfl
  hk := rfl
  pub := fun _ _ _ h => h
  obj := fun i h => by cases h
  inj := fun i j h => by cases h
  sep := fun i h => by cases h
  base := Nat.le_refl _
  baseO := fun i h => by cases h
  tok := fun t e s v m h => by cases h
  tinj := fun t t' x x' b h => by cases h
  liv := fun t e h => by cases h
theorem rep_agg {W : World} {xs : List DV} {vs : Array Value} (h : RepCs (pubOf W) xs vs.toList) : Rep (g0 W) (.agg (xs.map .d)) (.agg vs) := by
  refine .agg _ _ (by simpa using h.1) fun i a v h1 h2 => ?_
  simp only [List.getElem?_map, Option.map_eq_some_iff] at h1
  obtain ⟨x, hx, rfl⟩ := h1
  exact .d (h.2 i x v hx (by simpa using h2))
theorem RepL.nil' (g : Gh) : RepL g [] #[] := ⟨rfl, fun i a v h => by simp at h⟩
theorem RepL.cons' {g : Gh} {a : AV} {v : Value} {as : List AV} {vs : Array Value} (h : Rep g a v) (h' : RepL g as vs) : RepL g (a :: as) (#[v] ++ vs) := by
  refine ⟨by simp [h'.1]; omega, fun i b u h1 h2 => ?_⟩
  cases i with
  | zero => simp at h1; subst h1; simp [Array.getElem?_append] at h2; subst h2; exact h
  | succ i =>
    refine h'.2 i b u (by simpa using h1) ?_
    rw [Array.getElem?_append] at h2
    simpa using h2
theorem law_calls {P : Program} {k : FuncId} {as : List AV} {vals : Array Value} {W : World} (ht : ∀ W', Below W.heap.size W W' → Glob P W') (hct : Ct P k as st0 (fun r s => r = .d (.lit (.bool true)) ∧ s = st0)) (hr : RepL (g0 W) as vals) :
    Calls P k vals W fun e W' => e = .returned (.bool true) ∧ Below W.heap.size W W' :=
  (hct.2 W (g0 W) vals ⟨R0 W, ht⟩ hr).mono fun e w' ⟨r, st', g', v, he, ⟨hq, _⟩, _, hv, _, hb⟩ => by
    subst hq
    have := hv.lit_inv
    subst this
    exact ⟨he, hb⟩

section
variable {H : Type} {enc : TypeId × Value → H} {P : Program}
theorem trodAll_stays (hl : laidOutB P = true) {W W' : World} {sp : Nat → Bool} : ∀ {ts : List TypeId} {vs : List Value} {ds : List (DataW H)} {ps : List MemPlace}, (∀ t ∈ ts, P.readableRec t = true ∧ t < P.types.size) →
    DataW.TrodAll enc P W 0 (fun _ => true) true ts vs ds ps → (∀ x ∈ ps, W.sameAt W' x) → (∀ x ∈ ps, sp x.block = true) → DataW.TrodAll enc P W' 0 sp true ts vs ds ps
  | [], vs, ds, ps, _, h, _, _ => by
    obtain ⟨rfl, rfl, rfl⟩ := trodAll_nil h
    exact trodAll_mk0
  | t :: ts, vs, ds, ps, ht, h, hs, hp => by
    obtain ⟨v, vs', d, ds', p, q, rfl, rfl, rfl, h1, h2⟩ := trodAll_cons h
    exact trodAll_cons_mk (Go.WideElems.Trod_stays hl (ht t (by simp)).1 (ht t (by simp)).2 h1 (fun x hx => hs x (by simp [hx])) (fun x hx => hp x (by simp [hx])))
      (trodAll_stays hl (fun u hu => ht u (by simp [hu])) h2 (fun x hx => hs x (by simp [hx])) (fun x hx => hp x (by simp [hx])))
theorem trodAll_length {W : World} {b : Nat} {sp : Nat → Bool} {hd : Bool} : ∀ {ts : List TypeId} {vs : List Value} {ds : List (DataW H)} {ps : List MemPlace}, DataW.TrodAll enc P W b sp hd ts vs ds ps → ds.length = ts.length
  | [], vs, ds, ps, h => by obtain ⟨rfl, rfl, rfl⟩ := trodAll_nil h; rfl
  | t :: ts, vs, ds, ps, h => by
    obtain ⟨v, vs', d, ds', p, q, rfl, rfl, rfl, h1, h2⟩ := trodAll_cons h
    simp [trodAll_length h2]
theorem law_post {f : Func} {s : ChangeSpec} {apart fresh handsOn again : Bool} {W W' : World} {args : Array Value} {ds gs : List (DataW H)} {before : List MemPlace} {tb : TypeId}
    (hl : laidOutB P = true) (hr : f.resultTypes = #[tb]) (hb : P.underlying tb = some .bool) (hts : ∀ t ∈ f.params.toList, P.readableRec t = true ∧ t < P.types.size) (hv : s.vars = [])
    (hs : ∀ ds : List (DataW H), ds.length = f.params.toList.length → s.fn H ds = { results := [.lit (.bool true)], args := ds })
    (hW : DataW.Whole enc P f.params.toList s.vars apart W args.toList ds gs before) (hbel : Below W.heap.size W W') :
    s.post enc P f apart fresh handsOn again W args (.bool true) W' := by
  have hlt : ∀ p ∈ before, p.block < W.heap.size := fun p hp => hW.lt p hp
  have hold : ∀ p ∈ before, (fun b => decide (b < W.heap.size)) p.block = true := fun p hp => by simpa using hlt p hp
  have hW' := hW
  obtain ⟨p, q, h1, h2, rfl, hz, hn⟩ := hW
  rw [hv] at h2
  obtain ⟨rfl, rfl⟩ := trodVars_none h2
  have hlen := trodAll_length h1
  have e := hs ds hlen
  have hargs : ∀ sp : Nat → Bool, (∀ x ∈ p ++ ([] : List MemPlace), sp x.block = true) → DataW.TrodAll enc P W' 0 sp true f.params.toList args.toList ds p := fun sp hsp =>
    trodAll_stays hl hts h1 (fun x hx => hbel.same (hlt x (by simp [hx]))) (fun x hx => hsp x (by simp [hx]))
  have hres : ∀ (b : Nat) (sp : Nat → Bool) (hd : Bool), DataW.TrodAll enc P W' b sp hd f.resultTypes.toList ((Value.bool true).resultList f.resultTypes.size) (s.fn H (ds ++ [])).results [] := fun b sp hd => by
    rw [hr, List.append_nil, e]
    exact trodAll_cons_mk (shut_bool hb _) trodAll_mk0
  have hvars : ∀ sp : Nat → Bool, DataW.TrodVars enc P W' sp s.vars (s.fn H (ds ++ [])).vars [] := fun sp => by
    rw [List.append_nil, e, hv]; exact rfl
  refine ⟨ds, [], p ++ [], [], p, [], hW', hres _ _ _, by rw [List.append_nil, e]; exact hargs _ hold, hvars _, World.keptBut_mono (fun x hx => ⟨hx, ?_⟩) (hbel.frame (· ∈ p ++ [])), fun _ => ?_⟩
  · exact Or.inr (by simpa using hx)
  · refine ⟨?_, _, _, ([] ++ p) ++ [], ⟨[] ++ p, [], (by
      have h3 := hargs (fun _ => true) (fun _ _ => rfl)
      have h4 : DataW.TrodAll enc P W' 0 (fun _ => true) true f.params.toList args.toList (s.fn H (ds ++ [])).args p := by rw [List.append_nil, e]; exact h3
      exact trodAll_append h4 (hres _ _ _)), hvars _, rfl, ?_, ?_⟩, ?_⟩
    · exact ok_one hr rfl (okWide_bool_mk hb _)
    · intro b off hp
      have hin : MemPlace.cell b off ∈ p ++ [] := by simpa using hp
      rw [hbel.frozen (hlt _ hin)]
      exact hz b off hin
    · intro ha
      simpa using hn ha
    · intro x hx _
      simpa using hx
end
end Go.AW

namespace Go.AW
open Go.RowKit
theorem repD_dvo {pub : Nat → Nat → Option Value} {x : DV} {v : Value} (h : RepD pub x v) : dvo x = true := by
  induction h with
  | lit v h => exact h
  | sl0 s a cap => rfl
  | sl s xs b o cap c hne hl hc hp hr ih =>
    simp only [dvo]
    rw [dvoss_all]
    intro x hx
    rw [dvos_all]
    intro d hd
    obtain ⟨i, hi⟩ := List.getElem?_of_mem hx
    obtain ⟨j, hj⟩ := List.getElem?_of_mem hd
    exact ih i j x d hi hj
theorem repCs_dvos {pub : Nat → Nat → Option Value} {xs : List DV} {cs : List Value} (h : RepCs pub xs cs) : dvos xs = true := by
  rw [dvos_all]
  intro x hx
  obtain ⟨i, hi⟩ := List.getElem?_of_mem hx
  have hlt : i < cs.length := by rw [← h.1]; exact (List.getElem?_eq_some_iff.1 hi).1
  exact repD_dvo (h.2 i x _ hi (List.getElem?_eq_getElem hlt))
theorem toDs_data : ∀ xs : List DV, toDs (xs.map .d) = some xs
  | [] => rfl
  | x :: l => by simp only [List.map_cons, toDs, toD, toDs_data l]
/-- The arguments of a law: plain numbers, truth values, texts; structs. -/
inductive LA where
  | one (x : DV)
  | agg (r : Row)
def LA.row : LA → Row
  | .one x => [x]
  | .agg r => r
def LA.av : LA → AV
  | .one x => .d x
  | .agg r => .agg (r.map .d)
def LA.ok : LA → Prop
  | .one x => dvo x = true
  | .agg r => dvos r = true
/-- How a contract's arguments are spelt. -/
def laArgs : Nat → Nat → Nat → List LA → List SV
  | _, _, _, [] => []
  | i, w, b, .one _ :: l => .one (.v i) (some (.w w)) :: laArgs (i + 1) (w + 1) b l
  | i, w, b, .agg r :: l => .agg (.v i) r.length (.g b 0) [] :: laArgs (i + 1) w (b + 1) l
def laOnes : List LA → List AV
  | [] => []
  | .one x :: l => .d x :: laOnes l
  | .agg _ :: l => laOnes l
def laAggs : List LA → List (List AV)
  | [] => []
  | .one _ :: l => laAggs l
  | .agg r :: l => r.map .d :: laAggs l
theorem la_rv {E : En} : ∀ (l : List LA) (i w b : Nat), (∀ j x, l[j]? = some x → E.ρ[i + j]? = some x.row ∧ x.ok) → (∀ j a, (laOnes l)[j]? = some a → E.ω (w + j) = some a) → (∀ j a, (laAggs l)[j]? = some a → E.β (b + j) = some a) →
    (laArgs i w b l).length = (l.map LA.av).length ∧ ∀ (j : Nat) (v : SV) (a : AV), (laArgs i w b l)[j]? = some v → (l.map LA.av)[j]? = some a → RV E v a
  | [], i, w, b, _, _, _ => ⟨rfl, fun j v a h => by simp [laArgs] at h⟩
  | .one x :: l, i, w, b, hr, hw, hb => by
    obtain ⟨h1, h2⟩ := la_rv l (i + 1) (w + 1) b (fun j y hy => by have := hr (j + 1) y (by simpa using hy); rw [show i + 1 + j = i + (j + 1) by omega]; exact this) (fun j a ha => by have := hw (j + 1) a (by simpa [laOnes] using ha); rw [show w + 1 + j = w + (j + 1) by omega]; exact this) (fun j a ha => hb j a (by simpa [laAggs] using ha))
    refine ⟨by simp [laArgs, h1], fun j v a hv ha => ?_⟩
    cases j with
    | zero =>
      simp only [laArgs, List.getElem?_cons_zero, List.map_cons, Option.some.injEq] at hv ha
      subst hv; subst ha
      obtain ⟨q1, q2⟩ := hr 0 _ rfl
      have q3 := hw 0 (.d x) rfl
      exact .one1 (x := x) q1 q2 q3 rfl
    | succ j => exact h2 j v a (by simpa [laArgs] using hv) (by simpa using ha)
  | .agg r :: l, i, w, b, hr, hw, hb => by
    obtain ⟨h1, h2⟩ := la_rv l (i + 1) w (b + 1) (fun j y hy => by have := hr (j + 1) y (by simpa using hy); rw [show i + 1 + j = i + (j + 1) by omega]; exact this) (fun j a ha => hw j a (by simpa [laOnes] using ha)) (fun j a ha => by have := hb (j + 1) a (by simpa [laAggs] using ha); rw [show b + 1 + j = b + (j + 1) by omega]; exact this)
    refine ⟨by simp [laArgs, h1], fun j v a hv ha => ?_⟩
    cases j with
    | zero =>
      simp only [laArgs, List.getElem?_cons_zero, List.map_cons, Option.some.injEq] at hv ha
      subst hv; subst ha
      obtain ⟨q1, q2⟩ := hr 0 _ rfl
      have q3 := hb 0 (r.map .d) rfl
      have e : ((r.map AV.d).drop 0).take r.length = r.map .d := by rw [List.drop_zero]; exact List.take_of_length_le (by simp)
      have := RB0.g (E := E) (a := .v i) (n := r.length) (b := b) (o := 0) (r := r) q1 rfl q2 q3 (by rw [e]; exact toDs_data r)
      rw [e] at this
      exact .agg (avs := []) this rfl (fun j o k v av h => by simp at h) rfl
    | succ j => exact h2 j v a (by simpa [laArgs] using hv) (by simpa using ha)
/-- A law that a chain shows. -/
theorem law_ct {P : Program} {Γ : Den} {k nv nw nb : Nat} {sp : Spec} {org : List (GK × Nat × Nat)} (hS : SpecOk P Γ k sp) (l : List LA) (hl : ∀ x ∈ l, x.ok)
    (hsp : sp = ⟨laArgs 0 1 0 l, ⟨nv, [], nw, nb, [], [], [], org⟩, ⟨[0], [], [], [], [], 0⟩, [(0, ⟨none, .one (.c []) none⟩)], false⟩) (hnv : nv = l.length) (hnw : nw = (laOnes l).length + 1) (hnb : nb = (laAggs l).length)
    (hΓ : Γ k (l.map LA.row) = some [[.lit (.bool true)]]) : Ct P k (l.map LA.av) st0 (fun r _ => r = .d (.lit (.bool true))) := by
  subst hsp
  obtain ⟨hq, hn, hh, hso, H⟩ := hS
  have hh' : headAt (⟨[0], [], [], [], [], 0⟩ : Hint) [(0, ⟨none, .one (.c []) none⟩)] ⟨nv, [], nw, nb, [], [], [], org⟩ = some (⟨⟨nv + 1, [], nw + 1, nb, [], [], [], (.w nw, 0, 0) :: org⟩, [(0, ⟨none, .one (.v nv) (some (.w nw))⟩)]⟩, []) := rfl
  rw [hh'] at hh
  cases hh
  let E : En := ⟨l.map LA.row, fun _ => none, fun n => match n with | 0 => some .nil | n + 1 => (laOnes l)[n]?, fun b => (laAggs l)[b]?⟩
  have hwf : Wf st0 := fun t e h => by cases h
  have hrv := la_rv (E := E) l 0 1 0 (fun j x hx => ⟨by simp [E, hx], hl x (List.mem_of_getElem? hx)⟩) (fun j a ha => by show (match 1 + j with | 0 => some AV.nil | n + 1 => (laOnes l)[n]?) = some a; rw [Nat.add_comm]; exact ha) (fun j a ha => by show (laAggs l)[0 + j]? = some a; rw [Nat.zero_add]; exact ha)
  refine H E st0 (l.map LA.av) [[.lit (.bool true)]] (fun r _ => r = .d (.lit (.bool true))) ?_ hrv.1 hrv.2 hΓ rfl ?_
  · exact { nv := by simp [E, hnv], w0 := rfl, wn := fun n h => by
              cases n with
              | zero => simp only at h; omega
              | succ n => show (laOnes l)[n]? = none; rw [List.getElem?_eq_none_iff]; simp only at h; omega
            bn := fun n h => by show (laAggs l)[n]? = none; rw [List.getElem?_eq_none_iff]; simp only at h; omega
            on := fun _ _ => rfl, ob := fun j o h => by simp at h, inj := fun i j id h => by simp [E] at h, gr := fun g e h => by simp at h, gd := fun g e g' e' h => by simp at h, wf := hwf, wf0 := hwf, kn := fun i b h => by simp at h
            ac := fun x h => by simp at h, fr := ⟨Nat.le_refl _, Nat.le_refl _, fun _ _ _ => rfl, fun _ _ h _ => h⟩, oA := fun j id h => by simp [E] at h, gT := fun g e t s xs h => by simp at h }
  · intro E' st' avs hle hρ hm hal hrt
    have h0 := hrt 0 ⟨none, .one (.v nv) (some (.w nw))⟩ rfl
    simp only [resAV, Bool.false_eq_true, if_false]
    rcases h0 with ⟨k, h0⟩ | h0
    · cases h0
    · generalize undefs avs 0 = av at h0
      cases h0 with
      | one1 h1 h2 h3 h4 =>
        have e : E'.ρ[nv]? = some [.lit (.bool true)] := by rw [hρ]; simp [E, hnv]
        simp only [At.ev, e, Option.some.injEq, List.cons.injEq, and_true] at h1
        subst h1
        have hsl : ∀ s xs, slv s xs ≠ DV.lit (.bool true) := fun s xs => by cases xs <;> simp [slv]
        cases av <;> simp [toD] at h4
        · exact congrArg AV.d h4
        · exact absurd h4 (hsl _ _)
theorem law_run {P : Program} {k : FuncId} {as : List AV} {vals : Array Value} {W : World} (ht : ∀ W', Below W.heap.size W W' → Glob P W') (hct : Ct P k as st0 (fun r _ => r = .d (.lit (.bool true)))) (hr : RepL (g0 W) as vals) :
    Calls P k vals W fun e W' => e = .returned (.bool true) ∧ Below W.heap.size W W' :=
  (hct.2 W (g0 W) vals ⟨R0 W, ht⟩ hr).mono fun e w' ⟨r, st', g', v, he, hq, _, hv, _, hb⟩ => by
    subst hq
    have := hv.lit_inv
    subst this
    exact ⟨he, hb⟩
/-- A chain's own law. -/
theorem Chain.law {P : Program} {U : Uni} {T : Tab} {B : Den} {l : Ch} {tc : List (Nat × TC U)} (H : Chain P U T B l tc) {k : Nat} {sp : Spec} (hsp : conL T l k = some sp) {C : TC U} (hC : lk k tc = some C) (a : Env U C.as) (r : Env U C.rs) (hF : C.F a = some r) :
    SpecOk P (denL T B l) k sp ∧ denL T B l k (Env.rows U C.as a) = some (Env.rows U C.rs r) :=
  ⟨H.ok (denL T B l) [] (fun _ _ _ _ => rfl) k sp hsp, H.den k C hC a r hF⟩
end Go.AW

namespace Go.AW
open Go.RowKit
theorem laid_tail {P : Program} {W : World} {x : String × DataW Unit} {rest : List (String × DataW Unit)} {ps : List MemPlace} (h : DataW.LaidVars P W (x :: rest) ps) : ∃ q, DataW.LaidVars P W rest q := by
  obtain ⟨g, t, cs, fuel, p, q, -, -, -, -, h5, -⟩ := h
  exact ⟨q, h5⟩
theorem laid_head {P : Program} {W : World} {name : String} {k : IntKind} {zs : List Int} {rest : List (String × DataW Unit)} {g : Nat} {t e : TypeId} {n : Nat} {ps : List MemPlace}
    (hg : P.globalNamed name = some g) (hty : (P.globals[g]?).map (·.type) = some t) (ht : P.underlying t = some (.array n e)) (he : P.underlying e = some (.int k)) (hce : P.cellsOf e = 1) (hct : P.cellsOf t = n)
    (h : DataW.LaidVars P W ((name, Lib.tabData k zs) :: rest) ps) : Lib.TabIs P W name k zs := by
  obtain ⟨g', t', cs, fuel, p, q, hg', ht', hvar, hd, -, -⟩ := h
  obtain rfl := Option.some.inj (hg.symm.trans hg')
  obtain rfl := Option.some.inj (hty.symm.trans ht')
  unfold Lib.TabIs
  rw [hvar, ← Lib.cells_of_tab ht he hce hct hd]
theorem tab_below {P : Program} {n : String} {g : Nat} {k : IntKind} {zs : List Int} {w w' : World} (hg : P.globalNamed n = some g) (h : Lib.TabIs P w n k zs) (hb : Below w.heap.size w w') : Lib.TabIs P w' n k zs := by
  unfold Lib.TabIs World.var? at h ⊢
  rw [hg] at h ⊢
  simp only [Option.bind_some] at h ⊢
  have hlt : g < w.heap.size := by
    rcases Nat.lt_or_ge g w.heap.size with h' | h'
    · exact h'
    · rw [Array.getElem?_eq_none h'] at h; cases h
  rw [hb.block g hlt]
  exact h
/-- The third one that is listed. -/
theorem glob_third {P : Program} {W : World} {a b : String × DataW Unit} {d : DataW Unit} {g : Nat} {t e : TypeId} {n : Nat} (hd : d = Lib.tabData .u64 Lib.pow10Tab)
    (hg : P.globalNamed "internal/strconv.uint64pow10" = some g) (hty : (P.globals[g]?).map (·.type) = some t) (ht : P.underlying t = some (.array n e)) (he : P.underlying e = some (.int .u64)) (hce : P.cellsOf e = 1) (hct : P.cellsOf t = n)
    (h : laidMet P [a, b, ("internal/strconv.uint64pow10", d)] W) : ∀ W', Below W.heap.size W W' → Glob P W' := by
  subst hd
  obtain ⟨ps, h, -⟩ := h
  obtain ⟨q, h⟩ := laid_tail h
  obtain ⟨q, h⟩ := laid_tail h
  have := laid_head hg hty ht he hce hct h
  exact fun W' hb => tab_below hg this hb
end Go.AW
