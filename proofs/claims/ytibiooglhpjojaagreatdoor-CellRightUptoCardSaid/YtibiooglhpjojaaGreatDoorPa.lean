/- Abstract values and what they stand for: pure data, pointers to objects that the call made, slices that it owns. · What an operation that only computes does to abstract values, and that the machine does so. · The machine does what 'ev' says. · The machine does what 'ev' says: the theorem. · Memory: what making, writing, publishing does to the relation between the world and what is known of it. · Operations that read, write and make memory. · Slices that the call makes and lengthens. · append, slice literals; what an operation asks, and that the machine does it. · Slice literals. · Struct and array literals; what each operation asks. · The machine does what 'eff' says. · Rows of operations: in the order of the text, and in whatever order Go's rules allow. · A statement whose order Go leaves open: one look at the order of the text serves every order. · Whatever order: from the row in the order of the text. -/
import Derived.WalkKit
import Derived.Laws.StructEq
import Derived.ChangeKeysEq
import Derived.Lib.ItoaNum
import Derived.Lib.LaidTab
import Derived.Deep.AppendSrc
import Derived.Laws.CopyRow
import Derived.Orders
set_option linter.unusedSimpArgs false
set_option linter.unusedVariables false
namespace Go.AW
theorem lB {n m : Nat} (h : Nat.ble n m = true) : n ≤ m := Nat.le_of_ble_eq_true h
theorem oI {α : Type _} (a b : α) : (some a = some b) = (a = b) := Option.some.injEq a b
theorem gG {α : Type _} {l : List α} {i : Nat} (h : i < l.length) : l[i]? = some l[i] := List.getElem?_eq_getElem h
theorem bA (a b : Bool) : ((a && b) = true) = (a = true ∧ b = true) := Bool.and_eq_true a b
theorem bF : (false = true) = False := Bool.false_eq_true
open Go.RowKit
inductive DV where
 | lit (v:Value)
 | sl (s:Nat) (xs:List (List DV))
 deriving Inhabited
def slv (n:Nat)(xs:List (List DV)):DV:=match xs with
 | []=>.sl 0 []
 | x::l=>.sl n (x::l)
inductive AV where
 | d (x:DV)
 | ptr (id off:Nat)
 | nil
 | own (t s:Nat) (xs:List (List DV))
 | xs (id off s cap:Nat) (xs:List (List AV))
 | psl (s:Nat) (xs:List (List AV))
 | pp (cells:List AV)
 | agg (cs:List AV)
 | tup (vs:List AV)
 | fn (f:Fn) (first cap:List AV)
 | ifc (t:TypeId) (v:AV)
 | bad
structure Gh where
 pub:Nat→Nat→Option Value
 σ:Nat→Nat
 n:Nat
 k:Nat
 tok:Nat→Option (TypeId×Nat×Value×Nat)
 B:Nat
structure Gh.le (g g':Gh):Prop where
 pub:∀b o v,g.pub b o=some v→g'.pub b o=some v
 n:g.n≤g'.n
 σ:∀i,i<g.n→g'.σ i=g.σ i
 k:g.k≤g'.k
 tok:∀t,t<g.k→∀x,g'.tok t=some x→g.tok t=some x
 B:g'.B=g.B
theorem Gh.le.refl (g:Gh):g.le g:=⟨fun _ _ _ h=>h,Nat.le_refl _,fun _ _=>rfl,Nat.le_refl _,fun _ _ _ h=>h,rfl⟩
theorem Gh.le.trans {a b c:Gh}(h:a.le b)(h':b.le c):a.le c:=
 ⟨fun _ _ _ x=>h'.pub _ _ _ (h.pub _ _ _ x),Nat.le_trans h.n h'.n,fun i hi=>(h'.σ i (Nat.lt_of_lt_of_le hi h.n)).trans (h.σ i hi),
  Nat.le_trans h.k h'.k,fun t ht x hx=>h.tok t ht x (h'.tok t (Nat.lt_of_lt_of_le ht h.k) x hx),h'.B.trans h.B⟩
inductive RepD (pub:Nat→Nat→Option Value):DV→Value→Prop
 | lit (v:Value) (h:v.oneCell'=true):RepD pub (.lit v) v
 | sl0 (s:Nat) (a:Option Addr) (cap:Nat):RepD pub (.sl s []) (.slice a 0 cap)
 | sl (s:Nat) (xs:List (List DV)) (b o cap:Nat) (c:Nat→Value) (hne:0<xs.length) (hl:∀(i:Nat) (x:List DV),xs[i]?=some x→x.length=s) (hc:xs.length≤cap)
   (hp:∀(i j:Nat) (x:List DV) (d:DV),xs[i]?=some x→x[j]?=some d→pub b (o+i * s+j)=some (c (i * s+j)))
   (hr:∀(i j:Nat) (x:List DV) (d:DV),xs[i]?=some x→x[j]?=some d→RepD pub d (c (i * s+j))) :
   RepD pub (.sl s xs) (.slice (some ⟨b,o,none⟩) xs.length cap)
theorem RepD.slv {pub:Nat→Nat→Option Value}{s:Nat}{xs:List (List DV)}{v:Value}(h:RepD pub (.sl s xs) v):RepD pub (slv s xs) v:=by
 cases xs with
 | cons x l=>exact h
 | nil=>
  cases h with
  | sl0 _ a cap=>exact .sl0 0 a cap
  | sl _ _ b o cap c hne=>exact absurd hne (by simp)
theorem RepD.re {pub:Nat→Nat→Option Value}{n s:Nat}{xs:List (List DV)}{v:Value}(h:RepD pub (.sl s xs) v)(hn:n=s∨xs=[]):RepD pub (.sl n xs) v:=by
 rcases hn with rfl | rfl
 ·exact h
 ·cases h with
  | sl0 _ a cap=>exact .sl0 n a cap
  | sl _ _ b o cap c hne=>exact absurd hne (by simp)
theorem RepD.mono {pub pub':Nat→Nat→Option Value}(h:∀b o v,pub b o=some v→pub' b o=some v){x:DV}{v:Value}(hx:RepD pub x v):RepD pub' x v:=by
 induction hx with
 | lit v hv=>exact .lit v hv
 | sl0 s a cap=>exact .sl0 s a cap
 | sl s xs b o cap c hne hl hc hp hr ih=>exact .sl s xs b o cap c hne hl hc (fun i j x d h1 h2=>h _ _ _ (hp i j x d h1 h2)) ih
inductive Rep (g:Gh):AV→Value→Prop
 | d {x:DV} {v:Value} (h:RepD g.pub x v):Rep g (.d x) v
 | ptr (id off:Nat) (h:id<g.n):Rep g (.ptr id off) (.pointer (some ⟨g.σ id,off,none⟩))
 | nil:Rep g .nil (.slice none 0 0)
 | own {t s:Nat} {xs:List (List DV)} {v:Value} (ht:t<g.k) (h:RepD g.pub (.sl s xs) v) (hk:∀x,g.tok t=some x→x.2=(s,v,xs.length)):Rep g (.own t s xs) v
 | xs (id off s cap:Nat) (xs:List (List AV)) (hi:id<g.n) (hc:xs.length≤cap):Rep g (.xs id off s cap xs) (.slice (some ⟨g.σ id,off,none⟩) xs.length cap)
 | psl0 (s:Nat) (a:Option Addr) (cap:Nat):Rep g (.psl s []) (.slice a 0 cap)
 | psl (s:Nat) (xs:List (List AV)) (b o cap:Nat) (c:Nat→Value) (hne:0<xs.length) (hl:∀(i:Nat) (x:List AV),xs[i]?=some x→x.length=s) (hc:xs.length≤cap)
   (hp:∀(i j:Nat) (x:List AV) (d:AV),xs[i]?=some x→x[j]?=some d→g.pub b (o+i * s+j)=some (c (i * s+j)))
   (hr:∀(i j:Nat) (x:List AV) (d:AV),xs[i]?=some x→x[j]?=some d→Rep g d (c (i * s+j))) :
   Rep g (.psl s xs) (.slice (some ⟨b,o,none⟩) xs.length cap)
 | pp (cells:List AV) (b o:Nat) (c:Nat→Value) (hp:∀(j:Nat) (d:AV),cells[j]?=some d→g.pub b (o+j)=some (c j)) (hr:∀(j:Nat) (d:AV),cells[j]?=some d→Rep g d (c j)) :
   Rep g (.pp cells) (.pointer (some ⟨b,o,none⟩))
 | agg (cs:List AV) (vs:Array Value) (hl:cs.length=vs.size) (hr:∀(i:Nat) (a:AV) (v:Value),cs[i]?=some a→vs[i]?=some v→Rep g a v):Rep g (.agg cs) (.agg vs)
 | tup (cs:List AV) (vs:Array Value) (hl:cs.length=vs.size) (hr:∀(i:Nat) (a:AV) (v:Value),cs[i]?=some a→vs[i]?=some v→Rep g a v):Rep g (.tup cs) (.tuple vs)
 | fn (f:Fn) (fs cs:List AV) (us vs:Array Value) (hl:fs.length=us.size) (hr:∀(i:Nat) (a:AV) (v:Value),fs[i]?=some a→us[i]?=some v→Rep g a v)
   (hl':cs.length=vs.size) (hr':∀(i:Nat) (a:AV) (v:Value),cs[i]?=some a→vs[i]?=some v→Rep g a v):Rep g (.fn f fs cs) (.func f us vs)
 | ifc (t:TypeId) {a:AV} {v:Value} (h:Rep g a v):Rep g (.ifc t a) (.iface t v)
 | undef:Rep g (.d (.lit undef)) undef
theorem Rep.mono {g g':Gh}(h:g.le g'){a:AV}{v:Value}(ha:Rep g a v):Rep g' a v:=by
 induction ha with
 | d hx=>exact .d (hx.mono h.pub)
 | ptr id off hi=>rw[← h.σ id hi];exact .ptr id off (Nat.lt_of_lt_of_le hi h.n)
 | nil=>exact .nil
 | own ht hx hk=>exact .own (Nat.lt_of_lt_of_le ht h.k) (hx.mono h.pub) fun x hx'=>hk x (h.tok _ ht x hx')
 | xs id off s cap xs hi hc=>rw[← h.σ id hi];exact .xs id off s cap xs (Nat.lt_of_lt_of_le hi h.n) hc
 | psl0 s a cap=>exact .psl0 s a cap
 | psl s xs b o cap c hne hl hc hp hr ih=>exact .psl s xs b o cap c hne hl hc (fun i j x d h1 h2=>h.pub _ _ _ (hp i j x d h1 h2)) ih
 | pp cells b o c hp hr ih=>exact .pp cells b o c (fun j d h1=>h.pub _ _ _ (hp j d h1)) ih
 | agg cs vs hl hr ih=>exact .agg cs vs hl ih
 | tup cs vs hl hr ih=>exact .tup cs vs hl ih
 | fn f fs cs us vs hl hr hl' hr' ih ih'=>exact .fn f fs cs us vs hl ih hl' ih'
 | ifc t h ih=>exact .ifc t ih
 | undef=>exact .undef
def RepL (g:Gh)(as:List AV)(vs:Array Value):Prop:=as.length=vs.size∧∀(i:Nat) (a:AV) (v:Value),as[i]?=some a→vs[i]?=some v→Rep g a v
theorem RepL.mono {g g':Gh}(h:g.le g'){as:List AV}{vs:Array Value}(ha:RepL g as vs):RepL g' as vs:=⟨ha.1,fun i a v h1 h2=>(ha.2 i a v h1 h2).mono h⟩
structure St where
 n:Nat
 obj:Nat→TypeId×List AV
 k:Nat
 live:Nat→Option TypeId
 fz:Nat→Bool
structure R (w:World)(g:Gh)(st:St):Prop where
 hn:g.n=st.n
 hk:g.k=st.k
 pub:∀b o v,g.pub b o=some v→w.cell? ⟨b,o,none⟩=some v
 obj:∀i,i<st.n→∃arr,w.heap[g.σ i]?=some (.cells arr (st.obj i).1 (0,0))∧RepL g (st.obj i).2 arr
 inj:∀i j,i<st.n→j<st.n→g.σ i=g.σ j→i=j
 sep:∀i,i<st.n→st.fz i=false→∀o,g.pub (g.σ i) o=none
 base:g.B≤w.heap.size
 baseO:∀i,i<st.n→g.B≤g.σ i
 tok:∀t e s v m,g.tok t=some (e,s,v,m)→t<st.k∧st.live t=some e∧(∃xs,w.ownsRow g.B e s v m xs) ∧
   ∀b,v.ownBlock=some b→(∀o,m * s≤o→g.pub b o=none)∧∀i,i<st.n→g.σ i≠b
 tinj:∀t t' x x' b,g.tok t=some x→g.tok t'=some x'→x.2.2.1.ownBlock=some b→x'.2.2.1.ownBlock=some b→t=t'
 liv:∀t e,st.live t=some e→∃s v m,g.tok t=some (e,s,v,m)
structure RT (g:Gh)(nt:Nat)(tm:Nat→AV)(a:Act):Prop where
 size:a.tmps.size=nt
 rep:∀i,Rep g (tm i) (a.tmps.getD i undef)
 defers:a.defers=[]
theorem RT.mono {g g':Gh}(h:g.le g'){nt:Nat}{tm:Nat→AV}{a:Act}(ha:RT g nt tm a):RT g' nt tm a:=⟨ha.size,fun i=>(ha.rep i).mono h,ha.defers⟩
def upd {α:Type}(f:Nat→α)(d:Nat)(v:α):Nat→α:=fun i=>if i=d then v else f i
def put (tm:Nat→AV)(dst:Option Nat)(v:AV):Nat→AV:=match dst with | some d=>upd tm d v | none=>tm
theorem RT.put {g:Gh}{nt:Nat}{tm:Nat→AV}{a:Act}(h:RT g nt tm a)(dst:Option Nat)(hd:∀d,dst=some d→d<nt){x:AV}{v:Value}(hx:Rep g x v) :
  RT g nt (put tm dst x) (a.put dst v):=by
 cases dst with
 | none=>exact h
 | some d=>
  have hd':=hd d rfl
  refine⟨by simp[Act.put,h.size],fun i=>?_,h.defers⟩
  simp only[AW.put,Act.put,upd]
  by_cases hi:i=d
  ·subst hi
   have:(a.tmps.setIfInBounds i v).getD i undef=v:=by simp[h.size,hd']
   rw[this]
   simp only[if_true]
   exact hx
  ·have:(a.tmps.setIfInBounds d v).getD i undef=a.tmps.getD i undef:=by
    simp only[Array.getD_eq_getD_getElem?,Array.getElem?_setIfInBounds]
    rw[if_neg (fun e=>hi e.symm)]
   rw[this,if_neg hi]
   exact h.rep i
end Go.AW

namespace Go.AW
open Go.RowKit
def ZeA (v:Value):AV:=match v with
 | .slice none 0 0=>.nil
 | v=>.d (.lit v)
theorem Zke (g:Gh){v:Value}(h:v.oneCell'=true):Rep g (ZeA v) v:=by
 unfold ZeA
 split
 ·exact .nil
 ·exact .d (.lit _ h)
def Zjv (v:Value):AV:=match v with
 | .agg cs=>.agg (cs.toList.map ZeA)
 | v=>ZeA v
def Zjw (v:Value):Bool:=match v with
 | .agg cs=>cs.toList.all (·.oneCell')
 | v=>v.oneCell'
theorem RepL.cells (g:Gh)(cs:Array Value)(h:cs.toList.all (·.oneCell')=true):RepL g (cs.toList.map ZeA) cs:=by
 refine⟨by simp,fun i a v h1 h2=>?_⟩
 simp only[List.getElem?_map,Array.getElem?_toList,h2,Option.map_some,oI]at h1
 subst h1
 exact Zke g (List.all_eq_true.1 h v (by simpa using Array.mem_of_getElem? h2))
theorem Zm0 (g:Gh){v:Value}(h:Zjw v=true):Rep g (Zjv v) v:=by
 unfold Zjw at h
 unfold Zjv
 split
 ·rename_i cs
  have:=RepL.cells g cs h
  exact .agg _ _ this.1 this.2
 ·rename_i hv
  exact Zke g (by first | exact h | (split at h <;> simp_all))
def opnd (tm:Nat→AV):Operand→AV
 | .tmp t=>tm t
 | .const v=>Zjv v
 | .global _=>.bad
 | .func f=>.fn (.func f) [] []
def opOk:Operand→Bool
 | .const v=>Zjw v
 | .global _=>false
 | _=>true
theorem Zap {g:Gh}{nt:Nat}{tm:Nat→AV}{a:Act}(h:RT g nt tm a){x:Operand}(hx:opOk x=true):Rep g (opnd tm x) (a.eval x):=by
 cases x with
 | tmp t=>exact h.rep t
 | const v=>exact Zm0 g hx
 | global n=>cases hx
 | func f=>exact .fn _ [] [] #[] #[] rfl (fun i a v h=>by simp at h) rfl (fun i a v h=>by simp at h)
structure PV where
 ok:Prop
 v:AV
def fails:PV:=⟨False,.bad⟩
def tsz (P:Program)(t:TypeId):Option (Nat×Bool):=match P.info? t,P.underlying t with
 | some i,some d=>some (i.size,match d with | .struct _ | .array _ _=>true | _=>false)
 | _,_=>none
def flds (P:Program)(s:TypeId):List (Nat×Option (Nat×Bool)):=match P.underlying s with
 | some (.struct fs)=>fs.toList.map fun f=>(f.offset,tsz P f.type)
 | _=>[]
def elT (P:Program)(t:TypeId):Option (TypeId×Nat×Nat):=match P.underlying t with
 | some (.slice e)=>(P.info? e).map fun i=>(e,i.size,i.bytes)
 | _=>none
def zeroC (P:Program)(t:TypeId):Option (List AV):=match P.info? t with
 | some i=>(match i.zero with
  | some z=>if z.cells.toList.all (·.oneCell')then some (z.cells.toList.map ZeA)else none
  | none=>none)
 | none=>none
def Zhg (op:BinOp)(k:IntKind)(a b:Int):PV:=match op with
 | .add=>⟨True,.d (.lit (.int k (k.wrap (a+b))))⟩
 | .sub=>⟨True,.d (.lit (.int k (k.wrap (a - b))))⟩
 | .mul=>⟨True,.d (.lit (.int k (k.wrap (a * b))))⟩
 | .quo=>⟨b≠0,.d (.lit (.int k (k.wrap (a.tdiv b))))⟩
 | .rem=>⟨b≠0,.d (.lit (.int k (a.tmod b)))⟩
 | .eql=>⟨True,.d (.lit (.bool (a==b)))⟩
 | .neq=>⟨True,.d (.lit (.bool (a != b)))⟩
 | .lss=>⟨True,.d (.lit (.bool (decide (a<b))))⟩
 | .leq=>⟨True,.d (.lit (.bool (decide (a≤b))))⟩
 | .gtr=>⟨True,.d (.lit (.bool (decide (a>b))))⟩
 | .geq=>⟨True,.d (.lit (.bool (decide (a≥b))))⟩
 | _=>fails
def Zhp (op:BinOp)(k k':IntKind)(a b:Int):PV:=match op with
 | .shr=>⟨0≤b,.d (.lit (.int k (a.fdiv (2 ^ (min b.toNat k.bits)))))⟩
 | op=>⟨k=k'∧(Zhg op k a b).ok,(Zhg op k a b).v⟩
theorem Zkf {op:BinOp}{k:IntKind}{a b:Int}(h:(Zhg op k a b).ok):(Zhp op k k a b).ok∧(Zhp op k k a b).v=(Zhg op k a b).v:=by
 cases op <;> first | exact⟨⟨rfl,h⟩,rfl⟩ | exact h.elim
def Zjx (op:BinOp)(a b:ByteArray):PV:=match op with
 | .add=>⟨a.size+b.size≤9223372036854775807,.d (.lit (.string (a++b)))⟩
 | .eql=>⟨True,.d (.lit (.bool (a.toList==b.toList)))⟩
 | .neq=>⟨True,.d (.lit (.bool (!(a.toList==b.toList))))⟩
 | .lss=>⟨True,.d (.lit (.bool (Op.bytesLess a.toList b.toList)))⟩
 | .gtr=>⟨True,.d (.lit (.bool (!(Op.bytesLess a.toList b.toList || (a.toList==b.toList)))))⟩
 | .leq=>⟨True,.d (.lit (.bool (Op.bytesLess a.toList b.toList || (a.toList==b.toList))))⟩
 | .geq=>⟨True,.d (.lit (.bool (!(Op.bytesLess a.toList b.toList))))⟩
 | _=>fails
def Zjy (P:Program)(t:TypeId)(op:BinOp)(a b:Bool):PV:=match op with
 | .eql=>⟨P.underlying t=some .bool,.d (.lit (.bool (a==b)))⟩
 | .neq=>⟨P.underlying t=some .bool,.d (.lit (.bool (!(a==b))))⟩
 | _=>fails
def fnRes (P:Program)(t:TypeId)(op:BinOp)(b:Bool):PV:=match P.underlying t,op with
 | some (.func _ _ _),.eql=>⟨True,.d (.lit (.bool b))⟩
 | some (.func _ _ _),.neq=>⟨True,.d (.lit (.bool (!b)))⟩
 | _,_=>fails
def sub (cells:List AV)(off n:Nat)(agg:Bool):PV:=
 if agg then⟨off+n≤cells.length,.agg ((cells.drop off).take n)⟩else⟨off<cells.length,cells.getD off .bad⟩
def at_ (xs:List (List AV))(i:Int):PV:=⟨0≤i∧i<(xs.length:Int),.pp (xs.getD i.toNat [])⟩
def elems:AV→Option (Nat×List (List AV))
 | .d (.sl s xs)=>some (s,xs.map (·.map .d))
 | .own _ s xs=>some (s,xs.map (·.map .d))
 | .psl s xs=>some (s,xs)
 | .nil=>some (0,[])
 | _=>none
def lenOf:AV→Option (Nat×Bool)
 | .d (.sl _ xs)=>some (xs.length,false)
 | .own _ _ xs=>some (xs.length,false)
 | .xs _ _ _ _ xs=>some (xs.length,false)
 | .psl _ xs=>some (xs.length,false)
 | .nil=>some (0,false)
 | .d (.lit (.string s))=>some (s.size,true)
 | _=>none
def lenTy (P:Program)(t:TypeId)(str:Bool):Prop:=match P.underlying t,str with
 | some (.slice _),false=>True
 | some .string,true=>True
 | _,_=>False
def NilOk (P:Program)(t:TypeId)(v:Value)(name:String):Prop:=∀w:World,(nilAhead (P.types.size+Made.depth) t v name).run P w=.ok (some false) w
def checked (P:Program):AV→PV
 | .ptr id off=>⟨True,.ptr id off⟩
 | .pp cs=>⟨True,.pp cs⟩
 | .ifc t v=>⟨True,.ifc t v⟩
 | .fn (.method name) [.ifc t (.agg [])] []=>⟨NilOk P t (.agg #[]) name,.fn (.method name) [.ifc t (.agg [])] []⟩
 | .fn (.func f) fs cs=>⟨True,.fn (.func f) fs cs⟩
 | _=>fails
structure BV where
 ok:Prop
 b:Bool
def ZiO:TypeDesc→Option AV→Option AV→BV
 | .int _,some (.d (.lit (.int k a))),some (.d (.lit (.int k' b)))=>⟨k=k',a==b⟩
 | .string,some (.d (.lit (.string a))),some (.d (.lit (.string b)))=>⟨True,a.toList==b.toList⟩
 | .bool,some (.d (.lit (.bool a))),some (.d (.lit (.bool b)))=>⟨True,a==b⟩
 | _,_,_=>⟨False,false⟩
def eqFs (P:Program)(cs ds:List AV):List Field→BV
 | []=>⟨True,true⟩
 | f::fs=>match P.underlying f.type with
  | some d=>⟨f.name ≠ "_"∧(ZiO d cs[f.offset]? ds[f.offset]?).ok∧(eqFs P cs ds fs).ok,(ZiO d cs[f.offset]? ds[f.offset]?).b&&(eqFs P cs ds fs).b⟩
  | none=>⟨False,false⟩
def eqAgg (P:Program)(t:TypeId)(cs ds:List AV):BV:=match P.underlying t with
 | some (.struct fs)=>⟨P.stoodInHeld t=false∧P.eqGuardType P.depth t=false∧(eqFs P cs ds fs.toList).ok,(eqFs P cs ds fs.toList).b⟩
 | _=>⟨False,false⟩
def Zjz (P:Program)(t:TypeId)(op:BinOp)(cs ds:List AV):PV:=match op with
 | .eql=>⟨(eqAgg P t cs ds).ok,.d (.lit (.bool (eqAgg P t cs ds).b))⟩
 | .neq=>⟨(eqAgg P t cs ds).ok,.d (.lit (.bool (!(eqAgg P t cs ds).b)))⟩
 | _=>fails
def bndV (tm:Nat→AV)(dflt:Int):Option Operand→PV
 | none=>⟨True,.d (.lit (.int .i64 dflt))⟩
 | some x=>⟨opOk x=true,opnd tm x⟩
def cutV (P:Program)(t:TypeId)(x lo hi:AV):PV:=match x,lo,hi with
 | .d (.lit (.string s)),.d (.lit (.int _ l)),.d (.lit (.int _ h))=>⟨P.underlying t=some .string∧0≤l∧l≤h∧h≤s.size,.d (.lit (.string (s.extract l.toNat h.toNat)))⟩
 | .d (.sl s xs),.d (.lit (.int _ l)),.d (.lit (.int _ h))=>(match elT P t with
  | some (_,n,_)=>⟨(n=s∨xs=[])∧0≤l∧l≤h∧h≤(xs.length:Int),.d (slv n ((xs.take h.toNat).drop l.toNat))⟩
  | none=>fails)
 | .own _ s xs,.d (.lit (.int _ l)),.d (.lit (.int _ h))=>(match elT P t with
  | some (_,n,_)=>⟨(n=s∨xs=[])∧0≤l∧l≤h∧h≤(xs.length:Int),.d (slv n ((xs.take h.toNat).drop l.toNat))⟩
  | none=>fails)
 | .nil,.d (.lit (.int _ l)),.d (.lit (.int _ h))=>⟨l=0∧h=0∧(elT P t).isSome=true,.d (.sl 0 [])⟩
 | .xs id off s cap xs,.d (.lit (.int _ l)),.d (.lit (.int _ h))=>(match elT P t with
  | some (_,n,_)=>⟨n=s∧0<s∧0≤l∧l≤h∧h≤(xs.length:Int),.xs id (off+(if l.toNat<cap then l.toNat * s else 0)) s (cap - l.toNat) ((xs.take h.toNat).drop l.toNat)⟩
  | none=>fails)
 | _,_,_=>fails
def lenI:AV→Int
 | .d (.lit (.string s))=>s.size
 | .d (.sl _ xs)=>(xs.length:Nat)
 | .own _ _ xs=>(xs.length:Nat)
 | .xs _ _ _ _ xs=>(xs.length:Nat)
 | _=>0
def Zkg:Builtin→Bool
 | .len=>true
 | _=>false
def ZnF:Builtin→Option Bool
 | .max=>some true
 | .min=>some false
 | _=>none
def mmV (b:Builtin)(x y:AV):PV:=match ZnF b,x,y with
 | some true,.d (.lit (.int k m)),.d (.lit (.int k' n))=>⟨k=k',.d (.lit (.int k (max m n)))⟩
 | some false,.d (.lit (.int k m)),.d (.lit (.int k' n))=>⟨k=k',.d (.lit (.int k (min m n)))⟩
 | _,_,_=>fails
def ZfT (P:Program)(tm:Nat→AV)(callee:Callee)(args:List Operand)(tys:List TypeId):PV:=match callee,args,tys with
 | .builtin b,[x,y],_=>⟨opOk x=true∧opOk y=true∧(mmV b (opnd tm x) (opnd tm y)).ok,(mmV b (opnd tm x) (opnd tm y)).v⟩
 | .builtin b,[x],[t]=>(match Zkg b,lenOf (opnd tm x)with
  | true,some (n,str)=>⟨opOk x=true∧lenTy P t str,.d (.lit (.int .i64 n))⟩
  | _,_=>fails)
 | _,_,_=>fails
def ev (P:Program)(tm:Nat→AV):Op→PV
 | .move x | .assign x=>⟨opOk x=true,opnd tm x⟩
 | .pick c x y=>(match opnd tm c with
  | .d (.lit (.bool b))=>⟨opOk x=true∧opOk y=true∧opOk c=true,if b then opnd tm x else opnd tm y⟩
  | _=>fails)
 | .nilCheck x=>⟨opOk x=true∧(checked P (opnd tm x)).ok,(checked P (opnd tm x)).v⟩
 | .binOp op t x y _=>(match opnd tm x,opnd tm y with
  | .d (.lit (.int k a)),.d (.lit (.int k' b))=>⟨opOk x=true∧opOk y=true∧(Zhp op k k' a b).ok,(Zhp op k k' a b).v⟩
  | .d (.lit (.string a)),.d (.lit (.string b))=>⟨opOk x=true∧opOk y=true∧(Zjx op a b).ok,(Zjx op a b).v⟩
  | .d (.lit (.bool a)),.d (.lit (.bool b))=>⟨opOk x=true∧opOk y=true∧(Zjy P t op a b).ok,(Zjy P t op a b).v⟩
  | .agg cs,.agg ds=>⟨opOk x=true∧opOk y=true∧(Zjz P t op cs ds).ok,(Zjz P t op cs ds).v⟩
  | .fn _ _ _,.d (.lit .nilFunc)=>⟨opOk x=true∧opOk y=true∧(fnRes P t op false).ok,(fnRes P t op false).v⟩
  | .d (.lit .nilFunc),.d (.lit .nilFunc)=>⟨opOk x=true∧opOk y=true∧(fnRes P t op true).ok,(fnRes P t op true).v⟩
  | _,_=>fails)
 | .slice t x lo hi none=>⟨opOk x=true∧(bndV tm 0 lo).ok∧(bndV tm (lenI (opnd tm x)) hi).ok∧(cutV P t (opnd tm x) (bndV tm 0 lo).v (bndV tm (lenI (opnd tm x)) hi).v).ok,(cutV P t (opnd tm x) (bndV tm 0 lo).v (bndV tm (lenI (opnd tm x)) hi).v).v⟩
 | .unOp op _ x=>(match op,opnd tm x with
  | .not,.d (.lit (.bool b))=>⟨opOk x=true,.d (.lit (.bool (!b)))⟩
  | .neg,.d (.lit (.int k n))=>⟨opOk x=true,.d (.lit (.int k (k.wrap (0 - n))))⟩
  | _,_=>fails)
 | .convert s t x=>(match P.underlying s,P.underlying t,opnd tm x with
  | some (.int _),some (.int k),.d (.lit (.int _ n))=>⟨opOk x=true,.d (.lit (.int k (k.wrap n)))⟩
  | _,_,_=>fails)
 | .fieldAddr s x f=>(match (flds P s)[f]?,opnd tm x with
  | some (off,some (n,_)),.ptr id o=>⟨opOk x=true∧n≠0,.ptr id (o+off)⟩
  | some (off,some (n,_)),.pp cs=>⟨opOk x=true∧n≠0,.pp (cs.drop off)⟩
  | _,_=>fails)
 | .field s x f=>(match (flds P s)[f]?,opnd tm x with
  | some (off,some (n,a)),.agg cs=>⟨opOk x=true∧(sub cs off n a).ok,(sub cs off n a).v⟩
  | _,_=>fails)
 | .indexAddr t x i=>(match opnd tm x with
  | .ptr id o=>(match P.underlying t,opnd tm i with
   | some (.array m e),.d (.lit (.int _ k))=>(match tsz P e with
    | some (n,_)=>⟨opOk x=true∧opOk i=true∧0≤k∧k<(m:Int),.ptr id (o+k.toNat * n)⟩
    | none=>fails)
   | _,_=>fails)
  | .xs id off s _ xs=>(match elT P t,opnd tm i with
   | some (_,n,_),.d (.lit (.int _ k))=>⟨opOk x=true∧opOk i=true∧n=s∧0≤k∧k<(xs.length:Int),.ptr id (off+k.toNat * s)⟩
   | _,_=>fails)
  | xv=>(match elT P t,elems xv,opnd tm i with
   | some (_,n,_),some (s,xs),.d (.lit (.int _ k))=>⟨opOk x=true∧opOk i=true∧n=s∧(at_ xs k).ok,(at_ xs k).v⟩
   | _,_,_=>fails))
 | .index t x i=>(match opnd tm x,opnd tm i with
  | .agg cs,.d (.lit (.int _ k))=>(match P.underlying t with
   | some (.array m e)=>(match tsz P e with
    | some (n,a)=>⟨opOk x=true∧opOk i=true∧0≤k∧k<(m:Int)∧(sub cs (k.toNat * n) n a).ok,(sub cs (k.toNat * n) n a).v⟩
    | none=>fails)
   | _=>fails)
  | .d (.lit (.string s)),.d (.lit (.int _ k))=>⟨opOk x=true∧opOk i=true∧P.underlying t=some .string∧0≤k∧k<s.size,.d (.lit (.int .u8 (((s.data.toList).getD k.toNat 0).toNat)))⟩
  | _,_=>fails)
 | .extract x i=>(match opnd tm x with
  | .tup vs=>⟨opOk x=true∧i<vs.length,vs.getD i .bad⟩
  | _=>fails)
 | .makeFunc f fs cs=>⟨fs.toList.all opOk=true∧cs.toList.all opOk=true,.fn f (fs.toList.map (opnd tm)) (cs.toList.map (opnd tm))⟩
 | .makeInterface t x=>⟨opOk x=true∧(match P.underlying t with | some (.interface _)=>False | some _=>True | none=>False),.ifc t (opnd tm x)⟩
 | .load t x=>(match tsz P t,opnd tm x with
  | some (n,a),.pp cs=>⟨opOk x=true∧(sub cs 0 n a).ok,(sub cs 0 n a).v⟩
  | _,_=>fails)
 | .call c=>ZfT P tm c.callee c.args.toList c.argTypes.toList
 | _=>fails
end Go.AW

namespace Go.AW
open Go.RowKit
section inv
variable {g:Gh}{v:Value}
theorem Rep.lit_inv {x:Value}(h:Rep g (.d (.lit x)) v) (_hx:x.oneCell'=true∨x=Go.undef:=by first | exact .inl rfl | exact .inr rfl):v=x:=by
 cases h with
 | d h=>cases h with | lit _ _=>rfl
 | undef=>rfl
theorem Rep.agg_inv {cs:List AV}(h:Rep g (.agg cs) v):∃vs,v=.agg vs∧RepL g cs vs:=by
 cases h with | agg _ vs hl hr=>exact⟨vs,rfl,hl,hr⟩
theorem Rep.tup_inv {cs:List AV}(h:Rep g (.tup cs) v):∃vs,v=.tuple vs∧RepL g cs vs:=by
 cases h with | tup _ vs hl hr=>exact⟨vs,rfl,hl,hr⟩
theorem Rep.ptr_inv {id off:Nat}(h:Rep g (.ptr id off) v):id<g.n∧v=.pointer (some ⟨g.σ id,off,none⟩):=by
 cases h with | ptr _ _ h=>exact⟨h,rfl⟩
theorem Rep.pp_inv {cs:List AV}(h:Rep g (.pp cs) v):∃(b o:Nat) (c:Nat→Value),v=.pointer (some ⟨b,o,none⟩)∧(∀(j:Nat) (d:AV),cs[j]?=some d→g.pub b (o+j)=some (c j))∧∀(j:Nat) (d:AV),cs[j]?=some d→Rep g d (c j):=by
 cases h with | pp _ b o c hp hr=>exact⟨b,o,c,rfl,hp,hr⟩
theorem Rep.fn_inv {f:Fn}{fs cs:List AV}(h:Rep g (.fn f fs cs) v):∃us vs,v=.func f us vs∧RepL g fs us∧RepL g cs vs:=by
 cases h with | fn _ _ _ us vs hl hr hl' hr'=>exact⟨us,vs,rfl,⟨hl,hr⟩,hl',hr'⟩
theorem Rep.ifc_inv {t:TypeId}{a:AV}(h:Rep g (.ifc t a) v):∃u,v=.iface t u∧Rep g a u:=by
 cases h with | ifc _ h=>exact⟨_,rfl,h⟩
theorem Rep.xs_inv {id off s cap:Nat}{xs:List (List AV)}(h:Rep g (.xs id off s cap xs) v):id<g.n∧xs.length≤cap∧v=.slice (some ⟨g.σ id,off,none⟩) xs.length cap:=by
 cases h with | xs _ _ _ _ _ hi hc=>exact⟨hi,hc,rfl⟩
theorem Rep.nil_inv (h:Rep g .nil v):v=.slice none 0 0:=by cases h;rfl
theorem Rep.own_inv {t s:Nat}{xs:List (List DV)}(h:Rep g (.own t s xs) v):t<g.k∧RepD g.pub (.sl s xs) v∧∀x,g.tok t=some x→x.2=(s,v,xs.length):=by
 cases h with | own ht h hk=>exact⟨ht,h,hk⟩
theorem Rep.sl_inv {s:Nat}{xs:List (List DV)}(h:Rep g (.d (.sl s xs)) v):RepD g.pub (.sl s xs) v:=by cases h with | d h=>exact h
end inv
structure Zpf (g:Gh)(s:Nat)(xs:List (List AV))(v:Value):Prop where
 at_:∃a cap,v=.slice a xs.length cap∧xs.length≤cap ∧
  (0<xs.length→∃(b o:Nat) (c:Nat→Value),a=some ⟨b,o,none⟩∧(∀(i:Nat) (x:List AV),xs[i]?=some x→x.length=s) ∧
   (∀(i j:Nat) (x:List AV) (d:AV),xs[i]?=some x→x[j]?=some d→g.pub b (o+i * s+j)=some (c (i * s+j))) ∧
   (∀(i j:Nat) (x:List AV) (d:AV),xs[i]?=some x→x[j]?=some d→Rep g d (c (i * s+j))))
theorem RepD.sliceAt {g:Gh}{s:Nat}{xs:List (List DV)}{v:Value}(h:RepD g.pub (.sl s xs) v)(hc:∃a cap,v=.slice a xs.length cap∧xs.length≤cap):Zpf g s (xs.map (·.map .d)) v:=by
 obtain⟨a,cap,rfl,hcap⟩:=hc
 refine⟨a,cap,by simp,by simpa using hcap,fun hne=>?_⟩
 cases h with
 | sl0=>simp at hne
 | sl _ _ b o _ c hne hl hc hp hr=>
  refine⟨b,o,c,rfl,fun i x hx=>?_,fun i j x d hx hj=>?_,fun i j x d hx hj=>?_⟩
  ·simp only[List.getElem?_map,Option.map_eq_some_iff]at hx
   obtain⟨y,hy,rfl⟩:=hx
   simpa using hl i y hy
  ·simp only[List.getElem?_map,Option.map_eq_some_iff]at hx
   obtain⟨y,hy,rfl⟩:=hx
   simp only[List.getElem?_map,Option.map_eq_some_iff]at hj
   obtain⟨e,he,rfl⟩:=hj
   exact hp i j y e hy he
  ·simp only[List.getElem?_map,Option.map_eq_some_iff]at hx
   obtain⟨y,hy,rfl⟩:=hx
   simp only[List.getElem?_map,Option.map_eq_some_iff]at hj
   obtain⟨e,he,rfl⟩:=hj
   exact .d (hr i j y e hy he)
theorem RepD.cap {pub:Nat→Nat→Option Value}{s:Nat}{xs:List (List DV)}{v:Value}(h:RepD pub (.sl s xs) v):∃a cap,v=.slice a xs.length cap∧(xs.length≤cap):=by
 cases h with
 | sl0 _ a cap=>exact⟨a,cap,rfl,by simp⟩
 | sl _ _ b o cap c hne hl hc hp hr=>exact⟨_,cap,rfl,hc⟩
theorem Rep.sliceAt {g:Gh}{a:AV}{s:Nat}{xs:List (List AV)}(h:elems a=some (s,xs)){v:Value}(hv:Rep g a v):Zpf g s xs v:=by
 cases a with
 | d x=>
  cases x with
  | lit u=>simp[elems]at h
  | sl s' ys=>
   simp only[elems,oI,Prod.mk.injEq]at h
   obtain⟨rfl,rfl⟩:=h
   exact hv.sl_inv.sliceAt hv.sl_inv.cap
 | own t s' ys=>
  simp only[elems,oI,Prod.mk.injEq]at h
  obtain⟨rfl,rfl⟩:=h
  exact hv.own_inv.2.1.sliceAt hv.own_inv.2.1.cap
 | psl s' ys=>
  simp only[elems,oI,Prod.mk.injEq]at h
  obtain⟨rfl,rfl⟩:=h
  cases hv with
  | psl0 _ a cap=>exact⟨a,cap,rfl,by simp,fun h=>by simp at h⟩
  | psl _ _ b o cap c hne hl hc hp hr=>exact⟨_,cap,rfl,hc,fun _=>⟨b,o,c,rfl,hl,hp,hr⟩⟩
 | nil=>
  simp only[elems,oI,Prod.mk.injEq]at h
  obtain⟨rfl,rfl⟩:=h
  obtain rfl:=hv.nil_inv
  exact⟨none,0,rfl,by simp,fun h=>by simp at h⟩
 | _=>simp[elems]at h
theorem Zpg {g:Gh}{a:AV}{n:Nat}{str:Bool}(h:lenOf a=some (n,str)){v:Value}(hv:Rep g a v) :
  (str=false∧∃b cap,v=.slice b n cap)∨(str=true∧∃s,v=.string s∧n=s.size):=by
 cases a with
 | d x=>
  cases x with
  | lit u=>
   cases u <;> simp only[lenOf,oI,Prod.mk.injEq,reduceCtorEq]at h
   obtain⟨rfl,rfl⟩:=h
   exact .inr ⟨rfl,_,hv.lit_inv,rfl⟩
  | sl s' ys=>simp only[lenOf,oI,Prod.mk.injEq]at h;obtain⟨rfl,rfl⟩:=h;obtain⟨a,c,h,_⟩:=hv.sl_inv.cap;exact .inl ⟨rfl,a,c,h⟩
 | own t s' ys=>simp only[lenOf,oI,Prod.mk.injEq]at h;obtain⟨rfl,rfl⟩:=h;obtain⟨a,c,h,_⟩:=hv.own_inv.2.1.cap;exact .inl ⟨rfl,a,c,h⟩
 | psl s' ys=>
  simp only[lenOf,oI,Prod.mk.injEq]at h
  obtain⟨rfl,rfl⟩:=h
  cases hv with
  | psl0 _ a cap=>exact .inl ⟨rfl,a,cap,rfl⟩
  | psl _ _ b o cap c hne hl hc hp hr=>exact .inl ⟨rfl,_,cap,rfl⟩
 | nil=>simp only[lenOf,oI,Prod.mk.injEq]at h;obtain⟨rfl,rfl⟩:=h;exact .inl ⟨rfl,_,_,hv.nil_inv⟩
 | xs id off s' cap ys=>simp only[lenOf,oI,Prod.mk.injEq]at h;obtain⟨rfl,rfl⟩:=h;exact .inl ⟨rfl,_,_,hv.xs_inv.2.2⟩
 | _=>simp[lenOf]at h
theorem Zph {g:Gh}{cells:List AV}{vs:Array Value}(h:RepL g cells vs){off n:Nat}{agg:Bool}(ho:(sub cells off n agg).ok) :
  ∃v,(if agg then(Result.ok (Value.agg (vs.extract off (off+n))):World→Result Value)else fun w=>match vs[off]? with | some v=>.ok v w | none=>.halt (.stuck "part: no such cell") w)=(fun w=>Result.ok v w)∧Rep g (sub cells off n agg).v v:=by
 unfold sub at ho ⊢
 cases agg with
 | true=>
  simp only[if_true]at ho ⊢
  refine⟨_,rfl,.agg _ _ ?_ ?_⟩
  ·have:=h.1;simp;omega
  ·intro i a v h1 h2
   have hi:i<n:=by
    have:=(List.getElem?_eq_some_iff.1 h1).1
    simp at this;omega
   rw[List.getElem?_take_of_lt hi,List.getElem?_drop]at h1
   refine h.2 (off+i) a v h1 ?_
   rw[Array.getElem?_extract]at h2
   split at h2
   ·exact h2
   ·cases h2
 | false=>
  simp only[bF,if_false]at ho ⊢
  have hlt:off<vs.size:=by rw[← h.1];exact ho
  refine⟨vs[off],?_,?_⟩
  ·funext w
   rw[Array.getElem?_eq_getElem hlt]
  ·have h1:cells[off]?=some (cells.getD off .bad):=by simp[List.getD,gG ho]
   exact h.2 off _ _ h1 (Array.getElem?_eq_getElem hlt)
end Go.AW

namespace Go.AW
open Go.RowKit
section
variable {P:Program}{w:World}
theorem ZeB {t:TypeId}{n:Nat}{a:Bool}(h:tsz P t=some (n,a)) :
  (sizeOf t).run P w=.ok n w∧(isAgg t).run P w=.ok a w∧(P.info? t).map (·.size)=some n∧∃d,P.underlying t=some d∧(match d with | .struct _ | .array _ _=>true | _=>false)=a:=by
 unfold tsz at h
 split at h
 ·rename_i i d hi hd
  simp only[oI,Prod.mk.injEq]at h
  obtain⟨rfl,rfl⟩:=h
  refine⟨by simp[sizeOf,typeInfo,hi],?_,by simp[hi],d,hd,rfl⟩
  unfold isAgg
  rw[Sem.run_bind,run_underlying hd]
  simp only[Result.andThen_ok]
  cases d <;> rfl
 ·cases h
theorem Zij {s:TypeId}{f off n:Nat}{a:Bool}(h:(flds P s)[f]?=some (off,some (n,a))) :
  ∃fs fd,P.underlying s=some (.struct fs)∧fs[f]?=some fd∧fd.offset=off∧tsz P fd.type=some (n,a):=by
 unfold flds at h
 split at h
 ·rename_i fs hs
  simp only[List.getElem?_map,Option.map_eq_some_iff,Prod.mk.injEq]at h
  obtain⟨fd,hf,rfl,ht⟩:=h
  exact⟨fs,fd,hs,by simpa using hf,rfl,ht⟩
 ·simp at h
theorem ZnG {g:Gh}{t:TypeId}{n:Nat}{agg:Bool}(h:tsz P t=some (n,agg)){cells:List AV}{vs:Array Value}(hr:RepL g cells vs){off:Nat}(ho:(sub cells off n agg).ok) :
  ∃v,(part t vs off).run P w=.ok v w∧Rep g (sub cells off n agg).v v:=by
 obtain⟨h1,h2,-,-⟩:=ZeB (P:=P) (w:=w) h
 obtain⟨v,hv,hrep⟩:=Zph hr ho
 refine⟨v,?_,hrep⟩
 have:=congrFun hv w
 unfold part
 rw[Sem.run_bind,h2]
 cases agg with
 | true=>simp only[if_true]at this;simp[h1];simpa using this
 | false=>simp only[bF,if_false]at this;rw[← this];simp only[Result.andThen_ok,bF,if_false];split <;> simp_all
theorem ZcH (b o n:Nat):(⟨b,o,none⟩:Addr).add n=⟨b,o+n,none⟩:=by
 unfold Addr.add
 split
 ·rename_i h;subst h;rfl
 ·rfl
theorem ZgK {g:Gh}{st:St}(hR:R w g st){t:TypeId}{n:Nat}{agg:Bool}(h:tsz P t=some (n,agg)){cells:List AV}{b o:Nat}{c:Nat→Value}
  (hp:∀(j:Nat) (d:AV),cells[j]?=some d→g.pub b (o+j)=some (c j)) (hr:∀(j:Nat) (d:AV),cells[j]?=some d→Rep g d (c j)) (ho:(sub cells 0 n agg).ok) :
  ∃v,(loadVar t ⟨b,o,none⟩).run P w=.ok v w∧Rep g (sub cells 0 n agg).v v:=by
 obtain⟨h1,h2,-,-⟩:=ZeB (P:=P) (w:=w) h
 cases agg with
 | true=>
  unfold sub at ho ⊢
  simp only[if_true,Nat.zero_add,List.drop_zero]at ho ⊢
  have hl:(loadCells ⟨b,o,none⟩ n).run P w=.ok ((List.range n).map c).toArray w:=by
   have:=run_loadCells_list (P:=P) w ⟨b,o,none⟩ ((List.range n).map c) (fun j v hv=>by
    rw[ZcH]
    simp only[List.getElem?_map,Option.map_eq_some_iff]at hv
    obtain⟨j',hj',rfl⟩:=hv
    have hjn:=(List.getElem?_eq_some_iff.1 hj').1
    simp only[List.length_range]at hjn
    rw[List.getElem?_range hjn]at hj'
    simp only[oI]at hj'
    subst hj'
    exact hR.pub _ _ _ (hp j cells[j] (gG (by omega))))
   simpa using this
  refine⟨.agg ((List.range n).map c).toArray,?_,.agg _ _ ?_ ?_⟩
  ·unfold loadVar;rw[Sem.run_bind,h2];simp[h1,hl]
  ·simp;omega
  ·intro i a v ha hv
   have hi:i<n:=by have:=(List.getElem?_eq_some_iff.1 ha).1;simp at this;omega
   rw[List.getElem?_take_of_lt hi]at ha
   simp only[List.getElem?_toArray,List.getElem?_map,List.getElem?_range hi,Option.map_some,oI]at hv
   subst hv
   exact hr i a ha
 | false=>
  unfold sub at ho ⊢
  simp only[bF,if_false]at ho ⊢
  have hc:cells[0]?=some (cells.getD 0 .bad):=by simp[List.getD,gG ho]
  have:=hR.pub _ _ _ (hp 0 _ hc)
  refine⟨c 0,?_,hr 0 _ hc⟩
  unfold loadVar;rw[Sem.run_bind,h2];simp at this;simp[this]
theorem ZjA {t e:TypeId}{n by_:Nat}(h:elT P t=some (e,n,by_)):P.underlying t=some (.slice e)∧(sizeOf e).run P w=.ok n w:=by
 unfold elT at h
 split at h
 ·rename_i e' he
  simp only[Option.map_eq_some_iff,Prod.mk.injEq]at h
  obtain⟨i,hi,rfl,rfl,rfl⟩:=h
  exact⟨he,by simp[sizeOf,typeInfo,hi]⟩
 ·cases h
theorem Zpi (s:ByteArray)(k:Nat)(h:k<s.size):s[k]?=some ((s.data.toList).getD k 0):=by
 rw[getElem?_pos s k h]
 simp[List.getD,h]
 rfl
theorem Zpj {t:TypeId}(h:match P.underlying t with | some (.interface _)=>False | some _=>True | none=>False)(v:Value):(Instr.makeInterface t v).run P w=.ok (.iface t v) w:=by
 unfold Instr.makeInterface
 rw[Sem.run_bind]
 split at h
 ·exact h.elim
 ·rename_i d hd hx
  rw[run_underlying hx]
  simp only[Result.andThen_ok]
  cases d <;> first | rfl | exact absurd rfl (hd _)
 ·exact h.elim
theorem RepL.opnds {g:Gh}{nt:Nat}{tm:Nat→AV}{a:Act}(h:RT g nt tm a)(xs:Array Operand)(hx:xs.toList.all opOk=true):RepL g (xs.toList.map (opnd tm)) (xs.map a.eval):=by
 refine⟨by simp,fun i b v h1 h2=>?_⟩
 simp only[List.getElem?_map,Array.getElem?_toList,Option.map_eq_some_iff,Array.getElem?_map]at h1 h2
 obtain⟨x,hx1,rfl⟩:=h1
 obtain⟨y,hy1,rfl⟩:=h2
 rw[hx1]at hy1
 cases hy1
 exact Zap h (List.all_eq_true.1 hx x (by simpa using Array.mem_of_getElem? hx1))
theorem len_run {g:Gh}{t:TypeId}{str:Bool}(ht:lenTy P t str){ty:TypeId}{a:AV}{v:Value}{n:Nat}(h:lenOf a=some (n,str))(hv:Rep g a v) :
  (Builtin.len_ #[t] ty #[v]).run P w=.ok (.int .i64 n) w:=by
 unfold lenTy at ht
 rcases Zpg h hv with⟨rfl,b,cap,rfl⟩ | ⟨rfl,s,rfl,rfl⟩
 ·split at ht
  ·rename_i e he _;simp[Builtin.len_,run_underlying he,goInt]
  ·rename_i hc;cases hc
  ·exact ht.elim
 ·split at ht
  ·rename_i hc;cases hc
  ·rename_i he _;simp[Builtin.len_,run_underlying he,goInt]
  ·exact ht.elim
theorem Zol {op:BinOp}{k:IntKind}{a b:Int}(h:(Zhg op k a b).ok)(t:TypeId):∃v,(binOp op t (.int k a) (.int k b)).run P w=.ok v w∧∀g,Rep g (Zhg op k a b).v v:=by
 cases op <;> simp only[Zhg,fails,ne_eq]at h ⊢ <;> first
  | exact h.elim
  | (refine⟨_,by simp[binOp,Op.intArith,Op.intCmp,Op.intDiv,h],fun g=>.d (.lit _ rfl)⟩;done)
  | exact⟨_,by simp[binOp,Op.intArith,Op.intCmp,Op.intDiv,h];rfl,fun g=>.d (.lit _ rfl)⟩
theorem Zm1 {op:BinOp}{k k':IntKind}{a b:Int}(h:(Zhp op k k' a b).ok)(t:TypeId):∃v,(binOp op t (.int k a) (.int k' b)).run P w=.ok v w∧∀g,Rep g (Zhp op k k' a b).v v:=by
 by_cases hs:op=.shr
 ·subst hs
  have h:0≤b:=h
  refine⟨_,?_,fun g=>.d (.lit _ rfl)⟩
  have hb:¬ b<0:=by omega
  simp only[binOp,Op.shift,if_neg hb,Sem.run_pure]
 ·obtain⟨rfl,h2⟩:k=k'∧(Zhg op k a b).ok:=by
   cases op <;> first | exact h | exact absurd rfl hs
  obtain⟨v,h3,h4⟩:=Zol (P:=P) (w:=w) h2 t
  exact⟨v,h3,by rw[(Zkf h2).2];exact h4⟩
theorem Zom {op:BinOp}{a b:ByteArray}(h:(Zjx op a b).ok)(t:TypeId):∃v,(binOp op t (.string a) (.string b)).run P w=.ok v w∧∀g,Rep g (Zjx op a b).v v:=by
 cases op <;> simp only[Zjx,fails]at h ⊢ <;> first
  | exact h.elim
  | (refine⟨.string (a++b),?_,fun g=>.d (.lit _ rfl)⟩
     have:¬ ((a.size+b.size:Nat):Int)>IntKind.i64.max:=by have:IntKind.i64.max=9223372036854775807:=rfl;omega
     simp only[binOp,Op.stringOp,if_neg this,Sem.run_pure];done)
  | exact⟨_,by simp only[binOp,Op.stringOp,Sem.run_pure],fun g=>.d (.lit _ rfl)⟩
  | exact⟨_,by simp only[binOp,Op.stringOp,Sem.run_pure];rfl,fun g=>.d (.lit _ rfl)⟩
theorem Zon {t:TypeId}(h:P.underlying t=some .bool)(a b:Bool):(Op.equal t (.bool a) (.bool b)).run P w=.ok (a==b) w:=by
 show(Op.equalIn (9999+1) t (.bool a) (.bool b)).run P w=_
 unfold Op.equalIn
 rw[Sem.run_bind,run_underlying h]
 rfl
theorem Zm2 {op:BinOp}{a b:Bool}{t:TypeId}(h:(Zjy P t op a b).ok):∃v,(binOp op t (.bool a) (.bool b)).run P w=.ok v w∧∀g,Rep g (Zjy P t op a b).v v:=by
 cases op <;> simp only[Zjy,fails]at h ⊢ <;> first
  | exact h.elim
  | exact⟨_,by simp only[binOp,Sem.run_bind,Zon h,Result.andThen_ok,Sem.run_pure],fun g=>.d (.lit _ rfl)⟩
theorem ZlU {op:BinOp}{t:TypeId}{b:Bool}(h:(fnRes P t op b).ok){x:Value}(hx:if b=true then x=.nilFunc else ∃f us vs,x=.func f us vs):∃v,(binOp op t x .nilFunc).run P w=.ok v w∧∀g,Rep g (fnRes P t op b).v v:=by
 have heq:∀p r v,P.underlying t=some (.func p r v)→(Op.equal t x .nilFunc).run P w=.ok b w:=by
  intro p r v hu
  show(Op.equalIn (9999+1) t x .nilFunc).run P w=_
  unfold Op.equalIn
  rw[Sem.run_bind,run_underlying hu]
  cases b with
  | true=>simp only[if_true]at hx;subst hx;rfl
  | false=>
   simp only[bF,if_false]at hx
   obtain⟨f,us,vs,rfl⟩:=hx
   rfl
 unfold fnRes at h ⊢
 split at h
 ·rename_i p r v hu
  refine⟨.bool b,?_,fun g=>.d (.lit _ rfl)⟩
  cases b with
  | true=>simp only[if_true]at hx;subst hx;simp only[binOp,Sem.run_bind,heq _ _ _ hu,Result.andThen_ok,Sem.run_pure]
  | false=>
   simp only[bF,if_false]at hx
   obtain⟨f,us,vs,rfl⟩:=hx
   simp only[binOp,Sem.run_bind,heq _ _ _ hu,Result.andThen_ok,Sem.run_pure]
 ·rename_i p r v hu
  refine⟨.bool (!b),?_,fun g=>.d (.lit _ rfl)⟩
  cases b with
  | true=>simp only[if_true]at hx;subst hx;simp only[binOp,Sem.run_bind,heq _ _ _ hu,Result.andThen_ok,Sem.run_pure]
  | false=>
   simp only[bF,if_false]at hx
   obtain⟨f,us,vs,rfl⟩:=hx
   simp only[binOp,Sem.run_bind,heq _ _ _ hu,Result.andThen_ok,Sem.run_pure]
 ·exact h.elim
theorem Zer {op:BinOp}{t:TypeId}{x y:Operand}{a b:Value}(ha:a.oneCell'=true)(hb:a≠.nilIface):(eqGuard op t x y a b).run P w=.ok () w:=by
 unfold eqGuard
 cases op <;> cases a <;> first | rfl | exact absurd rfl hb | cases ha
theorem Zm3 {g:Gh}{a:AV}(h:(checked P a).ok){v:Value}(hv:Rep g a v){o:Oper}{ρ:Operand→Value}{x:Operand}(ho:o.op=.nilCheck x)(hx:ρ x=v) :
  (execOp ρ o).run P w=.ok (.value v) w∧(checked P a).v=a:=by
 unfold checked at h ⊢
 split at h
 ·obtain⟨-,rfl⟩:=hv.ptr_inv;simp[execOp,ho,hx]
 ·obtain⟨b,o',c,rfl,-⟩:=hv.pp_inv;simp[execOp,ho,hx]
 ·obtain⟨u,rfl,-⟩:=hv.ifc_inv;simp[execOp,ho,hx]
 ·rename_i name t
  obtain⟨us,vs,rfl,⟨h1,h2⟩,h3⟩:=hv.fn_inv
  have hu:us.size=1:=by simpa using h1.symm
  obtain⟨u,rfl⟩:∃u,us=#[u]:=⟨us[0],by
   apply Array.ext
   ·simp[hu]
   ·intro i h1 h2
    simp at h2
    subst h2
    rfl⟩
  obtain⟨z,rfl,hz⟩:=(h2 0 _ _ rfl rfl).ifc_inv
  obtain⟨zs,rfl,hz0⟩:=hz.agg_inv
  have hzs:zs=#[]:=by have:=hz0.1;simpa using this.symm
  subst hzs
  simp[execOp,ho,hx,h w]
 ·obtain⟨us,vs,rfl,-⟩:=hv.fn_inv;simp[execOp,ho,hx]
 ·exact h.elim
theorem Zoo {g:Gh}{d:TypeDesc}{t:TypeId}(hd:P.underlying t=some d){cs ds:List AV}{us vs:Array Value}(hc:RepL g cs us)(hd':RepL g ds vs){o:Nat}(h:(ZiO d cs[o]? ds[o]?).ok)(m:Nat) :
  ∃a b,(part t us o).run P w=.ok a w∧(part t vs o).run P w=.ok b w∧(Op.equalIn (m+1) t a b).run P w=.ok (ZiO d cs[o]? ds[o]?).b w:=by
 unfold ZiO at h ⊢
 split at h
 ·rename_i q k a k' b e1 e2
  simp only at h
  subst h
  have l1:o<us.size:=by rw[← hc.1];exact(List.getElem?_eq_some_iff.1 e1).1
  have l2:o<vs.size:=by rw[← hd'.1];exact(List.getElem?_eq_some_iff.1 e2).1
  have v1:=(hc.2 o _ _ e1 (Array.getElem?_eq_getElem l1)).lit_inv
  have v2:=(hd'.2 o _ _ e2 (Array.getElem?_eq_getElem l2)).lit_inv
  have hp:P.plainKey t=true:=by simp[Program.plainKey,hd]
  refine⟨_,_,run_part_plain w hp ((Array.getElem?_eq_getElem l1).trans (congrArg some v1)),run_part_plain w hp ((Array.getElem?_eq_getElem l2).trans (congrArg some v2)),?_⟩
  exact run_equalIn_int w m t k q a b hd
 ·rename_i a b e1 e2
  have l1:o<us.size:=by rw[← hc.1];exact(List.getElem?_eq_some_iff.1 e1).1
  have l2:o<vs.size:=by rw[← hd'.1];exact(List.getElem?_eq_some_iff.1 e2).1
  have v1:=(hc.2 o _ _ e1 (Array.getElem?_eq_getElem l1)).lit_inv
  have v2:=(hd'.2 o _ _ e2 (Array.getElem?_eq_getElem l2)).lit_inv
  have hp:P.plainKey t=true:=by simp[Program.plainKey,hd]
  refine⟨_,_,run_part_plain w hp ((Array.getElem?_eq_getElem l1).trans (congrArg some v1)),run_part_plain w hp ((Array.getElem?_eq_getElem l2).trans (congrArg some v2)),?_⟩
  exact run_equalIn_string w m t a b hd
 ·rename_i a b e1 e2
  have l1:o<us.size:=by rw[← hc.1];exact(List.getElem?_eq_some_iff.1 e1).1
  have l2:o<vs.size:=by rw[← hd'.1];exact(List.getElem?_eq_some_iff.1 e2).1
  have v1:=(hc.2 o _ _ e1 (Array.getElem?_eq_getElem l1)).lit_inv
  have v2:=(hd'.2 o _ _ e2 (Array.getElem?_eq_getElem l2)).lit_inv
  have hp:P.plainKey t=true:=by simp[Program.plainKey,hd]
  refine⟨_,_,run_part_plain w hp ((Array.getElem?_eq_getElem l1).trans (congrArg some v1)),run_part_plain w hp ((Array.getElem?_eq_getElem l2).trans (congrArg some v2)),?_⟩
  exact run_equalIn_bool' w m t a b hd
 ·exact h.elim
theorem ZnH {g:Gh}{cs ds:List AV}{us vs:Array Value}(hc:RepL g cs us)(hd:RepL g ds vs)(m:Nat):∀(fs:List Field),(eqFs P cs ds fs).ok→(Op.eqFields (m+1) us vs fs).run P w=.ok (eqFs P cs ds fs).b w
 | [],_=>by simp[Op.eqFields,eqFs]
 | f::fs,h=>by
  simp only[eqFs]at h ⊢
  split at h
  ·rename_i d hu
   obtain⟨h1,h2,h3⟩:=h
   obtain⟨a,b,r1,r2,r3⟩:=Zoo (w:=w) hu hc hd h2 m
   have ih:=ZnH hc hd m fs h3
   simp only[Op.eqFields,h1,ne_eq,not_false_eq_true,if_true,Sem.run_bind,r1,r2,r3,Result.andThen_ok]
   generalize (ZiO d cs[f.offset]? ds[f.offset]?).b=x
   cases x with
   | true=>simp[ih]
   | false=>simp
  ·exact h.elim
theorem Zop {g:Gh}{op:BinOp}{t:TypeId}{cs ds:List AV}{us vs:Array Value}(hc:RepL g cs us)(hd:RepL g ds vs)(h:(Zjz P t op cs ds).ok)(x y:Operand) :
  ∃v,(eqGuard op t x y (.agg us) (.agg vs)).run P w=.ok () w∧(binOp op t (.agg us) (.agg vs)).run P w=.ok v w∧∀g,Rep g (Zjz P t op cs ds).v v:=by
 have key:(eqAgg P t cs ds).ok→P.eqGuardType P.depth t=false∧(Op.equalIn 10000 t (.agg us) (.agg vs)).run P w=.ok (eqAgg P t cs ds).b w:=by
  intro h
  unfold eqAgg at h ⊢
  split at h
  ·rename_i fs hu
   obtain⟨h1,h2,h3⟩:=h
   have hf:P.fieldsOf t=fs:=by simp[Program.fieldsOf,hu]
   refine⟨h2,?_⟩
   rw[run_equalIn_struct w 9999 t us vs (by rw[hf];exact hu) h1,hf]
   exact ZnH hc hd 9998 _ h3
  ·exact h.elim
 cases op <;> simp only[Zjz,fails]at h ⊢ <;> first
  | exact h.elim
  | (obtain⟨k1,k2⟩:=key h
     refine⟨_,run_eqGuard_agg w _ t x y us vs k1,?_,fun g=>.d (.lit _ rfl)⟩
     first
      | (rw[run_eql_struct,k2];rfl)
      | (rw[run_neq_struct,k2];rfl))
theorem max_run (k:IntKind)(m n:Int)(tys:Array TypeId)(ty:TypeId):(Builtin.max_ tys ty #[.int k m,.int k n]).run P w=.ok (.int k (max m n)) w:=by
 simp only[Builtin.max_,List.foldlM_cons,List.foldlM_nil,Builtin.max2,Sem.run_bind,Sem.run_pure,Result.andThen_ok]
 have:(if n>m then n else m)=max m n:=by
  rcases Int.lt_or_le m n with h | h
  ·rw[if_pos h];omega
  ·rw[if_neg (by omega)];omega
 rw[this]
theorem min_run (k:IntKind)(m n:Int)(tys:Array TypeId)(ty:TypeId):(Builtin.min_ tys ty #[.int k m,.int k n]).run P w=.ok (.int k (min m n)) w:=by
 simp only[Builtin.min_,List.foldlM_cons,List.foldlM_nil,Builtin.min2,Sem.run_bind,Sem.run_pure,Result.andThen_ok]
 have:(if n<m then n else m)=min m n:=by
  rcases Int.lt_or_le n m with h | h
  ·rw[if_pos h];omega
  ·rw[if_neg (by omega)];omega
 rw[this]
theorem Zhh {k:IntKind}{i:Int}{y:Nat}{c:BoundsCode}(h0:0≤i)(h1:i≤(y:Int)):(Instr.sliceBound (.int k i) y c).run P w=.ok i.toNat w:=by
 simp[Instr.sliceBound,asIntOf,h0,h1]
theorem Zf4 {g:Gh}{nt:Nat}{tm:Nat→AV}{a:Act}(hT:RT g nt tm a){o:Option Operand}{d:Int}{kk:IntKind}{l:Int}(ho:(bndV tm d o).ok)(hv:(bndV tm d o).v=.d (.lit (.int kk l))) :
  (o=none∧l=d)∨∃x,o=some x∧a.eval x=.int kk l:=by
 cases o with
 | none=>
  simp only[bndV,AV.d.injEq,DV.lit.injEq,Value.int.injEq]at hv
  exact .inl ⟨rfl,hv.2.symm⟩
 | some x=>
  simp only[bndV]at ho hv
  exact .inr ⟨x,rfl,(hv ▸ Zap hT ho).lit_inv⟩
theorem Zge {lo hi:Option Value}{len cap:Nat}{b:Bool}{kl kh:IntKind}{l h:Int}(hl:(lo=none∧l=0)∨lo=some (.int kl l))(hh:(hi=none∧h=(len:Int))∨hi=some (.int kh h))(h0:0≤l)(h1:l≤h)(h2:h≤(len:Int))(hc:len≤cap) :
  (Instr.sliceBounds b len cap lo hi none).run P w=.ok (l.toNat,h.toNat,cap) w:=by
 unfold Instr.sliceBounds
 have e1:∀c,(Instr.sliceBound (.int kh h) cap c).run P w=.ok h.toNat w:=fun c=>Zhh (by omega) (by omega)
 have e2:∀c,(Instr.sliceBound (.int kl l) h.toNat c).run P w=.ok l.toNat w:=fun c=>Zhh h0 (by omega)
 rcases hh with⟨rfl,rfl⟩ | rfl <;> rcases hl with⟨rfl,rfl⟩ | rfl <;> simp[Sem.run_bind,e1,e2] <;> first | rfl | (have:=e2 .sliceB;simp at this;simp[this])
theorem ZfI {t:TypeId}{v:Value}{lo hi:Option Value}(h:match P.underlying t with | some (.array _ _)=>False | some _=>True | none=>False):(Instr.sliceAt t v lo hi none).run P w=(Instr.slice t v lo hi none).run P w:=by
 cases hu:P.underlying t with
 | none=>rw[hu]at h;exact h.elim
 | some d=>
  rw[hu]at h
  unfold Instr.sliceAt
  rw[Sem.run_bind,run_underlying hu]
  simp only[Result.andThen_ok]
  cases d <;> first | rfl | exact h.elim
theorem cut_str {t:TypeId}{s:ByteArray}{lo hi:Option Value}{kl kh:IntKind}{l h:Int}(ht:P.underlying t=some .string)(hl:(lo=none∧l=0)∨lo=some (.int kl l))(hh:(hi=none∧h=(s.size:Int))∨hi=some (.int kh h))(h0:0≤l)(h1:l≤h)(h2:h≤(s.size:Int)) :
  (Instr.sliceAt t (.string s) lo hi none).run P w=.ok (.string (s.extract l.toNat h.toNat)) w:=by
 rw[ZfI (by rw[ht];trivial)]
 unfold Instr.slice
 rw[Sem.run_bind,run_underlying ht]
 simp[Sem.run_bind,Zge (P:=P) (w:=w) (b:=false) hl hh h0 h1 h2 (Nat.le_refl _)]
theorem cut_xs {g:Gh}{t:TypeId}{e n by_:Nat}{id off cap:Nat}{xs:List (List AV)}{v:Value}{lo hi:Option Value}{kl kh:IntKind}{l h:Int}(ht:elT P t=some (e,n,by_))(hv:Rep g (.xs id off n cap xs) v)
  (hl:(lo=none∧l=0)∨lo=some (.int kl l)) (hh:(hi=none∧h=(xs.length:Int))∨hi=some (.int kh h)) (h0:0≤l) (h1:l≤h) (h2:h≤(xs.length:Int)) :
  ∃u,(Instr.sliceAt t v lo hi none).run P w=.ok u w∧Rep g (.xs id (off+(if l.toNat<cap then l.toNat * n else 0)) n (cap - l.toNat) ((xs.take h.toNat).drop l.toNat)) u:=by
 obtain⟨hu,hsz⟩:=ZjA (w:=w) ht
 obtain⟨hi',hc,rfl⟩:=hv.xs_inv
 have hlen:((xs.take h.toNat).drop l.toNat).length=h.toNat - l.toNat:=by simp;omega
 refine⟨_,by
  rw[ZfI (by rw[hu];trivial)]
  unfold Instr.slice
  rw[Sem.run_bind,run_underlying hu]
  simp[Sem.run_bind,Zge (P:=P) (w:=w) (b:=true) (len:=xs.length) (cap:=cap) hl hh h0 h1 h2 hc,hsz]
  rfl,?_⟩
 have key:=Rep.xs (g:=g) id (off+(if l.toNat<cap then l.toNat * n else 0)) n (cap - l.toNat) ((xs.take h.toNat).drop l.toNat) hi' (by rw[hlen];omega)
 rw[hlen]at key
 by_cases hm:cap=l.toNat
 ·rw[if_pos hm]
  rw[if_neg (by omega)]at key ⊢
  simpa using key
 ·rw[if_neg hm]
  rw[if_pos (by omega)]at key ⊢
  simpa[ZcH] using key
theorem Zra {g:Gh}{t:TypeId}{e n by_:Nat}{s:Nat}{xs:List (List DV)}{v:Value}{lo hi:Option Value}{kl kh:IntKind}{l h:Int}(ht:elT P t=some (e,n,by_))(hs:n=s)(hv:RepD g.pub (.sl s xs) v)
  (hl:(lo=none∧l=0)∨lo=some (.int kl l)) (hh:(hi=none∧h=(xs.length:Int))∨hi=some (.int kh h)) (h0:0≤l) (h1:l≤h) (h2:h≤(xs.length:Int)) :
  ∃u,(Instr.sliceAt t v lo hi none).run P w=.ok u w∧RepD g.pub (.sl s ((xs.take h.toNat).drop l.toNat)) u:=by
 obtain⟨hu,hsz⟩:=ZjA (w:=w) ht
 subst hs
 have hlen:((xs.take h.toNat).drop l.toNat).length=h.toNat - l.toNat:=by simp;omega
 cases hv with
 | sl0 _ a cap=>
  have e1:l=0:=by simp at h2;omega
  have e2:h=0:=by simp at h2;omega
  subst e1;subst e2
  refine⟨_,by
   rw[ZfI (by rw[hu];trivial)]
   unfold Instr.slice
   rw[Sem.run_bind,run_underlying hu]
   simp[Sem.run_bind,Zge (P:=P) (w:=w) (b:=true) (len:=0) (cap:=cap) hl hh h0 h1 h2 (Nat.zero_le _),hsz]
   rfl,?_⟩
  simp only[List.take_nil,List.drop_nil]
  exact .sl0 _ _ _
 | sl _ _ b o cap c hne hll hc hp hr=>
  refine⟨_,by
   rw[ZfI (by rw[hu];trivial)]
   unfold Instr.slice
   rw[Sem.run_bind,run_underlying hu]
   simp[Sem.run_bind,Zge (P:=P) (w:=w) (b:=true) (len:=xs.length) (cap:=cap) hl hh h0 h1 h2 hc,hsz]
   rfl,?_⟩
  by_cases he:h.toNat - l.toNat=0
  ·have:(xs.take h.toNat).drop l.toNat=[]:=List.eq_nil_of_length_eq_zero (by rw[hlen];exact he)
   rw[this,he]
   exact .sl0 _ _ _
  ·have hm:¬ cap=l.toNat:=by omega
   rw[if_neg hm]
   have key:=RepD.sl (pub:=g.pub) n ((xs.take h.toNat).drop l.toNat) b (o+l.toNat * n) (cap - l.toNat) (fun k=>c (l.toNat * n+k)) (by omega) (fun i x hx=>?_) (by omega) (fun i j x d hx hj=>?_) (fun i j x d hx hj=>?_)
   ·rw[hlen]at key
    simpa[ZcH] using key
   ·rw[List.getElem?_drop,List.getElem?_take]at hx
    split at hx
    ·exact hll _ x hx
    ·cases hx
   ·rw[List.getElem?_drop,List.getElem?_take]at hx
    split at hx
    ·have:=hp _ j x d hx hj
     rw[Nat.add_mul]at this
     rw[show o+l.toNat * n+i * n+j=o+(l.toNat * n+i * n)+j from by omega,show l.toNat * n+(i * n+j)=l.toNat * n+i * n+j from by omega]
     exact this
    ·cases hx
   ·rw[List.getElem?_drop,List.getElem?_take]at hx
    split at hx
    ·have:=hr _ j x d hx hj
     rw[Nat.add_mul]at this
     rw[show l.toNat * n+(i * n+j)=l.toNat * n+i * n+j from by omega]
     exact this
    ·cases hx
theorem ZqB {g:Gh}{st:St}(hR:R w g st){nt:Nat}{tm:Nat→AV}{a:Act}(hT:RT g nt tm a){o:Oper}(h:(ev P tm o.op).ok) :
  ∃v,(execOp a.eval o).run P w=.ok (.value v) w∧Rep g (ev P tm o.op).v v:=by
 rcases o with⟨dst,op,ty,pos,after,guard⟩
 cases op with
 | move x=>exact⟨_,rfl,Zap hT h⟩
 | assign x=>exact⟨_,rfl,Zap hT h⟩
 | pick c x y=>
  simp only[ev]at h ⊢
  split at h
  ·rename_i b hb
   simp only at h
   have hc:=Zap hT h.2.2
   rw[hb]at hc
   have hcv:=hc.lit_inv
   refine⟨if b then a.eval x else a.eval y,by simp[execOp,hcv,asBool],?_⟩
   cases b
   ·exact Zap hT h.2.1
   ·exact Zap hT h.1
  ·exact h.elim
 | nilCheck x=>
  simp only[ev]at h ⊢
  have hx:=Zap hT h.1
  obtain⟨h1,h2⟩:=Zm3 (w:=w) h.2 hx (o:=⟨dst,.nilCheck x,ty,pos,after,guard⟩) (ρ:=a.eval) rfl rfl
  refine⟨_,h1,?_⟩
  rw[h2]
  exact hx
 | binOp op t x y t'=>
  simp only[ev]at h ⊢
  split at h
  ·rename_i k p k' q hx hy
   simp only at h
   obtain⟨h1,h2,h3⟩:=h
   have ex:=(hx ▸ Zap hT h1).lit_inv
   have ey:=(hy ▸ Zap hT h2).lit_inv
   obtain⟨v,hv,hr⟩:=Zm1 (P:=P) (w:=w) h3 t
   refine⟨v,?_,hr g⟩
   simp only[execOp,Sem.run_bind,ex,ey,Zer (P:=P) (w:=w) (a:=.int k p) rfl (by simp),Result.andThen_ok,hv,Sem.run_pure]
  ·rename_i p q hx hy
   simp only at h
   obtain⟨h1,h2,h3⟩:=h
   have ex:=(hx ▸ Zap hT h1).lit_inv
   have ey:=(hy ▸ Zap hT h2).lit_inv
   obtain⟨v,hv,hr⟩:=Zom (P:=P) (w:=w) h3 t
   refine⟨v,?_,hr g⟩
   simp only[execOp,Sem.run_bind,ex,ey,Zer (P:=P) (w:=w) (a:=.string p) rfl (by simp),Result.andThen_ok,hv,Sem.run_pure]
  ·rename_i p q hx hy
   simp only at h
   obtain⟨h1,h2,h3⟩:=h
   have ex:=(hx ▸ Zap hT h1).lit_inv
   have ey:=(hy ▸ Zap hT h2).lit_inv
   obtain⟨v,hv,hr⟩:=Zm2 (P:=P) (w:=w) h3
   refine⟨v,?_,hr g⟩
   simp only[execOp,Sem.run_bind,ex,ey,Zer (P:=P) (w:=w) (a:=.bool p) rfl (by simp),Result.andThen_ok,hv,Sem.run_pure]
  ·rename_i cs ds hx hy
   simp only at h
   obtain⟨h1,h2,h3⟩:=h
   obtain⟨us,ex,hu⟩:=(hx ▸ Zap hT h1).agg_inv
   obtain⟨vs,ey,hv⟩:=(hy ▸ Zap hT h2).agg_inv
   obtain⟨v,k1,k2,k3⟩:=Zop (P:=P) (w:=w) hu hv h3 x y
   refine⟨v,?_,k3 g⟩
   simp only[execOp,Sem.run_bind,ex,ey,k1,Result.andThen_ok,k2,Sem.run_pure]
  ·rename_i f fs cs hx hy
   simp only at h
   obtain⟨h1,h2,h3⟩:=h
   obtain⟨us,vs,ex,-⟩:=(hx ▸ Zap hT h1).fn_inv
   have ey:=(hy ▸ Zap hT h2).lit_inv
   obtain⟨v,hv,hr⟩:=ZlU (P:=P) (w:=w) h3 (x:=.func f us vs) ⟨_,_,_,rfl⟩
   refine⟨v,?_,hr g⟩
   simp only[execOp,Sem.run_bind,ex,ey,Zer (P:=P) (w:=w) (a:=.func f us vs) rfl (by simp),Result.andThen_ok,hv,Sem.run_pure]
  ·rename_i hx hy
   simp only at h
   obtain⟨h1,h2,h3⟩:=h
   have ex:=(hx ▸ Zap hT h1).lit_inv
   have ey:=(hy ▸ Zap hT h2).lit_inv
   obtain⟨v,hv,hr⟩:=ZlU (P:=P) (w:=w) h3 (x:=.nilFunc) rfl
   refine⟨v,?_,hr g⟩
   simp only[execOp,Sem.run_bind,ex,ey,Zer (P:=P) (w:=w) (a:=.nilFunc) rfl (by simp),Result.andThen_ok,hv,Sem.run_pure]
  ·exact h.elim
 | unOp op t x=>
  simp only[ev]at h ⊢
  split at h
  ·rename_i b hb
   have ex:=(hb ▸ Zap hT h).lit_inv
   exact⟨.bool (!b),by simp[execOp,ex,Op.unary],.d (.lit _ rfl)⟩
  ·rename_i k n hb
   have ex:=(hb ▸ Zap hT h).lit_inv
   exact⟨.int k (k.wrap (0 - n)),by simp[execOp,ex,Op.unary,Op.intArith],.d (.lit _ rfl)⟩
  ·exact h.elim
 | convert s t x=>
  simp only[ev]at h ⊢
  split at h
  ·rename_i k0 k k1 n hs ht hx
   have ex:=(hx ▸ Zap hT h).lit_inv
   refine⟨.int k (k.wrap n),?_,.d (.lit _ rfl)⟩
   simp[execOp,ex,convert,run_underlying hs,run_underlying ht,Conv.intToInt]
  ·exact h.elim
 | fieldAddr s x f=>
  simp only[ev]at h ⊢
  split at h
  ·rename_i off n ag id o hf hx
   obtain⟨h1,h2⟩:=h
   obtain⟨hid,ex⟩:=(hx ▸ Zap hT h1).ptr_inv
   obtain⟨fs,fd,hu,hfd,rfl,ht⟩:=Zij hf
   obtain⟨hs,-⟩:=ZeB (P:=P) (w:=w) ht
   refine⟨.pointer (some ⟨g.σ id,o+fd.offset,none⟩),?_,.ptr _ _ hid⟩
   simp[execOp,ex,Instr.fieldAt,run_underlying hu,hfd,Instr.sureAddr,fieldPlace,hs,h2,ZcH]
  ·rename_i off n ag cs hf hx
   obtain⟨h1,h2⟩:=h
   obtain⟨b,o,c,ex,hp,hr⟩:=(hx ▸ Zap hT h1).pp_inv
   obtain⟨fs,fd,hu,hfd,rfl,ht⟩:=Zij hf
   obtain⟨hs,-⟩:=ZeB (P:=P) (w:=w) ht
   refine⟨.pointer (some ⟨b,o+fd.offset,none⟩),?_,.pp _ b (o+fd.offset) (fun j=>c (fd.offset+j)) (fun j d hj=>?_) (fun j d hj=>?_)⟩
   ·simp[execOp,ex,Instr.fieldAt,run_underlying hu,hfd,Instr.sureAddr,fieldPlace,hs,h2,ZcH]
   ·rw[List.getElem?_drop]at hj
    rw[Nat.add_assoc]
    exact hp _ d hj
   ·rw[List.getElem?_drop]at hj
    exact hr _ d hj
  ·exact h.elim
 | field s x f=>
  simp only[ev]at h ⊢
  split at h
  ·rename_i off n ag cs hf hx
   obtain⟨h1,h2⟩:=h
   obtain⟨vs,ex,hl⟩:=(hx ▸ Zap hT h1).agg_inv
   obtain⟨fs,fd,hu,hfd,rfl,ht⟩:=Zij hf
   obtain⟨v,hv,hr⟩:=ZnG (P:=P) (w:=w) ht hl h2
   exact⟨v,by simp[execOp,ex,Instr.field,run_underlying hu,hfd,asAgg,hv],hr⟩
  ·exact h.elim
 | indexAddr t x i=>
  simp only[ev]at h ⊢
  split at h
  ·rename_i id o hx
   split at h
   ·rename_i m e kk k hu hi
    split at h
    ·rename_i n ag ht
     obtain⟨h1,h2,h3,h4⟩:=h
     have ei:=(hi ▸ Zap hT h2).lit_inv
     obtain⟨hid,ex⟩:=(hx ▸ Zap hT h1).ptr_inv
     obtain⟨hs,-⟩:=ZeB (P:=P) (w:=w) ht
     refine⟨.pointer (some ⟨g.σ id,o+k.toNat * n,none⟩),?_,.ptr _ _ hid⟩
     simp[execOp,ex,ei,Instr.indexAt,asIntOf,run_underlying hu,Instr.sureAddr,h3,h4,hs,ZcH]
    ·exact h.elim
   ·exact h.elim
  ·rename_i id off s cap xs hx
   split at h
   ·rename_i e n by_ kk k he hi
    obtain⟨h1,h2,rfl,h3,h4⟩:=h
    have ei:=(hi ▸ Zap hT h2).lit_inv
    obtain⟨hid,hcap,ex⟩:=(hx ▸ Zap hT h1).xs_inv
    obtain⟨hu,hs⟩:=ZjA (w:=w) he
    refine⟨.pointer (some ⟨g.σ id,off+k.toNat * n,none⟩),?_,.ptr _ _ hid⟩
    simp[execOp,ex,ei,Instr.indexAt,asIntOf,run_underlying hu,h3,h4,hs,ZcH]
   ·exact h.elim
  split at h
  ·rename_i e n by_ s xs kk k he hx hi
   obtain⟨h1,h2,rfl,h3⟩:=h
   have ei:=(hi ▸ Zap hT h2).lit_inv
   obtain⟨ad,cap,ex,hcap,hc⟩:=(Rep.sliceAt hx (Zap hT h1)).at_
   unfold at_ at h3 ⊢
   obtain⟨hk0,hk1⟩:=h3
   obtain⟨b,o,c,rfl,hl,hp,hr⟩:=hc (by omega)
   obtain⟨hu,hs⟩:=ZjA (w:=w) he
   have hlt:k.toNat<xs.length:=by omega
   have hget:xs[k.toNat]?=some (xs.getD k.toNat []):=by simp[List.getD,gG hlt]
   refine⟨.pointer (some ⟨b,o+k.toNat * n,none⟩),?_,.pp _ b (o+k.toNat * n) (fun j=>c (k.toNat * n+j)) (fun j d hj=>hp _ _ _ d hget hj) (fun j d hj=>hr _ _ _ d hget hj)⟩
   simp[execOp,ex,ei,Instr.indexAt,asIntOf,run_underlying hu,hk0,hk1,hs,ZcH]
  ·exact h.elim
 | slice t x lo hi mx=>
  cases mx with
  | some m=>exact h.elim
  | none=>
   simp only[ev]at h ⊢
   obtain⟨h1,h2,h3,h4⟩:=h
   unfold cutV at h4 ⊢
   have hx:=Zap hT h1
   split at h4
   ·rename_i s kl l kh h' e1 e2 e3
    obtain⟨q1,q2,q3,q4⟩:=h4
    rw[e1]at hx h3 e3
    have ex:=hx.lit_inv
    have b1:=Zf4 hT h2 e2
    have b2:=Zf4 hT h3 e3
    refine⟨_,?_,.d (.lit _ rfl)⟩
    simp only[execOp,ex,Sem.run_bind,Option.map_none]
    rw[cut_str (P:=P) (w:=w) (lo:=lo.map a.eval) (hi:=hi.map a.eval) (kl:=kl) (kh:=kh) q1 (by rcases b1 with⟨rfl,rfl⟩ | ⟨y,rfl,ey⟩ <;> simp_all) (by rcases b2 with⟨rfl,rfl⟩ | ⟨y,rfl,ey⟩ <;> simp_all [lenI]) q2 q3 q4]
    rfl
   ·rename_i s xs kl l kh h' e1 e2 e3
    rw[e1]at hx h3 e3
    have b1:=Zf4 hT h2 e2
    have b2:=Zf4 hT h3 e3
    split at h4
    ·rename_i e n by_ he
     obtain⟨q1,q2,q3,q4⟩:=h4
     obtain⟨u,hu,hr⟩:=Zra (P:=P) (w:=w) (lo:=lo.map a.eval) (hi:=hi.map a.eval) (kl:=kl) (kh:=kh) he rfl (hx.sl_inv.re q1) (by rcases b1 with⟨rfl,rfl⟩ | ⟨y,rfl,ey⟩ <;> simp_all) (by rcases b2 with⟨rfl,rfl⟩ | ⟨y,rfl,ey⟩ <;> simp_all [lenI]) q2 q3 q4
     exact⟨u,by simp only[execOp,Sem.run_bind,Option.map_none,hu];rfl,.d hr.slv⟩
    ·exact h4.elim
   ·rename_i tk s xs kl l kh h' e1 e2 e3
    rw[e1]at hx h3 e3
    have b1:=Zf4 hT h2 e2
    have b2:=Zf4 hT h3 e3
    split at h4
    ·rename_i e n by_ he
     obtain⟨q1,q2,q3,q4⟩:=h4
     obtain⟨u,hu,hr⟩:=Zra (P:=P) (w:=w) (lo:=lo.map a.eval) (hi:=hi.map a.eval) (kl:=kl) (kh:=kh) he rfl (hx.own_inv.2.1.re q1) (by rcases b1 with⟨rfl,rfl⟩ | ⟨y,rfl,ey⟩ <;> simp_all) (by rcases b2 with⟨rfl,rfl⟩ | ⟨y,rfl,ey⟩ <;> simp_all [lenI]) q2 q3 q4
     exact⟨u,by simp only[execOp,Sem.run_bind,Option.map_none,hu];rfl,.d hr.slv⟩
    ·exact h4.elim
   ·rename_i kl l kh h' e1 e2 e3
    obtain⟨rfl,rfl,q3⟩:=h4
    rw[e1]at hx h3 e3
    have b1:=Zf4 hT h2 e2
    have b2:=Zf4 hT h3 e3
    have ex:=hx.nil_inv
    obtain⟨⟨e,n,by_⟩,he⟩:=Option.isSome_iff_exists.1 q3
    obtain⟨hu,hsz⟩:=ZjA (w:=w) he
    refine⟨.slice none 0 0,?_,.d (.sl0 0 none 0)⟩
    simp only[execOp,ex,Sem.run_bind,Option.map_none]
    rw[ZfI (by rw[hu];trivial)]
    unfold Instr.slice
    rw[Sem.run_bind,run_underlying hu]
    simp only[Result.andThen_ok,Sem.run_bind]
    rw[Zge (P:=P) (w:=w) (b:=true) (len:=0) (cap:=0) (lo:=lo.map a.eval) (hi:=hi.map a.eval) (kl:=kl) (kh:=kh) (l:=0) (h:=0) (by rcases b1 with⟨rfl,-⟩ | ⟨y,rfl,ey⟩ <;> simp_all) (by rcases b2 with⟨rfl,-⟩ | ⟨y,rfl,ey⟩ <;> simp_all [lenI]) (by omega) (by omega) (by omega) (by omega)]
    simp[hsz]
   ·rename_i id off s cap xs kl l kh h' e1 e2 e3
    rw[e1]at hx h3 e3
    have b1:=Zf4 hT h2 e2
    have b2:=Zf4 hT h3 e3
    split at h4
    ·rename_i e n by_ he
     obtain⟨rfl,q0,q2,q3,q4⟩:=h4
     obtain⟨u,hu,hr⟩:=cut_xs (P:=P) (w:=w) (lo:=lo.map a.eval) (hi:=hi.map a.eval) (kl:=kl) (kh:=kh) he hx (by rcases b1 with⟨rfl,rfl⟩ | ⟨y,rfl,ey⟩ <;> simp_all) (by rcases b2 with⟨rfl,rfl⟩ | ⟨y,rfl,ey⟩ <;> simp_all [lenI]) q2 q3 q4
     exact⟨u,by simp only[execOp,Sem.run_bind,Option.map_none,hu];rfl,hr⟩
    ·exact h4.elim
   ·exact h4.elim
 | index t x i=>
  simp only[ev]at h ⊢
  split at h
  ·rename_i cs kk k hx hi
   split at h
   ·rename_i m e hu
    split at h
    ·rename_i n ag ht
     obtain⟨h1,h2,h3,h4,h5⟩:=h
     have ei:=(hi ▸ Zap hT h2).lit_inv
     obtain⟨vs,ex,hl⟩:=(hx ▸ Zap hT h1).agg_inv
     obtain⟨v,hv,hr⟩:=ZnG (P:=P) (w:=w) ht hl h5
     obtain⟨hs,-⟩:=ZeB (P:=P) (w:=w) ht
     exact⟨v,by simp[execOp,ex,ei,Instr.index,asIntOf,run_underlying hu,h3,h4,hs,hv],hr⟩
    ·exact h.elim
   ·exact h.elim
  ·rename_i s kk k hx hi
   obtain⟨h1,h2,h3,h4,h5⟩:=h
   have ei:=(hi ▸ Zap hT h2).lit_inv
   have ex:=(hx ▸ Zap hT h1).lit_inv
   have hlt:k.toNat<s.size:=by omega
   refine⟨_,?_,.d (.lit _ rfl)⟩
   simp[execOp,ex,ei,Instr.index,asIntOf,run_underlying h3,h4,Zpi s k.toNat hlt]
  ·exact h.elim
 | extract x i=>
  simp only[ev]at h ⊢
  split at h
  ·rename_i vs hx
   obtain⟨h1,h2⟩:=h
   obtain⟨us,ex,hl⟩:=(hx ▸ Zap hT h1).tup_inv
   have hlt:i<us.size:=by rw[← hl.1];exact h2
   have hget:vs[i]?=some (vs.getD i .bad):=by simp[List.getD,gG h2]
   exact⟨us[i],by simp[execOp,ex,Instr.extract,Array.getElem?_eq_getElem hlt],hl.2 i _ _ hget (Array.getElem?_eq_getElem hlt)⟩
  ·exact h.elim
 | makeFunc f fs cs=>
  simp only[ev]at h ⊢
  have h1:=RepL.opnds hT fs h.1
  have h2:=RepL.opnds hT cs h.2
  exact⟨_,by simp[execOp,Instr.makeFunc],.fn _ _ _ _ _ h1.1 h1.2 h2.1 h2.2⟩
 | makeInterface t x=>
  simp only[ev]at h ⊢
  exact⟨_,by simp[execOp,Zpj h.2],.ifc _ (Zap hT h.1)⟩
 | load t x=>
  simp only[ev]at h ⊢
  split at h
  ·rename_i n ag cs ht hx
   obtain⟨h1,h2⟩:=h
   obtain⟨b,o,c,ex,hp,hr⟩:=(hx ▸ Zap hT h1).pp_inv
   obtain⟨v,hv,hrep⟩:=ZgK hR ht hp hr h2
   exact⟨v,by simp[execOp,ex,Instr.loadAt,Instr.sureAddr,hv],hrep⟩
  ·exact h.elim
 | call c=>
  rcases c with⟨callee,⟨args⟩,⟨tys⟩⟩
  simp only[ev,ZfT]at h ⊢
  split at h
  ·rename_i b x y
   obtain⟨h1,h2,h3⟩:=h
   unfold mmV at h3 ⊢
   split at h3
   ·rename_i k m k' n hb ex ey
    simp only at h3
    subst h3
    have hb':b=.max:=by cases b <;> first | rfl | (simp[ZnF]at hb)
    subst hb'
    have vx:=(ex ▸ Zap hT h1).lit_inv
    have vy:=(ey ▸ Zap hT h2).lit_inv
    exact⟨_,by simp[execOp,resolve,invoke,builtin,vx,vy,max_run],.d (.lit _ rfl)⟩
   ·rename_i k m k' n hb ex ey
    simp only at h3
    subst h3
    have hb':b=.min:=by cases b <;> first | rfl | (simp[ZnF]at hb)
    subst hb'
    have vx:=(ex ▸ Zap hT h1).lit_inv
    have vy:=(ey ▸ Zap hT h2).lit_inv
    exact⟨_,by simp[execOp,resolve,invoke,builtin,vx,vy,min_run],.d (.lit _ rfl)⟩
   ·exact h3.elim
  ·rename_i b x t
   split at h
   ·rename_i n str hb hn
    obtain⟨h1,h2⟩:=h
    have hb':b=.len:=by cases b <;> first | rfl | (simp[Zkg]at hb)
    subst hb'
    have:=len_run (w:=w) h2 (ty:=ty) hn (Zap hT h1)
    exact⟨_,by simp[execOp,resolve,invoke,builtin,this],.d (.lit _ rfl)⟩
   ·exact h.elim
  ·exact h.elim
 | _=>exact h.elim
end
end Go.AW

namespace Go.AW
open Go.RowKit
section
variable {P:Program}{w:World}{g:Gh}{st:St}
theorem R.pub_lt (h:R w g st){b o:Nat}{v:Value}(hp:g.pub b o=some v):b<w.heap.size:=World.block_lt_of_cell? w ⟨b,o,none⟩ (h.pub b o v hp)
theorem R.pub_new (h:R w g st)(b o:Nat)(hb:w.heap.size≤b):g.pub b o=none:=by
 cases hp:g.pub b o with
 | none=>rfl
 | some v=>have:=h.pub_lt hp;omega
theorem R.obj_lt (h:R w g st){i:Nat}(hi:i<st.n):g.σ i<w.heap.size:=by
 obtain⟨arr,ha,-⟩:=h.obj i hi
 exact(Array.getElem?_eq_some_iff.1 ha).1
theorem R.tok_lt (h:R w g st){t:Nat}{e:TypeId}{s m:Nat}{v:Value}(ht:g.tok t=some (e,s,v,m)){b:Nat}(hb:v.ownBlock=some b):g.B≤b∧b<w.heap.size:=by
 obtain⟨-,-,⟨xs,hx⟩,-⟩:=h.tok t e s v m ht
 exact hx.lt b hb
def St.push (st:St)(t:TypeId)(cs:List AV):St:={ st with n:=st.n+1,obj:=upd st.obj st.n (t,cs),fz:=upd st.fz st.n false }
def St.fix (st:St)(id:Nat):St:={ st with fz:=upd st.fz id true }
def St.setc (st:St)(id:Nat)(cs:List AV):St:={ st with obj:=upd st.obj id ((st.obj id).1,cs) }
def Gh.push (g:Gh)(b:Nat):Gh:={ g with n:=g.n+1,σ:=upd g.σ g.n b }
theorem Gh.le_push (g:Gh)(b:Nat):g.le (g.push b):=
 ⟨fun _ _ _ h=>h,Nat.le_succ _,fun i hi=>by simp only[Gh.push,upd];rw[if_neg (by omega)],Nat.le_refl _,fun _ _ _ h=>h,rfl⟩
theorem R.alloc (h:R w g st)(t:TypeId){cs:List AV}{arr:Array Value}(hr:RepL g cs arr) :
  R (w.alloc (.cells arr t)) (g.push w.heap.size) (st.push t cs):=by
 have hle:=g.le_push w.heap.size
 have hold:∀k,k<w.heap.size→(w.alloc (.cells arr t)).heap[k]?=w.heap[k]?:=fun k hk=>Below.heap_alloc w _ k hk
 refine⟨by simp[Gh.push,St.push,h.hn],h.hk,?_,?_,?_,?_,?_,?_,?_,h.tinj,h.liv⟩
 ·intro b o v hp
  rw[World.cell?_of_block (w:=w) (hold b (h.pub_lt hp))]
  exact h.pub b o v hp
 ·intro i hi
  simp only[St.push]at hi
  by_cases e:i=st.n
  ·subst e
   refine⟨arr,?_,?_⟩
   ·simp only[Gh.push,St.push,upd,h.hn,if_true]
    exact heap_alloc_new w _
   ·simp only[St.push,upd,if_true]
    exact hr.mono hle
  ·obtain⟨arr',ha,hr'⟩:=h.obj i (by omega)
   refine⟨arr',?_,?_⟩
   ·simp only[Gh.push,St.push,upd,h.hn,if_neg e]
    rw[hold _ (h.obj_lt (by omega))]
    exact ha
   ·simp only[St.push,upd,if_neg e]
    exact hr'.mono hle
 ·intro i j hi hj e
  simp only[St.push]at hi hj
  simp only[Gh.push,upd,h.hn]at e
  by_cases ei:i=st.n <;> by_cases ej:j=st.n
  ·omega
  ·rw[if_pos ei,if_neg ej]at e
   have:=h.obj_lt (i:=j) (by omega)
   omega
  ·rw[if_neg ei,if_pos ej]at e
   have:=h.obj_lt (i:=i) (by omega)
   omega
  ·rw[if_neg ei,if_neg ej]at e
   exact h.inj i j (by omega) (by omega) e
 ·intro i hi hz o
  simp only[St.push,upd]at hi hz
  simp only[Gh.push,upd,h.hn]
  by_cases ei:i=st.n
  ·rw[if_pos ei]
   exact h.pub_new _ _ (Nat.le_refl _)
  ·rw[if_neg ei]at hz ⊢
   exact h.sep i (by omega) hz o
 ·have:=h.base
  simp only[Gh.push,World.size_alloc]
  omega
 ·intro i hi
  simp only[St.push]at hi
  simp only[Gh.push,upd,h.hn]
  by_cases ei:i=st.n
  ·rw[if_pos ei];exact h.base
  ·rw[if_neg ei];exact h.baseO i (by omega)
 ·intro t' e s v m ht
  obtain⟨h1,h2,⟨xs,h3⟩,h4⟩:=h.tok t' e s v m ht
  refine⟨h1,h2,⟨xs,h3.alloc _⟩,fun b hb=>⟨(h4 b hb).1,fun i hi=>?_⟩⟩
  simp only[St.push]at hi
  simp only[Gh.push,upd,h.hn]
  by_cases ei:i=st.n
  ·rw[if_pos ei]
   have:=(h.tok_lt ht hb).2
   omega
  ·rw[if_neg ei]
   exact(h4 b hb).2 i (by omega)
theorem R.setRow (h:R w g st){id:Nat}(hid:id<st.n)(hz:st.fz id=false){cs:List AV}{arr':Array Value}(hr:RepL g cs arr'){w':World}
  (hw:w'.heap[g.σ id]?=some (.cells arr' (st.obj id).1 (0,0))) (hs:w.heap.size≤w'.heap.size) (ho:∀k,k≠g.σ id→w'.heap[k]?=w.heap[k]?):R w' g (st.setc id cs):=by
 refine⟨h.hn,h.hk,?_,?_,h.inj,h.sep,Nat.le_trans h.base hs,h.baseO,?_,h.tinj,h.liv⟩
 ·intro b o v hp
  rw[World.cell?_of_block (w:=w) (ho b (fun e=>by have:=h.sep id hid hz o;rw[← e,hp]at this;cases this))]
  exact h.pub b o v hp
 ·intro i hi
  by_cases e:i=id
  ·subst e
   exact⟨arr',by simpa[St.setc,upd] using hw,by simpa[St.setc,upd] using hr⟩
  ·obtain⟨arr,ha,hr'⟩:=h.obj i hi
   refine⟨arr,?_,?_⟩
   ·simp only[St.setc,upd,if_neg e]
    rw[ho _ (fun e'=>e (h.inj i id hi hid e'))]
    exact ha
   ·simp only[St.setc,upd,if_neg e]
    exact hr'
 ·intro t e s v m ht
  obtain⟨h1,h2,⟨xs,h3⟩,h4⟩:=h.tok t e s v m ht
  refine⟨h1,h2,⟨xs,h3.1,?_⟩,h4⟩
  rcases h3.2 with h5 | ⟨gb,cap,cur,hv,hb,hc,h6⟩
  ·exact .inl h5
  ·refine .inr ⟨gb,cap,cur,hv,hb,?_,h6⟩
   rw[ho gb (fun e=>(h4 gb (by rw[hv];rfl)).2 id hid e.symm)]
   exact hc
def Gh.publish (g:Gh)(b:Nat)(f:Nat→Option Value):Gh:={ g with pub:=fun b' o=>if b'=b then f o else g.pub b' o }
theorem Gh.le_publish (g:Gh){b:Nat}{f:Nat→Option Value}(h:∀o v,g.pub b o=some v→f o=some v):g.le (g.publish b f):=
 ⟨fun b' o v hp=>by
  simp only[Gh.publish]
  by_cases e:b'=b
  ·subst e;rw[if_pos rfl];exact h o v hp
  ·rw[if_neg e];exact hp,Nat.le_refl _,fun _ _=>rfl,Nat.le_refl _,fun _ _ _ h=>h,rfl⟩
theorem R.allocPub (h:R w g st)(t:TypeId)(arr:Array Value) :
  R (w.alloc (.cells arr t)) (g.publish w.heap.size (fun o=>arr[o]?)) st:=by
 have hle:=g.le_publish (b:=w.heap.size) (f:=fun o=>arr[o]?) (fun o v hp=>by rw[h.pub_new _ _ (Nat.le_refl _)]at hp;cases hp)
 have hold:∀k,k<w.heap.size→(w.alloc (.cells arr t)).heap[k]?=w.heap[k]?:=fun k hk=>Below.heap_alloc w _ k hk
 refine⟨h.hn,h.hk,?_,?_,h.inj,?_,?_,h.baseO,?_,h.tinj,h.liv⟩
 ·intro b o v hp
  simp only[Gh.publish]at hp
  by_cases e:b=w.heap.size
  ·subst e
   rw[if_pos rfl]at hp
   rw[cell_of_row _ w.heap.size o arr t (0,0) (heap_alloc_new w _)]
   exact hp
  ·rw[if_neg e]at hp
   rw[World.cell?_of_block (w:=w) (hold b (h.pub_lt hp))]
   exact h.pub b o v hp
 ·intro i hi
  obtain⟨arr',ha,hr'⟩:=h.obj i hi
  exact⟨arr',by rw[show(g.publish w.heap.size (fun o=>arr[o]?)).σ i=g.σ i from rfl,hold _ (h.obj_lt hi)];exact ha,hr'.mono hle⟩
 ·intro i hi hz o
  simp only[Gh.publish]
  rw[if_neg (by have:=h.obj_lt hi;omega)]
  exact h.sep i hi hz o
 ·have:=h.base
  simp only[Gh.publish,World.size_alloc]
  omega
 ·intro t' e s v m ht
  obtain⟨h1,h2,⟨xs,h3⟩,h4⟩:=h.tok t' e s v m ht
  refine⟨h1,h2,⟨xs,h3.alloc _⟩,fun b hb=>⟨fun o ho=>?_,(h4 b hb).2⟩⟩
  simp only[Gh.publish]
  rw[if_neg (by have:=(h.tok_lt ht hb).2;omega)]
  exact(h4 b hb).1 o ho
def St.own (st:St)(e:TypeId):St:={ st with k:=st.k+1,live:=upd st.live st.k (some e) }
def St.eat (st:St)(t:Nat):St:={ st with live:=upd st.live t none }
def Gh.own (g:Gh)(x:TypeId×Nat×Value×Nat):Gh:={ g with k:=g.k+1,tok:=upd g.tok g.k (some x) }
def Gh.eat (g:Gh)(t:Nat):Gh:={ g with tok:=upd g.tok t none }
theorem Gh.le_own (g:Gh)(x:TypeId×Nat×Value×Nat):g.le (g.own x):=
 ⟨fun _ _ _ h=>h,Nat.le_refl _,fun _ _=>rfl,Nat.le_succ _,fun t ht y hy=>by simp only[Gh.own,upd]at hy;rw[if_neg (by omega)]at hy;exact hy,rfl⟩
theorem Gh.le_eat (g:Gh)(t:Nat):g.le (g.eat t):=
 ⟨fun _ _ _ h=>h,Nat.le_refl _,fun _ _=>rfl,Nat.le_refl _,fun t' _ y hy=>by
  simp only[Gh.eat,upd]at hy
  by_cases e:t'=t
  ·rw[if_pos e]at hy;cases hy
  ·rw[if_neg e]at hy;exact hy,rfl⟩
theorem R.eat (h:R w g st)(t:Nat):R w (g.eat t) (st.eat t):=by
 have hle:=g.le_eat t
 refine⟨h.hn,h.hk,h.pub,fun i hi=>?_,h.inj,h.sep,h.base,h.baseO,?_,?_,?_⟩
 ·obtain⟨arr,ha,hr⟩:=h.obj i hi
  exact⟨arr,ha,hr.mono hle⟩
 ·intro t' e s v m ht
  simp only[Gh.eat,upd]at ht
  by_cases e':t'=t
  ·rw[if_pos e']at ht;cases ht
  ·rw[if_neg e']at ht
   obtain⟨h1,h2,h3⟩:=h.tok t' e s v m ht
   exact⟨h1,by simp only[St.eat,upd,if_neg e'];exact h2,h3⟩
 ·intro t1 t2 x x' b h1 h2
  simp only[Gh.eat,upd]at h1 h2
  by_cases e1:t1=t
  ·rw[if_pos e1]at h1;cases h1
  ·by_cases e2:t2=t
   ·rw[if_pos e2]at h2;cases h2
   ·rw[if_neg e1]at h1;rw[if_neg e2]at h2
    exact h.tinj t1 t2 x x' b h1 h2
 ·intro t' e hl
  simp only[St.eat,upd]at hl
  by_cases e':t'=t
  ·rw[if_pos e']at hl;cases hl
  ·rw[if_neg e']at hl
   obtain⟨s,v,m,hx⟩:=h.liv t' e hl
   exact⟨s,v,m,by simp only[Gh.eat,upd,if_neg e'];exact hx⟩
theorem R.own (h:R w g st)(e:TypeId)(s:Nat)(v:Value)(m:Nat)(xs:List Value)(hx:w.ownsRow g.B e s v m xs)
  (hb:∀b,v.ownBlock=some b→(∀o,m * s≤o→g.pub b o=none)∧(∀i,i<st.n→g.σ i≠b)∧∀t x,g.tok t=some x→x.2.2.1.ownBlock≠some b) :
  R w (g.own (e,s,v,m)) (st.own e):=by
 have hle:=g.le_own (e,s,v,m)
 refine⟨h.hn,by simp[Gh.own,St.own,h.hk],h.pub,fun i hi=>?_,h.inj,h.sep,h.base,h.baseO,?_,?_,?_⟩
 ·obtain⟨arr,ha,hr⟩:=h.obj i hi
  exact⟨arr,ha,hr.mono hle⟩
 ·intro t' e' s' v' m' ht
  simp only[Gh.own,upd,h.hk]at ht
  by_cases e1:t'=st.k
  ·rw[if_pos e1]at ht
   cases ht
   refine⟨by simp[St.own,e1],by simp[St.own,upd,e1],⟨xs,hx⟩,fun b hb'=>⟨(hb b hb').1,(hb b hb').2.1⟩⟩
  ·rw[if_neg e1]at ht
   obtain⟨h1,h2,h3⟩:=h.tok t' e' s' v' m' ht
   exact⟨by simp only[St.own];omega,by simp only[St.own,upd,if_neg e1];exact h2,h3⟩
 ·intro t1 t2 x x' b h1 h2 hb1 hb2
  simp only[Gh.own,upd,h.hk]at h1 h2
  by_cases e1:t1=st.k <;> by_cases e2:t2=st.k
  ·omega
  ·rw[if_pos e1]at h1;rw[if_neg e2]at h2
   cases h1
   exact absurd hb2 ((hb b hb1).2.2 t2 x' h2)
  ·rw[if_neg e1]at h1;rw[if_pos e2]at h2
   cases h2
   exact absurd hb1 ((hb b hb2).2.2 t1 x h1)
  ·rw[if_neg e1]at h1;rw[if_neg e2]at h2
   exact h.tinj t1 t2 x x' b h1 h2 hb1 hb2
 ·intro t' e' hl
  simp only[St.own,upd]at hl
  by_cases e1:t'=st.k
  ·rw[if_pos e1]at hl
   cases hl
   exact⟨s,v,m,by simp[Gh.own,upd,h.hk,e1]⟩
  ·rw[if_neg e1]at hl
   obtain⟨s',v',m',hx'⟩:=h.liv t' e' hl
   exact⟨s',v',m',by simp only[Gh.own,upd,h.hk,if_neg e1];exact hx'⟩
end
end Go.AW

namespace Go.AW
open Go.RowKit
def Zak:AV→List AV
 | .agg cs=>cs
 | v=>[v]
def ZaQ:AV→Bool
 | .agg _ | .tup _ | .bad=>false
 | .d (.lit v)=>v.oneCell'
 | _=>true
def ZaO {α:Type}(cells:List α)(off:Nat)(vs:List α):List α:=cells.take off++vs++cells.drop (off+vs.length)
theorem ZaX {α:Type}(cells:List α)(off:Nat)(vs:List α)(h:off+vs.length≤cells.length):(ZaO cells off vs).length=cells.length:=by
 simp[ZaO];omega
theorem Za8 {α:Type}(cells:List α)(off:Nat)(vs:List α)(h:off+vs.length≤cells.length)(i:Nat) :
  (ZaO cells off vs)[i]?=if i<off then cells[i]? else if i<off+vs.length then vs[i - off]? else cells[i]?:=by
 unfold ZaO
 have h1:(cells.take off).length=off:=by simp;omega
 by_cases c1:i<off
 ·rw[if_pos c1,List.append_assoc,List.getElem?_append_left (by omega),List.getElem?_take_of_lt c1]
 ·rw[if_neg c1,List.append_assoc,List.getElem?_append_right (by omega),h1]
  by_cases c2:i<off+vs.length
  ·rw[if_pos c2,List.getElem?_append_left (by omega)]
  ·rw[if_neg c2,List.getElem?_append_right (by omega),List.getElem?_drop]
   congr 1
   omega
theorem Zhq {g:Gh}{x:AV}{v:Value}(h:Rep g x v)(hc:ZaQ x=true):v.oneCell'=true:=by
 cases h with
 | d h=>cases h with
  | lit v hv=>exact hv
  | sl0=>rfl
  | sl=>rfl
 | own ht h hk=>cases h with
  | sl0=>rfl
  | sl=>rfl
 | agg=>cases hc
 | tup=>cases hc
 | undef=>cases hc
 | _=>rfl
theorem ZlV {v:Value}(h:v.oneCell'=true):v.cells=#[v]:=by cases v <;> first | rfl | cases h
theorem Zik {g:Gh}{x:AV}{v:Value}(h:Rep g x v)(hc:(Zak x).all ZaQ=true):RepL g (Zak x) v.cells∧v.cells.toList.all (·.oneCell')=true:=by
 by_cases ha:∃cs,x=.agg cs
 ·obtain⟨cs,rfl⟩:=ha
  obtain⟨vs,rfl,hl,hr⟩:=h.agg_inv
  refine⟨⟨hl,hr⟩,List.all_eq_true.2 fun v hv=>?_⟩
  obtain⟨i,hi⟩:=List.mem_iff_getElem?.1 hv
  have hi':vs[i]?=some v:=by rw[← Array.getElem?_toList];exact hi
  have hlt:i<cs.length:=by rw[hl];exact(Array.getElem?_eq_some_iff.1 hi').1
  exact Zhq (hr i cs[i] v (gG hlt) hi') (List.all_eq_true.1 hc _ (by simp[Zak]))
 ·have hx:Zak x=[x]:=by cases x <;> first | rfl | exact absurd ⟨_,rfl⟩ ha
  rw[hx]at hc ⊢
  have h1:=Zhq h (by simpa using hc)
  rw[ZlV h1]
  refine⟨⟨rfl,fun i a v' h1 h2=>?_⟩,by simpa using h1⟩
  cases i with
  | zero=>simp at h1 h2;subst h1;subst h2;exact h
  | succ i=>simp at h1
theorem RepL.ZaO {g:Gh}{cells vs:List AV}{arr:Array Value}{us:List Value}(h:RepL g cells arr)(hv:RepL g vs us.toArray){off:Nat}(ho:off+vs.length≤cells.length) :
  RepL g (ZaO cells off vs) (AW.ZaO arr.toList off us).toArray:=by
 have hl:vs.length=us.length:=by simpa using hv.1
 have ha:=h.1
 refine⟨by rw[ZaX _ _ _ ho];rw[List.size_toArray,ZaX _ _ _ (by simp;omega)];simpa using ha,fun i a v h1 h2=>?_⟩
 rw[Za8 _ _ _ ho]at h1
 rw[List.getElem?_toArray,Za8 _ _ _ (by simp;omega)]at h2
 rw[← hl]at h2
 by_cases c1:i<off
 ·rw[if_pos c1]at h1 h2
  exact h.2 i a v h1 (by simpa using h2)
 ·rw[if_neg c1]at h1 h2
  by_cases c2:i<off+vs.length
  ·rw[if_pos c2]at h1 h2
   exact hv.2 (i - off) a v h1 (by simpa using h2)
  ·rw[if_neg c2]at h1 h2
   exact h.2 i a v h1 (by simpa using h2)
theorem R.drew {w:World}{g:Gh}{st:St}(h:R w g st):R w.drew g st:=⟨h.hn,h.hk,h.pub,h.obj,h.inj,h.sep,h.base,h.baseO,h.tok,h.tinj,h.liv⟩
section
variable {P:Program}{w:World}{g:Gh}{st:St}
theorem ZgL (h:R w g st){id off n:Nat}(hid:id<st.n){t:TypeId}{agg:Bool}(ht:tsz P t=some (n,agg))(ho:(sub (st.obj id).2 off n agg).ok) :
  ∃v,(loadVar t ⟨g.σ id,off,none⟩).run P w=.ok v w∧Rep g (sub (st.obj id).2 off n agg).v v:=by
 obtain⟨arr,ha,hr⟩:=h.obj id hid
 obtain⟨h1,h2,-,-⟩:=ZeB (P:=P) (w:=w) ht
 obtain⟨v,hv,hrep⟩:=Zph hr ho
 refine⟨v,?_,hrep⟩
 have hv':=congrFun hv w
 cases agg with
 | true=>
  simp only[if_true,Result.ok.injEq,and_true]at hv'
  subst hv'
  have hle:off+n≤arr.size:=by unfold sub at ho;simp only[if_true]at ho;rw[← hr.1];exact ho
  have hl:(loadCells ⟨g.σ id,off,none⟩ n).run P w=.ok (arr.extract off (off+n)) w:=by
   have:=run_loadCells_list (P:=P) w ⟨g.σ id,off,none⟩ (arr.extract off (off+n)).toList (fun j v hv=>by
    rw[ZcH,cell_of_row w _ _ arr _ _ ha]
    rw[Array.getElem?_toList,Array.getElem?_extract]at hv
    split at hv
    ·exact hv
    ·cases hv)
   have hsz:(arr.extract off (off+n)).toList.length=n:=by simp;omega
   rw[hsz,Array.toArray_toList]at this
   exact this
  unfold loadVar
  rw[Sem.run_bind,h2]
  simp[h1,hl]
 | false=>
  simp only[bF,if_false]at hv'
  unfold loadVar
  rw[Sem.run_bind,h2]
  simp only[Result.andThen_ok,bF,if_false,run_load,cell_of_row w _ _ arr _ _ ha]
  split at hv'
  ·rename_i u hu
   rw[hu]
   simpa using hv'
  ·cases hv'
theorem ZiW (h:R w g st){id off n:Nat}(hid:id<st.n)(hz:st.fz id=false){t:TypeId}{agg:Bool}(ht:tsz P t=some (n,agg)){x:AV}{v:Value}(hx:Rep g x v)
  (hl:(Zak x).length=n) (hc:(Zak x).all ZaQ=true) (ho:off+n≤(st.obj id).2.length) :
  ∃w',(storeVar t ⟨g.σ id,off,none⟩ v).run P w=.ok () w'∧R w' g (st.setc id (ZaO (st.obj id).2 off (Zak x)))∧Below g.B w w':=by
 obtain⟨arr,ha,hr⟩:=h.obj id hid
 obtain⟨h1,-,-,-⟩:=ZeB (P:=P) (w:=w) ht
 obtain⟨hv,hone⟩:=Zik hx hc
 have hsz:v.cells.size=n:=by rw[← hv.1];exact hl
 have hst:=run_storeCells_at (P:=P) (g.σ id) off (st.obj id).1 v.cells.toList 0 arr w ha (by rw[← hr.1];simp[hsz];omega) (fun u hu=>List.all_eq_true.1 hone u hu)
 refine⟨_,by unfold storeVar;rw[Sem.run_bind,h1];simp[hsz];exact hst,?_,?_⟩
 ·refine h.setRow hid hz (arr':=(AW.ZaO arr.toList off v.cells.toList).toArray) (RepL.ZaO hr (by simpa using hv) (by rw[hl];exact ho)) ?_ (by simp) (fun k hk=>setRow_other w _ k _ hk)
  have:=setRow_heap w (g.σ id) arr (arr.toList.take (off+0)++v.cells.toList++arr.toList.drop (off+0+v.cells.toList.length)).toArray _ (0,0) ha
  simpa[AW.ZaO] using this
 ·exact⟨rfl,rfl,rfl,by simp,fun k hk=>setRow_other w _ k _ (by have:=h.baseO id hid;omega)⟩
theorem ZjB {t:TypeId}{cs:List AV}(h:zeroC P t=some cs):∃z,(zeroValue t).run P w=.ok z w∧cs=z.cells.toList.map ZeA∧z.cells.toList.all (·.oneCell')=true:=by
 unfold zeroC at h
 split at h
 ·rename_i i hi
  split at h
  ·rename_i z hz
   split at h
   ·rename_i ho
    simp only[oI]at h
    exact⟨z,by simp[zeroValue,typeInfo,hi,hz],h.symm,ho⟩
   ·cases h
  ·cases h
 ·cases h
theorem Zkh (t:TypeId)(v:Value):(newVar t v).run P w=.ok ⟨w.heap.size,0,none⟩ (w.alloc (.cells v.cells t)):=by
 rfl
def fillA (place:Nat→Option (Nat×Nat))(cells:List AV):List (Nat×AV)→Option (List AV)
 | []=>some cells
 | (i,x)::rest=>match place i with
  | none=>none
  | some (off,n)=>if (Zak x).length=n∧off+n≤cells.length∧(Zak x).all ZaQ=true then fillA place (ZaO cells off (Zak x)) rest else none
theorem ZjC (off:Nat):∀(l:List Value) (s:Nat) (cs:Array Value),off+s+l.length≤cs.size →
  ((l.zipIdx s).foldl (fun cs (x:Value×Nat)=>cs.setIfInBounds (off+x.2) x.1) cs).toList=AW.ZaO cs.toList (off+s) l
 | [],s,cs,_=>by simp[AW.ZaO]
 | v::l,s,cs,h=>by
  simp only[List.length_cons]at h
  simp only[List.zipIdx_cons,List.foldl_cons]
  rw[ZjC off l (s+1) _ (by simp;omega)]
  apply List.ext_getElem?
  intro i
  rw[Za8 _ _ _ (by simp;omega),Za8 _ _ _ (by simp;omega)]
  simp only[Array.toList_setIfInBounds,List.getElem?_set,List.length_cons,Array.length_toList]
  by_cases c1:i<off+s
  ·rw[if_pos (by omega),if_pos c1,if_neg (by omega)]
  ·rw[if_neg c1]
   by_cases c2:i=off+s
   ·subst c2
    rw[if_pos (by omega),if_pos rfl,if_pos (by omega),if_pos (by omega)]
    simp
   ·rw[if_neg (by omega)]
    by_cases c3:i<off+s+(l.length+1)
    ·rw[if_pos (by omega),if_pos c3]
     obtain⟨j,rfl⟩:∃j,i=off+s+(j+1):=⟨i - off - s - 1,by omega⟩
     have e1:off+s+(j+1) - (off+(s+1))=j:=by omega
     have e2:off+s+(j+1) - (off+s)=j+1:=by omega
     rw[e1,e2]
     simp
    ·rw[if_neg (by omega),if_neg c3,if_neg (by omega)]
theorem Zi3 (place:Nat→Option (Nat×Nat)):∀(ps:List (Nat×AV)) (qs:List (Nat×Value)) (cells:List AV) (arr:Array Value) (cells':List AV),
  RepL g cells arr→ps.length=qs.length→(∀(i:Nat) p q,ps[i]?=some p→qs[i]?=some q→p.1=q.1∧Rep g p.2 q.2)→fillA place cells ps=some cells'→arr.toList.all (·.oneCell')=true →
  ∃arr',Instr.fill place arr qs=some arr'∧RepL g cells' arr'∧arr'.toList.all (·.oneCell')=true∧cells'.length=cells.length
 | [],[],cells,arr,cells',h,_,_,hf,ho=>by
  simp only[fillA,oI]at hf
  subst hf
  exact⟨arr,rfl,h,ho,rfl⟩
 | [],q::qs,_,_,_,_,hl,_,_,_=>by simp at hl
 | p::ps,[],_,_,_,_,hl,_,_,_=>by simp at hl
 | (i,x)::ps,(j,v)::qs,cells,arr,cells',h,hl,hp,hf,ho=>by
  obtain⟨hij,hx⟩:=hp 0 _ _ rfl rfl
  simp only at hij
  subst hij
  unfold fillA at hf
  unfold Instr.fill
  cases hpl:place i with
  | none=>rw[hpl]at hf;cases hf
  | some z=>
   obtain⟨off,n⟩:=z
   rw[hpl]at hf
   simp only at hf ⊢
   split at hf
   ·rename_i hc
    obtain⟨h1,h2,h3⟩:=hc
    obtain⟨hv,hone⟩:=Zik hx h3
    have hsz:v.cells.size=n:=by rw[← hv.1];exact h1
    rw[if_neg (by rw[← h.1];simp[hsz];omega)]
    have hfold:=ZjC off v.cells.toList 0 arr (by rw[← h.1];simp[hsz];omega)
    have harr:v.cells.zipIdx.foldl (fun cs (x:Value×Nat)=>cs.setIfInBounds (off+x.2) x.1) arr=(AW.ZaO arr.toList off v.cells.toList).toArray:=by
     apply Array.ext'
     rw[← Array.foldl_toList,Array.toList_zipIdx]
     simpa using hfold
    have hs:=RepL.ZaO h (us:=v.cells.toList) (by simpa using hv) (off:=off) (by omega)
    have hone':(AW.ZaO arr.toList off v.cells.toList).all (·.oneCell')=true:=by
     rw[List.all_eq_true]
     intro u hu
     simp only[AW.ZaO,List.mem_append]at hu
     rcases hu with(hu | hu) | hu
     ·exact List.all_eq_true.1 ho u (List.mem_of_mem_take hu)
     ·exact List.all_eq_true.1 hone u hu
     ·exact List.all_eq_true.1 ho u (List.mem_of_mem_drop hu)
    obtain⟨arr',e1,e2,e3,e4⟩:=Zi3 place ps qs _ _ cells' hs (by simpa using hl) (fun k p q hk1 hk2=>hp (k+1) p q (by simpa using hk1) (by simpa using hk2)) hf (by simpa using hone')
    refine⟨arr',?_,e2,e3,by rw[e4,ZaX _ _ _ (by omega)]⟩
    rw[← e1]
    congr 1
   ·cases hf
end
end Go.AW

namespace Go.AW
open Go.RowKit
section
variable {P:Program}{w:World}{g:Gh}{st:St}
theorem R.grown (h:R w g st){w':World}{row:Option Nat}(hg:w.grownBy w' row)
  (hr:∀b,row=some b→(∀i,i<st.n→g.σ i≠b)∧(∀t x,g.tok t=some x→x.2.2.1.ownBlock≠some b)∧∀o v,g.pub b o=some v→w'.cell? ⟨b,o,none⟩=some v):R w' g st:=by
 have hold:∀k,k<w.heap.size→some k≠row→w'.heap[k]?=w.heap[k]?:=hg.block
 refine⟨h.hn,h.hk,?_,?_,h.inj,h.sep,Nat.le_trans h.base hg.size,h.baseO,?_,h.tinj,h.liv⟩
 ·intro b o v hp
  by_cases e:row=some b
  ·exact(hr b e).2.2 o v hp
  ·rw[World.cell?_of_block (w:=w) (hold b (h.pub_lt hp) (fun e'=>e e'.symm))]
   exact h.pub b o v hp
 ·intro i hi
  obtain⟨arr,ha,hx⟩:=h.obj i hi
  exact⟨arr,by rw[hold _ (h.obj_lt hi) (fun e=>(hr _ e.symm).1 i hi rfl)];exact ha,hx⟩
 ·intro t e s v m ht
  obtain⟨h1,h2,⟨xs,h3⟩,h4⟩:=h.tok t e s v m ht
  refine⟨h1,h2,⟨xs,h3.kept hg ?_⟩,h4⟩
  cases hb:v.ownBlock with
  | none=>exact .inl rfl
  | some b=>
   refine .inr fun e=>?_
   exact(hr b e.symm).2.1 t _ ht hb
theorem R.publish (h:R w g st){b:Nat}{f:Nat→Option Value}(hf:∀o v,f o=some v→w.cell? ⟨b,o,none⟩=some v)(hσ:∀i,i<st.n→g.σ i≠b)
  (ht:∀t x,g.tok t=some x→x.2.2.1.ownBlock≠some b) (hp:∀o v,g.pub b o=some v→f o=some v):R w (g.publish b f) st:=by
 have hle:=g.le_publish hp
 refine⟨h.hn,h.hk,?_,fun i hi=>?_,h.inj,?_,h.base,h.baseO,?_,h.tinj,h.liv⟩
 ·intro b' o v hx
  simp only[Gh.publish]at hx
  by_cases e:b'=b
  ·subst e;rw[if_pos rfl]at hx;exact hf o v hx
  ·rw[if_neg e]at hx;exact h.pub b' o v hx
 ·obtain⟨arr,ha,hx⟩:=h.obj i hi
  exact⟨arr,ha,hx.mono hle⟩
 ·intro i hi hz o
  simp only[Gh.publish]
  rw[if_neg (hσ i hi)]
  exact h.sep i hi hz o
 ·intro t e s v m hx
  obtain⟨h1,h2,h3,h4⟩:=h.tok t e s v m hx
  refine⟨h1,h2,h3,fun b' hb=>⟨fun o ho=>?_,(h4 b' hb).2⟩⟩
  simp only[Gh.publish]
  rw[if_neg (fun e'=>ht t _ hx (by rw[e']at hb;exact hb))]
  exact(h4 b' hb).1 o ho
theorem ZhO {t ty e:TypeId}{i:TypeInfo}{z:Value}{base size:Nat}(ht:P.underlying t=some (.slice e))(hi:P.info? e=some i)(hz:i.zero=some z)
  (hsize:i.size=size) (hzs:z.cells.size=size) (hsz:0<size) {v:Value} {n:Nat} {xs:List Value} (hown:w.ownsRow base e size v n xs)
  {a:Option Addr} {m c:Nat} {news:List Value} (hl:news.length=m * size) (ha:0<m→∃ad,a=some ad∧∀j u,news[j]?=some u→w.cell? (ad.add j)=some u) (h1:∀u∈news,u.oneCell'=true)
  (h63:n+m≤9223372036854775807) (hbytes:(n+m) * i.bytes≤140737488355328) (hbase:base≤w.heap.size) :
  ∃v' w',(Builtin.append_ #[t,t] ty #[v,.slice a m c]).run P w=.ok v' w'∧w'.ownsRow base e size v' (n+m) (xs++news)∧w.grownBy w' v.ownBlock ∧
   (v'.ownBlock=v.ownBlock∨∃b,v'.ownBlock=some b∧w.heap.size≤b∧w.grownBy w' none):=by
 subst hsize
 by_cases hm:m=0
 ·subst hm
  have hn:news=[]:=List.eq_nil_of_length_eq_zero (by simpa using hl)
  subst hn
  refine⟨v,w,?_,by simpa using hown,⟨rfl,rfl,rfl,Nat.le_refl _,fun _ _ _=>rfl⟩,.inl rfl⟩
  have hf:(Builtin.firstCells i.size 0 (.slice a 0 c)).run P w=.ok #[] w:=by
   cases a with
   | none=>simp[Builtin.firstCells]
   | some ad=>simp[Builtin.firstCells,loadCells,loadCellsFrom]
  rcases hown.2 with⟨rfl,rfl⟩ | ⟨gb,cap,cur,rfl,-,-,hcap,-⟩
  ·simp[Builtin.append_,run_underlying ht,sizeOf,typeInfo,hi,Builtin.lenOf,hf]
  ·simp[Builtin.append_,run_underlying ht,sizeOf,typeInfo,hi,Builtin.lenOf,hf,hcap,storeCells]
 ·obtain⟨ad,rfl,hnews⟩:=ha (by omega)
  obtain⟨v',w',hr,h2,h3,-⟩:=run_append_own (P:=P) w base t ty e i z i.size i.bytes ht hi hz rfl rfl hzs hsz v n xs hown ad m c news hl hnews h1 (by simpa[maxLen] using h63) hbytes hbase
  refine⟨v',w',hr,h2,h3,?_⟩
  rcases hown.2 with⟨rfl,rfl⟩ | ⟨gb,cap,cur,rfl,hbg,hg,hnc,hcm,hcs,htake⟩
  ·have hr':=run_append_nil (P:=P) w t ty e i z ht hi hz ad m c news hl hnews (by omega) (by omega) (by simp only[Nat.zero_add]at hbytes;omega)
   rw[hr']at hr
   cases hr
   exact .inr ⟨_,rfl,Nat.le_refl _,⟨rfl,rfl,rfl,by simp,fun k hk _=>Below.heap_alloc w.drew _ k hk⟩⟩
  ·by_cases hroom:n+m≤cap
   ·have hfit:n * i.size+news.length≤cur.size:=by rw[hl,hcs,← Nat.add_mul];exact Nat.mul_le_mul_right _ hroom
    have hr':=run_append_room (P:=P) w t ty e i ht hi gb n cap cur hg ad m c news hl hnews h1 hroom hfit
    rw[hr']at hr
    cases hr
    exact .inl rfl
   ·have holds:∀j u,xs[j]?=some u→w.cell? ((⟨gb,0,none⟩:Addr).add j)=some u:=hown.cells (g:=gb) rfl
    have hr':=run_append_grow (P:=P) w t ty e i z ht hi hz ⟨gb,0,none⟩ n cap xs hown.1 holds ad m c news hl hnews (by omega) (by omega) (growslice_fits (by omega) hbytes)
    rw[hr']at hr
    cases hr
    exact .inr ⟨_,rfl,Nat.le_refl _,⟨rfl,rfl,rfl,by simp,fun k hk _=>Below.heap_alloc w.drew _ k hk⟩⟩
def unD1:List AV→Option (List DV)
 | []=>some []
 | .d x::l=>match unD1 l with
  | some r=>some (x::r)
  | none=>none
 | _=>none
def unD2:List (List AV)→Option (List (List DV))
 | []=>some []
 | x::l=>match unD1 x,unD2 l with
  | some r,some rs=>some (r::rs)
  | _,_=>none
def toD:AV→Option DV
 | .d x=>some x
 | .nil=>some (.sl 0 [])
 | .own _ s xs=>some (slv s xs)
 | .xs _ _ s _ xs=>match unD2 xs with
  | some r=>some (slv s r)
  | none=>none
 | _=>none
def noX:AV→Bool
 | .xs ..=>false
 | _=>true
theorem Zpk:∀{l:List AV} {r:List DV},unD1 l=some r→l=r.map .d
 | [],r,h=>by simp only[unD1,oI]at h;subst h;rfl
 | a::l,r,h=>by
  cases a <;> simp only[unD1,reduceCtorEq]at h
  split at h
  ·rename_i r' hr
   cases h
   rw[Zpk hr]
   rfl
  ·cases h
theorem Zm4:∀{l:List (List AV)} {r:List (List DV)},unD2 l=some r→l=r.map (·.map .d)
 | [],r,h=>by simp only[unD2,oI]at h;subst h;rfl
 | a::l,r,h=>by
  simp only[unD2]at h
  split at h
  ·rename_i x y h1 h2
   cases h
   rw[Zpk h1,Zm4 h2]
   rfl
  ·cases h
theorem ZnI:∀r:List DV,unD1 (r.map .d)=some r
 | []=>rfl
 | x::l=>by simp[unD1,ZnI l]
theorem ZhP:∀r:List (List DV),unD2 (r.map (·.map .d))=some r
 | []=>rfl
 | x::l=>by simp only[List.map_cons,unD2,ZnI,ZhP l]
def toDs:List AV→Option (List DV)
 | []=>some []
 | a::as=>match toD a,toDs as with
  | some x,some xs=>some (x::xs)
  | _,_=>none
def toDss:List (List AV)→Option (List (List DV))
 | []=>some []
 | a::as=>match toDs a,toDss as with
  | some x,some xs=>some (x::xs)
  | _,_=>none
def dcont:AV→Option (List (List DV))
 | .d (.sl _ ys)=>some ys
 | .own _ _ ys=>some ys
 | .nil=>some []
 | _=>none
theorem Zk2 {a:AV}{x:DV}(h:toD a=some x){v:Value}(hv:Rep g a v)(hc:ZaQ a=true)(hx:noX a=true):RepD g.pub x v:=by
 cases a <;> simp only[toD,oI,reduceCtorEq]at h
 ·subst h
  cases hv with
  | d h=>exact h
  | undef=>cases hc
 ·subst h
  obtain rfl:=hv.nil_inv
  exact .sl0 0 none 0
 ·subst h;exact hv.own_inv.2.1.slv
 ·cases hx
def RowD (pub:Nat→Nat→Option Value)(s:Nat)(xs:List (List DV))(c:Nat→Value):Prop:=
 (∀(i:Nat) (x:List DV),xs[i]?=some x→x.length=s)∧∀(i j:Nat) (x:List DV) (d:DV),xs[i]?=some x→x[j]?=some d→RepD pub d (c (i * s+j))
theorem RepD.one {pub:Nat→Nat→Option Value}{d:DV}{v:Value}(h:RepD pub d v):v.oneCell'=true:=by
 cases h with
 | lit _ h=>exact h
 | sl0=>rfl
 | sl=>rfl
theorem RowD.one {pub:Nat→Nat→Option Value}{s:Nat}{xs:List (List DV)}{c:Nat→Value}(h:RowD pub s xs c){k:Nat}(hk:k<xs.length * s):(c k).oneCell'=true:=by
 have hs:0<s:=Nat.pos_of_ne_zero (fun e=>by subst e;simp at hk)
 have h1:k / s<xs.length:=(Nat.div_lt_iff_lt_mul hs).2 hk
 have hx:=gG h1
 have hl:=h.1 _ _ hx
 have h2:k % s<xs[k / s].length:=by rw[hl];exact Nat.mod_lt _ hs
 have hr:=h.2 _ _ _ _ hx (gG h2)
 rw[Nat.mul_comm,Nat.div_add_mod]at hr
 exact hr.one
theorem ZlW {s:Nat}{ys:List (List DV)}{v:Value}(hR:R w g st)(h:RepD g.pub (.sl s ys) v) :
  ∃a c f,v=.slice a ys.length c∧(0<ys.length→∃b o,a=some ⟨b,o,none⟩∧RowD g.pub s ys f∧∀k,k<ys.length * s→w.cell? ⟨b,o+k,none⟩=some (f k)):=by
 cases h with
 | sl0 _ a cap=>exact⟨a,cap,fun _=>undef,rfl,fun h=>by simp at h⟩
 | sl _ _ b o cap c hne hl hc hp hr=>
  refine⟨_,cap,c,rfl,fun _=>⟨b,o,rfl,⟨hl,hr⟩,fun k hk=>?_⟩⟩
  have hs:0<s:=Nat.pos_of_ne_zero (fun e=>by subst e;simp at hk)
  have h1:k / s<ys.length:=(Nat.div_lt_iff_lt_mul hs).2 hk
  have hx:=gG h1
  have h2:k % s<ys[k / s].length:=by rw[hl _ _ hx];exact Nat.mod_lt _ hs
  have:=hR.pub _ _ _ (hp _ _ _ _ hx (gG h2))
  rw[Nat.add_assoc]at this
  have e:k / s * s+k % s=k:=by rw[Nat.mul_comm];exact Nat.div_add_mod k s
  rw[e]at this
  exact this
theorem RowD.mono {pub pub':Nat→Nat→Option Value}(h:∀b o v,pub b o=some v→pub' b o=some v){s:Nat}{xs:List (List DV)}{c:Nat→Value}(hx:RowD pub s xs c):RowD pub' s xs c:=
 ⟨hx.1,fun i j x d h1 h2=>(hx.2 i j x d h1 h2).mono h⟩
theorem RowD.ofCells {pub:Nat→Nat→Option Value}{s:Nat}{xs:List (List DV)}{c c':Nat→Value}(h:RowD pub s xs c)(he:∀k,k<xs.length * s→c' k=c k):RowD pub s xs c':=by
 refine⟨h.1,fun i j x d h1 h2=>?_⟩
 have hi:=(List.getElem?_eq_some_iff.1 h1).1
 have hj:=(List.getElem?_eq_some_iff.1 h2).1
 rw[h.1 i x h1]at hj
 rw[he _ (by
  have:(i+1) * s≤xs.length * s:=Nat.mul_le_mul_right _ hi
  rw[Nat.add_mul]at this
  omega)]
 exact h.2 i j x d h1 h2
theorem RowD.append {pub:Nat→Nat→Option Value}{s:Nat}{xs ys:List (List DV)}{c c' f:Nat→Value}(h:RowD pub s xs c)(h':RowD pub s ys c')
  (hf:∀k,k<xs.length * s→f k=c k) (hf':∀k,k<ys.length * s→f (xs.length * s+k)=c' k):RowD pub s (xs++ys) f:=by
 have h1:=h.ofCells hf
 have h2:=h'.ofCells (c':=fun k=>f (xs.length * s+k)) hf'
 refine⟨fun i x hx=>?_,fun i j x d hx hd=>?_⟩
 ·rw[List.getElem?_append]at hx
  split at hx
  ·exact h.1 i x hx
  ·exact h'.1 _ x hx
 ·rw[List.getElem?_append]at hx
  split at hx
  ·exact h1.2 i j x d hx hd
  ·have:=h2.2 _ j x d hx hd
   simp only at this
   rw[← Nat.add_assoc,← Nat.add_mul]at this
   have e:xs.length+(i - xs.length)=i:=by omega
   rw[e]at this
   exact this
theorem RowD.rep {pub:Nat→Nat→Option Value}{s:Nat}{xs:List (List DV)}{c:Nat→Value}(h:RowD pub s xs c){b cap:Nat}(hc:xs.length≤cap)
  (hp:∀k,k<xs.length * s→pub b k=some (c k)):RepD pub (.sl s xs) (.slice (some ⟨b,0,none⟩) xs.length cap):=by
 cases xs with
 | nil=>exact .sl0 s _ cap
 | cons x xs=>
  refine .sl s (x::xs) b 0 cap c (by simp) h.1 hc (fun i j y d h1 h2=>?_) h.2
  have hi:=(List.getElem?_eq_some_iff.1 h1).1
  have hj:=(List.getElem?_eq_some_iff.1 h2).1
  rw[h.1 i y h1]at hj
  have:(i+1) * s≤(x::xs).length * s:=Nat.mul_le_mul_right _ hi
  rw[Nat.add_mul]at this
  rw[Nat.zero_add]
  exact hp _ (by omega)
theorem R.lengthen (h:R w g st){e:TypeId}{s:Nat}{xs ys:List (List DV)}{c c':Nat→Value}{v v':Value}{w':World}{cs news:List Value}
  (hx:RowD g.pub s xs c) (hy:RowD g.pub s ys c')
  (hcs:cs=(List.range (xs.length * s)).map c) (hnews:news=(List.range (ys.length * s)).map c')
  (hown':w'.ownsRow g.B e s v' (xs.length+ys.length) (cs++news)) (hg:w.grownBy w' v.ownBlock)
  (hb:v'.ownBlock=v.ownBlock∨∃b,v'.ownBlock=some b∧w.heap.size≤b∧w.grownBy w' none)
  (hv:∀b,v.ownBlock=some b→(∀i,i<st.n→g.σ i≠b)∧(∀t x,g.tok t=some x→x.2.2.1.ownBlock≠some b)∧g.B≤b∧b<w.heap.size ∧
   (∀o,xs.length * s≤o→g.pub b o=none)∧(∀o u,g.pub b o=some u→u=c o)) :
  ∃g',R w' g' (st.own e)∧Rep g' (.own st.k s (xs++ys)) v'∧g.le g'∧Below g.B w w':=by
 have hbelow:Below g.B w w':=(Below.refl _ w).grown hg h.base (fun k hk=>(hv k hk).2.2.1)
 have hget:∀k,k<(xs.length+ys.length) * s→(cs++news)[k]?=some (if k<xs.length * s then c k else c' (k - xs.length * s)):=by
  intro k hk
  rw[Nat.add_mul]at hk
  rw[hcs,hnews]
  by_cases h1:k<xs.length * s
  ·rw[List.getElem?_append_left (by simpa using h1),if_pos h1]
   simp[List.getElem?_range h1]
  ·rw[List.getElem?_append_right (by simpa using h1),if_neg h1]
   simp only[List.length_map,List.length_range,List.getElem?_map]
   rw[List.getElem?_range (by omega)]
   rfl
 have hrow:RowD g.pub s (xs++ys) (fun k=>if k<xs.length * s then c k else c' (k - xs.length * s)):=
  hx.append hy (fun k hk=>by simp[hk]) (fun k hk=>by
   show(if xs.length * s+k<xs.length * s then _ else _)=_
   rw[if_neg (by omega),Nat.add_sub_cancel_left])
 have hgrown:R w' g st:=by
  rcases hb with hb | ⟨b',hb1,hb2,hb3⟩
  ·refine h.grown hg (fun b hb'=>?_)
   obtain⟨h1,h2,h3,h4,h5,h6⟩:=hv b hb'
   refine⟨h1,h2,fun o u hp=>?_⟩
   have hu:=h6 o u hp
   subst hu
   have ho:o<xs.length * s:=by
    rcases Nat.lt_or_ge o (xs.length * s)with h | h
    ·exact h
    ·rw[h5 o h]at hp;cases hp
   rw[hb']at hb
   have hc:=hown'.cells hb o (c o) (by rw[hget o (Nat.lt_of_lt_of_le ho (Nat.mul_le_mul_right _ (Nat.le_add_right _ _))),if_pos ho])
   rw[ZcH,Nat.zero_add]at hc
   exact hc
  ·exact h.grown hb3 (fun b e=>by cases e)
 cases hvb:v'.ownBlock with
 | none=>
  have hnil:v'=.slice none 0 0∧xs.length+ys.length=0:=by
   rcases hown'.2 with h | ⟨gb,cap,cur,rfl,-⟩
   ·exact h
   ·cases hvb
  obtain⟨rfl,h0⟩:=hnil
  have e1:xs++ys=[]:=List.eq_nil_of_length_eq_zero (by rw[List.length_append];exact h0)
  rw[h0]at hown'
  refine⟨_,hgrown.own e s (.slice none 0 0) 0 _ hown' (fun b hb'=>by cases hb'),?_,g.le_own _,hbelow⟩
  rw[e1]
  refine .own (by simp[Gh.own,h.hk]) (.sl0 s none 0) (fun x hx'=>?_)
  simp only[Gh.own,upd,h.hk,if_true,oI]at hx'
  subst hx'
  rfl
 | some b'=>
  obtain⟨cap,hv',hcap⟩:∃cap,v'=.slice (some ⟨b',0,none⟩) (xs.length+ys.length) cap∧xs.length+ys.length≤cap:=by
   rcases hown'.2 with⟨rfl,-⟩ | ⟨gb,cap,cur,rfl,-,-,hc,-⟩
   ·cases hvb
   ·simp only[Value.ownBlock,oI]at hvb
    subst hvb
    exact⟨cap,rfl,hc⟩
  have hfree:(∀i,i<st.n→g.σ i≠b')∧(∀t x,g.tok t=some x→x.2.2.1.ownBlock≠some b')∧(∀o u,g.pub b' o=some u→o<xs.length * s∧u=c o):=by
   rcases hb with hb | ⟨b2,hb1,hb2,hb3⟩
   ·rw[hvb]at hb
    obtain⟨h1,h2,h3,h4,h5,h6⟩:=hv b' hb.symm
    refine⟨h1,h2,fun o u hp=>⟨?_,h6 o u hp⟩⟩
    rcases Nat.lt_or_ge o (xs.length * s)with h | h
    ·exact h
    ·rw[h5 o h]at hp;cases hp
   ·rw[hvb]at hb1
    cases hb1
    refine⟨fun i hi e'=>by have:=h.obj_lt hi;omega,fun t x hx' e'=>?_,fun o u hp=>by rw[h.pub_new _ _ hb2]at hp;cases hp⟩
    obtain⟨e1,s1,v1,m1⟩:=x
    have:=(h.tok_lt hx' e').2
    omega
  let f:Nat→Option Value:=fun o=>if o<(xs.length+ys.length) * s then some (if o<xs.length * s then c o else c' (o - xs.length * s))else none
  have hf1:∀o u,g.pub b' o=some u→f o=some u:=by
   intro o u hp
   obtain⟨ho,rfl⟩:=hfree.2.2 o u hp
   show(if _ then _ else _)=_
   rw[if_pos (by rw[Nat.add_mul];omega),if_pos ho]
  have hf2:∀o u,f o=some u→w'.cell? ⟨b',o,none⟩=some u:=by
   intro o u hu
   simp only[f]at hu
   split at hu
   ·rename_i ho
    have hc:=hown'.cells hvb o u (by rw[hget o ho];exact hu)
    rw[ZcH,Nat.zero_add]at hc
    exact hc
   ·cases hu
  have hpub:=hgrown.publish hf2 hfree.1 hfree.2.1 hf1
  have hle1:=g.le_publish hf1
  have howned:=hpub.own e s v' (xs.length+ys.length) _ hown' (fun b hb'=>by
   rw[hvb]at hb'
   cases hb'
   refine⟨fun o ho=>?_,hfree.1,hfree.2.1⟩
   simp only[Gh.publish,if_true,f]
   rw[if_neg (by omega)])
  refine⟨_,howned,?_,hle1.trans (Gh.le_own _ _),hbelow⟩
  rw[hv']
  have hl:xs.length+ys.length=(xs++ys).length:=by simp
  refine .own (by simp[Gh.own,Gh.publish,h.hk]) ?_ (fun x hx'=>?_)
  ·rw[hl]
   refine RowD.rep (c:=fun k=>if k<xs.length * s then c k else c' (k - xs.length * s)) (hrow.mono (fun b o v hp=>hle1.pub b o v hp)) (by simpa using hcap) (fun k hk=>?_)
   show(if b'=b' then f k else _)=_
   rw[if_pos rfl]
   simp only[f]
   rw[if_pos (by rw[hl];exact hk)]
  ·simp only[Gh.own,upd,show(g.publish b' f).k=st.k from h.hk,if_true,oI]at hx'
   subst hx'
   simp
end
end Go.AW

namespace Go.AW
open Go.RowKit
def enters (P:Program)(k:FuncId):Bool:=match P.funcs[k]? with
 | some fn=>fn.body.isSome&&fn.name != "runtime.NumGoroutine"
 | none=>false
def Glob (P:Program)(w:World):Prop:=Lib.TabIs P w "internal/strconv.uint64pow10" .u64 Lib.pow10Tab
structure RP (P:Program)(w:World)(g:Gh)(st:St):Prop extends R w g st where
 tg:∀w',Below g.B w w'→Glob P w'
theorem RP.next {P:Program}{w w':World}{g g':Gh}{st st':St}(h:RP P w g st)(hR:R w' g' st')(hle:g.le g')(hb:Below g.B w w'):RP P w' g' st':=
 ⟨hR,fun w2 h2=>h.tg w2 (hb.trans (by rw[← hle.B];exact h2))⟩
def Ct (P:Program)(k:FuncId)(args:List AV)(st:St)(Q:AV→St→Prop):Prop:=
 enters P k=true∧∀w g vals,RP P w g st→RepL g args vals→Calls P k vals w fun e w'=>∃r st' g' v,e=.returned v∧Q r st'∧R w' g' st'∧Rep g' r v∧g.le g'∧Below g.B w w'
theorem Ct.mono {P:Program}{k:FuncId}{args:List AV}{st:St}{Q Q':AV→St→Prop}(h:Ct P k args st Q)(hq:∀r st',Q r st'→Q' r st'):Ct P k args st Q':=
 ⟨h.1,fun w g vals hR hv=>(h.2 w g vals hR hv).mono fun _ _ ⟨r,st',g',v,he,hQ,rest⟩=>⟨r,st',g',v,he,hq _ _ hQ,rest⟩⟩
def Meth (P:Program)(t:TypeId)(name:String)(k:FuncId):Prop:=∀(v:Value) (w:World),(method (P.types.size+Made.depth) t v name).run P w=.ok (k,v) w
def callA (P:Program)(f:AV)(args:List AV)(st:St)(Q:AV→St→Prop):Prop:=match f with
 | .fn (.func k) fs cs=>Ct P k (fs++args++cs) st Q
 | .fn (.method name) [.ifc t v] []=>∃k,Meth P t name k∧Ct P k (v::args) st Q
 | .fn (.methodOf t0 name) [] []=>(match args with
  | .ifc t v::rest=>(match P.underlying t0 with | some (.interface _)=>∃k,Meth P t name k∧Ct P k (v::rest) st Q | _=>False)
  | _=>False)
 | _=>False
def Zil (P:Program)(recv:AV)(name:String)(args:List AV)(st:St)(Q:AV→St→Prop):Prop:=match recv with
 | .ifc t v=>∃k,Meth P t name k∧Ct P k (v::args) st Q
 | _=>False
def ZgM (P:Program)(t:TypeId)(s x:AV)(st:St)(K:AV→St→Prop):Prop:=match elT P t,dcont x with
 | some (e,n,by_),some ys=>0<n∧(zeroC P e).map (·.length)=some n∧(∀y∈ys,y.length=n) ∧
  (match s with
   | .nil=>ys.length≤9223372036854775807∧ys.length * by_≤140737488355328∧K (.own st.k n ys) (st.own e)
   | .own tk n' xs=>n'=n∧st.live tk=some e∧xs.length+ys.length≤9223372036854775807∧(xs.length+ys.length) * by_≤140737488355328∧K (.own st.k n (xs++ys)) ((st.eat tk).own e)
   | _=>False)
 | _,_=>False
section
variable {P:Program}{w:World}{g:Gh}{st:St}
theorem ZgN {t e:TypeId}{n by_:Nat}(he:elT P t=some (e,n,by_))(hz:(zeroC P e).map (·.length)=some n) :
  P.underlying t=some (.slice e)∧∃i z,P.info? e=some i∧i.zero=some z∧i.size=n∧i.bytes=by_∧z.cells.size=n:=by
 unfold elT at he
 split at he
 ·rename_i e' hu
  simp only[Option.map_eq_some_iff,Prod.mk.injEq]at he
  obtain⟨i,hi,rfl,rfl,rfl⟩:=he
  refine⟨hu,i,?_⟩
  unfold zeroC at hz
  rw[hi]at hz
  simp only at hz
  split at hz
  ·rename_i z hzz
   split at hz
   ·simp only[Option.map_some,List.length_map,Array.length_toList,oI]at hz
    exact⟨z,hi,hzz,rfl,rfl,hz⟩
   ·cases hz
  ·cases hz
 ·cases he
theorem Zpl (hR:R w g st){x:AV}{ys:List (List DV)}(h:dcont x=some ys){v:Value}(hv:Rep g x v){n:Nat}(hn:∀y∈ys,y.length=n)(hpos:0<n) :
  ∃a c f,v=.slice a ys.length c∧RowD g.pub n ys f∧(0<ys.length→∃b o,a=some ⟨b,o,none⟩∧∀k,k<ys.length * n→w.cell? ⟨b,o+k,none⟩=some (f k)):=by
 have base:∀s,RepD g.pub (.sl s ys) v→∃a c f,v=.slice a ys.length c∧RowD g.pub n ys f∧(0<ys.length→∃b o,a=some ⟨b,o,none⟩∧∀k,k<ys.length * n→w.cell? ⟨b,o+k,none⟩=some (f k)):=by
  intro s hs
  obtain⟨a,c,f,rfl,hf⟩:=ZlW hR hs
  rcases Nat.eq_zero_or_pos ys.length with e | e
  ·have:ys=[]:=List.eq_nil_of_length_eq_zero e
   subst this
   exact⟨a,c,f,rfl,⟨fun i x h=>by simp at h,fun i j x d h=>by simp at h⟩,fun h=>by simp at h⟩
  ·obtain⟨b,o,rfl,hrow,hc⟩:=hf e
   have hsn:s=n:=by
    have h1:=gG e
    rw[← hrow.1 _ _ h1]
    exact hn _ (List.getElem_mem e)
   subst hsn
   exact⟨_,c,f,rfl,hrow,fun _=>⟨b,o,rfl,hc⟩⟩
 cases x with
 | d x=>
  cases x with
  | lit u=>simp[dcont]at h
  | sl s zs=>
   simp only[dcont,oI]at h
   subst h
   exact base s hv.sl_inv
 | own t s zs=>
  simp only[dcont,oI]at h
  subst h
  exact base s hv.own_inv.2.1
 | nil=>
  simp only[dcont,oI]at h
  subst h
  obtain rfl:=hv.nil_inv
  exact⟨none,0,fun _=>undef,rfl,⟨fun i x h=>by simp at h,fun i j x d h=>by simp at h⟩,fun h=>by simp at h⟩
 | _=>simp[dcont]at h
theorem Zk3 (hR:R w g st){t:TypeId}{s x:AV}{K:AV→St→Prop}(h:ZgM P t s x st K){sv xv:Value}(hs:Rep g s sv)(hx:Rep g x xv)(ty:TypeId) :
  ∃v' w',(Builtin.append_ #[t,t] ty #[sv,xv]).run P w=.ok v' w'∧∃r st' g',K r st'∧R w' g' st'∧Rep g' r v'∧g.le g'∧Below g.B w w':=by
 unfold ZgM at h
 split at h
 ·rename_i e n by_ ys he hd
  obtain⟨hn,hz,hlen,h⟩:=h
  obtain⟨hu,i,z,hi,hzz,hsize,hby,hzs⟩:=ZgN he hz
  obtain⟨a,c,f,rfl,hrow,hcell⟩:=Zpl hR hd hx hlen hn
  have hnews:∀u∈(List.range (ys.length * n)).map f,u.oneCell'=true:=by
   intro u hu'
   obtain⟨k,hk,rfl⟩:=List.mem_map.1 hu'
   exact hrow.one (List.mem_range.1 hk)
  have hsrc:0<ys.length→∃ad,a=some ad∧∀j u,((List.range (ys.length * n)).map f)[j]?=some u→w.cell? (ad.add j)=some u:=by
   intro hpos
   obtain⟨b,o,rfl,hc⟩:=hcell hpos
   refine⟨_,rfl,fun j u hj=>?_⟩
   simp only[List.getElem?_map,Option.map_eq_some_iff]at hj
   obtain⟨k,hk,rfl⟩:=hj
   have hkn:=(List.getElem?_eq_some_iff.1 hk).1
   rw[List.length_range]at hkn
   rw[List.getElem?_range hkn]at hk
   cases hk
   rw[ZcH]
   exact hc _ hkn
  split at h
  ·obtain⟨h63,hbytes,hK⟩:=h
   obtain rfl:=hs.nil_inv
   obtain⟨v',w',hr,h1,h2,h3⟩:=ZhO (P:=P) (w:=w) (ty:=ty) hu hi hzz hsize hzs hn (World.ownsRow_nil w g.B e n) (a:=a) (m:=ys.length) (c:=c) (news:=(List.range (ys.length * n)).map f)
    (by simp) hsrc hnews (by omega) (by rw[hby];simpa using hbytes) hR.base
   obtain⟨g',hg⟩:=hR.lengthen (e:=e) (s:=n) (xs:=[]) (ys:=ys) (c:=f) (c':=f) (v:=.slice none 0 0) (v':=v') (w':=w') ⟨fun i x h=>by simp at h,fun i j x d h=>by simp at h⟩ hrow rfl rfl
    (by simpa using h1) h2 h3 (fun b hb=>by cases hb)
   exact⟨v',w',hr,_,_,g',hK,hg⟩
  ·rename_i tk n' xs
   obtain⟨rfl,hlive,h63,hbytes,hK⟩:=h
   obtain⟨htk,hrep,htok⟩:=hs.own_inv
   obtain⟨s0,v0,m0,ht0⟩:=hR.liv tk e hlive
   have hx0:=htok _ ht0
   simp only[Prod.mk.injEq]at hx0
   obtain⟨rfl,rfl,rfl⟩:=hx0
   obtain⟨-,-,⟨cs0,hown⟩,hblk⟩:=hR.tok _ _ _ _ _ ht0
   obtain⟨a2,c2,f2,hv2,hf2⟩:=ZlW hR hrep
   have hrow2:∃f3,RowD g.pub s0 xs f3∧cs0=(List.range (xs.length * s0)).map f3∧(∀b,v0.ownBlock=some b→∀o u,g.pub b o=some u→u=f3 o):=by
    have hcl:cs0.length=xs.length * s0:=hown.1
    refine⟨fun k=>cs0.getD k undef,?_,?_,?_⟩
    ·rcases Nat.eq_zero_or_pos xs.length with e0 | e0
     ·have:xs=[]:=List.eq_nil_of_length_eq_zero e0
      subst this
      exact⟨fun i x h=>by simp at h,fun i j x d h=>by simp at h⟩
     ·obtain⟨b,o,rfl,hr2,hc2⟩:=hf2 e0
      refine hr2.ofCells (fun k hk=>?_)
      have hbo:v0.ownBlock=some b:=by rw[hv2];rfl
      have hb0:o=0:=by
       rcases hown.2 with⟨h0,-⟩ | ⟨gb,cap,cur,h0,-⟩
       ·rw[hv2]at h0;cases h0
       ·rw[hv2]at h0;cases h0;rfl
      subst hb0
      have hg0:=gG (show k<cs0.length by omega)
      have hcc:=hown.cells hbo k _ hg0
      rw[ZcH,hc2 k hk]at hcc
      simp only[List.getD,hg0,Option.getD_some]
      exact(Option.some.inj hcc).symm
    ·apply List.ext_getElem?
     intro k
     by_cases hk:k<cs0.length
     ·have hg0:=gG hk
      rw[List.getElem?_map,List.getElem?_range (by omega),hg0]
      simp[List.getD,hg0]
     ·rw[List.getElem?_eq_none (by omega),List.getElem?_eq_none (by simp;omega)]
    ·intro b hb o u hp
     have ho:o<cs0.length:=by
      rw[hcl]
      rcases Nat.lt_or_ge o (xs.length * s0)with h | h
      ·exact h
      ·rw[(hblk b hb).1 o h]at hp;cases hp
     have hg0:=gG ho
     have hcc:=hown.cells hb o _ hg0
     rw[ZcH,Nat.zero_add,hR.pub b o u hp]at hcc
     simp only[List.getD,hg0,Option.getD_some]
     exact Option.some.inj hcc
   obtain⟨f3,hrow3,hcs3,hpub3⟩:=hrow2
   obtain⟨v',w',hr,h1,h2,h3⟩:=ZhO (P:=P) (w:=w) (ty:=ty) hu hi hzz hsize hzs hn hown (a:=a) (m:=ys.length) (c:=c) (news:=(List.range (ys.length * s0)).map f)
    (by simp) hsrc hnews h63 (by rw[hby];exact hbytes) hR.base
   have hR':=hR.eat tk
   have hle:=g.le_eat tk
   obtain⟨g',hg1,hg2,hg3,hg4⟩:=hR'.lengthen (e:=e) (s:=s0) (xs:=xs) (ys:=ys) (c:=f3) (c':=f) (v:=v0) (v':=v') (w':=w') (hrow3.mono hle.pub) (hrow.mono hle.pub) hcs3 rfl
    h1 h2 h3 (fun b hb=>⟨(hblk b hb).2,fun t' x' hx' e'=>by
     simp only[Gh.eat,upd]at hx'
     by_cases et:t'=tk
     ·rw[if_pos et]at hx';cases hx'
     ·rw[if_neg et]at hx'
      exact et (hR.tinj t' tk _ _ b hx' ht0 e' hb),(hR.tok_lt ht0 hb).1,(hR.tok_lt ht0 hb).2,(hblk b hb).1,hpub3 b hb⟩)
   exact⟨v',w',hr,_,_,g',hK,hg1,hg2,hle.trans hg3,hg4⟩
  ·exact h.elim
 ·exact h.elim
end
def SrcX (st:St)(n:Nat)(x:AV)(ys:List (List AV)):Prop:=
 (∃s',elems x=some (s',ys))∨(∃id off cap,x=.xs id off n cap ys∧((st.obj id).2.drop off).take (ys.length * n)=ys.flatten)
def Zim (P:Program)(t:TypeId)(s x:AV)(st:St)(K:AV→St→Prop):Prop:=∃e n by_ ys,elT P t=some (e,n,by_)∧0<n∧(zeroC P e).map (·.length)=some n∧SrcX st n x ys∧(∀y∈ys,y.length=n)∧(∀y∈ys,y.all ZaQ=true) ∧
 ((s=.nil∧ys.length≤9223372036854775807∧ys.length * by_≤140737488355328∧(ys=[]→K .nil st) ∧
   ∀cap zs,0<ys.length→ys.length≤cap→zs.length=(cap - ys.length) * n→K (.xs st.n 0 n cap ys) (st.push e (ys.flatten++zs))) ∨
  (∃id cap xs,s=.xs id 0 n cap xs∧st.fz id=false∧(st.obj id).1=e∧(st.obj id).2.length=cap * n∧(st.obj id).2.take (xs.length * n)=xs.flatten∧(∀x∈xs,x.length=n) ∧
    xs.length+ys.length≤9223372036854775807∧(xs.length+ys.length) * by_≤140737488355328 ∧
    (xs.length+ys.length≤cap→K (.xs id 0 n cap (xs++ys)) (st.setc id (ZaO (st.obj id).2 (xs.length * n) ys.flatten))) ∧
    (cap<xs.length+ys.length→∀cap' zs,xs.length+ys.length≤cap'→zs.length=(cap' - (xs.length+ys.length)) * n→K (.xs st.n 0 n cap' (xs++ys)) (st.push e ((xs++ys).flatten++zs)))))
def Zk4 (P:Program)(t:TypeId)(s x:AV)(st:St)(K:AV→St→Prop):Prop:=ZgM P t s x st K∨Zim P t s x st K
theorem Zm5 {α:Type}{n:Nat}(hn:0<n):∀(rows:List (List α)) (k:Nat) (a:α),(∀y∈rows,y.length=n)→rows.flatten[k]?=some a→∃y,rows[k / n]?=some y∧y[k % n]?=some a
 | [],k,a,_,h=>by simp at h
 | y::ys,k,a,hl,h=>by
  have hy:y.length=n:=hl y (by simp)
  simp only[List.flatten_cons]at h
  by_cases hk:k<n
  ·rw[List.getElem?_append_left (by omega)]at h
   rw[Nat.div_eq_of_lt hk,Nat.mod_eq_of_lt hk]
   exact⟨y,rfl,h⟩
  ·rw[List.getElem?_append_right (by omega),hy]at h
   obtain⟨z,h1,h2⟩:=Zm5 hn ys (k - n) a (fun z hz=>hl z (by simp[hz])) h
   have e:k=(k - n)+n:=by omega
   rw[e,Nat.add_div_right _ hn,Nat.add_mod_right]
   exact⟨z,by simpa using h1,h2⟩
theorem ZcE {α:Type}{n:Nat}:∀(rows:List (List α)),(∀y∈rows,y.length=n)→rows.flatten.length=rows.length * n
 | [],_=>by simp
 | y::ys,hl=>by
  simp only[List.flatten_cons,List.length_append,List.length_cons]
  rw[ZcE ys (fun z hz=>hl z (by simp[hz])),hl y (by simp),Nat.add_mul]
  omega
section
variable {P:Program}{w:World}{g:Gh}{st:St}
theorem ZqC (hR:R w g st){n:Nat}(hn:0<n){x:AV}{ys:List (List AV)}(h:SrcX st n x ys)(hl:∀y∈ys,y.length=n)(hc:∀y∈ys,y.all ZaQ=true){v:Value}(hv:Rep g x v) :
  ∃a c news,v=.slice a ys.length c∧RepL g ys.flatten (List.toArray news)∧news.length=ys.length * n∧(∀u∈news,u.oneCell'=true)∧(0<ys.length→∃ad,a=some ad∧∀j u,news[j]?=some u→w.cell? (ad.add j)=some u):=by
 have key:∀(a:Option Addr) (c:Nat) (f:Nat→Value),v=.slice a ys.length c→(∀(i j:Nat) (y:List AV) (d:AV),ys[i]?=some y→y[j]?=some d→Rep g d (f (i * n+j))) →
   (0<ys.length→∃b o,a=some ⟨b,o,none⟩∧∀(i j:Nat) (y:List AV) (d:AV),ys[i]?=some y→y[j]?=some d→w.cell? ⟨b,o+(i * n+j),none⟩=some (f (i * n+j))) →
   ∃a c news,v=.slice a ys.length c∧RepL g ys.flatten (List.toArray news)∧news.length=ys.length * n∧(∀u∈news,u.oneCell'=true)∧(0<ys.length→∃ad,a=some ad∧∀j u,news[j]?=some u→w.cell? (ad.add j)=some u):=by
  intro a c f e hr hcell
  have hfl:=ZcE ys hl
  have hat:∀k,k<ys.length * n→∃i j y d,k=i * n+j∧ys[i]?=some y∧y[j]?=some d∧ys.flatten[k]?=some d:=by
   intro k hk
   have hd:=gG (show k<ys.flatten.length by omega)
   obtain⟨y,h1,h2⟩:=Zm5 hn ys k _ hl hd
   exact⟨k / n,k % n,y,_,by rw[Nat.mul_comm,Nat.div_add_mod],h1,h2,hd⟩
  refine⟨a,c,(List.range (ys.length * n)).map f,e,⟨by simp[hfl],fun k d u h1 h2=>?_⟩,by simp,fun u hu=>?_,fun hp=>?_⟩
  ·have hk:k<ys.length * n:=by rw[← hfl];exact(List.getElem?_eq_some_iff.1 h1).1
   obtain⟨i,j,y,d',rfl,h3,h4,h5⟩:=hat k hk
   rw[h5]at h1
   obtain rfl:=Option.some.inj h1
   simp only[List.getElem?_toArray,List.getElem?_map,List.getElem?_range hk,Option.map_some,oI]at h2
   subst h2
   exact hr i j y _ h3 h4
  ·obtain⟨k,hk,rfl⟩:=List.mem_map.1 hu
   obtain⟨i,j,y,d,rfl,h3,h4,-⟩:=hat k (List.mem_range.1 hk)
   exact Zhq (hr i j y d h3 h4) (List.all_eq_true.1 (hc y (List.mem_of_getElem? h3)) d (List.mem_of_getElem? h4))
  ·obtain⟨b,o,rfl,hb⟩:=hcell hp
   refine⟨_,rfl,fun k u hu=>?_⟩
   simp only[List.getElem?_map,Option.map_eq_some_iff]at hu
   obtain⟨k',hk',rfl⟩:=hu
   have hlt:=(List.getElem?_eq_some_iff.1 hk').1
   rw[List.length_range]at hlt
   rw[List.getElem?_range hlt]at hk'
   cases hk'
   obtain⟨i,j,y,d,rfl,h3,h4,-⟩:=hat k hlt
   rw[ZcH]
   exact hb i j y d h3 h4
 rcases h with⟨s',he⟩ | ⟨id,off,cap,rfl,hcont⟩
 ·obtain⟨a,cap,rfl,hcap,hs⟩:=(Rep.sliceAt he hv).at_
  rcases Nat.eq_zero_or_pos ys.length with e0 | e0
  ·have:ys=[]:=List.eq_nil_of_length_eq_zero e0
   subst this
   exact key a cap (fun _=>undef) rfl (fun i j y d h=>by simp at h) (fun h=>by simp at h)
  ·obtain⟨b,o,c,rfl,h1,h2,h3⟩:=hs e0
   have hs':s'=n:=by
    have hg:=gG e0
    rw[← h1 _ _ hg]
    exact hl _ (List.getElem_mem e0)
   subst hs'
   refine key _ cap c rfl h3 (fun _=>⟨b,o,rfl,fun i j y d hy hd=>?_⟩)
   rw[← Nat.add_assoc]
   exact hR.pub _ _ _ (h2 i j y d hy hd)
 ·obtain⟨hid,hcap,rfl⟩:=hv.xs_inv
  obtain⟨arr,ha,hr⟩:=hR.obj id (by rw[← hR.hn];exact hid)
  have hcell:∀(i j:Nat) (y:List AV) (d:AV),ys[i]?=some y→y[j]?=some d→(st.obj id).2[off+(i * n+j)]?=some d:=by
   intro i j y d hy hd
   have hlt:i * n+j<ys.length * n:=by
    have hi:=(List.getElem?_eq_some_iff.1 hy).1
    have hj:=(List.getElem?_eq_some_iff.1 hd).1
    rw[hl y (List.mem_of_getElem? hy)]at hj
    have:(i+1) * n≤ys.length * n:=Nat.mul_le_mul_right _ hi
    rw[Nat.add_mul]at this
    omega
   have h1:ys.flatten[i * n+j]?=some d:=by
    have hfl:=ZcE ys hl
    have hd':=gG (show i * n+j<ys.flatten.length by omega)
    obtain⟨y',h2,h3⟩:=Zm5 hn ys _ _ hl hd'
    have hj:=(List.getElem?_eq_some_iff.1 hd).1
    rw[hl y (List.mem_of_getElem? hy)]at hj
    have e1:(i * n+j) / n=i:=by rw[Nat.mul_comm,Nat.mul_add_div hn,Nat.div_eq_of_lt hj,Nat.add_zero]
    have e2:(i * n+j) % n=j:=by rw[Nat.mul_comm,Nat.mul_add_mod,Nat.mod_eq_of_lt hj]
    rw[e1,hy]at h2
    cases h2
    rw[e2,hd]at h3
    rw[hd',← h3]
   rw[← hcont,List.getElem?_take_of_lt hlt,List.getElem?_drop]at h1
   exact h1
  refine key _ cap (fun k=>arr.getD (off+k) undef) rfl (fun i j y d hy hd=>?_) (fun _=>⟨_,_,rfl,fun i j y d hy hd=>?_⟩)
  ·have h1:=hcell i j y d hy hd
   have hlt:off+(i * n+j)<arr.size:=by rw[← hr.1];exact(List.getElem?_eq_some_iff.1 h1).1
   have:=hr.2 _ _ _ h1 (Array.getElem?_eq_getElem hlt)
   simp only[Array.getD_eq_getD_getElem?,Array.getElem?_eq_getElem hlt,Option.getD_some]
   exact this
  ·have h1:=hcell i j y d hy hd
   have hlt:off+(i * n+j)<arr.size:=by rw[← hr.1];exact(List.getElem?_eq_some_iff.1 h1).1
   rw[cell_of_row w _ _ arr _ _ ha]
   simp only[Array.getD_eq_getD_getElem?,Array.getElem?_eq_getElem hlt,Option.getD_some]
theorem Zpm {z:Value}{zs:List AV}(hz:zs=z.cells.toList.map ZeA)(ho:z.cells.toList.all (·.oneCell')=true)(g:Gh)(m:Nat) :
  RepL g ((List.range (m * zs.length)).map fun i=>zs.getD (i % zs.length) .bad) (Builtin.zeroCells z.cells m):=by
 have hl:zs.length=z.cells.size:=by subst hz;simp
 have h0:RepL g zs z.cells:=by subst hz;exact RepL.cells g z.cells ho
 refine⟨by simp[Builtin.zeroCells,hl],fun i a v h1 h2=>?_⟩
 have hi:i<m * zs.length:=by simpa using(List.getElem?_eq_some_iff.1 h1).1
 have hpos:0<zs.length:=Nat.pos_of_ne_zero (fun e=>by rw[e]at hi;simp at hi)
 have hm:i % zs.length<zs.length:=Nat.mod_lt _ hpos
 simp only[List.getElem?_map,List.getElem?_range hi,Option.map_some,oI]at h1
 subst h1
 unfold Builtin.zeroCells at h2
 rw[Array.getElem?_map,Array.getElem?_range,if_pos (by rw[← hl];exact hi)]at h2
 simp only[Option.map_some,oI]at h2
 subst h2
 have hz':i % z.cells.size<z.cells.size:=by rw[← hl];exact hm
 refine h0.2 (i % zs.length) _ _ (by simp[List.getD,gG hm]) ?_
 rw[hl,Array.getElem?_eq_getElem hz',getElem!_pos z.cells _ hz']
theorem RepL.app {as bs:List AV}{us vs:List Value}(h:RepL g as us.toArray)(h':RepL g bs vs.toArray):RepL g (as++bs) (us++vs).toArray:=by
 have hs:=h.1
 simp only[List.size_toArray]at hs
 refine⟨by have:=h'.1;simp at this ⊢;omega,fun i a v h1 h2=>?_⟩
 rw[List.getElem?_toArray]at h2
 by_cases c:i<as.length
 ·rw[List.getElem?_append_left c]at h1
  rw[List.getElem?_append_left (by omega)]at h2
  exact h.2 i a v h1 (by simpa using h2)
 ·rw[List.getElem?_append_right (by omega)]at h1
  rw[List.getElem?_append_right (by omega)]at h2
  exact h'.2 _ a v h1 (by rw[List.getElem?_toArray,hs];exact h2)
theorem Zk5 (hR:R w g st){t:TypeId}{s x:AV}{K:AV→St→Prop}(h:Zim P t s x st K){sv xv:Value}(hs:Rep g s sv)(hx:Rep g x xv)(ty:TypeId) :
  ∃v' w',(Builtin.append_ #[t,t] ty #[sv,xv]).run P w=.ok v' w'∧∃r st' g',K r st'∧R w' g' st'∧Rep g' r v'∧g.le g'∧Below g.B w w':=by
 obtain⟨e,n,by_,ys,he,hn,hz,hsrc,hlen,hce,h⟩:=h
 obtain⟨hu,i,z,hi,hzz,hsize,hby,hzs⟩:=ZgN he hz
 obtain⟨a,c,news,rfl,hrow,hnl,hone,hcell⟩:=ZqC hR hn hsrc hlen hce hx
 have hz1:∃zs,zeroC P e=some zs∧zs=z.cells.toList.map ZeA∧z.cells.toList.all (·.oneCell')=true∧zs.length=n:=by
  unfold zeroC at hz ⊢
  rw[hi]at hz ⊢
  simp only[hzz]at hz ⊢
  split at hz
  ·rename_i ho
   rw[if_pos ho]
   exact⟨_,rfl,rfl,ho,by simpa using hz⟩
  ·simp at hz
 obtain⟨zs,-,hzs1,hzo,hzl⟩:=hz1
 have hfl:=ZcE ys hlen
 have hsrcP:∀hp:0<ys.length,Src P i.size t (.slice a ys.length c) ys.length news w:=by
  intro hp
  obtain⟨ad,rfl,hc⟩:=hcell hp
  exact Src.ofSlice w hu ad _ _ _ (by rw[hnl,hsize]) hc hone
 have grow:∀(xs:List (List AV)) (olds:List Value) (base:Option Addr) (cap:Nat),RepL g xs.flatten olds.toArray→olds.length=xs.length * n→(∀y∈xs,y.length=n) →
   (Builtin.firstCells i.size xs.length (.slice base xs.length cap)).run P w.drew=.ok olds.toArray w.drew→cap<xs.length+ys.length→xs.length≤cap →
   xs.length+ys.length≤9223372036854775807→(xs.length+ys.length) * by_≤140737488355328 →
   (∀cap' zs,xs.length+ys.length≤cap'→zs.length=(cap' - (xs.length+ys.length)) * n→K (.xs st.n 0 n cap' (xs++ys)) (st.push e ((xs++ys).flatten++zs))) →
   ∃v' w',(Builtin.append_ #[t,t] ty #[.slice base xs.length cap,.slice a ys.length c]).run P w=.ok v' w'∧∃r st' g',K r st'∧R w' g' st'∧Rep g' r v'∧g.le g'∧Below g.B w w':=by
  intro xs olds base cap hold hol hxl hfc hgt hxc h63 hb hK
  have hpos:0<ys.length:=by omega
  have hrun:=run_append_grow_src (P:=P) w t t ty e i z hu hi hzz base xs.length cap olds hfc _ ys.length news (hsrcP hpos) hgt (by omega) (by rw[hby];exact growslice_fits hgt hb)
  refine⟨_,_,hrun,?_⟩
  have hge:=grownCap_ge w (xs.length+ys.length) cap e
  generalize hcap:grownCap w (xs.length+ys.length) cap e=cap' at hge hrun ⊢
  have hzr:=Zpm hzs1 hzo g (cap' - (xs.length+ys.length))
  rw[hzl]at hzr
  have hall:RepL g ((xs++ys).flatten++(List.range ((cap' - (xs.length+ys.length)) * n)).map fun i=>zs.getD (i % n) .bad) ((olds++news).toArray++Builtin.zeroCells z.cells (cap' - (xs.length+ys.length))):=by
   rw[List.flatten_append]
   have h1:=RepL.app (hold.app hrow) (vs:=(Builtin.zeroCells z.cells (cap' - (xs.length+ys.length))).toList) (by simpa using hzr)
   have e1:((olds++news)++(Builtin.zeroCells z.cells (cap' - (xs.length+ys.length))).toList).toArray=(olds++news).toArray++Builtin.zeroCells z.cells (cap' - (xs.length+ys.length)):=by
    apply Array.ext'
    simp
   rw[e1]at h1
   exact h1
  have hR':=hR.drew.alloc e hall
  refine⟨_,_,_,hK cap' _ hge (by simp),hR',?_,g.le_push _,?_⟩
  ·have:=Rep.xs (g:=g.push w.heap.size) st.n 0 n cap' (xs++ys) (by simp[Gh.push,hR.hn]) (by simpa using hge)
   simp only[Gh.push,upd,hR.hn,if_true,List.length_append]at this ⊢
   exact this
  ·exact⟨rfl,rfl,rfl,by simp,fun k hk=>Below.heap_alloc w.drew _ k (Nat.lt_of_lt_of_le hk hR.base)⟩
 rcases h with⟨rfl,h63,hb,hK0,hK⟩ | ⟨id,cap,xs,rfl,hfz,hte,hcl,htk,hxl,h63,hb,hK1,hK2⟩
 ·obtain rfl:=hs.nil_inv
  rcases Nat.eq_zero_or_pos ys.length with e0 | hpos
  ·have:ys=[]:=List.eq_nil_of_length_eq_zero e0
   subst this
   refine⟨.slice none 0 0,w,?_,_,_,g,hK0 rfl,hR,.nil,Gh.le.refl g,Below.refl _ _⟩
   have hf:(Builtin.firstCells i.size 0 (.slice a 0 c)).run P w=.ok #[] w:=by
    cases a with
    | none=>simp[Builtin.firstCells]
    | some ad=>simp[Builtin.firstCells,loadCells,loadCellsFrom]
   simp[Builtin.append_,run_underlying hu,sizeOf,typeInfo,hi,Builtin.lenOf,hf]
  have:=grow [] [] none 0 ⟨rfl,fun i a v h=>by simp at h⟩ (by simp) (fun y h=>by simp at h) (by simp[Builtin.firstCells]) (by simpa using hpos) (by simp) (by simpa using h63) (by simpa using hb) (by intro cap' zs c1 c2;have:=hK cap' zs hpos (by simpa using c1) (by simpa using c2);simpa using this)
  simpa using this
 ·obtain⟨hid,hxc,rfl⟩:=hs.xs_inv
  have hid':id<st.n:=by rw[← hR.hn];exact hid
  obtain⟨arr,ha,hr⟩:=hR.obj id hid'
  rw[hte]at ha
  have hxfl:=ZcE xs hxl
  have hsz:arr.size=cap * n:=by rw[← hr.1];exact hcl
  have hle:xs.length * n≤cap * n:=Nat.mul_le_mul_right _ hxc
  have hmin:min (xs.length * n) arr.size=xs.length * n:=by rw[hsz];exact Nat.min_eq_left hle
  have hold:RepL g xs.flatten (arr.toList.take (xs.length * n)).toArray:=by
   refine⟨by simp only[List.size_toArray,List.length_take,Array.length_toList,hmin,hxfl],fun k d u h1 h2=>?_⟩
   have hk:k<xs.length * n:=by rw[← hxfl];exact(List.getElem?_eq_some_iff.1 h1).1
   rw[← htk,List.getElem?_take_of_lt hk]at h1
   rw[List.getElem?_toArray,List.getElem?_take_of_lt hk,Array.getElem?_toList]at h2
   exact hr.2 k d u h1 h2
  have hol:(arr.toList.take (xs.length * n)).length=xs.length * n:=by simp only[List.length_take,Array.length_toList,hmin]
  by_cases hroom:xs.length+ys.length≤cap
  ·have hfit:xs.length * n+news.length≤arr.size:=by rw[hnl,hsz,← Nat.add_mul];exact Nat.mul_le_mul_right _ hroom
   have hnew:(ZaO arr.toList (xs.length * n) news)=arr.toList.take (xs.length * n)++news++arr.toList.drop (xs.length * n+news.length):=rfl
   have hrun:(Builtin.append_ #[t,t] ty #[.slice (some ⟨g.σ id,0,none⟩) xs.length cap,.slice a ys.length c]).run P w =
     .ok (.slice (some ⟨g.σ id,0,none⟩) (xs.length+ys.length) cap) (w.setRow (g.σ id) (ZaO arr.toList (xs.length * n) news).toArray):=by
    rcases Nat.eq_zero_or_pos ys.length with e0 | e0
    ·have hn0:news=[]:=List.eq_nil_of_length_eq_zero (by rw[hnl,e0,Nat.zero_mul])
     subst hn0
     have hsp:(ZaO arr.toList (xs.length * n) []).toArray=arr:=by simp[ZaO]
     have hself:w.setRow (g.σ id) arr=w:=setRow_self w _ arr _ _ ha
     rw[hsp,hself,e0]
     have hf:(Builtin.firstCells i.size 0 (.slice a 0 c)).run P w=.ok #[] w:=by
      cases a with
      | none=>simp[Builtin.firstCells]
      | some ad=>simp[Builtin.firstCells,loadCells,loadCellsFrom]
     simp[Builtin.append_,run_underlying hu,sizeOf,typeInfo,hi,Builtin.lenOf,hf,hxc,storeCells]
    ·obtain⟨ad,rfl,hc⟩:=hcell e0
     have:=run_append_room (P:=P) w t ty e i hu hi (g.σ id) xs.length cap arr ha ad ys.length c news (by rw[hnl,hsize]) hc hone hroom (by rw[hsize];exact hfit)
     rw[hsize]at this
     rw[hnew]
     exact this
   refine⟨_,_,hrun,_,_,g,hK1 hroom,?_,?_,Gh.le.refl g,?_⟩
   ·refine hR.setRow hid' hfz (arr':=(ZaO arr.toList (xs.length * n) news).toArray) (RepL.ZaO hr hrow (by rw[hfl,hcl,← Nat.add_mul];exact Nat.mul_le_mul_right _ hroom)) ?_ (by simp) (fun k hk=>setRow_other w _ k _ hk)
    have:=setRow_heap w (g.σ id) arr (ZaO arr.toList (xs.length * n) news).toArray _ (0,0) ha
    rw[hte]
    exact this
   ·have:=Rep.xs (g:=g) id 0 n cap (xs++ys) hid (by simpa using hroom)
    simpa using this
   ·exact⟨rfl,rfl,rfl,by simp,fun k hk=>setRow_other w _ k _ (by have:=hR.baseO id hid';omega)⟩
  ·refine grow xs _ _ cap hold hol hxl ?_ (by omega) hxc h63 hb (hK2 (by omega))
   rw[hsize]
   exact run_firstCells_some w.drew n xs.length ⟨g.σ id,0,none⟩ xs.length cap _ hol (fun j u hj=>by
    rw[ZcH,Nat.zero_add]
    have hj':j<xs.length * n:=by rw[← hol];exact(List.getElem?_eq_some_iff.1 hj).1
    rw[List.getElem?_take_of_lt hj',Array.getElem?_toList]at hj
    rw[cell_of_row w.drew _ _ arr _ _ (show w.drew.heap[g.σ id]?=_ from ha)]
    exact hj)
theorem ZlX (hR:R w g st){t:TypeId}{s x:AV}{K:AV→St→Prop}(h:Zk4 P t s x st K){sv xv:Value}(hs:Rep g s sv)(hx:Rep g x xv)(ty:TypeId) :
  ∃v' w',(Builtin.append_ #[t,t] ty #[sv,xv]).run P w=.ok v' w'∧∃r st' g',K r st'∧R w' g' st'∧Rep g' r v'∧g.le g'∧Below g.B w w':=by
 rcases h with h | h
 ·exact Zk3 hR h hs hx ty
 ·exact Zk5 hR h hs hx ty
end
end Go.AW

namespace Go.AW
open Go.RowKit
theorem ZnJ {α:Type}:∀(xs:List (List α)) (n i j:Nat) (x:List α) (d:α),(∀y∈xs,y.length=n)→xs[i]?=some x→x[j]?=some d→xs.flatten[i * n+j]?=some d
 | [],_,i,_,_,_,_,h,_=>by simp at h
 | y::ys,n,0,j,x,d,hn,h,hd=>by
  simp only[List.getElem?_cons_zero,oI]at h
  subst h
  have:=(List.getElem?_eq_some_iff.1 hd).1
  simp only[List.flatten_cons,Nat.zero_mul,Nat.zero_add]
  rw[List.getElem?_append_left this]
  exact hd
 | y::ys,n,i+1,j,x,d,hn,h,hd=>by
  simp only[List.getElem?_cons_succ]at h
  have hy:y.length=n:=hn y (by simp)
  have:=ZnJ ys n i j x d (fun z hz=>hn z (by simp[hz])) h hd
  simp only[List.flatten_cons]
  rw[List.getElem?_append_right (by rw[Nat.add_mul];omega)]
  rw[← this]
  congr 1
  rw[Nat.add_mul]
  omega
theorem Zi4 {α:Type}:∀(xs:List (List α)) (n:Nat),(∀y∈xs,y.length=n)→xs.flatten.length=xs.length * n
 | [],_,_=>by simp
 | y::ys,n,h=>by
  simp only[List.flatten_cons,List.length_append,List.length_cons,Nat.add_mul]
  rw[Zi4 ys n (fun z hz=>h z (by simp[hz])),h y (by simp)]
  omega
theorem Zk6 {α:Type}(cells:List α)(o:Nat)(x r:List α)(h:o+x.length+r.length≤cells.length):ZaO (ZaO cells o x) (o+x.length) r=ZaO cells o (x++r):=by
 apply List.ext_getElem?
 intro i
 rw[Za8 _ _ _ (by rw[ZaX _ _ _ (by omega)];omega),Za8 _ _ _ (by omega),Za8 _ _ _ (by simp;omega)]
 simp only[List.length_append]
 by_cases c1:i<o
 ·rw[if_pos (by omega),if_pos c1,if_pos c1]
 ·rw[if_neg c1]
  by_cases c2:i<o+x.length
  ·rw[if_pos c2,if_pos c2,if_neg c1,if_pos (by omega),List.getElem?_append_left (by omega)]
  ·rw[if_neg c2]
   by_cases c3:i<o+x.length+r.length
   ·rw[if_pos c3,if_neg c1,if_pos (by omega),List.getElem?_append_right (by omega)]
    congr 1
    omega
   ·rw[if_neg c3,if_neg c1,if_neg c2,if_neg (by omega)]
theorem ZlY (n:Nat):∀(ps:List (Nat×AV)) (s:Nat) (cells:List AV),ps.map (·.1)=List.range' s ps.length→(∀p∈ps,(Zak p.2).length=n∧(Zak p.2).all ZaQ=true) →
  (s+ps.length) * n≤cells.length→fillA (fun i=>some (i * n,n)) cells ps=some (ZaO cells (s * n) (ps.map (fun p=>Zak p.2)).flatten)
 | [],s,cells,_,_,_=>by simp[fillA,ZaO]
 | (i,x)::ps,s,cells,hi,hp,hl=>by
  simp only[List.map_cons,List.length_cons,List.range'_succ,List.cons.injEq]at hi
  obtain⟨rfl,hi⟩:=hi
  obtain⟨h1,h2⟩:=hp (i,x) (by simp)
  simp only at h1 h2
  have hl':i * n+n+ps.length * n≤cells.length:=by
   simp only[List.length_cons]at hl
   have:(i+(ps.length+1)) * n=i * n+n+ps.length * n:=by rw[Nat.add_mul,Nat.add_mul];omega
   omega
  unfold fillA
  simp only
  rw[if_pos ⟨h1,by omega,h2⟩]
  have hsl:(ZaO cells (i * n) (Zak x)).length=cells.length:=ZaX _ _ _ (by omega)
  rw[ZlY n ps (i+1) _ hi (fun p hq=>hp p (by simp[hq])) (by rw[hsl,Nat.add_mul,Nat.add_mul];omega)]
  have hfl:(ps.map (fun p=>Zak p.2)).flatten.length=ps.length * n:=by
   rw[Zi4 _ n (fun y hy=>by obtain⟨p,hp',rfl⟩:=List.mem_map.1 hy;exact(hp p (by simp[hp'])).1)]
   simp
  have e:(i+1) * n=i * n+(Zak x).length:=by rw[Nat.add_mul,h1];omega
  rw[e,Zk6 _ _ _ _ (by rw[hfl,h1];exact hl')]
  simp
def Zc2 (P:Program)(t:TypeId)(len:Nat)(parts:List (Nat×AV))(st:St)(K:AV→St→Prop):Prop:=match elT P t with
 | some (e,n,_)=>0<n∧len * n≤16777216∧(zeroC P e).map (·.length)=some n∧parts.map (·.1)=List.range' 0 len∧parts.length=len ∧
   (parts.all fun p=>(Zak p.2).length==n&&(Zak p.2).all ZaQ)=true∧(parts.all fun p=>(Zak p.2).all noX)=true ∧
   (match toDss (parts.map fun p=>Zak p.2)with
    | some xs=>K (.own st.k n xs) (st.own e)
    | none=>K (.psl n (parts.map fun p=>Zak p.2)) st)
 | none=>False
theorem Zk7:∀(as:List AV) (xs:List DV),toDs as=some xs→as.length=xs.length∧∀(j:Nat) (x:DV),xs[j]?=some x→∃a,as[j]?=some a∧toD a=some x
 | [],xs,h=>by simp only[toDs,oI]at h;subst h;exact⟨rfl,fun j x h=>by simp at h⟩
 | a::as,xs,h=>by
  unfold toDs at h
  split at h
  ·rename_i x ys h1 h2
   simp only[oI]at h
   subst h
   obtain⟨h3,h4⟩:=Zk7 as ys h2
   refine⟨by simp[h3],fun j y hy=>?_⟩
   cases j with
   | zero=>simp only[List.getElem?_cons_zero,oI]at hy;subst hy;exact⟨a,rfl,h1⟩
   | succ j=>exact h4 j y (by simpa using hy)
  ·cases h
theorem ZlZ:∀(as:List (List AV)) (xs:List (List DV)),toDss as=some xs→as.length=xs.length∧∀(j:Nat) (x:List DV),xs[j]?=some x→∃a,as[j]?=some a∧toDs a=some x
 | [],xs,h=>by simp only[toDss,oI]at h;subst h;exact⟨rfl,fun j x h=>by simp at h⟩
 | a::as,xs,h=>by
  unfold toDss at h
  split at h
  ·rename_i x ys h1 h2
   simp only[oI]at h
   subst h
   obtain⟨h3,h4⟩:=ZlZ as ys h2
   refine⟨by simp[h3],fun j y hy=>?_⟩
   cases j with
   | zero=>simp only[List.getElem?_cons_zero,oI]at hy;subst hy;exact⟨a,rfl,h1⟩
   | succ j=>exact h4 j y (by simpa using hy)
  ·cases h
section
variable {P:Program}{w:World}{g:Gh}{st:St}
theorem ZiX (hR:R w g st){t:TypeId}{len:Nat}{parts:List (Nat×AV)}{K:AV→St→Prop}(h:Zc2 P t len parts st K){qs:List (Nat×Value)}
  (hl:parts.length=qs.length) (hp:∀(i:Nat) p q,parts[i]?=some p→qs[i]?=some q→p.1=q.1∧Rep g p.2 q.2) :
  ∃v' w',(Instr.buildSlice t len qs.toArray).run P w=.ok v' w'∧∃r st' g',K r st'∧R w' g' st'∧Rep g' r v'∧g.le g'∧Below g.B w w':=by
 unfold Zc2 at h
 split at h
 ·rename_i e n by_ he
  obtain⟨hn,hsmall,hz,hidx,hlen,hall,hallX,hK⟩:=h
  obtain⟨hu,i,z,hi,hzz,hsize,hby,hzs⟩:=ZgN he hz
  have hzone:z.cells.toList.all (·.oneCell')=true:=by
   cases hzc:zeroC P e with
   | none=>rw[hzc]at hz;cases hz
   | some cs=>
    obtain⟨z',hz1,-,hz3⟩:=ZjB (P:=P) (w:=w) hzc
    have:z'=z:=by
     simp[zeroValue,typeInfo,hi,hzz]at hz1
     exact hz1.symm
    rw[← this];exact hz3
  have hparts:∀p∈parts,(Zak p.2).length=n∧(Zak p.2).all ZaQ=true:=by
   intro p hp'
   have:=List.all_eq_true.1 hall p hp'
   simpa using this
  let zero:Array Value:=if len * n=0 then #[] else z.cells
  let arr0:Array Value:=(Array.range (len * n)).map fun k=>zero[k % zero.size]!
  have harr0:arr0.toList.all (·.oneCell')=true:=by
   rw[List.all_eq_true]
   intro u hu'
   simp only[arr0,Array.toList_map,Array.toList_range,List.mem_map,List.mem_range]at hu'
   obtain⟨k,hk,rfl⟩:=hu'
   have hne:len * n≠0:=by omega
   have hzero:zero=z.cells:=by simp only[zero];rw[if_neg hne]
   rw[hzero]
   have hlt:k % z.cells.size<z.cells.size:=Nat.mod_lt _ (by omega)
   rw[getElem!_pos z.cells _ hlt]
   exact List.all_eq_true.1 hzone _ (by simp)
  have hRL:=RepL.cells g arr0 harr0
  have hlen0:(arr0.toList.map ZeA).length=len * n:=by simp[arr0]
  have hfill:=ZlY n parts 0 (arr0.toList.map ZeA) (by rw[hlen];exact hidx) hparts (by rw[hlen0,Nat.zero_add,hlen];exact Nat.le_refl _)
  obtain⟨arr',e1,e2,e3,e4⟩:=Zi3 _ parts qs _ arr0 _ hRL hl hp hfill harr0
  have hflat:ZaO (arr0.toList.map ZeA) (0 * n) (parts.map (fun p=>Zak p.2)).flatten=(parts.map (fun p=>Zak p.2)).flatten:=by
   have hf:(parts.map (fun p=>Zak p.2)).flatten.length=len * n:=by
    rw[Zi4 _ n (fun y hy=>by obtain⟨p,hp',rfl⟩:=List.mem_map.1 hy;exact(hparts p hp').1)]
    simp[hlen]
   simp only[ZaO,Nat.zero_mul,List.take_zero,List.nil_append,Nat.zero_add,hf]
   rw[List.drop_of_length_le (by omega)]
   simp
  rw[hflat]at e2
  have hasz:arr'.size=len * n:=by
   rw[← e2.1,Zi4 _ n (fun y hy=>by obtain⟨p,hp',rfl⟩:=List.mem_map.1 hy;exact(hparts p hp').1)]
   simp[hlen]
  have hrun:(Instr.buildSlice t len qs.toArray).run P w=.ok (.slice (some ⟨w.heap.size,0,none⟩) len len) (w.alloc (.cells arr' e)):=by
   have hsm:¬ len * n>2 ^ 24:=by omega
   unfold Instr.buildSlice
   rw[Sem.run_bind,run_underlying hu]
   simp only[Result.andThen_ok]
   rw[Sem.run_bind,show(sizeOf e).run P w=.ok n w by simp[sizeOf,typeInfo,hi,hsize]]
   simp only[Result.andThen_ok,hsm,if_false]
   have hfin:∀zz:Array Value,zz=zero→(match Instr.fill (fun i=>some (i * n,n)) ((Array.range (len * n)).map fun x=>zz[x % zz.size]!) qs with
     | some cells=>(do let a ← newRow e cells;pure (Value.slice (some a) len len):Sem Value)
     | _=>stuck "buildSlice: a part of the wrong size").run P w=.ok (.slice (some ⟨w.heap.size,0,none⟩) len len) (w.alloc (.cells arr' e)):=by
    rintro _ rfl
    rw[show Instr.fill (fun i=>some (i * n,n)) ((Array.range (len * n)).map fun x=>zero[x % zero.size]!) qs=some arr' from e1]
    rfl
   by_cases h0:len * n=0
   ·rw[if_pos h0,Sem.run_bind,Sem.run_pure]
    exact hfin #[] (by simp only[zero];rw[if_pos h0])
   ·rw[if_neg h0,Sem.run_bind,show(zeroValue e).run P w=.ok z w by simp[zeroValue,typeInfo,hi,hzz]]
    exact hfin z.cells (by simp only[zero];rw[if_neg h0])
  have hlc:∀y∈parts.map (fun p=>Zak p.2),y.length=n:=fun y hy=>by obtain⟨p,hp',rfl⟩:=List.mem_map.1 hy;exact(hparts p hp').1
  have hcell:∀(i j:Nat) (x:List AV) (d:AV),(parts.map fun p=>Zak p.2)[i]?=some x→x[j]?=some d→arr'[i * n+j]?=some (arr'.getD (i * n+j) undef)∧Rep g d (arr'.getD (i * n+j) undef):=by
   intro i j x d h1 h2
   have h3:=ZnJ _ n i j x d hlc h1 h2
   have hlt:i * n+j<arr'.size:=by rw[← e2.1];exact(List.getElem?_eq_some_iff.1 h3).1
   have h4:arr'[i * n+j]?=some (arr'.getD (i * n+j) undef):=by simp[Array.getD,hlt]
   exact⟨h4,e2.2 _ _ _ h3 h4⟩
  have hR1:=hR.allocPub e arr'
  have hle1:=g.le_publish (b:=w.heap.size) (f:=fun o=>arr'[o]?) (fun o v hp=>by rw[hR.pub_new _ _ (Nat.le_refl _)]at hp;cases hp)
  have hbel:Below g.B w (w.alloc (.cells arr' e)):=(Below.refl _ w).alloc hR.base _
  refine⟨_,_,hrun,?_⟩
  split at hK
  ·rename_i xs hxs
   obtain⟨hl1,hg1⟩:=ZlZ _ _ hxs
   have hxl:xs.length=len:=by rw[← hl1];simpa using hlen
   have hrow:RowD (g.publish w.heap.size (fun o=>arr'[o]?)).pub n xs (fun k=>arr'.getD k undef):=by
    refine⟨fun i x hx=>?_,fun i j x d hx hd=>?_⟩
    ·obtain⟨a,ha,hd⟩:=hg1 i x hx
     rw[← (Zk7 _ _ hd).1]
     exact hlc a (List.mem_of_getElem? ha)
    ·obtain⟨a,ha,hda⟩:=hg1 i x hx
     obtain⟨b,hb,hdb⟩:=(Zk7 _ _ hda).2 j d hd
     obtain⟨-,hrep⟩:=hcell i j a b ha hb
     obtain⟨p,hp',rfl⟩:∃p∈parts,Zak p.2=a:=by
      have:=List.mem_of_getElem? ha
      obtain⟨p,h1,h2⟩:=List.mem_map.1 this
      exact⟨p,h1,h2⟩
     exact(Zk2 hdb hrep (List.all_eq_true.1 (hparts p hp').2 _ (List.mem_of_getElem? hb)) (List.all_eq_true.1 (List.all_eq_true.1 hallX p hp') _ (List.mem_of_getElem? hb))).mono hle1.pub
   have hsl:RepD (g.publish w.heap.size (fun o=>arr'[o]?)).pub (.sl n xs) (.slice (some ⟨w.heap.size,0,none⟩) len len):=by
    have:=hrow.rep (b:=w.heap.size) (cap:=xs.length) (Nat.le_refl _) (fun k hk=>by
     simp only[Gh.publish,if_true]
     have:k<arr'.size:=by rw[hasz,← hxl];exact hk
     simp[Array.getD,this])
    rw[hxl]at this
    exact this
   have hown:(w.alloc (.cells arr' e)).ownsRow (g.publish w.heap.size (fun o=>arr'[o]?)).B e n (.slice (some ⟨w.heap.size,0,none⟩) len len) len arr'.toList:=
    ⟨by simp[hasz],.inr ⟨w.heap.size,len,arr',rfl,hR.base,heap_alloc_new w _,Nat.le_refl _,by
     have:len≤len * n:=Nat.le_mul_of_pos_right _ hn
     simp only[maxLen];omega,hasz,List.take_of_length_le (by rw[Array.length_toList,hasz];exact Nat.le_refl _)⟩⟩
   have hR2:=hR1.own e n (.slice (some ⟨w.heap.size,0,none⟩) len len) len _ hown (fun b hb=>by
    simp only[Value.ownBlock,oI]at hb
    subst hb
    refine⟨fun o ho=>?_,fun i hi' e'=>?_,fun t x hx e'=>?_⟩
    ·simp only[Gh.publish,if_true]
     rw[Array.getElem?_eq_none (by omega)]
    ·have h5:=hR.obj_lt hi'
     have e2:g.σ i=w.heap.size:=e'
     omega
    ·obtain⟨a1,a2,a3,a4⟩:=x
     have:=(hR.tok_lt hx e').2
     omega)
   refine⟨_,_,_,hK,hR2,?_,hle1.trans (Gh.le_own _ _),hbel⟩
   refine .own (by simp[Gh.own,Gh.publish,hR.hk]) hsl (fun x hx'=>?_)
   simp only[Gh.own,upd,show(g.publish w.heap.size (fun o=>arr'[o]?)).k=st.k from hR.hk,if_true,oI]at hx'
   subst hx'
   simp[hxl]
  ·refine⟨_,_,_,hK,hR1,?_,hle1,hbel⟩
   have hpl:(parts.map fun p=>Zak p.2).length=len:=by simpa using hlen
   rcases Nat.eq_zero_or_pos len with e0 | e0
   ·subst e0
    have:(parts.map fun p=>Zak p.2)=[]:=List.eq_nil_of_length_eq_zero hpl
    rw[this]
    exact .psl0 _ _ _
   ·have:=Rep.psl (g:=g.publish w.heap.size (fun o=>arr'[o]?)) n (parts.map fun p=>Zak p.2) w.heap.size 0 len (fun k=>arr'.getD k undef) (by omega) (fun i x hx=>hlc x (List.mem_of_getElem? hx)) (by omega)
     (fun i j x d h1 h2=>by
      simp only[Gh.publish,if_true,Nat.zero_add]
      exact(hcell i j x d h1 h2).1)
     (fun i j x d h1 h2=>((hcell i j x d h1 h2).2).mono hle1)
    rw[hpl]at this
    exact this
 ·exact h.elim
end
end Go.AW

namespace Go.AW
open Go.RowKit
def arT (P:Program)(t:TypeId):Option (Nat×TypeId×Nat):=match P.underlying t with
 | some (.array n e)=>(P.info? e).map fun i=>(n,e,i.size)
 | _=>none
def isStr (P:Program)(t:TypeId):Bool:=match P.underlying t with
 | some (.struct _)=>true
 | _=>false
def plc:Option (Nat×Option (Nat×Bool))→Option (Nat×Nat)
 | some (off,some (n,_))=>some (off,n)
 | _=>none
def ZgO (P:Program)(t:TypeId)(parts:List (Nat×AV)):PV:=match zeroC P t with
 | some zs=>(match arT P t with
  | some (_,_,n)=>(match fillA (fun i=>some (i * n,n)) zs parts with
   | some cs=>⟨True,.agg cs⟩
   | none=>fails)
  | none=>(match fillA (fun i=>plc (flds P t)[i]?) zs parts with
   | some cs=>⟨((flds P t).all fun x=>x.2.isSome)=true∧isStr P t=true,.agg cs⟩
   | none=>fails))
 | none=>fails
section
variable {P:Program}{w:World}{g:Gh}{st:St}
theorem Zoq {t:TypeId}{zs:List AV}(h:zeroC P t=some zs):∃i z,P.info? t=some i∧i.zero=some z∧zs=z.cells.toList.map ZeA∧z.cells.toList.all (·.oneCell')=true:=by
 unfold zeroC at h
 split at h
 ·rename_i i hi
  split at h
  ·rename_i z hz
   split at h
   ·rename_i ho
    simp only[oI]at h
    exact⟨i,z,hi,hz,h.symm,ho⟩
   ·cases h
  ·cases h
 ·cases h
theorem ZqD (p p':Nat→Option (Nat×Nat))(h:∀i,p i=p' i)(cells:Array Value)(l:List (Nat×Value)):Instr.fill p cells l=Instr.fill p' cells l:=by
 rw[show p=p' from funext h]
theorem Zl0:∀(fs:List Field),(fs.all fun f=>(tsz P f.type).isSome)=true →
  ∃pl,fs.mapM (fun f=>(P.info? f.type).map fun i=>(f.offset,i.size))=some pl∧∀i:Nat,pl[i]?=plc (fs.map fun f=>(f.offset,tsz P f.type))[i]?
 | [],_=>⟨[],rfl,fun i=>by simp[plc]⟩
 | f::fs,h=>by
  simp only[List.all_cons,bA]at h
  obtain⟨pl,h1,h2⟩:=Zl0 fs h.2
  obtain⟨⟨n,a⟩,ht⟩:=Option.isSome_iff_exists.1 h.1
  have hi:∃i,P.info? f.type=some i∧i.size=n:=by
   unfold tsz at ht
   split at ht
   ·rename_i i d hi hd
    simp only[oI,Prod.mk.injEq]at ht
    exact⟨i,hi,ht.1⟩
   ·cases ht
  obtain⟨i,hi,rfl⟩:=hi
  refine⟨(f.offset,i.size)::pl,by simp[hi,h1],fun j=>?_⟩
  cases j with
  | zero=>simp[ht,plc]
  | succ j=>simpa using h2 j
theorem Zl1 {t:TypeId}{parts:List (Nat×AV)}(h:(ZgO P t parts).ok){qs:List (Nat×Value)}(hl:parts.length=qs.length)
  (hp:∀(i:Nat) p q,parts[i]?=some p→qs[i]?=some q→p.1=q.1∧Rep g p.2 q.2) :
  ∃v,(Instr.build t qs.toArray).run P w=.ok v w∧Rep g (ZgO P t parts).v v:=by
 unfold ZgO at h ⊢
 split at h
 ·rename_i zs hzs
  obtain⟨i,z,hi,hz,rfl,hone⟩:=Zoq hzs
  have hRL:=RepL.cells g z.cells hone
  split at h
  ·rename_i k e n ha
   split at h
   ·rename_i cs hf
    obtain⟨arr',e1,e2,-,-⟩:=Zi3 _ parts qs _ _ _ hRL hl hp hf hone
    refine⟨.agg arr',run_build w t _ arr' ?_,by exact .agg _ _ e2.1 e2.2⟩
    unfold arT at ha
    split at ha
    ·rename_i k' e' hu
     simp only[Option.map_eq_some_iff,Prod.mk.injEq]at ha
     obtain⟨ie,hie,rfl,rfl,rfl⟩:=ha
     unfold Program.built
     simp only[hi,hu,hz,hie]
     exact e1
    ·cases ha
   ·exact h.elim
  ·rename_i ha
   split at h
   ·rename_i cs hf
    obtain⟨arr',e1,e2,-,-⟩:=Zi3 _ parts qs _ _ _ hRL hl hp hf hone
    refine⟨.agg arr',run_build w t _ arr' ?_,by exact .agg _ _ e2.1 e2.2⟩
    obtain⟨h1,h2⟩:=h
    have hs:∃fs,P.underlying t=some (.struct fs):=by
     unfold isStr at h2
     split at h2
     ·rename_i fs hu;exact⟨fs,hu⟩
     ·cases h2
    obtain⟨fs,hu⟩:=hs
    unfold flds at h1 e1
    simp only[hu]at h1 e1
    obtain⟨pl,hpl,hget⟩:=Zl0 (P:=P) fs.toList (by rw[List.all_map]at h1;exact h1)
    unfold Program.built
    simp only[hi,hu,hz,hpl]
    rw[← e1]
    refine ZqD _ _ (fun j=>?_) _ _
    rw[List.getElem?_toArray]
    exact hget j
   ·exact h.elim
 ·exact h.elim
end
def Br (b:Bool)(x y:Prop):Prop:=(b=true→x)∧(b=false→y)
theorem Zk8 (x y:Prop):Br true x y=x:=by simp[Br]
theorem ZqE (x y:Prop):Br false x y=y:=by simp[Br]
theorem Br.intro {b:Bool}{x y:Prop}(h:b=true→x)(h':b=false→y):Br b x y:=⟨h,h'⟩
theorem Br.mono {b:Bool}{x y x' y':Prop}(h:Br b x y)(hx:x→x')(hy:y→y'):Br b x' y':=⟨fun e=>hx (h.1 e),fun e=>hy (h.2 e)⟩
abbrev Tm:=Nat→AV
def Zc3:AV:=.d (.lit undef)
def Zcr (tm:Tm)(ps:Array (Nat×Operand)):List (Nat×AV):=ps.toList.map fun p=>(p.1,opnd tm p.2)
def argsA (tm:Tm)(xs:Array Operand):List AV:=xs.toList.map (opnd tm)
def ZhQ:Builtin→Bool
 | .append=>true
 | _=>false
def eff (P:Program)(tm:Tm)(st:St)(K:AV→St→Prop):Op→Prop
 | .load t x=>(match opnd tm x with
  | .ptr id off=>(match tsz P t with
   | some (n,a)=>opOk x=true∧(sub (st.obj id).2 off n a).ok∧K (sub (st.obj id).2 off n a).v st
   | none=>False)
  | .pp cs=>(match tsz P t with
   | some (n,a)=>opOk x=true∧(sub cs 0 n a).ok∧K (sub cs 0 n a).v st
   | none=>False)
  | _=>False)
 | .store t x y=>(match opnd tm x with
  | .ptr id off=>(match tsz P t with
   | some (n,_)=>opOk x=true∧opOk y=true∧(Zak (opnd tm y)).length=n∧(Zak (opnd tm y)).all ZaQ=true∧off+n≤(st.obj id).2.length∧st.fz id=false ∧
     K Zc3 (st.setc id (ZaO (st.obj id).2 off (Zak (opnd tm y))))
   | none=>False)
  | _=>False)
 | .alloc t=>(match zeroC P t with
  | some cs=>K (.ptr st.n 0) (st.push t cs)
  | none=>False)
 | .box t x=>opOk x=true∧(Zak (opnd tm x)).all ZaQ=true∧K (.ptr st.n 0) (st.push t (Zak (opnd tm x)))
 | .build t ps=>(ps.toList.all fun p=>opOk p.2)=true∧(ZgO P t (Zcr tm ps)).ok∧K (ZgO P t (Zcr tm ps)).v st
 | .buildSlice t len ps=>(ps.toList.all fun p=>opOk p.2)=true∧Zc2 P t len (Zcr tm ps) st K
 | .call c=>(match c.callee with
  | .value f=>opOk f=true∧c.args.toList.all opOk=true∧callA P (opnd tm f) (argsA tm c.args) st K
  | .invoke r name=>opOk r=true∧c.args.toList.all opOk=true∧Zil P (opnd tm r) name (argsA tm c.args) st K
  | .builtin b=>(match ZhQ b,c.args.toList,c.argTypes.toList with
   | true,[s,x],[t,t']=>opOk s=true∧opOk x=true∧t=t'∧Zk4 P t (opnd tm s) (opnd tm x) st K
   | _,_,_=>(ZfT P tm c.callee c.args.toList c.argTypes.toList).ok∧K (ZfT P tm c.callee c.args.toList c.argTypes.toList).v st))
 | op=>(ev P tm op).ok∧K (ev P tm op).v st
def dstOk (nt:Nat)(dst:Option Nat):Bool:=match dst with | some d=>decide (d<nt) | none=>true
def wpO (P:Program)(nt:Nat)(o:Oper)(tm:Tm)(st:St)(K:Tm→St→Prop):Prop:=dstOk nt o.dst=true∧eff P tm st (fun v st'=>K (put tm o.dst v) st') o.op
end Go.AW

namespace Go.AW
open Go.RowKit
section
variable {P:Program}{w:World}{g:Gh}{st:St}
theorem Zl2 {nt:Nat}{tm:Tm}{a:Act}(hT:RT g nt tm a){ps:Array (Nat×Operand)}(h:(ps.toList.all fun p=>opOk p.2)=true) :
  (Zcr tm ps).length=(ps.toList.map fun p=>(p.1,a.eval p.2)).length ∧
  ∀(i:Nat) p q,(Zcr tm ps)[i]?=some p→(ps.toList.map fun p=>(p.1,a.eval p.2))[i]?=some q→p.1=q.1∧Rep g p.2 q.2:=by
 refine⟨by simp[Zcr],fun i p q h1 h2=>?_⟩
 simp only[Zcr,List.getElem?_map,Option.map_eq_some_iff]at h1 h2
 obtain⟨x,hx,rfl⟩:=h1
 obtain⟨y,hy,rfl⟩:=h2
 rw[hx]at hy
 cases hy
 exact⟨rfl,Zap hT (List.all_eq_true.1 h x (List.mem_of_getElem? hx))⟩
theorem RepL.cat {as bs:List AV}{us vs:Array Value}(h:RepL g as us)(h':RepL g bs vs):RepL g (as++bs) (us++vs):=by
 refine⟨by simp[h.1,h'.1],fun i a v h1 h2=>?_⟩
 rw[List.getElem?_append]at h1
 rw[Array.getElem?_append]at h2
 rw[← h.1]at h2
 split at h1
 ·rename_i hc
  rw[if_pos hc]at h2
  exact h.2 i a v h1 h2
 ·rename_i hc
  rw[if_neg hc]at h2
  exact h'.2 _ a v h1 h2
theorem ZiP {k:FuncId}(h:enters P k=true)(args:Array Value):(callFunc k args).run P w=.ok (.enter k args) w:=by
 unfold enters at h
 split at h
 ·rename_i fn hf
  simp only[bA,bne_iff_ne,ne_eq]at h
  obtain⟨h1,h2⟩:=h
  simp only[callFunc,Sem.run_bind,run_program,Result.andThen_ok,hf]
  rw[if_neg (by simpa using h2)]
  have hb:fn.body.isNone=false:=by cases hx:fn.body <;> simp_all
  rw[if_neg (by rw[hb];simp)]
  rfl
 ·cases h
theorem RepL.cons_inv {a:AV}{as:List AV}{us:Array Value}(h:RepL g (a::as) us):∃u vs,us=#[u]++vs∧Rep g a u∧RepL g as vs:=by
 have hl:us.size=as.length+1:=by rw[← h.1];rfl
 have hpos:0<us.size:=by omega
 refine⟨us[0]'hpos,us.extract 1 us.size,?_,h.2 0 _ _ rfl (Array.getElem?_eq_getElem hpos),?_,fun i b v h1 h2=>?_⟩
 ·apply Array.ext'
  simp only[Array.toList_append,Array.toList_extract,List.extract_eq_take_drop]
  cases hx:us.toList with
  | nil=>have:=congrArg List.length hx;rw[Array.length_toList]at this;simp only[List.length_nil]at this;omega
  | cons x xs=>
   have e1:us[0]'hpos=x:=by
    have:us.toList[0]?=some x:=by rw[hx];rfl
    simpa[Array.getElem?_eq_getElem hpos] using this
   have e2:us.size=xs.length+1:=by rw[← Array.length_toList,hx];rfl
   rw[e1]
   simp[e2]
 ·rw[Array.size_extract];omega
 ·rw[Array.getElem?_extract]at h2
  split at h2
  ·exact h.2 (i+1) b v (by simpa using h1) (by rw[Nat.add_comm];exact h2)
  ·cases h2
theorem Zg2 (hR:RP P w g st){k:FuncId}{args:List AV}{K:AV→St→Prop}(h:Ct P k args st K){vals:Array Value}(hv:RepL g args vals){o:Oper}{a:Act}{next:Act→World→Prop}{Q:Exit→Act→World→Prop}
  (hK:∀r st' g' w' v,K r st'→R w' g' st'→Rep g' r v→g.le g'→Below g.B w w'→next (a.put o.dst v) w') :
  o.upon P a next Q (.ok (.enter k vals) w):=by
 rw[Oper.upon_enter]
 refine(h.2 w g vals hR hv).mono ?_
 rintro e w' ⟨r,st',g',v,rfl,hQ,hR',hrep,hle,hb⟩
 exact hK r st' g' w' v hQ hR' hrep hle hb
theorem Meth.run {t:TypeId}{name:String}{k:FuncId}(h:Meth P t name k)(hk:enters P k=true)(v:Value)(args:Array Value) :
  (callMethod (.iface t v) name args).run P w=.ok (.enter k (#[v]++args)) w:=by
 unfold callMethod
 simp only[Sem.run_bind,run_program,Result.andThen_ok,h v w]
 exact ZiP hk _
theorem Zm6 (hR:RP P w g st){f:AV}{args:List AV}{K:AV→St→Prop}(h:callA P f args st K){fv:Value}(hf:Rep g f fv){vals:Array Value}(hv:RepL g args vals){o:Oper}{a:Act}{next:Act→World→Prop}{Q:Exit→Act→World→Prop}
  (hK:∀r st' g' w' v,K r st'→R w' g' st'→Rep g' r v→g.le g'→Below g.B w w'→next (a.put o.dst v) w') :
  o.upon P a next Q ((do let d ← Deferred.ofValue fv vals;invoke d.target d.args:Sem Next).run P w):=by
 unfold callA at h
 split at h
 ·rename_i k fs cs
  obtain⟨us,vs,rfl,h1,h2⟩:=hf.fn_inv
  simp only[Deferred.ofValue,Sem.run_bind,Sem.run_pure,Result.andThen_ok,invoke,ZiP h.1]
  exact Zg2 hR h ((h1.cat hv).cat h2) hK
 ·rename_i name t v
  obtain⟨k,hm,hk⟩:=h
  obtain⟨us,vs,rfl,h1,h2⟩:=hf.fn_inv
  obtain⟨u,us',rfl,hu,h1'⟩:=h1.cons_inv
  obtain⟨x,rfl,hx⟩:=hu.ifc_inv
  have hus:us'=#[]:=by have:=h1'.1;simpa using this.symm
  subst hus
  have e1:(#[Value.iface t x]++#[]++vals)[0]?=some (.iface t x):=by simp[Array.getElem?_append]
  have e2:(#[Value.iface t x]++#[]++vals).extract 1 (#[Value.iface t x]++#[]++vals).size=vals:=by
   apply Array.ext'
   simp
  simp only[Deferred.ofValue,Sem.run_bind,Sem.run_pure,Result.andThen_ok,invoke,e1,e2,hm.run hk.1]
  refine Zg2 hR hk ?_ hK
  exact RepL.cat (as:=[v]) ⟨rfl,fun i b u h1 h2=>by
   cases i with
   | zero=>simp at h1 h2;subst h1;subst h2;exact hx
   | succ i=>simp at h1⟩ hv
 ·rename_i t0 name
  split at h
  ·rename_i t v rest
   split at h
   ·rename_i ms hms
    obtain⟨k,hm,hk⟩:=h
    obtain⟨us,vs,rfl,h1,h2⟩:=hf.fn_inv
    have hus:us=#[]:=by have:=h1.1;simpa using this.symm
    subst hus
    obtain⟨u,us',rfl,hu,h1'⟩:=hv.cons_inv
    obtain⟨x,rfl,hx⟩:=hu.ifc_inv
    have e1:(#[]++(#[Value.iface t x]++us'))[0]?=some (.iface t x):=by simp[Array.getElem?_append]
    have e2:(#[]++(#[Value.iface t x]++us')).extract 1 (#[]++(#[Value.iface t x]++us')).size=us':=by
     apply Array.ext'
     simp
    simp only[Deferred.ofValue,Sem.run_bind,Sem.run_pure,Result.andThen_ok,invoke,e1,e2,run_underlying hms,hm.run hk.1]
    refine Zg2 hR hk ?_ hK
    exact RepL.cat (as:=[v]) ⟨rfl,fun i b u h1 h2=>by
     cases i with
     | zero=>simp at h1 h2;subst h1;subst h2;exact hx
     | succ i=>simp at h1⟩ h1'
   ·exact h.elim
  ·exact h.elim
 ·exact h.elim
theorem Zk9 (hR:RP P w g st){f:AV}{name:String}{args:List AV}{K:AV→St→Prop}(h:Zil P f name args st K){fv:Value}(hf:Rep g f fv){vals:Array Value}(hv:RepL g args vals){o:Oper}{a:Act}{next:Act→World→Prop}{Q:Exit→Act→World→Prop}
  (hK:∀r st' g' w' v,K r st'→R w' g' st'→Rep g' r v→g.le g'→Below g.B w w'→next (a.put o.dst v) w') :
  o.upon P a next Q ((invoke (.fn (.method name) #[]) (#[fv]++vals)).run P w):=by
 unfold Zil at h
 split at h
 ·rename_i t v
  obtain⟨k,hm,hk⟩:=h
  obtain⟨x,rfl,hx⟩:=hf.ifc_inv
  have e1:(#[Value.iface t x]++vals)[0]?=some (.iface t x):=by simp[Array.getElem?_append]
  have e2:(#[Value.iface t x]++vals).extract 1 (#[Value.iface t x]++vals).size=vals:=by
   apply Array.ext'
   simp
  simp only[invoke,e1,e2,hm.run hk.1]
  refine Zg2 hR hk ?_ hK
  exact RepL.cat (as:=[v]) ⟨rfl,fun i b u h1 h2=>by
   cases i with
   | zero=>simp at h1 h2;subst h1;subst h2;exact hx
   | succ i=>simp at h1⟩ hv
 ·exact h.elim
theorem Zpn (hP:RP P w g st){nt:Nat}{tm:Tm}{a:Act}(hT:RT g nt tm a){o:Oper}{K:AV→St→Prop}(h:eff P tm st K o.op){next:Act→World→Prop}{Q:Exit→Act→World→Prop}
  (hK:∀r st' g' w' v,K r st'→R w' g' st'→Rep g' r v→g.le g'→Below g.B w w'→next (a.put o.dst v) w'):o.wp P a w next Q:=by
 have hR:=hP.toR
 have pure_:(ev P tm o.op).ok→K (ev P tm o.op).v st→o.wp P a w next Q:=by
  intro h1 h2
  obtain⟨v,hv,hr⟩:=ZqB hR hT h1
  unfold Oper.wp
  rw[hv,Oper.upon_value]
  exact hK _ _ g w v h2 hR hr (Gh.le.refl g) (Below.refl _ _)
 rcases o with⟨dst,op,ty,pos,after,guard⟩
 cases op with
 | load t x=>
  simp only[eff]at h
  split at h
  ·rename_i id off hx
   split at h
   ·rename_i n ag ht
    obtain⟨h1,h2,h3⟩:=h
    obtain⟨hid,ex⟩:=(hx ▸ Zap hT h1).ptr_inv
    obtain⟨v,hv,hr⟩:=ZgL (P:=P) hR (by rw[← hR.hn];exact hid) ht h2
    unfold Oper.wp
    simp only[execOp,ex,Instr.loadAt,Instr.sureAddr,Sem.run_bind,Sem.run_pure,Result.andThen_ok,hv]
    exact hK _ _ g w v h3 hR hr (Gh.le.refl g) (Below.refl _ _)
   ·exact h.elim
  ·rename_i cs hx
   split at h
   ·rename_i n ag ht
    obtain⟨h1,h2,h3⟩:=h
    obtain⟨b,o,c,ex,hp,hr⟩:=(hx ▸ Zap hT h1).pp_inv
    obtain⟨v,hv,hrep⟩:=ZgK (P:=P) hR ht hp hr h2
    unfold Oper.wp
    simp only[execOp,ex,Instr.loadAt,Instr.sureAddr,Sem.run_bind,Sem.run_pure,Result.andThen_ok,hv]
    exact hK _ _ g w v h3 hR hrep (Gh.le.refl g) (Below.refl _ _)
   ·exact h.elim
  ·exact h.elim
 | store t x y=>
  simp only[eff]at h
  split at h
  ·rename_i id off hx
   split at h
   ·rename_i n ag ht
    obtain⟨h1,h2,h3,h4,h5,hz,h6⟩:=h
    obtain⟨hid,ex⟩:=(hx ▸ Zap hT h1).ptr_inv
    obtain⟨w',hv,hr,hb⟩:=ZiW (P:=P) hR (by rw[← hR.hn];exact hid) hz ht (Zap hT h2) h3 h4 h5
    unfold Oper.wp
    simp only[execOp,ex,Instr.storeAt,Instr.sureAddr,Sem.run_bind,Sem.run_pure,Result.andThen_ok,hv]
    exact hK _ _ g w' undef h6 hr .undef (Gh.le.refl g) hb
   ·exact h.elim
  ·exact h.elim
 | alloc t=>
  simp only[eff]at h
  split at h
  ·rename_i cs hz
   obtain⟨z,hz1,rfl,hz3⟩:=ZjB (P:=P) (w:=w) hz
   unfold Oper.wp
   simp only[execOp,Instr.alloc,Sem.run_bind,hz1,Result.andThen_ok,Sem.run_pure,Zkh]
   have hR':=hR.alloc t (RepL.cells g z.cells hz3)
   exact hK _ _ _ _ _ h hR' (by
    have:=Rep.ptr (g:=g.push w.heap.size) st.n 0 (by simp[Gh.push,hR.hn])
    simpa[Gh.push,upd,hR.hn] using this) (g.le_push _) ((Below.refl _ w).alloc hR.base _)
  ·exact h.elim
 | box t x=>
  simp only[eff]at h
  obtain⟨h1,h2,h3⟩:=h
  unfold Oper.wp
  simp only[execOp,Instr.box,Sem.run_bind,Result.andThen_ok,Sem.run_pure,Zkh]
  have hR':=hR.alloc t (Zik (Zap hT h1) h2).1
  exact hK _ _ _ _ _ h3 hR' (by
   have:=Rep.ptr (g:=g.push w.heap.size) st.n 0 (by simp[Gh.push,hR.hn])
   simpa[Gh.push,upd,hR.hn] using this) (g.le_push _) ((Below.refl _ w).alloc hR.base _)
 | build t ps=>
  simp only[eff]at h
  obtain⟨h1,h2,h3⟩:=h
  obtain⟨hl,hp⟩:=Zl2 hT h1
  obtain⟨v,hv,hr⟩:=Zl1 (w:=w) h2 hl hp
  unfold Oper.wp
  have e:(ps.map fun(x:Nat×Operand)=>(x.1,a.eval x.2))=(ps.toList.map fun p=>(p.1,a.eval p.2)).toArray:=by apply Array.ext';simp
  simp only[execOp,e,Sem.run_bind,hv,Result.andThen_ok,Sem.run_pure]
  exact hK _ _ g w v h3 hR hr (Gh.le.refl g) (Below.refl _ _)
 | buildSlice t len ps=>
  simp only[eff]at h
  obtain⟨h1,h2⟩:=h
  obtain⟨hl,hp⟩:=Zl2 hT h1
  obtain⟨v,w',hv,r,st',g',hk,hR',hr,hle,hb⟩:=ZiX hR h2 hl hp
  unfold Oper.wp
  have e:(ps.map fun(x:Nat×Operand)=>(x.1,a.eval x.2))=(ps.toList.map fun p=>(p.1,a.eval p.2)).toArray:=by apply Array.ext';simp
  simp only[execOp,e,Sem.run_bind,hv,Result.andThen_ok,Sem.run_pure]
  exact hK _ _ g' w' v hk hR' hr hle hb
 | call c=>
  rcases c with⟨callee,⟨args⟩,⟨tys⟩⟩
  simp only[eff]at h
  cases callee with
  | value f=>
   obtain⟨h1,h2,h3⟩:=h
   unfold Oper.wp
   have hr:=RepL.opnds hT ⟨args⟩ h2
   have:=Zm6 hP h3 (Zap hT h1) hr (o:=⟨dst,.call ⟨.value f,⟨args⟩,⟨tys⟩⟩,ty,pos,after,guard⟩) (a:=a) (next:=next) (Q:=Q) hK
   simpa only[execOp,resolve] using this
  | invoke r name=>
   obtain⟨h1,h2,h3⟩:=h
   unfold Oper.wp
   have hr:=RepL.opnds hT ⟨args⟩ h2
   have:=Zk9 hP h3 (Zap hT h1) hr (o:=⟨dst,.call ⟨.invoke r name,⟨args⟩,⟨tys⟩⟩,ty,pos,after,guard⟩) (a:=a) (next:=next) (Q:=Q) hK
   simpa only[execOp,resolve,Sem.run_bind,Sem.run_pure,Result.andThen_ok] using this
  | builtin b=>
   simp only at h
   split at h
   ·rename_i s x t t' hb
    obtain⟨h1,h2,rfl,h4⟩:=h
    have hb':b=.append:=by cases b <;> first | rfl | (simp[ZhQ]at hb)
    subst hb'
    obtain⟨v,w',hv,r,st',g',hk,hR',hr,hle,hbel⟩:=ZlX hR h4 (Zap hT h1) (Zap hT h2) ty
    unfold Oper.wp
    simp only[execOp,resolve,invoke,builtin,Sem.run_bind,Sem.run_pure,Result.andThen_ok,List.map_toArray,List.map_cons,List.map_nil,hv]
    exact hK _ _ g' w' v hk hR' hr hle hbel
   ·exact pure_ h.1 h.2
 | _=>exact pure_ h.1 h.2
end
end Go.AW

namespace Go.AW
open Go.RowKit
def gdec (ops:List Oper)(tm:Tm)(gd:Option (Nat×Bool)):Option Bool:=match gd with
 | none=>some true
 | some (j,want)=>(match (ops[j]?).bind (·.dst)with
  | some d=>(match tm d with
   | .d (.lit (.bool b))=>some (b==want)
   | .d (.lit (.tuple _))=>some false
   | _=>none)
  | none=>none)
def wpAt (P:Program)(nt:Nat)(ops:List Oper)(o:Oper)(tm:Tm)(st:St)(K:Tm→St→Prop):Prop:=match gdec ops tm o.guard with
 | some b=>Br b (wpO P nt o tm st K) (dstOk nt o.dst=true∧K (put tm o.dst Zc3) st)
 | none=>False
def wpL (P:Program)(nt:Nat)(ops:List Oper):List Oper→Tm→St→(Tm→St→Prop)→Prop
 | [],tm,st,K=>K tm st
 | o::rest,tm,st,K=>wpAt P nt ops o tm st fun tm' st'=>wpL P nt ops rest tm' st' K
theorem Zor {P:Program}{f:AV}{args:List AV}{st:St}{K K':AV→St→Prop}(h:callA P f args st K)(hk:∀r st',K r st'→K' r st'):callA P f args st K':=by
 unfold callA at *
 split at h
 ·exact h.mono hk
 ·obtain⟨k,hm,hf⟩:=h;exact⟨k,hm,hf.mono hk⟩
 ·split at h
  ·split at h
   ·obtain⟨k,hm,hf⟩:=h;exact⟨k,hm,hf.mono hk⟩
   ·exact h.elim
  ·exact h.elim
 ·exact h.elim
theorem Zl3 {P:Program}{f:AV}{n:String}{args:List AV}{st:St}{K K':AV→St→Prop}(h:Zil P f n args st K)(hk:∀r st',K r st'→K' r st'):Zil P f n args st K':=by
 unfold Zil at *
 split at h
 ·obtain⟨k,hm,hf⟩:=h;exact⟨k,hm,hf.mono hk⟩
 ·exact h.elim
theorem Zl4 {P:Program}{t:TypeId}{s x:AV}{st:St}{K K':AV→St→Prop}(h:Zk4 P t s x st K)(hk:∀r st',K r st'→K' r st'):Zk4 P t s x st K':=by
 rcases h with h | h
 ·refine .inl ?_
  unfold ZgM at *
  split at h
  ·obtain⟨h1,h2,h3,h4⟩:=h
   refine⟨h1,h2,h3,?_⟩
   split at h4
   ·exact⟨h4.1,h4.2.1,hk _ _ h4.2.2⟩
   ·exact⟨h4.1,h4.2.1,h4.2.2.1,h4.2.2.2.1,hk _ _ h4.2.2.2.2⟩
   ·exact h4.elim
  ·exact h.elim
 ·obtain⟨e,n,by_,ys,h1,h2,h3,h4,h5,h6,h7⟩:=h
  refine .inr ⟨e,n,by_,ys,h1,h2,h3,h4,h5,h6,?_⟩
  rcases h7 with⟨q1,q2,q3,q4,q5⟩ | ⟨id,cap,xs,q1,q2,q3,q4,q5,q6,q7,q8,q9,q10⟩
  ·exact .inl ⟨q1,q2,q3,fun e=>hk _ _ (q4 e),fun cap zs c0 c1 c2=>hk _ _ (q5 cap zs c0 c1 c2)⟩
  ·exact .inr ⟨id,cap,xs,q1,q2,q3,q4,q5,q6,q7,q8,fun c=>hk _ _ (q9 c),fun c cap' zs c1 c2=>hk _ _ (q10 c cap' zs c1 c2)⟩
theorem ZiY {P:Program}{t:TypeId}{len:Nat}{ps:List (Nat×AV)}{st:St}{K K':AV→St→Prop}(h:Zc2 P t len ps st K)(hk:∀r st',K r st'→K' r st'):Zc2 P t len ps st K':=by
 unfold Zc2 at *
 split at h
 ·obtain⟨h1,h2,h3,h4,h5,h6,h6',h7⟩:=h
  refine⟨h1,h2,h3,h4,h5,h6,h6',?_⟩
  split at h7
  ·exact hk _ _ h7
  ·exact hk _ _ h7
 ·exact h.elim
theorem ZqF {P:Program}{tm:Tm}{st:St}{K K':AV→St→Prop}{op:Op}(h:eff P tm st K op)(hk:∀r st',K r st'→K' r st'):eff P tm st K' op:=by
 cases op with
 | load t x=>
  simp only[eff]at h ⊢
  split at h
  ·split at h
   ·exact⟨h.1,h.2.1,hk _ _ h.2.2⟩
   ·exact h.elim
  ·split at h
   ·exact⟨h.1,h.2.1,hk _ _ h.2.2⟩
   ·exact h.elim
  ·exact h.elim
 | store t x y=>
  simp only[eff]at h ⊢
  split at h
  ·split at h
   ·exact⟨h.1,h.2.1,h.2.2.1,h.2.2.2.1,h.2.2.2.2.1,h.2.2.2.2.2.1,hk _ _ h.2.2.2.2.2.2⟩
   ·exact h.elim
  ·exact h.elim
 | alloc t=>
  simp only[eff]at h ⊢
  split at h
  ·exact hk _ _ h
  ·exact h.elim
 | box t x=>exact⟨h.1,h.2.1,hk _ _ h.2.2⟩
 | build t ps=>exact⟨h.1,h.2.1,hk _ _ h.2.2⟩
 | buildSlice t len ps=>exact⟨h.1,ZiY h.2 hk⟩
 | call c=>
  rcases c with⟨callee,args,tys⟩
  simp only[eff]at h ⊢
  cases callee with
  | value f=>exact⟨h.1,h.2.1,Zor h.2.2 hk⟩
  | invoke r name=>exact⟨h.1,h.2.1,Zl3 h.2.2 hk⟩
  | builtin b=>
   simp only at h ⊢
   split at h
   ·exact⟨h.1,h.2.1,h.2.2.1,Zl4 h.2.2.2 hk⟩
   ·exact⟨h.1,hk _ _ h.2⟩
 | _=>exact⟨h.1,hk _ _ h.2⟩
def Con (nt:Nat)(w0:World)(g0:Gh)(K:Tm→St→Prop)(a:Act)(w:World):Prop:=∃tm st g,K tm st∧R w g st∧RT g nt tm a∧g0.le g∧Below g0.B w0 w
theorem Con.trans {nt:Nat}{w0 w1:World}{g0 g1:Gh}{K:Tm→St→Prop}{a:Act}{w:World}(h:Con nt w1 g1 K a w)(hle:g0.le g1)(hb:Below g0.B w0 w1):Con nt w0 g0 K a w:=by
 obtain⟨tm,st,g,h1,h2,h3,h4,h5⟩:=h
 exact⟨tm,st,g,h1,h2,h3,hle.trans h4,hb.trans (by rw[← hle.B];exact h5)⟩
section
variable {P:Program}{w:World}{g:Gh}{st:St}{nt:Nat}{tm:Tm}{a:Act}
theorem Zki {dst:Option Nat}(h:dstOk nt dst=true):∀d,dst=some d→d<nt:=by
 rintro d rfl
 simpa[dstOk] using h
theorem Zpo (hR:RP P w g st)(hT:RT g nt tm a){o:Oper}{K:Tm→St→Prop}(h:wpO P nt o tm st K)(Q:Exit→Act→World→Prop):o.wp P a w (Con nt w g K) Q:=
 Zpn hR hT h.2 fun _ _ _ _ _ hk hR' hr hle hb=>⟨_,_,_,hk,hR',(hT.mono hle).put o.dst (Zki h.1) hr,hle,hb⟩
theorem Zkj (hT:RT g nt tm a){ops:Array Oper}{o:Oper}{b:Bool}(h:gdec ops.toList tm o.guard=some b):Region.wanted o (yielded ops a.tmps)=b:=by
 unfold gdec at h
 unfold Region.wanted
 split at h
 ·rename_i hg;rw[hg];simpa using h
 ·rename_i j want hg
  rw[hg]
  simp only
  split at h
  ·rename_i d hd
   have hd':(ops[j]?).bind (·.dst)=some d:=by rw[← hd];simp
   have hrep:=hT.rep d
   split at h
   ·rename_i b' hb'
    rw[hb']at hrep
    have e:=hrep.lit_inv
    simp only[oI]at h
    subst h
    have ht:a.tmps[d]?=some (.bool b'):=by
     rw[Array.getD_eq_getD_getElem?]at e
     cases hx:a.tmps[d]? with
     | none=>rw[hx]at e;cases e
     | some u=>rw[hx]at e;exact congrArg some e
    simp only[yielded,hd',Option.bind_some,ht]
    cases b' <;> cases want <;> rfl
   ·rename_i vs hb'
    rw[hb']at hrep
    simp only[oI]at h
    subst h
    have hy:yielded ops a.tmps j=none:=by
     have e:a.tmps.getD d undef=.tuple vs:=by
      generalize a.tmps.getD d undef=z at hrep
      cases hrep with
      | d hh=>cases hh with | lit _ hv=>cases hv
      | undef=>rfl
     rw[Array.getD_eq_getD_getElem?]at e
     simp only[yielded,hd',Option.bind_some]
     cases hx:a.tmps[d]? with
     | none=>rfl
     | some u=>rw[hx]at e;have e':u=.tuple vs:=e;subst e';rfl
    rw[hy]
    rfl
   ·cases h
  ·cases h
theorem Zes (hR:RP P w g st)(hT:RT g nt tm a){ops:Array Oper}{i:Nat}{o:Oper}(ho:ops[i]?=some o){K:Tm→St→Prop}(h:wpAt P nt ops.toList o tm st K)(Q:Exit→Act→World→Prop) :
  wpOp P ops Q i (Con nt w g K) a w:=by
 unfold wpAt at h
 unfold wpOp
 simp only[ho]
 split at h
 ·rename_i b hb
  rw[Zkj hT hb]
  cases b with
  | true=>
   rw[Zk8]at h
   exact .inl (Zpo hR hT h Q)
  | false=>
   rw[ZqE]at h
   exact⟨_,_,g,h.2,hR.toR,hT.put o.dst (Zki h.1) .undef,Gh.le.refl g,Below.refl _ _⟩
 ·exact h.elim
theorem Zl5 {ops:Array Oper}{Q:Exit→Act→World→Prop}{K:Tm→St→Prop}:∀(l:List Oper) (k:Nat) {w:World} {g:Gh} {st:St} {tm:Tm} {a:Act},(∀j,l[j]?=ops[k+j]?)→RP P w g st→RT g nt tm a→wpL P nt ops.toList l tm st K →
  (∀a' w',Con nt w g K a' w'→Q .normal a' w')→wpOps P ops Q (List.range' k l.length) a w
 | [],_,w,g,st,tm,a,_,hR,hT,h,hQ=>by
  simp only[List.length_nil,List.range'_zero,wpOps]
  exact hQ a w ⟨tm,st,g,h,hR.toR,hT,Gh.le.refl g,Below.refl _ _⟩
 | o::l,k,w,g,st,tm,a,hl,hR,hT,h,hQ=>by
  have ho:ops[k]?=some o:=by simpa using(hl 0).symm
  simp only[List.length_cons,List.range'_succ]
  rw[wpOps_cons]
  refine wpOp_mono ?_ (Zes hR hT ho h Q)
  rintro a' w' ⟨tm',st',g',h1,h2,h3,h4,h5⟩
  refine Zl5 l (k+1) (fun j=>?_) (hR.next h2 h4 h5) h3 h1 (fun a2 w2 hc=>hQ a2 w2 (hc.trans h4 h5))
  have:=hl (j+1)
  rw[List.getElem?_cons_succ]at this
  rw[this]
  congr 1
  omega
end
end Go.AW

namespace Go.AW
open Go.RowKit
def quiet:Op→Bool
 | .move _ | .assign _ | .pick .. | .nilCheck _ | .binOp .. | .unOp .. | .convert .. | .fieldAddr .. | .field .. | .indexAddr .. | .index .. | .extract .. | .makeFunc .. | .makeInterface .. | .build .. | .slice ..=>true
 | .call c=>(match c.callee with | .builtin b=>!ZhQ b | _=>false)
 | _=>false
def Zbz:Op→Bool
 | .load ..=>true
 | _=>false
def keeps (op:Op):Bool:=quiet op || Zbz op
def kv (P:Program)(tm:Tm)(st:St):Op→PV
 | .build t ps=>⟨(ps.toList.all fun p=>opOk p.2)=true∧(ZgO P t (Zcr tm ps)).ok,(ZgO P t (Zcr tm ps)).v⟩
 | .load t x=>(match opnd tm x with
  | .ptr id off=>(match tsz P t with
   | some (n,a)=>⟨opOk x=true∧(sub (st.obj id).2 off n a).ok,(sub (st.obj id).2 off n a).v⟩
   | none=>fails)
  | .pp cs=>(match tsz P t with
   | some (n,a)=>⟨opOk x=true∧(sub cs 0 n a).ok,(sub cs 0 n a).v⟩
   | none=>fails)
  | _=>fails)
 | op=>ev P tm op
section
variable {P:Program}
theorem Zl6 {op:Op}(h:keeps op=true)(tm:Tm)(st:St)(K:AV→St→Prop):eff P tm st K op↔(kv P tm st op).ok∧K (kv P tm st op).v st:=by
 cases op with
 | load t x=>
  simp only[eff,kv]
  cases opnd tm x with
  | ptr id off=>
   cases tsz P t with
   | none=>simp[fails]
   | some p=>simp only[and_assoc]
  | pp cs=>
   cases tsz P t with
   | none=>simp[fails]
   | some p=>simp only[and_assoc]
  | _=>simp[fails]
 | build t ps=>
  simp only[eff,kv]
  exact⟨fun h=>⟨⟨h.1,h.2.1⟩,h.2.2⟩,fun h=>⟨h.1.1,h.1.2,h.2⟩⟩
 | call c=>
  rcases c with⟨callee,args,tys⟩
  cases callee with
  | value f=>cases h
  | invoke r n=>cases h
  | builtin b=>
   have hb:ZhQ b=false:=by simpa[keeps,quiet,Zbz] using h
   simp only[eff,hb,kv,ev]
 | _=>first | exact Iff.rfl | cases h
theorem kv_st {op:Op}(h:quiet op=true)(tm:Tm)(st st':St):kv P tm st op=kv P tm st' op:=by
 cases op <;> first | rfl | cases h
theorem ZjD {tm tm':Tm}{xs:Array Operand}(h:∀x∈xs.toList,opnd tm x=opnd tm' x):argsA tm xs=argsA tm' xs:=List.map_congr_left h
theorem Zhr {tm tm':Tm}{ps:Array (Nat×Operand)}(h:∀x∈ps.toList.map (·.2),opnd tm x=opnd tm' x):Zcr tm ps=Zcr tm' ps:=
 List.map_congr_left fun p hp=>by rw[h p.2 (List.mem_map.2 ⟨p,hp,rfl⟩)]
theorem ZiQ {tm tm':Tm}{c:Callee}{args:List Operand}{tys:List TypeId}(h:∀x∈args,opnd tm x=opnd tm' x):ZfT P tm c args tys=ZfT P tm' c args tys:=by
 unfold ZfT
 split
 ·rw[h _ (by simp),h _ (by simp)]
 ·rw[h _ (by simp)]
 ·rfl
theorem Zkk {tm tm':Tm}{d:Int}{o:Option Operand}(h:∀x,o=some x→opnd tm x=opnd tm' x):bndV tm d o=bndV tm' d o:=by
 cases o with
 | none=>rfl
 | some x=>simp only[bndV];rw[h x rfl]
theorem ZnK {tm tm':Tm}{op:Op}(h:∀x∈op.operands.toList,opnd tm x=opnd tm' x):ev P tm op=ev P tm' op:=by
 cases op with
 | call c=>
  simp only[ev]
  refine ZiQ fun x hx=>h x ?_
  rcases c with⟨callee,args,tys⟩
  simp only[Op.operands,Call.operands,Array.toList_append,List.mem_append]
  exact .inr hx
 | makeFunc f fs cs=>
  simp only[ev]
  rw[List.map_congr_left (fun x hx=>h x (by simp only[Op.operands,Array.toList_append,List.mem_append];exact .inl hx)),List.map_congr_left (l:=cs.toList) (fun x hx=>h x (by simp only[Op.operands,Array.toList_append,List.mem_append];exact .inr hx))]
 | pick c x y=>simp only[ev];rw[h c (by simp[Op.operands]),h x (by simp[Op.operands]),h y (by simp[Op.operands])]
 | binOp o t x y t'=>simp only[ev];rw[h x (by simp[Op.operands]),h y (by simp[Op.operands])]
 | indexAddr t x y=>simp only[ev];rw[h x (by simp[Op.operands]),h y (by simp[Op.operands])]
 | index t x y=>simp only[ev];rw[h x (by simp[Op.operands]),h y (by simp[Op.operands])]
 | move x=>simp only[ev];rw[h x (by simp[Op.operands])]
 | assign x=>simp only[ev];rw[h x (by simp[Op.operands])]
 | nilCheck x=>simp only[ev];rw[h x (by simp[Op.operands])]
 | unOp o t x=>simp only[ev];rw[h x (by simp[Op.operands])]
 | convert s t x=>simp only[ev];rw[h x (by simp[Op.operands])]
 | fieldAddr s x f=>simp only[ev];rw[h x (by simp[Op.operands])]
 | field s x f=>simp only[ev];rw[h x (by simp[Op.operands])]
 | extract x i=>simp only[ev];rw[h x (by simp[Op.operands])]
 | makeInterface t x=>simp only[ev];rw[h x (by simp[Op.operands])]
 | load t x=>simp only[ev];rw[h x (by simp[Op.operands])]
 | slice t x lo hi mx=>
  cases mx with
  | some m=>rfl
  | none=>
   simp only[ev]
   have h1:bndV tm 0 lo=bndV tm' 0 lo:=Zkk fun y hy=>h y (by subst hy;simp[Op.operands])
   have h2:∀d,bndV tm d hi=bndV tm' d hi:=fun d=>Zkk fun y hy=>h y (by subst hy;simp[Op.operands])
   rw[h x (by simp[Op.operands]),h1,h2]
 | _=>rfl
theorem Zpp {tm tm':Tm}{st:St}{K:AV→St→Prop}{op:Op}(h:∀x∈op.operands.toList,opnd tm x=opnd tm' x):eff P tm st K op=eff P tm' st K op:=by
 cases op with
 | load t x=>simp only[eff];rw[h x (by simp[Op.operands])]
 | store t x y=>simp only[eff];rw[h x (by simp[Op.operands]),h y (by simp[Op.operands])]
 | alloc t=>rfl
 | box t x=>simp only[eff];rw[h x (by simp[Op.operands])]
 | build t ps=>
  simp only[eff]
  rw[Zhr (fun x hx=>h x (by simpa[Op.operands] using hx))]
 | buildSlice t len ps=>
  simp only[eff]
  rw[Zhr (fun x hx=>h x (by simpa[Op.operands] using hx))]
 | call c=>
  rcases c with⟨callee,args,tys⟩
  have hargs:∀x∈args.toList,opnd tm x=opnd tm' x:=fun x hx=>h x (by simp only[Op.operands,Call.operands,Array.toList_append,List.mem_append];exact .inr hx)
  cases callee with
  | value f=>simp only[eff];rw[ZjD hargs,h f (by simp[Op.operands,Call.operands])]
  | invoke r n=>simp only[eff];rw[ZjD hargs,h r (by simp[Op.operands,Call.operands])]
  | builtin b=>
   simp only[eff]
   rw[ZiQ hargs]
   split
   ·rename_i s x t t' hb ha ht
    rw[hargs s (by rw[ha];simp),hargs x (by rw[ha];simp)]
   ·rfl
 | _=>
  simp only[eff]
  rw[ZnK h]
theorem Zla {tm tm':Tm}{st:St}{op:Op}(h:∀x∈op.operands.toList,opnd tm x=opnd tm' x):kv P tm st op=kv P tm' st op:=by
 cases op with
 | load t x=>simp only[kv];rw[h x (by simp[Op.operands])]
 | build t ps=>
  simp only[kv]
  rw[Zhr (fun x hx=>h x (by simpa[Op.operands] using hx))]
 | _=>exact ZnK (P:=P) h
theorem ZqG {tm:Tm}{dst:Option Nat}{v:AV}{x:Operand}(h:∀d,dst=some d→x≠.tmp d):opnd (put tm dst v) x=opnd tm x:=by
 cases dst with
 | none=>rfl
 | some d=>
  cases x with
  | tmp t=>
   simp only[opnd,put,upd]
   rw[if_neg (fun e=>h d rfl (by rw[e]))]
  | _=>rfl
theorem put_comm (tm:Tm){x y:Option Nat}(v u:AV)(h:∀d,x=some d→y≠some d):put (put tm x v) y u=put (put tm y u) x v:=by
 cases x with
 | none=>rfl
 | some d=>
  cases y with
  | none=>rfl
  | some e=>
   have hne:e≠d:=fun he=>h d rfl (by rw[he])
   funext i
   simp only[put,upd]
   by_cases h1:i=e
   ·by_cases h2:i=d
    ·exact absurd (h1.symm.trans h2) hne
    ·rw[if_pos h1,if_neg h2,if_pos h1]
   ·by_cases h2:i=d
    ·rw[if_neg h1,if_pos h2,if_pos h2]
    ·rw[if_neg h1,if_neg h2,if_neg h2,if_neg h1]
def F (P:Program)(nt:Nat)(ops:List Oper)(o:Oper)(tm:Tm)(st:St)(J:AV→St→Prop):Prop:=
 ∃b,gdec ops tm o.guard=some b∧dstOk nt o.dst=true∧(b=true→eff P tm st J o.op)∧(b=false→J Zc3 st)
theorem Zgz {nt:Nat}{ops:List Oper}{o:Oper}{tm:Tm}{st:St}{K:Tm→St→Prop}:wpAt P nt ops o tm st K↔F P nt ops o tm st (fun v st'=>K (put tm o.dst v) st'):=by
 unfold wpAt F
 cases h:gdec ops tm o.guard with
 | none=>simp
 | some b=>cases b <;> simp[Br,wpO]
theorem F.mono {nt:Nat}{ops:List Oper}{o:Oper}{tm:Tm}{st:St}{J J':AV→St→Prop}(h:F P nt ops o tm st J)(hj:∀v st',J v st'→J' v st'):F P nt ops o tm st J':=by
 obtain⟨b,h1,h2,h3,h4⟩:=h
 exact⟨b,h1,h2,fun e=>ZqF (h3 e) hj,fun e=>hj _ _ (h4 e)⟩
def Alike (ops:Array Oper)(o:Oper)(tm tm':Tm):Prop:=(∀x∈o.op.operands.toList,opnd tm x=opnd tm' x)∧gdec ops.toList tm o.guard=gdec ops.toList tm' o.guard
theorem F.congr {nt:Nat}{ops:Array Oper}{o:Oper}{tm tm':Tm}{st:St}{J:AV→St→Prop}(h:Alike ops o tm tm'):F P nt ops.toList o tm st J↔F P nt ops.toList o tm' st J:=by
 unfold F
 rw[h.2,Zpp h.1]
def okAt (P:Program)(nt:Nat)(ops:List Oper)(o:Oper)(tm:Tm)(st:St):Prop:=∃b,gdec ops tm o.guard=some b∧dstOk nt o.dst=true∧(b=true→(kv P tm st o.op).ok)
def valAt (P:Program)(ops:List Oper)(o:Oper)(tm:Tm)(st:St):AV:=if gdec ops tm o.guard=some true then(kv P tm st o.op).v else Zc3
theorem ZcX {nt:Nat}{ops:List Oper}{o:Oper}(hk:keeps o.op=true){tm:Tm}{st:St}{J:AV→St→Prop}:F P nt ops o tm st J↔okAt P nt ops o tm st∧J (valAt P ops o tm st) st:=by
 unfold F okAt valAt
 cases h:gdec ops tm o.guard with
 | none=>simp
 | some b=>
  cases b
  ·simp
  ·simp[Zl6 hk]
   exact⟨fun h=>⟨⟨h.1,h.2.1⟩,h.2.2⟩,fun h=>⟨h.1.1,h.1.2,h.2⟩⟩
theorem ZbY {nt:Nat}{ops:Array Oper}{o:Oper}{tm tm':Tm}{st:St}(h:Alike ops o tm tm'):okAt P nt ops.toList o tm st=okAt P nt ops.toList o tm' st:=by
 unfold okAt
 rw[h.2,Zla h.1]
theorem Zgm {ops:Array Oper}{o:Oper}{tm tm':Tm}{st:St}(h:Alike ops o tm tm'):valAt P ops.toList o tm st=valAt P ops.toList o tm' st:=by
 unfold valAt
 rw[h.2,Zla h.1]
theorem ZjE {nt:Nat}{ops:List Oper}{o:Oper}(hq:quiet o.op=true){tm:Tm}(st st':St):okAt P nt ops o tm st=okAt P nt ops o tm st':=by
 unfold okAt
 rw[kv_st hq tm st st']
theorem ZnL {ops:List Oper}{o:Oper}(hq:quiet o.op=true){tm:Tm}(st st':St):valAt P ops o tm st=valAt P ops o tm st':=by
 unfold valAt
 rw[kv_st hq tm st st']
theorem ZbP {ops:Array Oper}{o:Oper}{tm:Tm}{dst:Option Nat}{v:AV}(h:∀d,dst=some d→d ∉ o.looksAt ops):Alike ops o (put tm dst v) tm:=by
 refine⟨fun x hx=>ZqG fun d hd e=>h d hd ?_,?_⟩
 ·subst e
  simp only[Oper.looksAt,List.mem_append,List.mem_filterMap]
  exact .inl ⟨_,hx,rfl⟩
 ·unfold gdec
  cases hg:o.guard with
  | none=>rfl
  | some p=>
   obtain⟨j,want⟩:=p
   simp only
   cases hd:(ops.toList[j]?).bind (·.dst)with
   | none=>rfl
   | some d=>
    simp only
    have hne:put tm dst v d=tm d:=by
     cases dst with
     | none=>rfl
     | some d'=>
      have:=h d' rfl
      simp only[put,upd]
      rw[if_neg]
      intro e
      subst e
      refine this ?_
      simp only[Oper.looksAt,List.mem_append,hg]
      refine .inr ?_
      have hd':(ops[j]?).bind (·.dst)=some d:=by rw[← hd];simp
      rw[hd']
      simp
    rw[hne]
def comm (ops:Array Oper)(a i:Oper):Bool:=a.apart ops i&&(quiet a.op || quiet i.op || (Zbz a.op&&Zbz i.op))
theorem swap {nt:Nat}{ops:Array Oper}{a i:Oper}(hc:comm ops a i=true){tm:Tm}{st:St}{K:Tm→St→Prop}(hok:keeps i.op=true→okAt P nt ops.toList i tm st)
  (h:wpAt P nt ops.toList a tm st (fun tm' st'=>wpAt P nt ops.toList i tm' st' K)):wpAt P nt ops.toList i tm st (fun tm' st'=>wpAt P nt ops.toList a tm' st' K):=by
 simp only[comm,bA,Bool.or_eq_true]at hc
 obtain⟨hap,hcl⟩:=hc
 obtain⟨h1,h2,h3⟩:=Oper.apart_spec hap
 rw[Zgz]at h ⊢
 simp only[Zgz]at h ⊢
 have ai:∀v,Alike ops i (put tm a.dst v) tm:=fun v=>ZbP h1
 have aa:∀v,Alike ops a (put tm i.dst v) tm:=fun v=>ZbP h3
 simp only[F.congr (ai _)]at h
 simp only[F.congr (aa _)]
 rcases hcl with(hq | hq) | ⟨hl1,hl2⟩
 ·have hk:keeps a.op=true:=by simp[keeps,hq]
  rw[ZcX hk]at h
  obtain⟨hoa,h⟩:=h
  refine h.mono fun v st' hv=>?_
  rw[ZcX hk]
  refine⟨by rw[ZjE hq st' st];exact hoa,?_⟩
  rw[ZnL hq st' st,← put_comm _ _ _ h2]
  exact hv
 ·have hk:keeps i.op=true:=by simp[keeps,hq]
  rw[ZcX hk]
  refine⟨hok hk,?_⟩
  refine h.mono fun v st' hv=>?_
  rw[ZcX hk]at hv
  rw[← put_comm _ _ _ h2,ZnL hq st st']
  exact hv.2
 ·have hk1:keeps a.op=true:=by simp[keeps,hl1]
  have hk2:keeps i.op=true:=by simp[keeps,hl2]
  rw[ZcX hk1,ZcX hk2]at h
  rw[ZcX hk2,ZcX hk1]
  obtain⟨hoa,hoi,hK⟩:=h
  exact⟨hoi,hoa,by rw[← put_comm _ _ _ h2];exact hK⟩
end
end Go.AW

namespace Go.AW
open Go.RowKit
section
variable {P:Program}{nt:Nat}
theorem ZqH {o:Oper}{a:Act}{w:World}(h:o.wp P a w (fun _ _=>False) (fun _ _ _=>False)):False:=by
 unfold Oper.wp at h
 generalize (execOp a.eval o).run P w=r at h
 cases r with
 | ok n w'=>
  cases n <;> simp only[Oper.upon]at h
  case enter f args=>
   obtain⟨e,w2,fr,h1,-⟩:=h []
   cases e with
   | returned v=>exact h1
   | panicked c=>exact h1
   | outgrown=>obtain⟨_,_,h2⟩:=h1;exact h2
  case row row args=>
   obtain⟨v,w2,h1,-⟩:=h default []
   exact h1
 | halt x w'=>cases x <;> simp only[Oper.upon]at h
theorem Zkl {ops:Array Oper}{i:Nat}{a:Act}{w:World}(h:wpOp P ops (fun _ _ _=>False) i (fun _ _=>False) a w):False:=by
 unfold wpOp at h
 split at h
 ·exact h
 ·split at h
  ·rcases h with h | ⟨-,_,_,h⟩
   ·exact ZqH h
   ·exact h
  ·exact h
theorem Zin {ops:Array Oper}{i:Oper}:∀(A:List Oper) {B:List Oper} {tm:Tm} {st:St} {K:Tm→St→Prop},(∀a∈A,comm ops a i=true)→(keeps i.op=true→okAt P nt ops.toList i tm st) →
  wpL P nt ops.toList (A++i::B) tm st K→wpAt P nt ops.toList i tm st (fun tm' st'=>wpL P nt ops.toList (A++B) tm' st' K)
 | [],_,_,_,_,_,_,h=>h
 | a::A,B,tm,st,K,hc,hok,h=>by
  have hca:=hc a (by simp)
  have hap:a.apart ops i=true:=by simp only[comm,bA]at hca;exact hca.1
  obtain⟨h1,h2,h3⟩:=Oper.apart_spec hap
  simp only[List.cons_append,wpL]at h ⊢
  refine swap hca hok ?_
  rw[Zgz]at h ⊢
  have hcl:quiet a.op=true∨quiet i.op=true∨(Zbz a.op=true∧Zbz i.op=true):=by
   simp only[comm,bA,Bool.or_eq_true]at hca
   rcases hca.2 with(h | h) | h
   ·exact .inl h
   ·exact .inr (.inl h)
   ·exact .inr (.inr h)
  by_cases hka:keeps a.op=true
  ·rw[ZcX hka]at h ⊢
   refine⟨h.1,Zin A (fun x hx=>hc x (by simp[hx])) (fun hk=>?_) h.2⟩
   rw[ZbY (ZbP h1)]
   exact hok hk
  ·have hqi:quiet i.op=true:=by
    rcases hcl with h | h | ⟨h,-⟩
    ·exact absurd (by simp[keeps,h]) hka
    ·exact h
    ·exact absurd (by simp[keeps,h]) hka
   refine h.mono fun v st' hv=>Zin A (fun x hx=>hc x (by simp[hx])) (fun hk=>?_) hv
   rw[ZbY (ZbP h1),ZjE hqi st' st]
   exact hok hk
theorem ZnM {ops:Array Oper}{i:Oper}(hk:keeps i.op=true):∀(A:List Oper) {B:List Oper} {w:World} {g:Gh} {a:Act} {tm:Tm} {st:St} {K:Tm→St→Prop},(∀x∈A,comm ops x i=true)→(∀x∈A,∃j:Nat,ops[j]?=some x) →
  RP P w g st→RT g nt tm a→wpL P nt ops.toList (A++i::B) tm st K→okAt P nt ops.toList i tm st
 | [],_,_,_,_,_,_,_,_,_,_,_,h=>by
  simp only[List.nil_append,wpL]at h
  rw[Zgz,ZcX hk]at h
  exact h.1
 | x::A,B,w,g,a,tm,st,K,hc,hi,hR,hT,h=>by
  have hca:=hc x (by simp)
  have hap:x.apart ops i=true:=by simp only[comm,bA]at hca;exact hca.1
  obtain⟨h1,h2,h3⟩:=Oper.apart_spec hap
  have hcl:quiet x.op=true∨quiet i.op=true∨(Zbz x.op=true∧Zbz i.op=true):=by
   simp only[comm,bA,Bool.or_eq_true]at hca
   rcases hca.2 with(h | h) | h
   ·exact .inl h
   ·exact .inr (.inl h)
   ·exact .inr (.inr h)
  simp only[List.cons_append,wpL]at h
  have h':wpAt P nt ops.toList x tm st (fun tm' st'=>wpL P nt ops.toList (A++i::B) tm' st' K∧(okAt P nt ops.toList i tm' st'→okAt P nt ops.toList i tm st)):=by
   rw[Zgz]at h ⊢
   by_cases hka:keeps x.op=true
   ·rw[ZcX hka]at h ⊢
    exact⟨h.1,h.2,fun ho=>by rw[ZbY (ZbP h1)]at ho;exact ho⟩
   ·have hqi:quiet i.op=true:=by
     rcases hcl with h | h | ⟨h,-⟩
     ·exact absurd (by simp[keeps,h]) hka
     ·exact h
     ·exact absurd (by simp[keeps,h]) hka
    exact h.mono fun v st' hv=>⟨hv,fun ho=>by rw[ZbY (ZbP h1),ZjE hqi st' st]at ho;exact ho⟩
  refine Classical.byContradiction fun hno=>?_
  obtain⟨j,hj⟩:=hi x (by simp)
  refine Zkl (P:=P) (ops:=ops) (i:=j) (a:=a) (w:=w) (wpOp_mono ?_ (Zes hR hT hj h' _))
  rintro a' w' ⟨tm',st',g',⟨hx1,hx2⟩,hR',hT',hle',hb'⟩
  exact hno (hx2 (ZnM hk A (fun y hy=>hc y (by simp[hy])) (fun y hy=>hi y (by simp[hy])) (hR.next hR' hle' hb') hT' hx1))
def anyOk (ops:Array Oper):Bool:=
 let anc:=Region.before ops
 (List.range ops.size).all fun i=>
  match ops[i]? with
  | none=>false
  | some o=>
   (o.after.toList.all fun e=>!Region.binds .any e || decide (e.on<i)) &&
   (List.range i).all fun a=>
    if (anc.getD i 0).testBit a then o.after.toList.any fun e=>Region.binds .any e&&(e.on==a || (decide (a<e.on)&&(anc.getD e.on 0).testBit a))
    else match ops[a]? with | none=>false | some x=>comm ops x o
def rem (ops:Array Oper)(listed:Array Bool):List Nat:=(List.range ops.size).filter fun i=>!listed.getD i true
def opsOf (ops:Array Oper)(l:List Nat):List Oper:=l.filterMap (ops[·]?)
theorem Zgn (n i:Nat)(h:i<n):List.range n=List.range i++i::List.range' (i+1) (n - i - 1):=by
 have h1:n=i+(n - i):=by omega
 rw[h1,List.range_eq_range',List.range_eq_range',← List.range'_append_1]
 congr 1
 rw[Nat.zero_add,show i+(n - i) - i - 1=n - i - 1 by omega,show n - i=(n - i - 1)+1 by omega,List.range'_succ]
 rw[show n - i - 1+1 - 1=n - i - 1 by omega]
theorem ZhR {ops:Array Oper}{listed:Array Bool}(hs:listed.size=ops.size){i:Nat}(hi:i<ops.size)(hl:listed.getD i true=false) :
  ∃A B,rem ops listed=A++i::B∧rem ops (listed.setIfInBounds i true)=A++B∧(∀a∈A,a<i∧listed.getD a true=false):=by
 have hset:∀j,j≠i→(listed.setIfInBounds i true).getD j true=listed.getD j true:=by
  intro j hj
  simp only[Array.getD_eq_getD_getElem?,Array.getElem?_setIfInBounds]
  rw[if_neg (fun e=>hj e.symm)]
 have hseti:(listed.setIfInBounds i true).getD i true=true:=by
  simp[Array.getD_eq_getD_getElem?,hs,hi]
 refine⟨(List.range i).filter (fun j=>!listed.getD j true),(List.range' (i+1) (ops.size - i - 1)).filter (fun j=>!listed.getD j true),?_,?_,?_⟩
 ·unfold rem
  rw[Zgn _ _ hi,List.filter_append,List.filter_cons]
  rw[if_pos (by rw[hl];rfl)]
 ·unfold rem
  rw[Zgn _ _ hi,List.filter_append,List.filter_cons]
  rw[if_neg (by rw[hseti];simp)]
  congr 1
  ·refine List.filter_congr fun j hj=>?_
   rw[hset j (by have:=List.mem_range.1 hj;omega)]
  ·refine List.filter_congr fun j hj=>?_
   rw[hset j (by have:=(List.mem_range'_1.1 hj).1;omega)]
 ·intro a ha
  rw[List.mem_filter]at ha
  exact⟨List.mem_range.1 ha.1,by simpa using ha.2⟩
theorem Zm7 {ops:Array Oper}(hany:anyOk ops=true){Q:Exit→Act→World→Prop}{K:Tm→St→Prop}:∀(fuel:Nat) {listed:Array Bool} {w:World} {g:Gh} {st:St} {tm:Tm} {a:Act},
  listed.size=ops.size→(rem ops listed).length≤fuel →
  (∀j,j<ops.size→listed.getD j true=true→∀o,ops[j]?=some o→∀e∈o.after.toList,Region.binds .any e=true→listed.getD e.on false=true) →
  RP P w g st→RT g nt tm a→wpL P nt ops.toList (opsOf ops (rem ops listed)) tm st K→(∀a' w',Con nt w g K a' w'→Q .normal a' w')→wpAny P .any ops Q fuel listed a w:=by
 intro fuel
 have hget:∀i,i<ops.size→∃o,ops[i]?=some o∧(∀e∈o.after.toList,Region.binds .any e=true→e.on<i) ∧
   ∀x,x<i→(((Region.before ops).getD i 0).testBit x=true→∃e∈o.after.toList,Region.binds .any e=true∧(e.on=x∨(x<e.on∧((Region.before ops).getD e.on 0).testBit x=true))) ∧
    (((Region.before ops).getD i 0).testBit x=false→∃ox,ops[x]?=some ox∧comm ops ox o=true):=by
  intro i hi
  unfold anyOk at hany
  have h:=List.all_eq_true.1 hany i (List.mem_range.2 hi)
  split at h
  ·cases h
  ·rename_i o ho
   simp only[bA,List.all_eq_true,List.mem_range]at h
   refine⟨o,ho,fun e he hb=>?_,fun x hx=>⟨fun ht=>?_,fun ht=>?_⟩⟩
   ·have:=h.1 e he
    simpa[hb] using this
   ·have:=h.2 x hx
    rw[if_pos ht]at this
    obtain⟨e,he,hp⟩:=List.any_eq_true.1 this
    simp only[bA,Bool.or_eq_true,beq_iff_eq,decide_eq_true_eq]at hp
    exact⟨e,he,hp.1,hp.2⟩
   ·have:=h.2 x hx
    rw[if_neg (by rw[ht];simp)]at this
    split at this
    ·cases this
    ·rename_i ox hox
     exact⟨ox,hox,this⟩
 have hanc:∀(listed:Array Bool),listed.size=ops.size→(∀j,j<ops.size→listed.getD j true=true→∀o,ops[j]?=some o→∀e∈o.after.toList,Region.binds .any e=true→listed.getD e.on false=true) →
   ∀n j,j<n→j<ops.size→listed.getD j true=true→∀x,((Region.before ops).getD j 0).testBit x=true→x<j→listed.getD x true=true:=by
  intro listed hs hdc n
  have hconv:∀x,x<ops.size→listed.getD x false=true→listed.getD x true=true:=by
   intro x hx h
   simp only[Array.getD_eq_getD_getElem?]at h ⊢
   rw[Array.getElem?_eq_getElem (by omega)]at h ⊢
   exact h
  induction n with
  | zero=>intro j hj;omega
  | succ n ih=>
   intro j hj hjs hl x hx hxj
   obtain⟨o,ho,htop,hp⟩:=hget j hjs
   obtain⟨e,he,hb,hor⟩:=(hp x hxj).1 hx
   have hon:=htop e he hb
   have hlist:=hconv _ (by omega) (hdc j hjs hl o ho e he hb)
   rcases hor with rfl | ⟨hlt,hor⟩
   ·exact hlist
   ·exact ih e.on (by omega) (by omega) hlist x hor hlt
 have hcommA:∀(listed:Array Bool),listed.size=ops.size→(∀j,j<ops.size→listed.getD j true=true→∀o,ops[j]?=some o→∀e∈o.after.toList,Region.binds .any e=true→listed.getD e.on false=true) →
   ∀i o,ops[i]?=some o→(∀e∈o.after.toList,Region.binds .any e=true→listed.getD e.on false=true)→∀x,x<i→listed.getD x true=false→∃ox,ops[x]?=some ox∧comm ops ox o=true:=by
  intro listed hs hdc i o ho hready x hx hxl
  have hi:=(Array.getElem?_eq_some_iff.1 ho).1
  obtain⟨o',ho',htop,hp⟩:=hget i hi
  rw[ho]at ho'
  cases ho'
  cases hb:((Region.before ops).getD i 0).testBit x with
  | false=>exact(hp x hx).2 hb
  | true=>
   exfalso
   obtain⟨e,he,hbd,hor⟩:=(hp x hx).1 hb
   have hon:=htop e he hbd
   have hlist:listed.getD e.on true=true:=by
    have:=hready e he hbd
    simp only[Array.getD_eq_getD_getElem?]at this ⊢
    rw[Array.getElem?_eq_getElem (by omega)]at this ⊢
    exact this
   rcases hor with rfl | ⟨hlt,hor⟩
   ·rw[hlist]at hxl;cases hxl
   ·have:=hanc listed hs hdc (e.on+1) e.on (by omega) (by omega) hlist x hor hlt
    rw[this]at hxl;cases hxl
 induction fuel with
 | zero=>
  intro listed w g st tm a hs hlen hdc hR hT h hQ
  have hnil:rem ops listed=[]:=List.eq_nil_of_length_eq_zero (by omega)
  have hr:Region.ready .any ops listed=[]:=by
   rw[List.eq_nil_iff_forall_not_mem]
   intro i hi
   simp only[Region.ready,List.mem_filter,bA]at hi
   have:i∈rem ops listed:=by
    simp only[rem,List.mem_filter]
    exact⟨hi.1,hi.2.1⟩
   rw[hnil]at this
   cases this
  refine⟨hr,?_⟩
  rw[hnil]at h
  exact hQ a w ⟨tm,st,g,h,hR.toR,hT,Gh.le.refl g,Below.refl _ _⟩
 | succ fuel ih=>
  intro listed w g st tm a hs hlen hdc hR hT h hQ
  have hready:∀i,i∈Region.ready .any ops listed↔i<ops.size∧listed.getD i true=false∧∃o,ops[i]?=some o∧∀e∈o.after.toList,Region.binds .any e=true→listed.getD e.on false=true:=by
   intro i
   simp only[Region.ready,List.mem_filter,List.mem_range,bA,Bool.not_eq_true']
   refine and_congr Iff.rfl (and_congr Iff.rfl ?_)
   cases ho:ops[i]? with
   | none=>simp
   | some o=>
    simp only[Option.map_some,Option.getD_some,oI,exists_eq_left']
    rw[Array.all_eq_true_iff_forall_mem]
    constructor
    ·intro h e he hb
     have:=h e (by simpa using he)
     simpa[hb] using this
    ·intro h e he
     cases hb:Region.binds .any e with
     | false=>rfl
     | true=>simp[h e (by simpa using he) hb]
  refine⟨fun hnil=>?_,fun i hi=>?_⟩
  ·
   have hrem:rem ops listed=[]:=by
    cases hr:rem ops listed with
    | nil=>rfl
    | cons i rest=>
     exfalso
     have hmem:i∈rem ops listed:=by rw[hr];simp
     simp only[rem,List.mem_filter,List.mem_range,Bool.not_eq_true']at hmem
     have hleast:∀x,x<i→listed.getD x true=true:=by
      intro x hx
      cases hlx:listed.getD x true with
      | true=>rfl
      | false=>
       exfalso
       obtain⟨A,B,e1,-,e3⟩:=ZhR hs hmem.1 hmem.2
       rw[hr]at e1
       cases A with
       | cons y A=>
        simp only[List.cons_append,List.cons.injEq]at e1
        have:=(e3 y (by simp)).1
        omega
       | nil=>
        have hxm:x∈rem ops listed:=by
         simp only[rem,List.mem_filter,List.mem_range]
         exact⟨by omega,by rw[hlx];rfl⟩
        have hsort:(rem ops listed).Pairwise (·<·):=(List.pairwise_lt_range).filter _
        rw[hr]at hxm hsort
        rcases List.mem_cons.1 hxm with e | e
        ·omega
        ·have:=(List.pairwise_cons.1 hsort).1 x e
         omega
     obtain⟨o,ho,htop,-⟩:=hget i hmem.1
     have:i∈Region.ready .any ops listed:=(hready i).2 ⟨hmem.1,hmem.2,o,ho,fun e he hb=>by
      have:=hleast e.on (htop e he hb)
      have hlt:=htop e he hb
      simp only[Array.getD_eq_getD_getElem?]at this ⊢
      rw[Array.getElem?_eq_getElem (by omega)]at this ⊢
      exact this⟩
     rw[hnil]at this
     cases this
   rw[hrem]at h
   exact hQ a w ⟨tm,st,g,h,hR.toR,hT,Gh.le.refl g,Below.refl _ _⟩
  ·obtain⟨hi1,hi2,o,ho,hafter⟩:=(hready i).1 hi
   obtain⟨A,B,e1,e2,e3⟩:=ZhR hs hi1 hi2
   have hops:opsOf ops (A++i::B)=opsOf ops A++o::opsOf ops B:=by simp[opsOf,List.filterMap_append,ho]
   have hops2:opsOf ops (A++B)=opsOf ops A++opsOf ops B:=by simp[opsOf,List.filterMap_append]
   rw[e1,hops]at h
   have hcA:∀x∈opsOf ops A,comm ops x o=true∧∃j:Nat,ops[j]?=some x:=by
    intro x hx
    simp only[opsOf,List.mem_filterMap]at hx
    obtain⟨j,hj,hjx⟩:=hx
    obtain⟨h1,h2⟩:=e3 j hj
    obtain⟨ox,hox,hc⟩:=hcommA listed hs hdc i o ho hafter j h1 h2
    rw[hjx]at hox
    cases hox
    exact⟨hc,j,hjx⟩
   have hfront:=Zin (opsOf ops A) (fun x hx=>(hcA x hx).1) (fun hk=>ZnM hk (opsOf ops A) (fun x hx=>(hcA x hx).1) (fun x hx=>(hcA x hx).2) hR hT h) h
   rw[← hops2,← e2]at hfront
   refine wpOp_mono ?_ (Zes hR hT ho hfront Q)
   rintro a' w' ⟨tm',st',g',h1,h2,h3,h4,h5⟩
   refine ih (by simpa using hs) ?_ ?_ (hR.next h2 h4 h5) h3 h1 (fun a2 w2 hc=>hQ a2 w2 (hc.trans h4 h5))
   ·have hl1:(rem ops listed).length=A.length+B.length+1:=by rw[e1];simp;omega
    rw[e2,List.length_append]
    omega
   ·intro j hj hlj oj hoj e he hb
    have hset:∀x,listed.getD x false=true→(listed.setIfInBounds i true).getD x false=true:=by
     intro x hx
     simp only[Array.getD_eq_getD_getElem?,Array.getElem?_setIfInBounds]at hx ⊢
     by_cases hix:i=x
     ·subst hix
      rw[if_pos rfl,if_pos (by omega)]
      rfl
     ·rw[if_neg hix]
      exact hx
    by_cases hji:j=i
    ·subst hji
     rw[ho]at hoj
     cases hoj
     exact hset _ (hafter e he hb)
    ·refine hset _ (hdc j hj ?_ oj hoj e he hb)
     simp only[Array.getD_eq_getD_getElem?,Array.getElem?_setIfInBounds]at hlj ⊢
     rw[if_neg (fun e'=>hji e'.symm)]at hlj
     exact hlj
theorem ZgP {α:Type}:∀l:List α,(List.range l.length).filterMap (fun i=>l[i]?)=l
 | []=>rfl
 | x::l=>by
  rw[List.length_cons,List.range_succ_eq_map,List.filterMap_cons]
  simp only[List.getElem?_cons_zero,List.filterMap_map]
  congr 1
  have:=ZgP l
  simpa[Function.comp_def] using this
theorem Zos {ops:Array Oper}(hany:anyOk ops=true)(hm:P.follows .mixedOrders=true){id:Nat}{Q:Exit→Act→World→Prop}{K:Tm→St→Prop}{w:World}{g:Gh}{st:St}{tm:Tm}{a:Act}(hR:RP P w g st)(hT:RT g nt tm a)
  (h:wpL P nt ops.toList ops.toList tm st K) (hQ:∀a' w',Con nt w g K a' w'→Q .normal a' w'):(Code.region id ops true).wp P Q a w:=by
 refine wp_region_any hm ?_
 have hrem:rem ops (Array.replicate ops.size false)=List.range ops.size:=by
  unfold rem
  rw[List.filter_eq_self]
  intro i hi
  have:=List.mem_range.1 hi
  simp[Array.getD_eq_getD_getElem?,this]
 have hops:opsOf ops (List.range ops.size)=ops.toList:=by
  have:=ZgP ops.toList
  simpa[opsOf] using this
 refine Zm7 (w:=w.drew) hany ops.size (by simp) (by rw[hrem];simp) (fun j hj hl=>?_) ⟨hR.toR.drew,fun w2 h2=>hR.tg w2 (((Below.refl _ w).drew).trans h2)⟩ hT (by rw[hrem,hops];exact h) (fun a' w' hc=>?_)
 ·exfalso
  simp[Array.getD_eq_getD_getElem?,hj]at hl
 ·obtain⟨tm',st',g',h1,h2,h3,h4,h5⟩:=hc
  exact hQ a' w' ⟨tm',st',g',h1,h2,h3,h4,((Below.refl _ w).drew).trans h5⟩
end
end Go.AW
