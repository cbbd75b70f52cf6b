/- Typed functions from trees. · Typed operations say what the rows say. · A tree as a typed function. · A chain of functions: contracts, what they give, what they are as typed functions. · A universe by a list of structures; tables by lists. · The library's strconv.Itoa in a chain. · Loops of typed functions. · Guards: values that are there only where something holds. · Contracts by hand at a chain's beginning: strconv.Itoa, strings.IndexByte, strings.Index of one byte (by their inner functions). · The library's slices.Clone: a slice's elements in memory of its own. Whether the slice is nil hangs on no datum: the code is walked by hand. A chain's beginning of hand contracts. · What a row's reading of the arguments gives: abstract values; and the row's end. · The row's end for a law: from what its function does to what the row says. · From a chain to a law: arguments that are data. · The library's table, out of what a row says of listed variables. -/
import Derived.Test.YtibiooglhpjojaaGreatDoorPb
import Derived.Test.YtibiooglhpjojaaGreatDoorPd
import Derived.Sort.Grow
import Derived.Deep.Draws
import Derived.Lib.Bytealg
import Derived.Below
import Derived.ChangeSame
import Derived.ChangeReads
import Derived.WideKeyArgs
import Derived.ProofKit
import Derived.OpenShut
set_option linter.unusedSimpArgs false
set_option linter.unusedVariables false
namespace Go.AW
open Go.RowKit
inductive Ty where
 | ik (k:IntKind)
 | bool
 | str
 | li (t:Ty)
 | st (n:Nat)
 | opt (t:Ty)
 deriving DecidableEq
structure Uni where
 S:Nat→Type
 e:(m:Nat)→S m→Row
 sz:Nat→Nat
 hsz:∀m x,(e m x).length=sz m
abbrev Ty.T (U:Uni):Ty→Type
 | .ik _=>Int
 | .bool=>Bool
 | .str=>ByteArray
 | .li t=>List (t.T U)
 | .st n=>U.S n
 | .opt t=>Option (t.T U)
def Ty.sz (U:Uni):Ty→Nat
 | .st n=>U.sz n
 | .opt _=>0
 | .ik _ | .bool | .str | .li _=>1
def Ty.e (U:Uni):(t:Ty)→t.T U→Row
 | .ik k,x=>[.lit (.int k x)]
 | .bool,x=>[.lit (.bool x)]
 | .str,x=>[.lit (.string x)]
 | .li t,xs=>[slv (t.sz U) (List.map (t.e U) xs)]
 | .st n,x=>U.e n x
 | .opt t,x=>match x with
  | none=>[]
  | some x=>t.e U x
def Ty.pl:Ty→Bool
 | .opt _=>false
 | .ik _ | .bool | .str | .li _ | .st _=>true
theorem Ty.e_len (U:Uni){t:Ty}(h:t.pl=true)(x:t.T U):(t.e U x).length=t.sz U:=by
 cases t with
 | st n=>exact U.hsz n x
 | opt t=>simp[Ty.pl]at h
 | ik k=>rfl
 | bool=>rfl
 | str=>rfl
 | li t=>rfl
structure GetE (U:Uni)(m:Nat) where
 off:Nat
 n:Nat
 t:Ty
 f:U.S m→t.T U
 ok:∀x,off+n≤(U.e m x).length∧((U.e m x).drop off).take n=t.e U (f x)
structure SetE (U:Uni)(m:Nat) where
 off:Nat
 t:Ty
 f:U.S m→t.T U→U.S m
 ok:∀x y,off+(t.e U y).length≤(U.e m x).length∧ZaO (U.e m x) off (t.e U y)=U.e m (f x y)
structure EqE (U:Uni)(m:Nat) where
 ks:List Nat
 f:U.S m→U.S m→Bool
 ok:∀x y,eqR ks (U.e m x) (U.e m y)=some (f x y)
structure Tabs (U:Uni) where
 get:(m:Nat)→List (GetE U m)
 set:(m:Nat)→List (SetE U m)
 eq:(m:Nat)→Option (EqE U m)
def Env (U:Uni):List Ty→Type
 | []=>Unit
 | t::ts=>t.T U×Env U ts
def Env.rows (U:Uni):(ts:List Ty)→Env U ts→List Row
 | [],_=>[]
 | t::ts,e=>t.e U e.1::Env.rows U ts e.2
def pushT:List Ty→List Ty→List Ty
 | [],ts=>ts
 | t::l,ts=>pushT l (t::ts)
def push (U:Uni):(l ts:List Ty)→Env U l→Env U ts→Env U (pushT l ts)
 | [],_,_,e=>e
 | t::l,ts,v,e=>push U l (t::ts) v.2 (v.1,e)
def Zhl:List Ty→List Ty→List Ty
 | [],ts=>ts
 | t::l,ts=>Zhl l (.opt t::ts)
def pusho (U:Uni):(l ts:List Ty)→Option (Env U l)→Env U ts→Env U (Zhl l ts)
 | [],_,_,e=>e
 | t::l,ts,r,e=>pusho U l (.opt t::ts) (r.map fun(x:Env U (t::l))=>x.2) (r.map fun(x:Env U (t::l))=>x.1,e)
structure TA (U:Uni)(ts:List Ty) where
 t:Ty
 f:Env U ts→Option (t.T U)
def lookT (U:Uni):(ts:List Ty)→Nat→Option (TA U ts)
 | [],_=>none
 | .opt t::_,0=>some ⟨t,fun e=>e.1⟩
 | .ik k::_,0=>some ⟨.ik k,fun e=>some e.1⟩
 | .bool::_,0=>some ⟨.bool,fun e=>some e.1⟩
 | .str::_,0=>some ⟨.str,fun e=>some e.1⟩
 | .li t::_,0=>some ⟨.li t,fun e=>some e.1⟩
 | .st n::_,0=>some ⟨.st n,fun e=>some e.1⟩
 | _::ts,j+1=>match lookT U ts j with
  | some a=>some ⟨a.t,fun e=>a.f e.2⟩
  | none=>none
abbrev Hs (U:Uni):=List (Sigma fun t:Ty=>t.T U)
def atT (U:Uni)(ts:List Ty)(n:Nat)(hs:Hs U):At→Option (TA U ts×Hs U)
 | .v i=>if i<n then(match lookT U ts (n - 1 - i)with
  | some a=>some (a,hs)
  | none=>none)else none
 | .c [.lit (.int k x)]=>some (⟨.ik k,fun _=>some x⟩,hs)
 | .c [.lit (.bool x)]=>some (⟨.bool,fun _=>some x⟩,hs)
 | .c [.lit (.string x)]=>some (⟨.str,fun _=>some x⟩,hs)
 | .c r=>match hs with
  | []=>none
  | h::hs=>if eqRow (h.1.e U h.2) r=true then some (⟨h.1,fun _=>some h.2⟩,hs)else none
def atsT (U:Uni)(ts:List Ty)(n:Nat):Hs U→List At→Option (List (TA U ts)×Hs U)
 | hs,[]=>some ([],hs)
 | hs,a::as=>match atT U ts n hs a with
  | some (x,hs)=>(match atsT U ts n hs as with
   | some (xs,hs)=>some (x::xs,hs)
   | none=>none)
  | none=>none
def TA.of {U:Uni}{ts:List Ty}(A:TA U ts)(e:Env U ts)(r:Row):Prop:=∀x,A.f e=some x→r=A.t.e U x
theorem Zn8 (U:Uni):∀(ts:List Ty) (j:Nat) (A:TA U ts),lookT U ts j=some A→∀e,∃r,(Env.rows U ts e)[j]?=some r∧A.of e r
 | [],_,_,h,_=>by simp[lookT]at h
 | t::ts,0,A,h,e=>by
  refine⟨t.e U e.1,rfl,?_⟩
  cases t <;> simp only[lookT,oI]at h <;> subst h <;> intro x hx
  case opt t=>simp only at hx;simp only[Ty.e];rw[hx]
  all_goals (simp only[oI]at hx;subst hx;rfl)
 | t::ts,j+1,A,h,e=>by
  have h':(match lookT U ts j with
   | some a=>some (⟨a.t,fun e=>a.f e.2⟩:TA U (t::ts))
   | none=>none)=some A:=by cases t <;> exact h
  cases hl:lookT U ts j with
  | none=>simp[hl]at h'
  | some a=>
   simp only[hl,oI]at h';subst h'
   have⟨r,h1,h2⟩:=Zn8 U ts j a hl e.2
   exact⟨r,h1,fun x hx=>h2 x hx⟩
theorem Zi9 (U:Uni):∀(ts:List Ty) (e:Env U ts),(Env.rows U ts e).length=ts.length
 | [],_=>rfl
 | _::ts,e=>by simp[Env.rows,Zi9 U ts e.2]
theorem rev_get {α:Type}(l:List α)(i n:Nat)(hn:n=l.length)(hi:i<n):l.reverse[i]?=l[n - 1 - i]?:=by
 subst hn;rw[List.getElem?_reverse hi]
theorem Zn9 (U:Uni)(ts:List Ty)(n:Nat)(hn:n=ts.length)(hs:Hs U)(a:At)(A:TA U ts)(hs':Hs U)(h:atT U ts n hs a=some (A,hs'))(e:Env U ts) :
  ∃r,a.ev (Env.rows U ts e).reverse=some r∧A.of e r:=by
 unfold atT at h
 split at h
 ·rename_i i
  split at h
  ·rename_i hi
   split at h
   ·rename_i A' hl
    simp only[oI,Prod.mk.injEq]at h
    obtain⟨rfl,_⟩:=h
    have⟨r,h1,h2⟩:=Zn8 U ts _ _ hl e
    exact⟨r,by simp only[At.ev];rw[rev_get _ i n (by rw[hn,Zi9]) hi];exact h1,h2⟩
   ·simp at h
  ·simp at h
 ·simp only[oI,Prod.mk.injEq]at h
  obtain⟨rfl,_⟩:=h
  exact⟨_,rfl,fun x hx=>by cases hx;rfl⟩
 ·simp only[oI,Prod.mk.injEq]at h
  obtain⟨rfl,_⟩:=h
  exact⟨_,rfl,fun x hx=>by cases hx;rfl⟩
 ·simp only[oI,Prod.mk.injEq]at h
  obtain⟨rfl,_⟩:=h
  exact⟨_,rfl,fun x hx=>by cases hx;rfl⟩
 ·split at h
  ·simp at h
  ·split at h
   ·rename_i hq
    simp only[oI,Prod.mk.injEq]at h
    obtain⟨rfl,_⟩:=h
    exact⟨_,rfl,fun x hx=>by cases hx;exact(Zlj hq).symm⟩
   ·simp at h
def TAs.of {U:Uni}{ts:List Ty}(e:Env U ts):List (TA U ts)→List Row→Prop
 | [],[]=>True
 | A::As,r::rs=>A.of e r∧TAs.of e As rs
 | _,_=>False
theorem ZgW (U:Uni)(ts:List Ty)(n:Nat)(hn:n=ts.length):∀(as:List At) (hs:Hs U) (As:List (TA U ts)) (hs':Hs U),atsT U ts n hs as=some (As,hs')→∀e:Env U ts,
  ∃rs,evs (Env.rows U ts e).reverse as=some rs∧TAs.of e As rs
 | [],hs,As,hs',h,e=>by
  simp only[atsT,oI,Prod.mk.injEq]at h
  obtain⟨rfl,_⟩:=h
  exact⟨[],rfl,trivial⟩
 | a::as,hs,As,hs',h,e=>by
  simp only[atsT]at h
  split at h
  ·rename_i x hs1 h1
   split at h
   ·rename_i xs hs2 h2
    simp only[oI,Prod.mk.injEq]at h
    obtain⟨rfl,_⟩:=h
    have⟨r,h3,h4⟩:=Zn9 U ts n hn hs a x hs1 h1 e
    have⟨rs,h5,h6⟩:=ZgW U ts n hn as hs1 xs hs2 h2 e
    exact⟨r::rs,by simp[evs,h3,h5],h4,h6⟩
   ·simp at h
  ·simp at h
def w1 {U:Uni}{ts:List Ty}{α β:Type}(a:Env U ts→Option α)(f:α→Option β):Env U ts→Option β:=fun e=>(a e).bind f
def w2 {U:Uni}{ts:List Ty}{α β γ:Type}(a:Env U ts→Option α)(b:Env U ts→Option β)(f:α→β→Option γ):Env U ts→Option γ:=fun e=>(a e).bind fun x=>(b e).bind fun y=>f x y
def w3 {U:Uni}{ts:List Ty}{α β γ δ:Type}(a:Env U ts→Option α)(b:Env U ts→Option β)(c:Env U ts→Option γ)(f:α→β→γ→Option δ):Env U ts→Option δ:=fun e=>(a e).bind fun x=>(b e).bind fun y=>(c e).bind fun z=>f x y z
def intT (U:Uni)(ts:List Ty)(op:BinOp)(k:IntKind)(a b:Env U ts→Option Int):Option (TA U ts):=match op with
 | .add=>some ⟨.ik k,w2 a b fun x y=>some (k.wrap (x+y))⟩
 | .sub=>some ⟨.ik k,w2 a b fun x y=>some (k.wrap (x - y))⟩
 | .mul=>some ⟨.ik k,w2 a b fun x y=>some (k.wrap (x * y))⟩
 | .quo=>some ⟨.ik k,w2 a b fun x y=>if y=0 then none else some (k.wrap (x.tdiv y))⟩
 | .rem=>some ⟨.ik k,w2 a b fun x y=>if y=0 then none else some (x.tmod y)⟩
 | .eql=>some ⟨.bool,w2 a b fun x y=>some (x==y)⟩
 | .neq=>some ⟨.bool,w2 a b fun x y=>some (x != y)⟩
 | .lss=>some ⟨.bool,w2 a b fun x y=>some (decide (x<y))⟩
 | .leq=>some ⟨.bool,w2 a b fun x y=>some (decide (x≤y))⟩
 | .gtr=>some ⟨.bool,w2 a b fun x y=>some (decide (x>y))⟩
 | .geq=>some ⟨.bool,w2 a b fun x y=>some (decide (x≥y))⟩
 | _=>none
def strT (U:Uni)(ts:List Ty)(op:BinOp)(a b:Env U ts→Option ByteArray):Option (TA U ts):=match op with
 | .add=>some ⟨.str,w2 a b fun x y=>if x.size+y.size≤9223372036854775807 then some (x++y)else none⟩
 | .eql=>some ⟨.bool,w2 a b fun x y=>some (x.toList==y.toList)⟩
 | .neq=>some ⟨.bool,w2 a b fun x y=>some (!(x.toList==y.toList))⟩
 | .lss=>some ⟨.bool,w2 a b fun x y=>some (Op.bytesLess x.toList y.toList)⟩
 | .gtr=>some ⟨.bool,w2 a b fun x y=>some (!(Op.bytesLess x.toList y.toList || (x.toList==y.toList)))⟩
 | .leq=>some ⟨.bool,w2 a b fun x y=>some (Op.bytesLess x.toList y.toList || (x.toList==y.toList))⟩
 | .geq=>some ⟨.bool,w2 a b fun x y=>some (!(Op.bytesLess x.toList y.toList))⟩
 | _=>none
def bolT (U:Uni)(ts:List Ty)(op:BinOp)(a b:Env U ts→Option Bool):Option (TA U ts):=match op with
 | .eql=>some ⟨.bool,w2 a b fun x y=>some (x==y)⟩
 | .neq=>some ⟨.bool,w2 a b fun x y=>some (!(x==y))⟩
 | _=>none
def castT {U:Uni}{s t:Ty}(h:s=t)(x:s.T U):t.T U:=h ▸ x
def castS {U:Uni}{m n:Nat}(h:m=n)(x:U.S m):U.S n:=h ▸ x
def scal:Ty→Bool
 | .ik _ | .bool | .str=>true
 | .li _ | .st _ | .opt _=>false
def mkT (U:Uni)(ts:List Ty)(t:Ty):List (TA U ts)→Option (Env U ts→Option (List (t.T U)))
 | []=>some fun _=>some []
 | A::As=>if h:A.t=t then(match mkT U ts t As with
  | some g=>some fun e=>(A.f e).bind fun x=>(g e).bind fun xs=>some (castT h x::xs)
  | none=>none)else none
def findG {U:Uni}{m:Nat}(off n:Nat):List (GetE U m)→Option (GetE U m)
 | []=>none
 | g::l=>if (Nat.beq g.off off&&Nat.beq g.n n)=true then some g else findG off n l
def findS {U:Uni}{m:Nat}(off:Nat)(t:Ty):List (SetE U m)→Option (SetE U m)
 | []=>none
 | g::l=>if (Nat.beq g.off off&&decide (t=g.t))=true then some g else findS off t l
def appT {U:Uni}{ts:List Ty}{t:Ty}(b:Nat)(a c:Env U ts→Option (List (t.T U))):Env U ts→Option (List (t.T U)):=w2 a c fun x y=>if x.length+y.length≤9223372036854775807∧(x.length+y.length) * b≤140737488355328 then some (x++y)else none
def castF {U:Uni}{ts:List Ty}{s t:Ty}(h:s=t)(f:Env U ts→Option (List (s.T U))):Env U ts→Option (List (t.T U)):=fun e=>(f e).bind fun y=>some (castT (congrArg Ty.li h) y)
def opT (U:Uni)(tb:Tabs U)(ts:List Ty)(f:Fo)(as:List (TA U ts)):Option (TA U ts):=match f,as with
 | .get 0 n,[⟨.ik k,a⟩]=>if Nat.beq n 1=true then some ⟨.ik k,a⟩else none
 | .get 0 n,[⟨.bool,a⟩]=>if Nat.beq n 1=true then some ⟨.bool,a⟩else none
 | .get 0 n,[⟨.str,a⟩]=>if Nat.beq n 1=true then some ⟨.str,a⟩else none
 | .get 0 n,[⟨.li t,a⟩]=>if Nat.beq n 1=true then some ⟨.li t,a⟩else none
 | .get off n,[⟨.st m,a⟩]=>(match findG off n (tb.get m)with
  | some g=>some ⟨g.t,w1 a fun x=>some (g.f x)⟩
  | none=>if (Nat.beq off 0&&Nat.beq n (U.sz m))=true then some ⟨.st m,a⟩else none)
 | .set off,[⟨.st m,a⟩,⟨t,b⟩]=>(match findS off t (tb.set m)with
  | some g=>if h:t=g.t then some ⟨.st m,w2 a b fun x y=>some (g.f x (castT h y))⟩else none
  | none=>none)
 | .bin op,[⟨.ik k,a⟩,⟨.ik k',b⟩]=>if k=k' then intT U ts op k a b else none
 | .bin op,[⟨.str,a⟩,⟨.str,b⟩]=>strT U ts op a b
 | .bbin op,[⟨.bool,a⟩,⟨.bool,b⟩]=>bolT U ts op a b
 | .asb,[⟨.bool,a⟩]=>some ⟨.bool,w1 a fun(x:Bool)=>some x⟩
 | .neg,[⟨.ik k,a⟩]=>some ⟨.ik k,w1 a fun(x:Int)=>some (k.wrap (0 - x))⟩
 | .not,[⟨.bool,a⟩]=>some ⟨.bool,w1 a fun(x:Bool)=>some (!x)⟩
 | .and,[⟨.bool,a⟩,⟨.bool,b⟩]=>some ⟨.bool,fun e=>(a e).bind fun(x:Bool)=>if x=true then b e else some false⟩
 | .andn,[⟨.bool,a⟩,⟨.bool,b⟩]=>some ⟨.bool,fun e=>(a e).bind fun(x:Bool)=>if x=true then(b e).bind fun(y:Bool)=>some (!y)else some false⟩
 | .eqr ne ks,[⟨.st m,a⟩,⟨.st m',b⟩]=>if h:m'=m then(match tb.eq m with
  | some q=>if q.ks=ks then some ⟨.bool,w2 a b fun(x:U.S m) (y:U.S m')=>some (q.f x (castS h y) != ne)⟩else none
  | none=>none)else none
 | .len,[⟨.li t,a⟩]=>some ⟨.ik .i64,w1 a fun(x:List (t.T U))=>some (x.length:Int)⟩
 | .slen,[⟨.str,a⟩]=>some ⟨.ik .i64,w1 a fun(x:ByteArray)=>some (x.size:Int)⟩
 | .idx n,[⟨.li t,a⟩,⟨.ik _,b⟩]=>if Nat.beq (t.sz U) n=true then some ⟨t,w2 a b fun(x:List (t.T U)) (i:Int)=>if 0≤i∧i<(x.length:Int)then x[i.toNat]? else none⟩else none
 | .sidx,[⟨.str,a⟩,⟨.ik _,b⟩]=>some ⟨.ik .u8,w2 a b fun(x:ByteArray) (i:Int)=>if 0≤i∧i<(x.size:Int)then some ((((x.data.toList).getD i.toNat 0).toNat:Nat):Int)else none⟩
 | .scut,[⟨.str,a⟩,⟨.ik _,b⟩,⟨.ik _,c⟩]=>some ⟨.str,w3 a b c fun(x:ByteArray) (l h:Int)=>if 0≤l∧l≤h∧h≤(x.size:Int)then some (x.extract l.toNat h.toNat)else none⟩
 | .cut n,[⟨.li t,a⟩,⟨.ik _,b⟩,⟨.ik _,c⟩]=>if Nat.beq (t.sz U) n=true then some ⟨.li t,w3 a b c fun(x:List (t.T U)) (l h:Int)=>if 0≤l∧l≤h∧h≤(x.length:Int)then some ((x.take h.toNat).drop l.toNat)else none⟩else none
 | .app n b,[⟨.li t,a⟩,⟨.li t',c⟩]=>if h:t'=t then(if (Nat.beq (t.sz U) n&&t.pl)=true then
   some ⟨.li t,appT b a (castF h c)⟩else none)else none
 | .mk n,A::As=>if (Nat.beq (A.t.sz U) n&&A.t.pl)=true then(match mkT U ts A.t (A::As)with
  | some g=>some ⟨.li A.t,g⟩
  | none=>none)else none
 | .pick,[⟨.bool,c⟩,⟨t,a⟩,⟨t',b⟩]=>if h:t'=t then(if scal t=true then some ⟨t,fun e=>(c e).bind fun(x:Bool)=>if x=true then a e else(b e).bind fun y=>some (castT h y)⟩else none)else none
 | .mm mx,[⟨.ik k,a⟩,⟨.ik k',b⟩]=>if k=k' then some ⟨.ik k,w2 a b fun(x y:Int)=>some (if mx=true then max x y else min x y:Int)⟩else none
 | .shr,[⟨.ik k,a⟩,⟨.ik _,b⟩]=>some ⟨.ik k,w2 a b fun(x y:Int)=>if 0≤y then some (x.fdiv (2 ^ (min y.toNat k.bits)):Int)else none⟩
 | .conv k,[⟨.ik _,a⟩]=>some ⟨.ik k,w1 a fun(x:Int)=>some (k.wrap x)⟩
 | _,_=>none
end Go.AW

namespace Go.AW
open Go.RowKit
theorem ZhA {U:Uni}{ts:List Ty}{α β:Type}{a:Env U ts→Option α}{f:α→Option β}{e:Env U ts}{v:β}(h:w1 a f e=some v):∃x,a e=some x∧f x=some v:=by
 simp only[w1]at h;cases ha:a e with
 | none=>simp[ha]at h
 | some x=>exact⟨x,rfl,by simpa[ha] using h⟩
theorem Zf7 {U:Uni}{ts:List Ty}{α β γ:Type}{a:Env U ts→Option α}{b:Env U ts→Option β}{f:α→β→Option γ}{e:Env U ts}{v:γ}(h:w2 a b f e=some v):∃x y,a e=some x∧b e=some y∧f x y=some v:=by
 simp only[w2]at h;cases ha:a e with
 | none=>simp[ha]at h
 | some x=>cases hb:b e with
  | none=>simp[ha,hb]at h
  | some y=>exact⟨x,y,rfl,rfl,by simpa[ha,hb] using h⟩
theorem Zp9 {U:Uni}{ts:List Ty}{α β γ δ:Type}{a:Env U ts→Option α}{b:Env U ts→Option β}{c:Env U ts→Option γ}{f:α→β→γ→Option δ}{e:Env U ts}{v:δ}(h:w3 a b c f e=some v):∃x y z,a e=some x∧b e=some y∧c e=some z∧f x y z=some v:=by
 simp only[w3]at h;cases ha:a e with
 | none=>simp[ha]at h
 | some x=>cases hb:b e with
  | none=>simp[ha,hb]at h
  | some y=>cases hc:c e with
   | none=>simp[ha,hb,hc]at h
   | some z=>exact⟨x,y,z,rfl,rfl,rfl,by simpa[ha,hb,hc] using h⟩
theorem intT_ok (U:Uni)(ts:List Ty){op:BinOp}{k:IntKind}{a b:Env U ts→Option Int}{O:TA U ts}(h:intT U ts op k a b=some O){e:Env U ts}{x y:Int}(ha:a e=some x)(hb:b e=some y){v:O.t.T U}(hv:O.f e=some v) :
  intO op k x y=some (O.t.e U v):=by
 cases op <;> simp only[intT,oI,reduceCtorEq]at h <;> subst h <;> simp only[w2,ha,hb,Option.bind_some]at hv
 case quo=>split at hv;· simp at hv
           ·rename_i hn;cases hv;simp only[intO,if_neg hn];rfl
 case rem=>split at hv;· simp at hv
           ·rename_i hn;cases hv;simp only[intO,if_neg hn];rfl
 all_goals (cases hv;rfl)
theorem strT_ok (U:Uni)(ts:List Ty){op:BinOp}{a b:Env U ts→Option ByteArray}{O:TA U ts}(h:strT U ts op a b=some O){e:Env U ts}{x y:ByteArray}(ha:a e=some x)(hb:b e=some y){v:O.t.T U}(hv:O.f e=some v) :
  strO op x y=some (O.t.e U v):=by
 cases op <;> simp only[strT,oI,reduceCtorEq]at h <;> subst h <;> simp only[w2,ha,hb,Option.bind_some]at hv
 case add=>split at hv
           ·rename_i hn;cases hv;simp only[strO,if_pos hn];rfl
           ·simp at hv
 all_goals (cases hv;rfl)
theorem bolT_ok (U:Uni)(ts:List Ty){op:BinOp}{a b:Env U ts→Option Bool}{O:TA U ts}(h:bolT U ts op a b=some O){e:Env U ts}{x y:Bool}(ha:a e=some x)(hb:b e=some y){v:O.t.T U}(hv:O.f e=some v) :
  boolO op x y=some (O.t.e U v):=by
 cases op <;> simp only[bolT,oI,reduceCtorEq]at h <;> subst h <;> simp only[w2,ha,hb,Option.bind_some]at hv
 all_goals (cases hv;rfl)
theorem Zoa {U:Uni}{m off n:Nat}:∀{l:List (GetE U m)} {g:GetE U m},findG off n l=some g→g.off=off∧g.n=n
 | [],g,h=>by simp[findG]at h
 | x::l,g,h=>by
  simp only[findG]at h
  split at h
  ·rename_i hc;cases h;rw[bA]at hc;exact⟨Nat.eq_of_beq_eq_true hc.1,Nat.eq_of_beq_eq_true hc.2⟩
  ·exact Zoa h
theorem Zob {U:Uni}{m off:Nat}{t:Ty}:∀{l:List (SetE U m)} {g:SetE U m},findS off t l=some g→g.off=off
 | [],g,h=>by simp[findS]at h
 | x::l,g,h=>by
  simp only[findS]at h
  split at h
  ·rename_i hc;cases h;rw[bA]at hc;exact Nat.eq_of_beq_eq_true hc.1
  ·exact Zob h
theorem Znm {U:Uni}{s t:Ty}(h:s=t)(x:s.T U):t.e U (castT h x)=s.e U x:=by subst h;rfl
theorem castS_e {U:Uni}{m n:Nat}(h:m=n)(x:U.S m):U.e n (castS h x)=U.e m x:=by subst h;rfl
theorem ZoH {n:Nat}{α:Type}(f:α→List DV)(xs:List α)(h:xs≠[]):slv n (xs.map f)=.sl n (xs.map f):=by
 cases xs with
 | nil=>exact absurd rfl h
 | cons x l=>rfl
theorem Zib {n:Nat}(xs:List Row):∃s,slv n xs=.sl s xs∧(s=n∨xs=[]):=by
 cases xs with
 | nil=>exact⟨0,rfl,.inr rfl⟩
 | cons x l=>exact⟨n,rfl,.inl rfl⟩
theorem Zrp {U:Uni}{ts:List Ty}(t:Ty):∀(As:List (TA U ts)) (g:Env U ts→Option (List (t.T U))),mkT U ts t As=some g→∀(e:Env U ts) (rs:List Row),TAs.of e As rs→∀v,g e=some v→rs=v.map (t.e U)
 | [],g,h,e,rs,hr,v,hv=>by
  simp only[mkT,oI]at h;subst h;cases hv
  cases rs with
  | nil=>rfl
  | cons r rs=>exact hr.elim
 | A::As,g,h,e,rs,hr,v,hv=>by
  simp only[mkT]at h
  split at h
  ·rename_i hc
   split at h
   ·rename_i g' hg
    simp only[oI]at h;subst h
    cases rs with
    | nil=>exact hr.elim
    | cons r rs=>
     cases ha:A.f e with
     | none=>simp[ha]at hv
     | some x=>
      cases hb:g' e with
      | none=>simp[ha,hb]at hv
      | some xs=>
       simp only[ha,hb,Option.bind_some,oI]at hv;subst hv
       rw[List.map_cons,Znm,← hr.1 x ha,← Zrp t As g' hg e rs hr.2 xs hb]
   ·simp at h
  ·simp at h
theorem Zqa {U:Uni}{t:Ty}{n:Nat}(hp:t.pl=true)(hn:t.sz U=n)(xs:List (t.T U)):((xs.map (t.e U)).all fun y=>y.length==n)=true:=by
 simp only[List.all_map,List.all_eq_true,Function.comp]
 intro x _
 rw[Ty.e_len U hp,hn];exact beq_self_eq_true n
theorem TAs1 {U:Uni}{ts:List Ty}{e:Env U ts}{A:TA U ts}{rs:List Row}(h:TAs.of e [A] rs):∃r,rs=[r]∧A.of e r:=by
 cases rs with
 | nil=>exact h.elim
 | cons r rs=>cases rs with
  | nil=>exact⟨r,rfl,h.1⟩
  | cons _ _=>exact h.2.elim
theorem TAs2 {U:Uni}{ts:List Ty}{e:Env U ts}{A B:TA U ts}{rs:List Row}(h:TAs.of e [A,B] rs):∃r s,rs=[r,s]∧A.of e r∧B.of e s:=by
 cases rs with
 | nil=>exact h.elim
 | cons r rs=>have⟨s,hs,h2⟩:=TAs1 h.2;exact⟨r,s,by rw[hs],h.1,h2⟩
theorem TAs3 {U:Uni}{ts:List Ty}{e:Env U ts}{A B C:TA U ts}{rs:List Row}(h:TAs.of e [A,B,C] rs):∃r s t,rs=[r,s,t]∧A.of e r∧B.of e s∧C.of e t:=by
 cases rs with
 | nil=>exact h.elim
 | cons r rs=>have⟨s,t,hs,h2,h3⟩:=TAs2 h.2;exact⟨r,s,t,by rw[hs],h.1,h2,h3⟩
theorem Zrq (U:Uni)(tb:Tabs U)(ts:List Ty)(f:Fo)(As:List (TA U ts))(O:TA U ts)(h:opT U tb ts f As=some O)(e:Env U ts)(rs:List Row)(hr:TAs.of e As rs)(v:O.t.T U)(hv:O.f e=some v) :
  evF f rs=some (O.t.e U v):=by
 unfold opT at h
 split at h
 ·
  rename_i n k a
  obtain⟨r,rfl,h1⟩:=TAs1 hr
  split at h
  ·rename_i hn
   obtain rfl:=Nat.eq_of_beq_eq_true hn
   cases h
   have:=h1 _ hv
   subst this
   simp[evF,Ty.e]
  ·simp at h
 ·
  rename_i n a
  obtain⟨r,rfl,h1⟩:=TAs1 hr
  split at h
  ·rename_i hn
   obtain rfl:=Nat.eq_of_beq_eq_true hn
   cases h
   have:=h1 _ hv
   subst this
   simp[evF,Ty.e]
  ·simp at h
 ·
  rename_i n a
  obtain⟨r,rfl,h1⟩:=TAs1 hr
  split at h
  ·rename_i hn
   obtain rfl:=Nat.eq_of_beq_eq_true hn
   cases h
   have:=h1 _ hv
   subst this
   simp[evF,Ty.e]
  ·simp at h
 ·
  rename_i n t a
  obtain⟨r,rfl,h1⟩:=TAs1 hr
  split at h
  ·rename_i hn
   obtain rfl:=Nat.eq_of_beq_eq_true hn
   cases h
   have:=h1 _ hv
   subst this
   simp[evF,Ty.e]
  ·simp at h
 ·
  rename_i off n m a
  obtain⟨r,rfl,h1⟩:=TAs1 hr
  split at h
  ·rename_i g hg
   cases h
   have⟨x,hx,hfx⟩:=ZhA hv
   cases hfx
   have⟨h2,h3⟩:=Zoa hg
   have⟨h4,h5⟩:=g.ok x
   have:=h1 x hx
   subst this
   simp only[evF,Ty.e]
   rw[← h2,← h3]
   erw [if_pos h4,h5]
  ·split at h
   ·rename_i hc
    rw[bA]at hc
    obtain rfl:=Nat.eq_of_beq_eq_true hc.1
    obtain rfl:=Nat.eq_of_beq_eq_true hc.2
    cases h
    have:=h1 _ hv
    subst this
    have hl:=U.hsz m v
    simp only[evF,Ty.e,List.drop_zero]
    erw [if_pos (by rw[hl];omega),List.take_of_length_le (by rw[hl];exact Nat.le_refl _)]
   ·simp at h
 ·
  rename_i off m a t b
  obtain⟨r,s,rfl,h1,h2⟩:=TAs2 hr
  split at h
  ·rename_i g hg
   split at h
   ·rename_i hc
    cases h
    have⟨x,y,hx,hy,hfx⟩:=Zf7 hv
    cases hfx
    have h3:=Zob hg
    have⟨h4,h5⟩:=g.ok x (castT hc y)
    have e1:=h1 x hx
    have e2:=h2 y hy
    subst e1;subst e2
    rw[Znm]at h4 h5
    simp only[evF,Ty.e]
    rw[← h3]
    erw [if_pos h4,h5]
   ·simp at h
  ·simp at h
 ·
  rename_i op k a k' b
  obtain⟨r,s,rfl,h1,h2⟩:=TAs2 hr
  split at h
  ·rename_i hk
   subst hk
   have:∃x y,a e=some x∧b e=some y:=by
    cases op <;> simp only[intT,oI,reduceCtorEq]at h <;> subst h <;> (have⟨x,y,hx,hy,_⟩:=Zf7 hv;exact⟨x,y,hx,hy⟩)
   obtain⟨x,y,hx,hy⟩:=this
   have e1:=h1 x hx
   have e2:=h2 y hy
   subst e1;subst e2
   simp only[evF,Ty.e,binO,if_true]
   exact intT_ok U ts h hx hy hv
  ·simp at h
 ·
  rename_i op a b
  obtain⟨r,s,rfl,h1,h2⟩:=TAs2 hr
  have:∃x y,a e=some x∧b e=some y:=by
   cases op <;> simp only[strT,oI,reduceCtorEq]at h <;> subst h <;> (have⟨x,y,hx,hy,_⟩:=Zf7 hv;exact⟨x,y,hx,hy⟩)
  obtain⟨x,y,hx,hy⟩:=this
  have e1:=h1 x hx
  have e2:=h2 y hy
  subst e1;subst e2
  simp only[evF,Ty.e,binO]
  exact strT_ok U ts h hx hy hv
 ·
  rename_i op a b
  obtain⟨r,s,rfl,h1,h2⟩:=TAs2 hr
  have:∃x y,a e=some x∧b e=some y:=by
   cases op <;> simp only[bolT,oI,reduceCtorEq]at h <;> subst h <;> (have⟨x,y,hx,hy,_⟩:=Zf7 hv;exact⟨x,y,hx,hy⟩)
  obtain⟨x,y,hx,hy⟩:=this
  have e1:=h1 x hx
  have e2:=h2 y hy
  subst e1;subst e2
  simp only[evF,Ty.e]
  exact bolT_ok U ts h hx hy hv
 ·
  obtain⟨r,rfl,h1⟩:=TAs1 hr
  cases h
  have⟨x,hx,hfx⟩:=ZhA hv
  cases hfx
  have:=h1 _ hx
  subst this
  rfl
 ·
  obtain⟨r,rfl,h1⟩:=TAs1 hr
  cases h
  have⟨x,hx,hfx⟩:=ZhA hv
  cases hfx
  have:=h1 x hx
  subst this
  rfl
 ·
  obtain⟨r,rfl,h1⟩:=TAs1 hr
  cases h
  have⟨x,hx,hfx⟩:=ZhA hv
  cases hfx
  have:=h1 x hx
  subst this
  rfl
 ·
  rename_i a b
  obtain⟨r,s,rfl,h1,h2⟩:=TAs2 hr
  cases h
  simp only at hv
  cases hx:a e with
  | none=>simp[hx]at hv
  | some x=>
   simp only[hx,Option.bind_some]at hv
   have e1:=h1 x hx
   subst e1
   cases x with
   | true=>
    simp only[if_true]at hv
    have e2:=h2 v hv
    subst e2
    rfl
   | false=>simp only[bF,if_false,oI]at hv;subst hv;rfl
 ·
  rename_i a b
  obtain⟨r,s,rfl,h1,h2⟩:=TAs2 hr
  cases h
  simp only at hv
  cases hx:a e with
  | none=>simp[hx]at hv
  | some x=>
   simp only[hx,Option.bind_some]at hv
   have e1:=h1 x hx
   subst e1
   cases x with
   | true=>
    simp only[if_true]at hv
    cases hy:b e with
    | none=>simp[hy]at hv
    | some y=>
     simp only[hy,Option.bind_some,oI]at hv
     have e2:=h2 y hy
     subst e2;subst hv
     rfl
   | false=>simp only[bF,if_false,oI]at hv;subst hv;rfl
 ·
  rename_i ne ks m a m' b
  obtain⟨r,s,rfl,h1,h2⟩:=TAs2 hr
  split at h
  ·rename_i hm
   split at h
   ·rename_i q hq
    split at h
    ·rename_i hk
     cases h
     have⟨x,y,hx,hy,hfx⟩:=Zf7 hv
     cases hfx
     have e1:=h1 x hx
     have e2:=h2 y hy
     subst e1;subst e2
     have:=q.ok x (castS hm y)
     rw[castS_e]at this
     simp only[evF,Ty.e]
     rw[← hk]
     erw [this];rfl
    ·simp at h
   ·simp at h
  ·simp at h
 ·
  rename_i t a
  obtain⟨r,rfl,h1⟩:=TAs1 hr
  cases h
  have⟨x,hx,hfx⟩:=ZhA hv
  cases hfx
  have:=h1 x hx
  subst this
  simp only[Ty.e]
  have⟨s,hs,_⟩:=Zib (n:=t.sz U) (List.map (t.e U) x)
  rw[hs]
  simp only[evF,List.length_map]
 ·
  obtain⟨r,rfl,h1⟩:=TAs1 hr
  cases h
  have⟨x,hx,hfx⟩:=ZhA hv
  cases hfx
  have:=h1 x hx
  subst this
  rfl
 ·
  rename_i n t a k b
  obtain⟨r,s,rfl,h1,h2⟩:=TAs2 hr
  split at h
  ·rename_i hn
   have hn:=Nat.eq_of_beq_eq_true hn
   cases h
   have⟨x,i,hx,hi,hfx⟩:=Zf7 hv
   have e1:=h1 x hx
   have e2:=h2 i hi
   subst e1;subst e2
   split at hfx
   ·rename_i hb
    have hne:x≠[]:=by intro h0;subst h0;simp at hb;omega
    simp only[Ty.e,ZoH _ x hne,evF,List.length_map]
    rw[if_pos ⟨hn,hb.1,hb.2⟩]
    simp only[oI,List.getD_eq_getElem?_getD,List.getElem?_map,hfx,Option.map_some,Option.getD_some]
   ·simp at hfx
  ·simp at h
 ·
  obtain⟨r,s,rfl,h1,h2⟩:=TAs2 hr
  cases h
  have⟨x,i,hx,hi,hfx⟩:=Zf7 hv
  have e1:=h1 x hx
  have e2:=h2 i hi
  subst e1;subst e2
  split at hfx
  ·rename_i hb
   cases hfx
   simp only[Ty.e,evF,if_pos hb]
  ·simp at hfx
 ·
  obtain⟨r,s,t,rfl,h1,h2,h3⟩:=TAs3 hr
  cases h
  have⟨x,l,u,hx,hl,hu,hfx⟩:=Zp9 hv
  have e1:=h1 x hx
  have e2:=h2 l hl
  have e3:=h3 u hu
  subst e1;subst e2;subst e3
  split at hfx
  ·rename_i hb
   cases hfx
   simp only[Ty.e,evF,if_pos hb]
  ·simp at hfx
 ·
  rename_i n t a k b k' c
  obtain⟨r,s,t',rfl,h1,h2,h3⟩:=TAs3 hr
  split at h
  ·rename_i hn
   have hn:=Nat.eq_of_beq_eq_true hn
   cases h
   have⟨x,l,u,hx,hl,hu,hfx⟩:=Zp9 hv
   have e1:=h1 x hx
   have e2:=h2 l hl
   have e3:=h3 u hu
   subst e1;subst e2;subst e3
   split at hfx
   ·rename_i hb
    cases hfx
    have⟨s,hs,hs'⟩:=Zib (n:=t.sz U) (List.map (t.e U) x)
    simp only[Ty.e,hs,evF,List.length_map]
    rw[if_pos ⟨by rw[← hn];exact hs',hb.1,hb.2.1,hb.2.2⟩,hn,List.map_drop,List.map_take]
   ·simp at hfx
  ·simp at h
 ·
  rename_i n b t a t' c
  obtain⟨r,s,rfl,h1,h2⟩:=TAs2 hr
  split at h
  ·rename_i ht
   subst ht
   split at h
   ·rename_i hc
    rw[bA]at hc
    have hn:=Nat.eq_of_beq_eq_true hc.1
    cases h
    have hv2:appT b a (castF rfl c) e=some v:=hv
    have⟨x,y,hx,hy,hfx⟩:=Zf7 hv2
    have hy:(c e).bind (fun y=>some y)=some y:=hy
    cases hcy:c e with
    | none=>simp[hcy]at hy
    | some y'=>
     simp only[hcy,Option.bind_some,oI]at hy
     have hy:y'=y:=hy
     subst hy
     have e1:=h1 x hx
     have e2:=h2 y' hcy
     subst e1;subst e2
     split at hfx
     ·rename_i hb
      cases hfx
      have⟨s1,hs,hs'⟩:=Zib (n:=t'.sz U) (List.map (t'.e U) x)
      have⟨s2,hq,hq'⟩:=Zib (n:=t'.sz U) (List.map (t'.e U) y')
      simp only[Ty.e,hs,hq,evF,List.length_map]
      rw[if_pos ⟨by rw[← hn];exact hs',by rw[← hn];exact hq',Zqa hc.2 hn y',hb.1,hb.2⟩,hn,List.map_append]
     ·simp at hfx
   ·simp at h
  ·simp at h
 ·
  rename_i n A As'
  split at h
  ·rename_i hc
   rw[bA]at hc
   have hn:=Nat.eq_of_beq_eq_true hc.1
   split at h
   ·rename_i g hg
    cases h
    have:=Zrp A.t (A::As') g hg e rs hr v hv
    subst this
    simp only[Ty.e]
    unfold evF
    cases v with
    | nil=>simp only[List.map_nil,List.all_nil,if_true];rw[hn]
    | cons x l=>
     have:=Zqa hc.2 hn (x::l)
     simp only[this,if_true];rw[hn]
   ·simp at h
  ·simp at h
 ·
  rename_i c t a t' b
  obtain⟨r,s,u,rfl,h1,h2,h3⟩:=TAs3 hr
  split at h
  ·rename_i ht
   subst ht
   split at h
   ·rename_i hs
    cases h
    simp only at hv
    cases hx:c e with
    | none=>simp[hx]at hv
    | some x=>
     simp only[hx,Option.bind_some]at hv
     have e1:=h1 x hx
     subst e1
     have key:∀w:t'.T U,∃z,t'.e U w=[.lit z]:=by
      intro w;cases t' <;> simp only[scal,bF]at hs
      ·exact⟨_,rfl⟩
      ·exact⟨_,rfl⟩
      ·exact⟨_,rfl⟩
     have⟨z,hz⟩:=key v
     cases x with
     | true=>
      simp only[if_true]at hv
      have e2:=h2 v hv
      subst e2
      simp only[Ty.e,evF,if_true]
      rw[hz]
     | false=>
      simp only[bF,if_false]at hv
      cases hy:b e with
      | none=>simp[hy]at hv
      | some y=>
       simp only[hy,Option.bind_some,castT,oI]at hv
       subst hv
       have e3:=h3 y hy
       subst e3
       simp only[Ty.e,evF,bF,if_false]
       rw[hz]
   ·simp at h
  ·simp at h
 ·
  rename_i mx k a k' b
  obtain⟨r,s,rfl,h1,h2⟩:=TAs2 hr
  split at h
  ·rename_i hk
   subst hk
   cases h
   have⟨x,y,hx,hy,hfx⟩:=Zf7 hv
   cases hfx
   have e1:=h1 x hx
   have e2:=h2 y hy
   subst e1;subst e2
   simp only[Ty.e,evF,if_true]
  ·simp at h
 ·
  obtain⟨r,s,rfl,h1,h2⟩:=TAs2 hr
  cases h
  have⟨x,y,hx,hy,hfx⟩:=Zf7 hv
  split at hfx
  ·rename_i h0
   cases hfx
   have e1:=h1 x hx
   have e2:=h2 y hy
   subst e1;subst e2
   simp only[Ty.e,evF,if_pos h0]
  ·cases hfx
 ·
  obtain⟨r,rfl,h1⟩:=TAs1 hr
  cases h
  have⟨x,hx,hfx⟩:=ZhA hv
  cases hfx
  have:=h1 x hx
  subst this
  rfl
 ·simp at h
end Go.AW

namespace Go.AW
open Go.RowKit
structure TC (U:Uni) where
 as:List Ty
 rs:List Ty
 F:Env U as→Option (Env U rs)
abbrev Res (U:Uni)(rt:List Ty):List (List Ty)→Type
 | []=>Env U rt
 | l::ls=>Env U l⊕Res U rt ls
def Res.rs (U:Uni)(rt:List Ty):(ls:List (List Ty))→Res U rt ls→Rs
 | [],r=>.fin (Env.rows U rt r)
 | l::_,.inl v=>.nxt (Env.rows U l v)
 | _::ls,.inr r=>.esc (Res.rs U rt ls r)
def valsT (U:Uni)(ts:List Ty):List (TA U ts)→(l:List Ty)→Option (Env U ts→Option (Env U l))
 | [],[]=>some fun _=>some ()
 | A::As,t::l=>if h:A.t=t then(match valsT U ts As l with
  | some g=>some fun e=>(A.f e).bind fun x=>(g e).bind fun y=>some (castT h x,y)
  | none=>none)else none
 | _,_=>none
def loopT {A B:Type}:Nat→(A→Option (A⊕B))→A→Option B
 | 0,_,_=>none
 | n+1,f,v=>match f v with
  | some (.inl v')=>loopT n f v'
  | some (.inr r)=>some r
  | none=>none
theorem lpEx:∃f:(A B:Type)→(A→Option (A⊕B))→A→Option B,f=fun _ _=>loopT FUEL':=⟨_,rfl⟩
noncomputable def loopS {A B:Type}(f:A→Option (A⊕B))(v:A):Option B:=Classical.choose lpEx A B f v
theorem Zlu {A B:Type}(f:A→Option (A⊕B))(v:A):loopS f v=loopT FUEL' f v:=by
 unfold loopS;rw[Classical.choose_spec lpEx]
def tysOf {U:Uni}{ts:List Ty}:List (TA U ts)→List Ty
 | []=>[]
 | A::As=>A.t::tysOf As
def boolT {U:Uni}{ts:List Ty}(A:TA U ts):Option (Env U ts→Option Bool):=match A with
 | ⟨.bool,f⟩=>some f
 | _=>none
noncomputable def comp (U:Uni)(tb:Tabs U)(con:Nat→Option (TC U))(rt:List Ty):Tr→(n:Nat)→(ts:List Ty)→(ls:List (List Ty))→Hs U→Option ((Env U ts→Option (Res U rt ls))×Hs U)
 | .fin as,n,ts,[],hs=>(match atsT U ts n hs as with
  | some (As,hs)=>(match valsT U ts As rt with
   | some g=>some (g,hs)
   | none=>none)
  | none=>none)
 | .nxt as,n,ts,l::_,hs=>(match atsT U ts n hs as with
  | some (As,hs)=>(match valsT U ts As l with
   | some g=>some (fun e=>(g e).bind fun v=>some (.inl v),hs)
   | none=>none)
  | none=>none)
 | .esc t,n,ts,_::ls,hs=>(match comp U tb con rt t n ts ls hs with
  | some (g,hs)=>some (fun e=>(g e).bind fun r=>some (.inr r),hs)
  | none=>none)
 | .op none f as t,n,ts,ls,hs=>(match atsT U ts n hs as with
  | some (As,hs)=>(match opT U tb ts f As with
   | some O=>(match comp U tb con rt t (n+1) (O.t::ts) ls hs with
    | some (g,hs)=>some (fun e=>(O.f e).bind fun v=>g (v,e),hs)
    | none=>none)
   | none=>none)
  | none=>none)
 | .op (some a) f as t,n,ts,ls,hs=>(match atT U ts n hs a with
  | some (A,hs)=>(match boolT A with
   | some c=>(match atsT U ts n hs as with
    | some (As,hs)=>(match opT U tb ts f As with
     | some O=>(match comp U tb con rt t (n+1) (.opt O.t::ts) ls hs with
      | some (g,hs)=>some (fun e=>(c e).bind fun b=>(if b=true then(O.f e).bind fun v=>some (some v)else some none).bind fun v=>g (v,e),hs)
      | none=>none)
     | none=>none)
    | none=>none)
   | none=>none)
  | none=>none)
 | .ite a x y,n,ts,ls,hs=>(match atT U ts n hs a with
  | some (A,hs)=>(match boolT A with
   | some c=>(match comp U tb con rt x n ts ls hs with
    | some (gx,hs)=>(match comp U tb con rt y n ts ls hs with
     | some (gy,hs)=>some (fun e=>(c e).bind fun b=>if b=true then gx e else gy e,hs)
     | none=>none)
    | none=>none)
   | none=>none)
  | none=>none)
 | .call none k as m t,n,ts,ls,hs=>(match con k with
  | some C=>if Nat.beq m C.rs.length=true then(match atsT U ts n hs as with
   | some (As,hs)=>(match valsT U ts As C.as with
    | some v=>(match comp U tb con rt t (n+m) (pushT C.rs ts) ls hs with
     | some (g,hs)=>some (fun e=>(v e).bind fun a=>(C.F a).bind fun r=>g (push U C.rs ts r e),hs)
     | none=>none)
    | none=>none)
   | none=>none)else none
  | none=>none)
 | .call (some a) k as m t,n,ts,ls,hs=>(match con k with
  | some C=>if Nat.beq m C.rs.length=true then(match atT U ts n hs a with
   | some (A,hs)=>(match boolT A with
    | some c=>(match atsT U ts n hs as with
     | some (As,hs)=>(match valsT U ts As C.as with
      | some v=>(match comp U tb con rt t (n+m) (Zhl C.rs ts) ls hs with
       | some (g,hs)=>some (fun e=>(c e).bind fun b=>(if b=true then(v e).bind fun a=>(C.F a).bind fun r=>some (some r)else some none).bind fun r=>g (pusho U C.rs ts r e),hs)
       | none=>none)
      | none=>none)
     | none=>none)
    | none=>none)
   | none=>none)else none
  | none=>none)
 | .loop init body,n,ts,ls,hs=>(match atsT U ts n hs init with
  | some (As,hs)=>(match valsT U ts As (tysOf As)with
   | some v=>(match comp U tb con rt body (n+As.length) (pushT (tysOf As) ts) (tysOf As::ls) hs with
    | some (g,hs)=>some (fun e=>(v e).bind fun v=>loopS (fun v=>g (push U (tysOf As) ts v e)) v,hs)
    | none=>none)
   | none=>none)
  | none=>none)
 | .err _ _,_,_,_,hs=>some (fun _=>none,hs)
 | _,_,_,_,_=>none
theorem Zg9 (U:Uni)(ts:List Ty):∀(As:List (TA U ts)) (l:List Ty) (g:Env U ts→Option (Env U l)),valsT U ts As l=some g→∀(e:Env U ts) (rs:List Row),TAs.of e As rs→∀v,g e=some v→rs=Env.rows U l v
 | [],[],g,h,e,rs,hr,v,hv=>by
  cases rs with
  | nil=>rfl
  | cons _ _=>exact hr.elim
 | [],_::_,g,h,_,_,_,_,_=>by simp[valsT]at h
 | _::_,[],g,h,_,_,_,_,_=>by simp[valsT]at h
 | A::As,t::l,g,h,e,rs,hr,v,hv=>by
  simp only[valsT]at h
  split at h
  ·rename_i hc
   split at h
   ·rename_i g' hg
    simp only[oI]at h;subst h
    cases rs with
    | nil=>exact hr.elim
    | cons r rs=>
     cases ha:A.f e with
     | none=>simp[ha]at hv
     | some x=>
      cases hb:g' e with
      | none=>simp[ha,hb]at hv
      | some xs=>
       simp only[ha,hb,Option.bind_some]at hv;cases hv
       simp only[Env.rows]
       rw[Znm,← hr.1 x ha,← Zg9 U ts As l g' hg e rs hr.2 xs hb]
   ·simp at h
  ·simp at h
theorem ZgX (U:Uni):∀(l ts:List Ty) (v:Env U l) (e:Env U ts),(Env.rows U _ (push U l ts v e)).reverse=(Env.rows U ts e).reverse++Env.rows U l v
 | [],ts,v,e=>by simp[push,Env.rows,pushT]
 | t::l,ts,v,e=>by
  have:=ZgX U l (t::ts) v.2 (v.1,e)
  simp only[push,pushT]at this ⊢
  rw[this];simp only[Env.rows,List.reverse_cons,List.append_assoc,List.singleton_append]
theorem ZkG (U:Uni):∀(l ts:List Ty) (v:Env U l) (e:Env U ts),(Env.rows U _ (pusho U l ts (some v) e)).reverse=(Env.rows U ts e).reverse++Env.rows U l v
 | [],ts,v,e=>by simp[pusho,Env.rows,Zhl]
 | t::l,ts,v,e=>by
  have:=ZkG U l (.opt t::ts) v.2 (some v.1,e)
  simp only[pusho,Zhl,Option.map_some]at this ⊢
  rw[this];simp only[Env.rows,List.reverse_cons,List.append_assoc,List.singleton_append];rfl
theorem ZkH (U:Uni):∀(l ts:List Ty) (e:Env U ts),(Env.rows U _ (pusho U l ts none e)).reverse=(Env.rows U ts e).reverse++List.replicate l.length []
 | [],ts,e=>by simp[pusho,Env.rows,Zhl]
 | t::l,ts,e=>by
  have:=ZkH U l (.opt t::ts) ((none:Option (t.T U)),e)
  simp only[pusho,Zhl,Option.map_none]at this ⊢
  rw[this];simp only[Env.rows,List.reverse_cons,List.append_assoc,List.singleton_append,List.length_cons,List.replicate_succ];rfl
theorem ZgY:∀(l ts:List Ty),(pushT l ts).length=ts.length+l.length
 | [],ts=>rfl
 | t::l,ts=>by simp only[pushT];rw[ZgY l (t::ts)];simp only[List.length_cons];omega
theorem ZkI:∀(l ts:List Ty),(Zhl l ts).length=ts.length+l.length
 | [],ts=>rfl
 | t::l,ts=>by simp only[Zhl];rw[ZkI l (.opt t::ts)];simp only[List.length_cons];omega
theorem ZmG {U:Uni}{ts:List Ty}:∀As:List (TA U ts),(tysOf As).length=As.length
 | []=>rfl
 | _::As=>by simp[tysOf,ZmG As]
theorem Zlv {U:Uni}{ts:List Ty}{A:TA U ts}{c:Env U ts→Option Bool}(h:boolT A=some c){e:Env U ts}{r:Row}(hr:A.of e r){b:Bool}(hb:c e=some b):r=[.lit (.bool b)]:=by
 unfold boolT at h
 split at h
 ·cases h;exact hr b hb
 ·simp at h
theorem Zbf {α β:Type}{o:Option α}{f:α→Option β}{v:β}(h:o.bind f=some v):∃x,o=some x∧f x=some v:=by
 cases o with
 | none=>simp at h
 | some x=>exact⟨x,rfl,h⟩
theorem Zoc {A B:Type}(f:A→Option (A⊕B))(F:List Row→Option Rs)(ra:A→List Row)(rb:B→Rs)(h:∀v r,f v=some r→F (ra v)=some (match r with | .inl v=>.nxt (ra v) | .inr r=>.esc (rb r))) :
  ∀n v r,loopT n f v=some r→loopN n F (ra v)=some (rb r)
 | 0,v,r,hl=>by simp[loopT]at hl
 | n+1,v,r,hl=>by
  simp only[loopT]at hl
  split at hl
  ·rename_i v' hv
   simp only[loopN,h v _ hv]
   exact Zoc f F ra rb h n v' r hl
  ·rename_i r' hv
   cases hl
   simp only[loopN,h v _ hv]
  ·simp at hl
theorem Zqb (U:Uni)(tb:Tabs U)(con:Nat→Option (TC U))(rt:List Ty)(Γ:Den)(HC:∀k C,con k=some C→∀a r,C.F a=some r→Γ k (Env.rows U C.as a)=some (Env.rows U C.rs r)) :
  ∀(t:Tr) (n:Nat) (ts:List Ty) (ls:List (List Ty)) (hs:Hs U) (g:Env U ts→Option (Res U rt ls)) (hs':Hs U),n=ts.length→comp U tb con rt t n ts ls hs=some (g,hs') →
   ∀e r,g e=some r→run Γ t (Env.rows U ts e).reverse=some (Res.rs U rt ls r):=by
 intro t
 induction t with
 | fin as=>
  intro n ts ls hs g hs' hn h e r hr
  cases ls with
  | cons _ _=>simp[comp]at h
  | nil=>
   simp only[comp]at h
   split at h
   ·rename_i As hs1 ha
    split at h
    ·rename_i g' hg
     cases h
     have⟨rs,h1,h2⟩:=ZgW U ts n hn as hs As _ ha e
     simp only[run,h1,Option.map_some,Res.rs]
     rw[Zg9 U ts As rt _ hg e rs h2 r hr]
    ·simp at h
   ·simp at h
 | nxt as=>
  intro n ts ls hs g hs' hn h e r hr
  cases ls with
  | nil=>simp[comp]at h
  | cons l ls=>
   simp only[comp]at h
   split at h
   ·rename_i As hs1 ha
    split at h
    ·rename_i g' hg
     cases h
     have⟨v,hv,hr⟩:=Zbf hr
     cases hr
     have⟨rs,h1,h2⟩:=ZgW U ts n hn as hs As _ ha e
     simp only[run,h1,Option.map_some,Res.rs]
     rw[Zg9 U ts As l _ hg e rs h2 v hv]
    ·simp at h
   ·simp at h
 | esc t ih=>
  intro n ts ls hs g hs' hn h e r hr
  cases ls with
  | nil=>simp[comp]at h
  | cons l ls=>
   simp only[comp]at h
   split at h
   ·rename_i g' hs1 hg
    cases h
    have⟨v,hv,hr⟩:=Zbf hr
    cases hr
    simp only[run,ih n ts ls hs g' _ hn hg e v hv,Option.map_some,Res.rs]
   ·simp at h
 | op gd f as t ih=>
  intro n ts ls hs g hs' hn h e r hr
  cases gd with
  | none=>
   simp only[comp]at h
   split at h
   ·rename_i As hs1 ha
    split at h
    ·rename_i O hO
     split at h
     ·rename_i g' hs2 hg
      cases h
      have⟨v,hv,hr⟩:=Zbf hr
      have⟨rs,h1,h2⟩:=ZgW U ts n hn as hs As _ ha e
      have h3:=Zrq U tb ts f As O hO e rs h2 v hv
      have h4:=ih (n+1) (O.t::ts) ls hs1 g' _ (by rw[hn];rfl) hg (v,e) r hr
      simp only[run,gate,h1,Option.bind_some,h3]
      simp only[Env.rows,List.reverse_cons]at h4
      exact h4
     ·simp at h
    ·simp at h
   ·simp at h
  | some a=>
   simp only[comp]at h
   split at h
   ·rename_i A hs0 hA
    split at h
    ·rename_i c hc
     split at h
     ·rename_i As hs1 ha
      split at h
      ·rename_i O hO
       split at h
       ·rename_i g' hs2 hg
        cases h
        have⟨b,hb,hr⟩:=Zbf hr
        have⟨w,hw,hr⟩:=Zbf hr
        have⟨ra,h5,h6⟩:=Zn9 U ts n hn hs a A _ hA e
        have h7:=Zlv hc h6 hb
        subst h7
        have h4:=ih (n+1) (.opt O.t::ts) ls hs1 g' _ (by rw[hn];rfl) hg (w,e) r hr
        simp only[Env.rows,List.reverse_cons]at h4
        cases b with
        | false=>
         simp only[bF,if_false,oI]at hw
         subst hw
         simp only[run,gate,h5]
         exact h4
        | true=>
         simp only[if_true]at hw
         have⟨v,hv,hw⟩:=Zbf hw
         cases hw
         have⟨rs,h1,h2⟩:=ZgW U ts n hn as hs0 As _ ha e
         have h3:=Zrq U tb ts f As O hO e rs h2 v hv
         simp only[run,gate,h5,h1,Option.bind_some,h3]
         exact h4
       ·simp at h
      ·simp at h
     ·simp at h
    ·simp at h
   ·simp at h
 | ite a x y ihx ihy=>
  intro n ts ls hs g hs' hn h e r hr
  simp only[comp]at h
  split at h
  ·rename_i A hs0 hA
   split at h
   ·rename_i c hc
    split at h
    ·rename_i gx hs1 hx
     split at h
     ·rename_i gy hs2 hy
      cases h
      have⟨b,hb,hr⟩:=Zbf hr
      have⟨ra,h5,h6⟩:=Zn9 U ts n hn hs a A _ hA e
      have h7:=Zlv hc h6 hb
      subst h7
      cases b with
      | true=>
       simp only[if_true]at hr
       simp only[run,h5,if_true]
       exact ihx n ts ls hs0 gx _ hn hx e r hr
      | false=>
       simp only[bF,if_false]at hr
       simp only[run,h5,bF,if_false]
       exact ihy n ts ls hs1 gy _ hn hy e r hr
     ·simp at h
    ·simp at h
   ·simp at h
  ·simp at h
 | call gd k as m t ih=>
  intro n ts ls hs g hs' hn h e r hr
  cases gd with
  | none=>
   simp only[comp]at h
   split at h
   ·rename_i C hC
    split at h
    ·rename_i hm
     have hm:=Nat.eq_of_beq_eq_true hm
     split at h
     ·rename_i As hs1 ha
      split at h
      ·rename_i vv hvv
       split at h
       ·rename_i g' hs2 hg
        cases h
        have⟨a,hav,hr⟩:=Zbf hr
        have⟨o,ho,hr⟩:=Zbf hr
        have⟨rs,h1,h2⟩:=ZgW U ts n hn as hs As _ ha e
        have h3:=Zg9 U ts As C.as vv hvv e rs h2 a hav
        have h4:=HC k C hC a o ho
        have h5:=ih (n+m) (pushT C.rs ts) ls hs1 g' _ (by rw[ZgY,hn,hm]) hg _ r hr
        rw[ZgX]at h5
        simp only[run,gate,h1,Option.bind_some,h3,h4]
        rw[if_pos (by rw[Zi9,hm])]
        exact h5
       ·simp at h
      ·simp at h
     ·simp at h
    ·simp at h
   ·simp at h
  | some a=>
   simp only[comp]at h
   split at h
   ·rename_i C hC
    split at h
    ·rename_i hm
     have hm:=Nat.eq_of_beq_eq_true hm
     split at h
     ·rename_i A hs0 hA
      split at h
      ·rename_i c hc
       split at h
       ·rename_i As hs1 ha
        split at h
        ·rename_i vv hvv
         split at h
         ·rename_i g' hs2 hg
          cases h
          have⟨b,hb,hr⟩:=Zbf hr
          have⟨w,hw,hr⟩:=Zbf hr
          have⟨ra,h5,h6⟩:=Zn9 U ts n hn hs a A _ hA e
          have h7:=Zlv hc h6 hb
          subst h7
          have h8:=ih (n+m) (Zhl C.rs ts) ls hs1 g' _ (by rw[ZkI,hn,hm]) hg _ r hr
          cases b with
          | false=>
           simp only[bF,if_false,oI]at hw
           subst hw
           rw[ZkH]at h8
           simp only[run,gate,h5,hm]
           exact h8
          | true=>
           simp only[if_true]at hw
           have⟨av,hav,hw⟩:=Zbf hw
           have⟨o,ho,hw⟩:=Zbf hw
           cases hw
           rw[ZkG]at h8
           have⟨rs,h1,h2⟩:=ZgW U ts n hn as hs0 As _ ha e
           have h3:=Zg9 U ts As C.as vv hvv e rs h2 av hav
           have h4:=HC k C hC av o ho
           simp only[run,gate,h5,h1,Option.bind_some,h3,h4]
           rw[if_pos (by rw[Zi9,hm])]
           exact h8
         ·simp at h
        ·simp at h
       ·simp at h
      ·simp at h
     ·simp at h
    ·simp at h
   ·simp at h
 | loop init body ih=>
  intro n ts ls hs g hs' hn h e r hr
  simp only[comp]at h
  split at h
  ·rename_i As hs1 ha
   split at h
   ·rename_i vv hvv
    split at h
    ·rename_i g' hs2 hg
     cases h
     have⟨v,hv,hr⟩:=Zbf hr
     have⟨rs,h1,h2⟩:=ZgW U ts n hn init hs As _ ha e
     have h3:=Zg9 U ts As _ vv hvv e rs h2 v hv
     simp only[run,h1,Option.bind_some,h3]
     rw[Zlu]at hr
     refine Zoc _ _ (Env.rows U (tysOf As)) (Res.rs U rt ls) ?_ _ v r hr
     intro v1 r1 hr1
     have h5:=ih (n+As.length) (pushT (tysOf As) ts) (tysOf As::ls) hs1 g' _ (by rw[ZgY,hn,ZmG]) hg _ r1 hr1
     rw[ZgX]at h5
     rw[h5]
     cases r1 <;> rfl
    ·simp at h
   ·simp at h
  ·simp at h
 | err c d=>
  intro n ts ls hs g hs' hn h e r hr
  simp only[comp,oI,Prod.mk.injEq]at h
  rw[← h.1]at hr
  cases hr
end Go.AW

namespace Go.AW
open Go.RowKit
theorem ZkJ {f g:List Row→Option Rs}(h:∀v r,f v=some r→g v=some r):∀n v r,loopN n f v=some r→loopN n g v=some r
 | 0,v,r,hr=>by simp[loopN]at hr
 | n+1,v,r,hr=>by
  simp only[loopN]at hr ⊢
  cases hf:f v with
  | none=>rw[hf]at hr;simp at hr
  | some x=>
   rw[hf]at hr;rw[h v x hf]
   cases x with
   | fin _=>simp at hr
   | nxt vs=>exact ZkJ h n vs r hr
   | esc r'=>exact hr
theorem Zlw {Γ Γ':Den}(h:∀k ρ o,Γ k ρ=some o→Γ' k ρ=some o):∀(t:Tr) (ρ:List Row) (r:Rs),run Γ t ρ=some r→run Γ' t ρ=some r:=by
 intro t
 induction t with
 | fin as=>intro ρ r hr;exact hr
 | nxt as=>intro ρ r hr;exact hr
 | esc t ih=>
  intro ρ r hr
  simp only[run,Option.map_eq_some_iff]at hr ⊢
  obtain⟨x,hx,rfl⟩:=hr
  exact⟨x,ih ρ x hx,rfl⟩
 | op g f as t ih=>
  intro ρ r hr
  simp only[run]at hr ⊢
  cases hg:gate ρ g with
  | none=>rw[hg]at hr;simp at hr
  | some b=>
   rw[hg]at hr
   cases b with
   | false=>exact ih _ _ hr
   | true=>
    simp only at hr ⊢
    have⟨rs,h1,hr⟩:=Zbf hr
    have⟨x,h2,hr⟩:=Zbf hr
    simp only[h1,h2,Option.bind_some]
    exact ih _ _ hr
 | ite a x y ihx ihy=>
  intro ρ r hr
  simp only[run]at hr ⊢
  split at hr
  ·rename_i b hb
   split at hr
   ·rename_i hb';rw[if_pos hb'];exact ihx _ _ hr
   ·rename_i hb';rw[if_neg hb'];exact ihy _ _ hr
  ·simp at hr
 | call g k as n t ih=>
  intro ρ r hr
  simp only[run]at hr ⊢
  cases hg:gate ρ g with
  | none=>rw[hg]at hr;simp at hr
  | some b=>
   rw[hg]at hr
   cases b with
   | false=>exact ih _ _ hr
   | true=>
    simp only at hr ⊢
    have⟨rs,h1,hr⟩:=Zbf hr
    have⟨x,h2,hr⟩:=Zbf hr
    simp only[h1,h k rs x h2,Option.bind_some]
    split at hr
    ·rename_i hn;rw[if_pos hn];exact ih _ _ hr
    ·simp at hr
 | loop init body ih=>
  intro ρ r hr
  simp only[run]at hr ⊢
  have⟨vs,h1,hr⟩:=Zbf hr
  simp only[h1,Option.bind_some]
  exact ZkJ (fun v r hv=>ih _ _ hv) _ _ _ hr
 | err c d=>intro ρ r hr;simp[run]at hr
abbrev Ch:=List (Nat×Spec×List (Nat×Hint))
def conL (T:Tab)(l:Ch)(k:Nat):Option Spec:=match lk k l with
 | some x=>some x.1
 | none=>lk k T.con
def Tab.at (T:Tab)(l:Ch)(h:List (Nat×Hint)):Cf:={ T.cf with con:=conL T l,hint:=fun k=>(lk k h).getD {} }
def recM (h:List (Nat×Hint)):Bool:=(lk 7 h).isSome
abbrev D1:=List Row→Option (List Row)
def iterD (f:D1→D1):Nat→D1
 | 0=>fun _=>none
 | n+1=>f (iterD f n)
open Classical in
noncomputable def supD (f:D1→D1):D1:=fun ρ=>if h:∃n o,iterD f n ρ=some o then some (Classical.choose (Classical.choose_spec h))else none
theorem ZmH {f:D1→D1}{ρ:List Row}{o:List Row}(h:supD f ρ=some o):∃n,iterD f n ρ=some o:=by
 unfold supD at h
 split at h
 ·rename_i hh
  cases h
  exact⟨_,Classical.choose_spec (Classical.choose_spec hh)⟩
 ·cases h
def plusD (Γ:Den)(k:Nat)(X:D1):Den:=fun j r=>if Nat.beq j k=true then X r else Γ j r
def stepD (Γ:Den)(t:Tr)(k:Nat)(X:D1):D1:=out (plusD Γ k X) t
noncomputable def denL (T:Tab)(B:Den):Ch→Den
 | []=>B
 | (k,sp,h)::l=>fun k' ρ=>if Nat.beq k' k=true then(if recM h=true then supD (stepD (denL T B l) (tree (T.at ((k,sp,h)::l) h) k sp) k) ρ else out (denL T B l) (tree (T.at l h) k sp) ρ)else denL T B l k' ρ
theorem ZqV {Γ Γ':Den}(h:∀k ρ o,Γ k ρ=some o→Γ' k ρ=some o){t:Tr}{ρ o:List Row}(ho:out Γ t ρ=some o):out Γ' t ρ=some o:=by
 unfold out at ho ⊢
 split at ho
 ·rename_i rs hrs
  rw[Zlw h _ _ _ hrs]
  exact ho
 ·cases ho
theorem ZkK (Γ:Den)(t:Tr)(k:Nat):∀(n:Nat) {ρ o:List Row},iterD (stepD Γ t k) n ρ=some o→iterD (stepD Γ t k) (n+1) ρ=some o
 | 0,ρ,o,h=>by simp[iterD]at h
 | n+1,ρ,o,h=>by
  refine ZqV (fun j r x hx=>?_) h
  simp only[plusD]at hx ⊢
  by_cases hj:Nat.beq j k=true
  ·simp only[hj,if_true]at hx ⊢
   exact ZkK Γ t k n hx
  ·simp only[hj,if_false]at hx ⊢
   exact hx
theorem Zlx (Γ:Den)(t:Tr)(k n:Nat):∀(d:Nat) {ρ o:List Row},iterD (stepD Γ t k) n ρ=some o→iterD (stepD Γ t k) (n+d) ρ=some o
 | 0,_,_,h=>h
 | d+1,_,_,h=>ZkK Γ t k (n+d) (Zlx Γ t k n d h)
theorem supD_of {Γ:Den}{t:Tr}{k n:Nat}{ρ o:List Row}(h:iterD (stepD Γ t k) n ρ=some o):supD (stepD Γ t k) ρ=some o:=by
 have hex:∃n o,iterD (stepD Γ t k) n ρ=some o:=⟨n,o,h⟩
 have h1:supD (stepD Γ t k) ρ=some (Classical.choose (Classical.choose_spec hex)):=dif_pos hex
 obtain⟨m,h2⟩:=ZmH h1
 have h3:=Zlx Γ t k n m h
 have h4:=Zlx Γ t k m n h2
 rw[Nat.add_comm,h3]at h4
 rw[h1,h4]
def Zod (T:Tab)(B:Den)(Γ:Den)(l:Ch):Prop:=∀k sp,conL T l k=some sp→∀ρ,Γ k ρ=denL T B l k ρ
theorem Zod.tail {T:Tab}{B:Den}{Γ:Den}{k:Nat}{x:Spec×List (Nat×Hint)}{l:Ch}(h:Zod T B Γ ((k,x)::l))(hk:conL T l k=none):Zod T B Γ l:=by
 intro k' sp' hl ρ
 have hne:Nat.beq k' k=false:=by
  cases hb:Nat.beq k' k with
  | false=>rfl
  | true=>rw[Nat.eq_of_beq_eq_true hb,hk]at hl;simp at hl
 have:=h k' sp' (by simp only[conL,lk,hne,bF,if_false];exact hl) ρ
 rw[this]
 simp only[denL,hne,bF,if_false]
noncomputable def compT (U:Uni)(tb:Tabs U)(con:Nat→Option (TC U))(rt:List Ty)(t:Tr)(n:Nat)(ts:List Ty)(ls:List (List Ty))(hs:Hs U):Option ((Env U ts→Option (Res U rt ls))×Hs U):=match isErr t with
 | true=>none
 | false=>comp U tb con rt t n ts ls hs
theorem ZiA {U:Uni}{tb:Tabs U}{con:Nat→Option (TC U)}{rt:List Ty}{t:Tr}{n:Nat}{ts:List Ty}{ls:List (List Ty)}{hs:Hs U}{x:(Env U ts→Option (Res U rt ls))×Hs U}(h:compT U tb con rt t n ts ls hs=some x):isErr t=false∧comp U tb con rt t n ts ls hs=some x:=by
 unfold compT at h
 split at h
 ·cases h
 ·rename_i he;exact⟨he,h⟩
def env0 (U:Uni):Env U []:=()
structure Chain (P:Program)(U:Uni)(T:Tab)(B:Den)(l:Ch)(tc:List (Nat×TC U)):Prop where
 ok:∀Γ h,Zod T B Γ l→Zn4 P (T.at l h) Γ
 dom:∀k ρ o,denL T B l k ρ=some o→∃sp,conL T l k=some sp
 den:∀k C,lk k tc=some C→∀a r,C.F a=some r→denL T B l k (Env.rows U C.as a)=some (Env.rows U C.rs r)
theorem Chain.nil {P:Program}{U:Uni}{T:Tab}(hT:T.con.isEmpty=true):Chain P U T (fun _ _=>none) [] []:=by
 have hT:T.con=[]:=by simpa using hT
 exact⟨fun Γ _ _ k sp h=>by simp[Tab.at,conL,lk,hT]at h,fun k ρ o h=>by simp[denL]at h,fun k C h=>by simp[lk]at h⟩
theorem Chain.cons {P:Program}{U:Uni}{T:Tab}{B:Den}{l:Ch}{tc:List (Nat×TC U)}(tb:Tabs U)(hc:CfOk P T.cf)(H:Chain P U T B l tc){k:Nat}{sp:Spec}{h:List (Nat×Hint)}{C:TC U}{hs:Hs U}(n:Nat)
  (hn:Nat.beq n C.as.length=true) (hk:(conL T l k).isNone=true) (hk':(lk k tc).isNone=true) (g:Env U (pushT C.as [])→Option (Env U C.rs)) (hg:compT U tb (fun j=>lk j tc) C.rs (tree (T.at l h) k sp) n (pushT C.as []) [] hs=some (g,[]))
  (hF:∀a,C.F a=g (push U C.as [] a (env0 U))) (hrec:recM h=false:=by rfl):Chain P U T B ((k,sp,h)::l) ((k,C)::tc):=by
 have hk:conL T l k=none:=by simpa using hk
 have hk':lk k tc=none:=by simpa using hk'
 have hcl:∀h,CfOk P (T.at l h):=fun _=>⟨hc.mo,hc.ti,hc.fn,hc.meth,hc.nilok,hc.xf⟩
 obtain⟨hne,hg⟩:=ZiA hg
 refine⟨fun Γ h' hA k' sp' hh=>?_,fun k' ρ o ho=>?_,fun k' C' hh a r hr=>?_⟩
 ·have hT:=hA.tail hk
  have hok:=fun h=>H.ok Γ h hT
  by_cases he:Nat.beq k' k=true
  ·simp only[Tab.at,conL,lk,he,if_true,oI]at hh
   subst hh
   rw[Nat.eq_of_beq_eq_true he]
   refine Zp7 (hcl h) (hok h) rfl hne fun ρ outs hΓ=>?_
   have:=hA k sp (by simp only[conL,lk,Nat.beq_refl,if_true]) ρ
   rw[this]at hΓ
   simp only[denL,Nat.beq_refl,if_true,hrec,bF,if_false,out]at hΓ
   split at hΓ
   ·rename_i rs hrs
    cases hΓ
    refine Zlw (fun k2 ρ2 o ho=>?_) _ _ _ hrs
    have⟨sp2,h2⟩:=H.dom _ _ _ ho
    rw[hT k2 sp2 h2 ρ2];exact ho
   ·simp at hΓ
  ·simp only[Tab.at,conL,lk,he,if_false]at hh
   exact hok h' k' sp' hh
 ·by_cases he:Nat.beq k' k=true
  ·exact⟨sp,by simp only[conL,lk,he,if_true]⟩
  ·simp only[denL,he,if_false]at ho
   have⟨sp',h'⟩:=H.dom _ _ _ ho
   exact⟨sp',by simp only[conL,lk,he,if_false];exact h'⟩
 ·simp only[lk]at hh
  split at hh
  ·rename_i he
   cases hh
   rw[Nat.eq_of_beq_eq_true he]
   simp only[denL,Nat.beq_refl,if_true,hrec,bF,if_false,out]
   rw[hF]at hr
   have:=Zqb U tb (fun j=>lk j tc) C.rs (denL T B l) H.den (tree (T.at l h) k sp) n (pushT C.as []) [] hs g [] (by rw[ZgY,Nat.eq_of_beq_eq_true hn];simp) hg _ r hr
   rw[ZgX]at this
   simp only[Env.rows,List.reverse_nil,List.nil_append]at this
   rw[this];rfl
  ·rename_i he
   simp only[denL,he,if_false]
   exact H.den k' C' hh a r hr
def iterF {α β:Type}(f:(α→Option β)→α→Option β):Nat→α→Option β
 | 0=>fun _=>none
 | n+1=>f (iterF f n)
open Classical in
noncomputable def recF {α β:Type}(f:(α→Option β)→α→Option β):α→Option β:=fun a=>if h:∃n r,iterF f n a=some r then some (Classical.choose (Classical.choose_spec h))else none
theorem Zqc {α β:Type}{f:(α→Option β)→α→Option β}{a:α}{r:β}(h:recF f a=some r):∃n,iterF f n a=some r:=by
 unfold recF at h
 split at h
 ·rename_i hh
  cases h
  exact⟨_,Classical.choose_spec (Classical.choose_spec hh)⟩
 ·cases h
theorem recF_of {α β:Type}{f:(α→Option β)→α→Option β}{a:α}{n:Nat}{r:β}(h:iterF f n a=some r):∃r',recF f a=some r':=by
 unfold recF
 rw[dif_pos ⟨n,r,h⟩]
 exact⟨_,rfl⟩
theorem ZdM.congr {P:Program}{Γ Γ':Den}{k:Nat}{sp:Spec}(h:ZdM P Γ k sp)(he:∀ρ o,Γ' k ρ=some o→Γ k ρ=some o):ZdM P Γ' k sp:=by
 obtain⟨hq,hn,h1,h2,h3⟩:=h
 exact⟨hq,hn,h1,h2,fun E st as outs J q1 q2 q3 q4=>h3 E st as outs J q1 q2 q3 (he _ _ q4)⟩
theorem ZqW {P:Program}{cf:Cf}{Γ:Den}{k:Nat}{sp:Spec}{T:Tr}(ht:tree cf k sp=T)(hne:isErr T=false)(h:∀ρ,Γ k ρ=none):ZdM P Γ k sp:=by
 unfold tree at ht
 split at ht
 ·subst ht;cases hne
 rename_i hq hn hh
 split at ht
 ·subst ht;cases hne
 rename_i hso
 simp only[Bool.not_eq_false]at hso
 exact⟨hq,hn,hh,hso,fun E st as outs J q1 q2 q3 q4=>by rw[h]at q4;cases q4⟩
theorem ZdM.sup {P:Program}{Γ:Den}{k:Nat}{sp:Spec}{G:Nat→Den}(h:∀n,ZdM P (G n) k sp)(he:∀ρ o,Γ k ρ=some o→∃n,G n k ρ=some o):ZdM P Γ k sp:=by
 obtain⟨hq,hn,h1,h2,h3⟩:=h 0
 refine⟨hq,hn,h1,h2,fun E st as outs J q1 q2 q3 q4=>?_⟩
 obtain⟨n,q5⟩:=he _ _ q4
 obtain⟨hq',hn',h1',h2',h3'⟩:=h n
 rw[h1]at h1'
 cases h1'
 exact h3' E st as outs J q1 q2 q3 q5
theorem Chain.consR {P:Program}{U:Uni}{T:Tab}{B:Den}{l:Ch}{tc:List (Nat×TC U)}(tb:Tabs U)(hc:CfOk P T.cf)(H:Chain P U T B l tc){k:Nat}{sp:Spec}{h:List (Nat×Hint)}{ts us:List Ty}{hs:Hs U}(n:Nat)
  (hn:Nat.beq n ts.length=true) (hk:(conL T l k).isNone=true) (hk':(lk k tc).isNone=true) (St:(Env U ts→Option (Env U us))→Env U ts→Option (Env U us)) (g:(Env U ts→Option (Env U us))→Env U (pushT ts [])→Option (Env U us))
  (hg:∀F,compT U tb (fun j=>lk j ((k,(⟨ts,us,F⟩:TC U))::tc)) us (tree (T.at ((k,sp,h)::l) h) k sp) n (pushT ts []) [] hs=some (g F,[]))
  (hF:∀F a,St F a=g F (push U ts [] a (env0 U))) (hrec:recM h=true):Chain P U T B ((k,sp,h)::l) ((k,⟨ts,us,recF St⟩)::tc):=by
 have hk:conL T l k=none:=by simpa using hk
 have hk':lk k tc=none:=by simpa using hk'
 have hcl:∀l h,CfOk P (T.at l h):=fun _ _=>⟨hc.mo,hc.ti,hc.fn,hc.meth,hc.nilok,hc.xf⟩
 have hne:isErr (tree (T.at ((k,sp,h)::l) h) k sp)=false:=(ZiA (hg fun _=>none)).1
 have hdk:∀ρ,denL T B ((k,sp,h)::l) k ρ=supD (stepD (denL T B l) (tree (T.at ((k,sp,h)::l) h) k sp) k) ρ:=fun ρ=>by simp only[denL,Nat.beq_refl,if_true,hrec]
 refine⟨fun Γ h' hA k' sp' hh=>?_,fun k' ρ o ho=>?_,fun k' C' hh a r hr=>?_⟩
 ·have hT:=hA.tail hk
  have hok:=fun h=>H.ok Γ h hT
  by_cases he:Nat.beq k' k=true
  ·simp only[Tab.at,conL,lk,he,if_true,oI]at hh
   subst hh
   rw[Nat.eq_of_beq_eq_true he]
   have all:∀n,ZdM P (plusD Γ k (iterD (stepD (denL T B l) (tree (T.at ((k,sp,h)::l) h) k sp) k) n)) k sp:=by
    intro n
    induction n with
    | zero=>exact ZqW rfl hne fun ρ=>by simp only[plusD,Nat.beq_refl,if_true,iterD]
    | succ n ih=>
     refine Zp7 (Γ:=plusD Γ k (iterD (stepD (denL T B l) (tree (T.at ((k,sp,h)::l) h) k sp) k) n)) (hcl ((k,sp,h)::l) h) (fun j spj hj=>?_) rfl hne fun ρ outs hΓ=>?_
     ·by_cases hjk:Nat.beq j k=true
      ·simp only[Tab.at,conL,lk,hjk,if_true,oI]at hj
       subst hj
       rw[Nat.eq_of_beq_eq_true hjk]
       exact ih
      ·simp only[Tab.at,conL,lk,hjk,if_false]at hj
       refine(hok h j spj hj).congr fun ρ o ho=>?_
       simp only[plusD,hjk,if_false]at ho
       exact ho
     ·simp only[plusD,Nat.beq_refl,if_true,iterD,stepD,out]at hΓ
      split at hΓ
      ·rename_i rs hrs
       cases hΓ
       refine Zlw (fun k2 ρ2 o ho=>?_) _ _ _ hrs
       simp only[plusD]at ho ⊢
       by_cases hj:Nat.beq k2 k=true
       ·simp only[hj,if_true]at ho ⊢
        exact ho
       ·simp only[hj,if_false]at ho ⊢
        have⟨sp2,h2⟩:=H.dom _ _ _ ho
        rw[hT k2 sp2 h2 ρ2];exact ho
      ·cases hΓ
   refine ZdM.sup all fun ρ o ho=>?_
   rw[hA k sp (by simp only[conL,lk,Nat.beq_refl,if_true]) ρ,hdk]at ho
   obtain⟨n,hn⟩:=ZmH ho
   exact⟨n,by simp only[plusD,Nat.beq_refl,if_true];exact hn⟩
  ·simp only[Tab.at,conL,lk,he,if_false]at hh
   exact hok h' k' sp' hh
 ·by_cases he:Nat.beq k' k=true
  ·exact⟨sp,by simp only[conL,lk,he,if_true]⟩
  ·simp only[denL,he,if_false]at ho
   have⟨sp',h'⟩:=H.dom _ _ _ ho
   exact⟨sp',by simp only[conL,lk,he,if_false];exact h'⟩
 ·simp only[lk]at hh
  split at hh
  ·rename_i he
   cases hh
   rw[Nat.eq_of_beq_eq_true he,hdk]
   obtain⟨m,hm⟩:=Zqc hr
   have all:∀m a r,iterF St m a=some r→iterD (stepD (denL T B l) (tree (T.at ((k,sp,h)::l) h) k sp) k) m (Env.rows U ts a)=some (Env.rows U us r):=by
    intro m
    induction m with
    | zero=>intro a r hr;simp[iterF]at hr
    | succ m ih=>
     intro a r hr
     simp only[iterF]at hr
     rw[hF]at hr
     have:=Zqb U tb (fun j=>lk j ((k,(⟨ts,us,iterF St m⟩:TC U))::tc)) us (plusD (denL T B l) k (iterD (stepD (denL T B l) (tree (T.at ((k,sp,h)::l) h) k sp) k) m)) (fun j C hj a r hr=>by
      simp only[lk]at hj
      split at hj
      ·rename_i hjk
       cases hj
       simp only[plusD,hjk,if_true]
       exact ih a r hr
      ·rename_i hjk
       simp only[plusD,hjk,if_false]
       exact H.den j C hj a r hr) (tree (T.at ((k,sp,h)::l) h) k sp) n (pushT ts []) [] hs (g (iterF St m)) [] (by rw[ZgY,Nat.eq_of_beq_eq_true hn];simp) (ZiA (hg (iterF St m))).2 _ r hr
     rw[ZgX]at this
     simp only[Env.rows,List.reverse_nil,List.nil_append]at this
     simp only[iterD,stepD,out,this]
     rfl
   exact supD_of (all m a r hm)
  ·rename_i he
   simp only[denL,he,if_false]
   exact H.den k' C' hh a r hr
end Go.AW

namespace Go.AW
open Go.RowKit
structure StE where
 T:Type
 row:T→Row
 n:Nat
 h:∀x,(row x).length=n
def stD:StE:=⟨Unit,fun _=>[],0,fun _=>rfl⟩
def lkS (i:Nat):List (Nat×StE)→StE
 | []=>stD
 | (j,x)::l=>if Nat.beq i j=true then x else lkS i l
def uniOf (l:List (Nat×StE)):Uni:=⟨fun m=>(lkS m l).T,fun m=>(lkS m l).row,fun m=>(lkS m l).n,fun m=>(lkS m l).h⟩
def pickL {β:Nat→Type}(m:Nat):List (Sigma β)→Option (β m)
 | []=>none
 | x::l=>if h:x.1=m then some (h ▸ x.2)else pickL m l
def tbOf (U:Uni)(gs:List (Sigma fun m=>List (GetE U m)))(ss:List (Sigma fun m=>List (SetE U m)))(es:List (Sigma fun m=>EqE U m)):Tabs U:=
 ⟨fun m=>(pickL m gs).getD [],fun m=>(pickL m ss).getD [],fun m=>pickL m es⟩
end Go.AW

namespace Go.AW
open Go.RowKit
theorem ZkL {B:Nat}{w:World}(q:Nat)(os:Array Obj)(hB:B≤w.heap.size):Below B w (Sort.grow (w.drewN q) os):=
 ⟨rfl,rfl,rfl,by show w.heap.size≤(w.heap++os).size;simp,fun i hi=>by
  show(w.heap++os)[i]?=w.heap[i]?
  exact Array.getElem?_append_left (by omega)⟩
def spI:Spec:=⟨[.one (.v 0) (some (.w 1))],⟨1,[],2,0,[],[],[],[],[],[]⟩,⟨[0],[],[],[],[],[],[],0⟩,[(0,⟨none,.one (.c []) none⟩)],false⟩
def I64 (n:Int):Prop:=-9223372036854775808≤n∧n≤9223372036854775807
instance (n:Int):Decidable (I64 n):=by unfold I64;infer_instance
def itoaB (n:Int):ByteArray:=⟨(Lib.itoa n).toArray⟩
def itoaF (n:Int):Option (ByteArray×Unit):=if I64 n then some (itoaB n,())else none
def itoaD:List Row→Option (List Row)
 | [[.lit (.int .i64 n)]]=>if I64 n then some [[.lit (.string (itoaB n))]] else none
 | _=>none
theorem Zqd {ρ outs:List Row}(h:itoaD ρ=some outs):∃n,ρ=[[.lit (.int .i64 n)]]∧I64 n∧outs=[[.lit (.string (itoaB n))]]:=by
 unfold itoaD at h
 split at h
 ·rename_i n
  split at h
  ·rename_i hn;cases h;exact⟨n,rfl,hn,rfl⟩
  ·cases h
 ·cases h
theorem ZmI {P:Program}{Γ:Den}{k:Nat}(hE:enters P k=true)
  (hI:∀(n:Int),-9223372036854775808≤n→n≤9223372036854775807→∀w,Lib.TabIs P w "internal/strconv.uint64pow10" .u64 Lib.pow10Tab→Calls P k #[.int .i64 n] w fun e w'=>e=.returned (.string ⟨(Lib.itoa n).toArray⟩)∧∃j os,w'=Sort.grow (w.drewN j) os)
  (hΓ:∀ρ,Γ k ρ=itoaD ρ):ZdM P Γ k spI:=by
 refine Znl (hq:=⟨⟨2,[],3,0,[],[],[],[(.w 2,0,0)],[],[]⟩,[(0,⟨none,.one (.v 1) (some (.w 2))⟩)]⟩) (hn:=[]) rfl rfl ?_
 intro E st as outs J hm hlen hrv hg hfin
 rw[hΓ]at hg
 obtain⟨n,hρ,hn,rfl⟩:=Zqd hg
 obtain⟨a,rfl⟩:∃a,as=[a]:=by
  rcases as with - | ⟨a,- | ⟨b,l⟩⟩
  ·simp[spI]at hlen
  ·exact⟨a,rfl⟩
  ·simp[spI]at hlen
 have hv:=hrv 0 _ a rfl rfl
 have ha:a=.d (.lit (.int .i64 n)):=by
  cases hv with
  | one1 h1 h2 h3 h4=>
   simp only[At.ev,hρ,List.getElem?_cons_zero,oI,List.cons.injEq,and_true]at h1
   subst h1
   exact ZdQ h4
 subst ha
 refine⟨hE,fun w g vals hR hvals=>?_⟩
 obtain rfl:vals=#[.int .i64 n]:=by
  have hsz:=hvals.1
  have h0:0<vals.size:=by rw[← hsz];simp
  have:=(hvals.2 0 _ _ rfl (Array.getElem?_eq_getElem h0)).lit_inv
  apply Array.toList_inj.1
  apply List.ext_getElem
  ·simp at hsz ⊢;omega
  ·intro i h1 h2
   simp at h2;subst h2
   simpa using this
 refine(hI n hn.1 hn.2 w (hR.tg w (Below.refl _ _))).mono ?_
 rintro e w' ⟨rfl,j,os,rfl⟩
 refine⟨.d (.lit (.string (itoaB n))),st,g,.string (itoaB n),rfl,?_,hR.toR.below (ZkL j os (Nat.le_refl _)),.d (.lit _ rfl),Gh.le.refl g,ZkL j os hR.base⟩
 exact hfin E spI.pre (.one (.c [.lit (.string (itoaB n))]) none) _ st (.refl E) hm (.one0 rfl rfl) rfl
end Go.AW

namespace Go.AW
open Go.RowKit
theorem Zqe:FUEL'=4611686018427387904:=rfl
def forR {α S B:Type}(stp:Nat→α→S→Option (S⊕B))(fin:S→Option B):Nat→List α→S→Option B
 | _,[],s=>fin s
 | i,x::xs,s=>match stp i x s with
  | some (.inl s')=>forR stp fin (i+1) xs s'
  | some (.inr r)=>some r
  | none=>none
theorem ZkM {α S B:Type}{f:Int×S→Option ((Int×S)⊕B)}{xs:List α}{stp:Nat→α→S→Option (S⊕B)}{fin:S→Option B}
  (h1:∀(i:Nat) (x:α) (s:S),i<xs.length→xs[i]?=some x→f ((i:Int),s)=match stp i x s with
   | some (.inl s')=>some (.inl ((i:Int)+1,s'))
   | some (.inr r)=>some (.inr r)
   | none=>none)
  (h2:∀s,f ((xs.length:Int),s)=(fin s).bind fun r=>some (.inr r)) :
  ∀(ys:List α) (i n:Nat) (s:S),ys.length<n→(∀j,ys[j]?=xs[i+j]?)→i≤xs.length→loopT n f ((i:Int),s)=forR stp fin i ys s
 | [],i,0,s,hn,_,_=>by simp at hn
 | [],i,n+1,s,hn,hy,hi=>by
  have e:i=xs.length:=by
   have:=hy 0
   simp only[List.getElem?_nil,Nat.add_zero]at this
   have:=(List.getElem?_eq_none_iff.1 this.symm)
   omega
  subst e
  simp only[loopT,h2,forR]
  cases fin s <;> rfl
 | y::ys,i,0,s,hn,_,_=>by simp at hn
 | y::ys,i,n+1,s,hn,hy,hi=>by
  have hx:xs[i]?=some y:=by have:=hy 0;simpa using this.symm
  have hlt:i<xs.length:=(List.getElem?_eq_some_iff.1 hx).1
  simp only[loopT,h1 i y s hlt hx,forR]
  cases hs:stp i y s with
  | none=>rfl
  | some r=>
   cases r with
   | inr r=>rfl
   | inl s'=>
    have:=ZkM h1 h2 ys (i+1) n s' (by simp at hn;omega) (fun j=>by
     have:=hy (j+1)
     rw[List.getElem?_cons_succ]at this
     rw[this];congr 1;omega) hlt
    simp only
    rw[← this];rfl
theorem ZoI {α S B:Type}{f:Int×S→Option ((Int×S)⊕B)}(xs:List α)(stp:Nat→α→S→Option (S⊕B))(fin:S→Option B)(hl:xs.length<4611686018427387904)
  (h1:∀(i:Nat) (x:α) (s:S),i<xs.length→xs[i]?=some x→f ((i:Int),s)=match stp i x s with
   | some (.inl s')=>some (.inl ((i:Int)+1,s'))
   | some (.inr r)=>some (.inr r)
   | none=>none)
  (h2:∀s,f ((xs.length:Int),s)=(fin s).bind fun r=>some (.inr r)) (s:S):loopS f (0,s)=forR stp fin 0 xs s:=by
 rw[Zlu]
 exact ZkM h1 h2 xs 0 FUEL' s (by rw[Zqe];exact hl) (fun j=>by simp) (Nat.zero_le _)
theorem ZaI {n:Int}(h:-9223372036854775808≤n)(h':n≤9223372036854775807):IntKind.i64.wrap n=n:=by rw[IntKind.wrap_i64];omega
theorem ZaW {i n:Nat}(hi:i<n)(hn:n<4611686018427387904):IntKind.i64.wrap ((i:Int)+1)=(i:Int)+1:=ZaI (by omega) (by omega)
theorem Zbt {α:Type}{xs:List α}{i:Nat}{x:α}(h:xs[i]?=some x):(if 0≤(i:Int)∧(i:Int)<((xs.length:Nat):Int)then xs[((i:Int)).toNat]? else none)=some x:=by
 have hlt:i<xs.length:=(List.getElem?_eq_some_iff.1 h).1
 rw[if_pos ⟨by omega,by omega⟩,Int.toNat_natCast,h]
theorem dec_lt {i n:Nat}(h:i<n):decide ((i:Int)<((n:Nat):Int))=true:=by simp;exact h
theorem Za4 (n:Nat):decide (((n:Nat):Int)<((n:Nat):Int))=false:=by simp
theorem ZmJ {α B:Type}{b:Nat}(fin:List α×Unit→Option B):∀(ys xs acc:List α) (i:Nat),(acc.length+ys.length) * b≤140737488355328→acc.length+ys.length≤9223372036854775807 →
  forR (fun _ x (s:List α×Unit)=>if s.1.length+1≤9223372036854775807∧(s.1.length+1) * b≤140737488355328 then some (.inl (s.1++[x],()))else none) fin i ys (acc,())=fin (acc++ys,())
 | [],xs,acc,i,_,_=>by simp[forR]
 | y::ys,xs,acc,i,h,hl=>by
  have h1:(acc.length+1) * b≤140737488355328:=Nat.le_trans (Nat.mul_le_mul_right b (by simp)) h
  have h2:acc.length+1≤9223372036854775807:=by simp at hl;omega
  simp only[forR]
  rw[if_pos ⟨h2,h1⟩]
  have:=ZmJ fin ys xs (acc++[y]) (i+1) (by simp at h ⊢;rw[show acc.length+1+ys.length=acc.length+(ys.length+1)by omega];exact h) (by simp at hl ⊢;omega)
  simpa using this
def apN {α:Type}(b:Nat)(xs ys:List α):Option (List α):=if xs.length+ys.length≤9223372036854775807∧(xs.length+ys.length) * b≤140737488355328 then some (xs++ys)else none
theorem ZcU {α B:Type}(xs:List α)(b:Nat)(K:List α→Option B)(f:Int×List α×Unit→Option ((Int×List α×Unit)⊕B))(h:xs.length * b≤140737488355328)(hl:xs.length<4611686018427387904)
  (h1:∀(i:Nat) (x:α) (acc:List α),i<xs.length→xs[i]?=some x→f ((i:Int),acc,())=(apN b acc [x]).bind fun v=>some (Sum.inl (IntKind.i64.wrap ((i:Int)+1),v,())))
  (h2:∀acc,f ((xs.length:Int),acc,())=(K acc).bind fun r=>some (Sum.inr r)):loopS f (0,[],())=K xs:=by
 have:=ZoI (S:=List α×Unit) (f:=f) xs (fun _ x (s:List α×Unit)=>if s.1.length+1≤9223372036854775807∧(s.1.length+1) * b≤140737488355328 then some (.inl (s.1++[x],()))else none) (fun s=>K s.1) hl
  (fun i x s hi hx=>by
   obtain⟨acc,u⟩:=s
   rw[h1 i x acc hi hx]
   simp only[apN,List.length_singleton,ZaW hi hl]
   split <;> rfl) (fun s=>h2 s.1) ([],())
 rw[this,ZmJ (fun s=>K s.1) xs xs [] 0 (by simpa using h) (by simp;omega)]
 simp
theorem ZaD {α B:Type}(xs:List α)(b:Nat)(z:List α)(K:List α→Option B)(f:Int×List α×Unit→Option ((Int×List α×Unit)⊕B))(h:xs.length * b≤140737488355328)(hl:xs.length<4611686018427387904)
  (hf:∀(i:Int) (acc:List α),f (i,acc,())=if decide (i<((List.length xs:Nat):Int))=true then(if decide (i<((List.length xs:Nat):Int))=true then
    (if 0≤i∧i<((List.length xs:Nat):Int)then(xs)[(i).toNat]? else none:Option α).bind (fun x=>(apN b acc [x]).bind fun v=>some (Sum.inl (IntKind.i64.wrap (i+1),v,())))
    else(apN b acc z).bind fun v=>some (Sum.inl (IntKind.i64.wrap (i+1),v,())))
   else(K acc).bind fun r=>some (Sum.inr r)):loopS f (0,[],())=K xs:=by
 refine ZcU xs b K f h hl (fun i x acc hi hx=>?_) (fun acc=>?_)
 ·rw[hf,dec_lt hi]
  simp only[if_true]
  rw[Zbt hx]
  rfl
 ·rw[hf,Za4]
  simp only[bF,if_false]
end Go.AW

namespace Go.AW
section
variable {α β γ:Type}{c:Prop} [Decidable c]
theorem gS (x y:α)(f:α→Option β):(if c then some x else some y).bind f=f (if c then x else y):=by split <;> rfl
theorem gA (x:α)(h:α→Option β)(g:β→Option γ)(z:Option γ):(if c then((if c then some x else none).bind h).bind g else z)=if c then(h x).bind g else z:=by split <;> rfl
theorem gA3 {δ:Type}(x:α)(h:α→Option β)(k:β→Option δ)(g:δ→Option γ)(z:Option γ):(if c then(((if c then some x else none).bind h).bind k).bind g else z)=if c then((h x).bind k).bind g else z:=by split <;> rfl
theorem gA' (x:α)(h:α→Option β)(z:Option β):(if c then(if c then some x else none).bind h else z)=if c then h x else z:=by split <;> rfl
theorem gB (x y z:α):(if c then(if c then x else y)else z)=if c then x else z:=by split <;> rfl
theorem gC (b:Bool)(p:Option β)(x:α)(h:α→Option β):(if b=true then p else((if (!b)=true then some x else none).bind h))=if b=true then p else h x:=by cases b <;> rfl
theorem gM (x:α)(f:α→β):(if c then some x else none).map f=if c then some (f x)else none:=by split <;> rfl
theorem gAnd (b x:Bool):(if b=true then x else false)=(b&&x):=by cases b <;> rfl
theorem gOr (b x:Bool):(if b=true then true else x)=(b || x):=by cases b <;> rfl
theorem gD (p q:Bool)(t:Option β)(x:α)(h:α→Option β)(g:β→Option γ)(z:Option γ):(if p=true then(if q=true then t else(if (p&&!q)=true then some x else none).bind h).bind g else z)=if p=true then(if q=true then t else h x).bind g else z:=by cases p <;> cases q <;> rfl
theorem gE (p q:Bool)(t:Option β)(x:α)(h:α→Option β)(g:β→Option γ)(z:Option γ):(if p=true then(if q=true then(if (p&&q)=true then some x else none).bind h else t).bind g else z)=if p=true then(if q=true then h x else t).bind g else z:=by cases p <;> cases q <;> rfl
theorem gF (p q:Bool)(t:Option α)(x:α)(g:α→Option γ)(z:Option γ):(if p=true then(if q=true then(if (p&&q)=true then some x else none)else t).bind g else z)=if p=true then(if q=true then some x else t).bind g else z:=by cases p <;> cases q <;> rfl
end
open Go.RowKit
theorem Zj6 {A B:Type}{f:A→Option (A⊕B)}(I:Nat→A→Prop){Q:B→Prop}(h:∀m v,I m v→(∃r,f v=some (.inr r)∧Q r)∨∃m' v',m'<m∧f v=some (.inl v')∧I m' v') :
  ∀n m v,m<n→I m v→∃r,loopT n f v=some r∧Q r
 | 0,m,v,hm,_=>absurd hm (Nat.not_lt_zero m)
 | n+1,m,v,hm,hI=>by
  rcases h m v hI with⟨r,h1,h2⟩ | ⟨m',v',h1,h2,h3⟩
  ·exact⟨r,by simp only[loopT,h1],h2⟩
  ·obtain⟨r,h4,h5⟩:=Zj6 I h n m' v' (by omega) h3
   exact⟨r,by simp only[loopT,h2,h4],h5⟩
def ixN {α:Type}(x:List α)(i:Int):Option α:=if 0≤i∧i<(x.length:Int)then x[i.toNat]? else none
def sxN (x:ByteArray)(i:Int):Option Int:=if 0≤i∧i<(x.size:Int)then some ((((x.data.toList).getD i.toNat 0).toNat:Nat):Int)else none
def scN (x:ByteArray)(l h:Int):Option ByteArray:=if 0≤l∧l≤h∧h≤(x.size:Int)then some (x.extract l.toNat h.toNat)else none
def ctN {α:Type}(x:List α)(l h:Int):Option (List α):=if 0≤l∧l≤h∧h≤(x.length:Int)then some ((x.take h.toNat).drop l.toNat)else none
def caN (x y:ByteArray):Option ByteArray:=if x.size+y.size≤9223372036854775807 then some (x++y)else none
theorem Zj7 {A B:Type}{f:A→Option (A⊕B)}(I:Nat→A→Prop){Q:B→Prop}(n:Nat)(v:A)(hn:n<4611686018427387904)(h0:I n v)
  (h:∀m v,I m v→(∃r,f v=some (.inr r)∧Q r)∨∃m' v',m'<m∧f v=some (.inl v')∧I m' v'):∃r,loopS f v=some r∧Q r:=by
 rw[Zlu]
 exact Zj6 I h FUEL' n v (by rw[Zqe];exact hn) h0
theorem Zqf {A B:Type}{o:Option (A⊕B)}{m:Nat}{I:Nat→A→Prop}{Q:B→Prop}(h:∃r,o=some r∧((∃b,r=.inr b∧Q b)∨∃m' v',m'<m∧r=.inl v'∧I m' v')) :
  (∃r,o=some (.inr r)∧Q r)∨∃m' v',m'<m∧o=some (.inl v')∧I m' v':=by
 obtain⟨r,h1,⟨b,rfl,h2⟩ | ⟨m',v',h2,rfl,h3⟩⟩:=h
 ·exact .inl ⟨b,h1,h2⟩
 ·exact .inr ⟨m',v',h2,h1,h3⟩
end Go.AW

namespace Go.AW
open Go.RowKit
def spB:Spec:=⟨[.one (.v 0) (some (.w 1)),.one (.v 1) (some (.w 2))],⟨2,[],3,0,[],[],[],[],[],[]⟩,⟨[0],[],[],[],[],[],[],0⟩,[(0,⟨none,.one (.c []) none⟩)],false⟩
def twoD (f:Value→Value→Option Int):List Row→Option (List Row)
 | [[.lit a],[.lit b]]=>(f a b).map fun n=>[[.lit (.int .i64 n)]]
 | _=>none
theorem ZqX {f:Value→Value→Option Int}{ρ outs:List Row}(h:twoD f ρ=some outs):∃a b n,ρ=[[.lit a],[.lit b]]∧f a b=some n∧outs=[[.lit (.int .i64 n)]]:=by
 unfold twoD at h
 split at h
 ·rename_i a b
  simp only[Option.map_eq_some_iff]at h
  obtain⟨n,hn,rfl⟩:=h
  exact⟨a,b,n,rfl,hn,rfl⟩
 ·cases h
theorem Zja {P:Program}{Γ:Den}{k:Nat}{f:Value→Value→Option Int}(hE:enters P k=true)
  (hu:∀(a b:Value) (n:Int),f a b=some n→a.oneCell'=true∧b.oneCell'=true)
  (hI:∀(a b:Value) (n:Int) (w:World),f a b=some n→Calls P k #[a,b] w fun e w'=>e=.returned (.int .i64 n)∧w'=w)
  (hΓ:∀ρ,Γ k ρ=twoD f ρ):ZdM P Γ k spB:=by
 refine Znl (hq:=⟨⟨3,[],4,0,[],[],[],[(.w 3,0,0)],[],[]⟩,[(0,⟨none,.one (.v 2) (some (.w 3))⟩)]⟩) (hn:=[]) rfl rfl ?_
 intro E st as outs J hm hlen hrv hg hfin
 rw[hΓ]at hg
 obtain⟨s,c,n,hρ,hf,rfl⟩:=ZqX hg
 obtain⟨a,b,rfl⟩:∃a b,as=[a,b]:=by
  rcases as with - | ⟨a,- | ⟨b,- | ⟨d,l⟩⟩⟩
  ·simp[spB]at hlen
  ·simp[spB]at hlen
  ·exact⟨a,b,rfl⟩
  ·simp[spB]at hlen
 have ha:a=.d (.lit s):=by
  cases hrv 0 _ a rfl rfl with
  | one1 h1 h2 h3 h4=>
   simp only[At.ev,hρ,List.getElem?_cons_zero,oI,List.cons.injEq,and_true]at h1
   subst h1
   exact ZdQ h4
 have hb:b=.d (.lit c):=by
  cases hrv 1 _ b rfl rfl with
  | one1 h1 h2 h3 h4=>
   simp only[At.ev,hρ,List.getElem?_cons_succ,List.getElem?_cons_zero,oI,List.cons.injEq,and_true]at h1
   subst h1
   exact ZdQ h4
 subst ha hb
 refine⟨hE,fun w g vals hR hvals=>?_⟩
 obtain rfl:vals=#[s,c]:=by
  have hsz:=hvals.1
  have h0:0<vals.size:=by rw[← hsz];simp
  have h1:1<vals.size:=by rw[← hsz];simp
  have v0:=(hvals.2 0 _ _ rfl (Array.getElem?_eq_getElem h0)).lit_inv (.inl (hu s c n hf).1)
  have v1:=(hvals.2 1 _ _ rfl (Array.getElem?_eq_getElem h1)).lit_inv (.inl (hu s c n hf).2)
  apply Array.toList_inj.1
  apply List.ext_getElem
  ·simp at hsz ⊢;omega
  ·intro i h1 h2
   simp at h2
   rcases i with - | - | i
   ·simpa using v0
   ·simpa using v1
   ·omega
 refine(hI s c n w hf).mono ?_
 rintro e w' ⟨rfl,rfl⟩
 refine⟨.d (.lit (.int .i64 n)),st,g,.int .i64 n,rfl,?_,hR.toR,.d (.lit _ rfl),Gh.le.refl g,Below.refl _ _⟩
 exact hfin E spB.pre (.one (.c [.lit (.int .i64 n)]) none) _ st (.refl E) hm (.one0 rfl rfl) rfl
def idxI (s:ByteArray)(c:Int):Int:=Lib.indexByte s.data.toList c.toNat.toUInt8
def idxV:Value→Value→Option Int
 | .string s,.int .u8 c=>some (idxI s c)
 | _,_=>none
def ix1N (s t:ByteArray):Option Int:=match t.data.toList with
 | [c]=>some (Lib.indexByte s.data.toList c)
 | _=>none
def ix1V:Value→Value→Option Int
 | .string s,.string t=>ix1N s t
 | _,_=>none
def baseB (k k2 k3:Nat):Den:=fun j ρ=>if Nat.beq j k=true then itoaD ρ else if Nat.beq j k2=true then twoD idxV ρ else if Nat.beq j k3=true then twoD ix1V ρ else none
def idxF (a:ByteArray×Int×Unit):Option (Int×Unit):=some (idxI a.1 a.2.1,())
def ix1F (a:ByteArray×ByteArray×Unit):Option (Int×Unit):=(ix1N a.1 a.2.1).bind fun n=>some (n,())
theorem Chain.itoaB {P:Program}{U:Uni}{T:Tab}{k k2 k3:Nat}(hT:T.con=[(k,spI),(k2,spB),(k3,spB)])(hne:Nat.beq k2 k=false)(hne3:Nat.beq k3 k=false)(hne4:Nat.beq k3 k2=false)(hE:enters P k=true)(hE2:enters P k2=true)(hE3:enters P k3=true)
  (hI:∀(n:Int),-9223372036854775808≤n→n≤9223372036854775807→∀w,Lib.TabIs P w "internal/strconv.uint64pow10" .u64 Lib.pow10Tab→Calls P k #[.int .i64 n] w fun e w'=>e=.returned (.string ⟨(Lib.itoa n).toArray⟩)∧∃j os,w'=Sort.grow (w.drewN j) os)
  (hB:∀(s:ByteArray) (c:Int) (w:World),Calls P k2 #[.string s,.int .u8 c] w fun e w'=>e=.returned (.int .i64 (Lib.indexByte s.data.toList c.toNat.toUInt8))∧w'=w)
  (hX:∀(s:ByteArray) (c:UInt8) (w:World),Calls P k3 #[.string s,.string ⟨#[c]⟩] w fun e w'=>e=.returned (.int .i64 (Lib.indexByte s.data.toList c))∧w'=w) :
  Chain P U T (baseB k k2 k3) [] [(k,⟨[.ik .i64],[.str],fun(a:Int×Unit)=>itoaF a.1⟩),(k2,⟨[.str,.ik .u8],[.ik .i64],idxF⟩),(k3,⟨[.str,.str],[.ik .i64],ix1F⟩)]:=by
 have hX':∀(a b:Value) (n:Int) (w:World),ix1V a b=some n→Calls P k3 #[a,b] w fun e w'=>e=.returned (.int .i64 n)∧w'=w:=by
  intro a b n w h
  unfold ix1V at h
  split at h
  ·rename_i s t
   unfold ix1N at h
   split at h
   ·rename_i c hc
    cases h
    have ht:t=⟨#[c]⟩:=by
     obtain⟨d⟩:=t
     have:d=#[c]:=Array.toList_inj.1 hc
     rw[this]
    rw[ht]
    exact hX s c w
   ·cases h
  ·cases h
 have hB':∀(a b:Value) (n:Int) (w:World),idxV a b=some n→Calls P k2 #[a,b] w fun e w'=>e=.returned (.int .i64 n)∧w'=w:=by
  intro a b n w h
  unfold idxV at h
  split at h
  ·cases h;exact hB _ _ w
  ·cases h
 have uB:∀(a b:Value) (n:Int),idxV a b=some n→a.oneCell'=true∧b.oneCell'=true:=by
  intro a b n h
  unfold idxV at h
  split at h
  ·exact⟨rfl,rfl⟩
  ·cases h
 have uX:∀(a b:Value) (n:Int),ix1V a b=some n→a.oneCell'=true∧b.oneCell'=true:=by
  intro a b n h
  unfold ix1V at h
  split at h
  ·exact⟨rfl,rfl⟩
  ·cases h
 refine⟨fun Γ h hA k' sp hs=>?_,fun k' ρ o ho=>?_,fun k' C hC a r hr=>?_⟩
 ·simp only[Tab.at,conL,lk,hT]at hs
  split at hs
  ·rename_i he
   cases hs
   rw[Nat.eq_of_beq_eq_true he]
   refine ZmI hE hI fun ρ=>?_
   rw[hA k spI (by simp only[conL,lk,hT,Nat.beq_refl,if_true]) ρ]
   simp only[denL,baseB,Nat.beq_refl,if_true]
  ·split at hs
   ·rename_i he
    cases hs
    rw[Nat.eq_of_beq_eq_true he]
    refine Zja hE2 uB hB' fun ρ=>?_
    rw[hA k2 spB (by simp only[conL,lk,hT,hne,bF,Nat.beq_refl,if_true,if_false]) ρ]
    simp only[denL,baseB,hne,Nat.beq_refl,bF,if_true,if_false]
   ·split at hs
    ·rename_i he
     cases hs
     rw[Nat.eq_of_beq_eq_true he]
     refine Zja hE3 uX hX' fun ρ=>?_
     rw[hA k3 spB (by simp only[conL,lk,hT,hne3,hne4,bF,Nat.beq_refl,if_true,if_false]) ρ]
     simp only[denL,baseB,hne3,hne4,Nat.beq_refl,bF,if_true,if_false]
    ·cases hs
 ·simp only[denL,baseB]at ho
  split at ho
  ·rename_i he
   exact⟨spI,by simp only[conL,lk,hT,he,if_true]⟩
  ·split at ho
   ·rename_i h1 he
    exact⟨spB,by simp only[conL,lk,hT,he,h1,bF,if_true,if_false]⟩
   ·split at ho
    ·rename_i h1 h2 he
     exact⟨spB,by simp only[conL,lk,hT,he,h1,h2,bF,if_true,if_false]⟩
    ·cases ho
 ·simp only[lk]at hC
  split at hC
  ·rename_i he
   cases hC
   rw[Nat.eq_of_beq_eq_true he]
   simp only[itoaF]at hr
   split at hr
   ·rename_i hn
    cases hr
    simp only[denL,baseB,Nat.beq_refl,if_true]
    show itoaD [[.lit (.int .i64 a.1)]]=_
    simp only[itoaD,if_pos hn]
    rfl
   ·cases hr
  ·split at hC
   ·rename_i he
    cases hC
    rw[Nat.eq_of_beq_eq_true he]
    cases hr
    simp only[denL,baseB,hne,Nat.beq_refl,bF,if_true,if_false]
    show twoD idxV [[.lit (.string a.1)],[.lit (.int .u8 a.2.1)]]=_
    rfl
   ·split at hC
    ·rename_i he
     cases hC
     rw[Nat.eq_of_beq_eq_true he]
     simp only[denL,baseB,hne3,hne4,Nat.beq_refl,bF,if_true,if_false]
     show twoD ix1V [[.lit (.string a.1)],[.lit (.string a.2.1)]]=_
     simp only[twoD,ix1V]
     cases hx:ix1N a.1 a.2.1 with
     | none=>simp[ix1F,hx]at hr
     | some n=>
      simp only[ix1F,hx,Option.bind_some]at hr
      cases hr
      rfl
    ·cases hC
end Go.AW

namespace Go.AW
open Go.RowKit
def Zjb (b m:Nat):Bool:=Nat.ble m 9223372036854775807&&Nat.ble (m * b) 140737488355328
def slS (n s:Nat):List Row→Bool
 | []=>Nat.beq s 0
 | _::_=>Nat.beq s n
def Zhm (n b:Nat):List Row→Option (List Row)
 | [[.sl s xs]]=>if (slS n s xs&&(xs.all fun x=>Nat.beq x.length n)&&Zjb b xs.length)=true then some [[.sl s xs]] else none
 | _=>none
theorem ZoJ {n b:Nat}{ρ outs:List Row}(h:Zhm n b ρ=some outs):∃xs:List Row,ρ=[[slv n xs]]∧(∀y∈xs,y.length=n)∧xs.length≤9223372036854775807∧xs.length * b≤140737488355328∧outs=[[slv n xs]]:=by
 unfold Zhm at h
 split at h
 ·rename_i s xs
  split at h
  ·rename_i hc
   cases h
   simp only[bA,List.all_eq_true,Zjb,Nat.ble_eq]at hc
   obtain⟨⟨h1,h2⟩,h3,h4⟩:=hc
   have hs:DV.sl s xs=slv n xs:=by
    cases xs with
    | nil=>rw[Nat.eq_of_beq_eq_true h1];rfl
    | cons x l=>rw[Nat.eq_of_beq_eq_true h1];rfl
   exact⟨xs,by rw[hs],fun y hy=>Nat.eq_of_beq_eq_true (h2 y hy),h3,h4,by rw[hs]⟩
  ·cases h
 ·cases h
theorem Ct.of_wp {P:Program}{k:FuncId}{fn:Func}(hf:P.funcs[k]?=some fn){c:Code}(hb:fn.body=some c)(he:enters P k=true){args:List AV}(hl:args.length≤fn.ntmps){st:St}{Q:AV→St→Prop}
  (h:∀w g a,RP P w g st→RT g fn.ntmps (ZcR args) a→c.wp P (ConE fn.ntmps w g (endA P fn.results.toList Q)) a w):Ct P k args st Q:=by
 refine⟨he,fun w g vals hR hv=>calls_of_wp hf hb ?_⟩
 have hT:RT g fn.ntmps (ZcR args) { tmps:=vals++Array.replicate (fn.ntmps - vals.size) undef,defers:=[] }:=by
  refine⟨by simp;rw[← hv.1];omega,fun i=>?_,rfl⟩
  simp only[ZcR,Array.getD_eq_getD_getElem?,Array.getElem?_append]
  by_cases hi:i<vals.size
  ·rw[if_pos hi]
   have hi':i<args.length:=by rw[hv.1];exact hi
   rw[gG hi',Array.getElem?_eq_getElem hi]
   exact hv.2 i _ _ (gG hi') (Array.getElem?_eq_getElem hi)
  ·rw[if_neg hi]
   have hi':¬ i<args.length:=by rw[hv.1];exact hi
   rw[List.getElem?_eq_none (by omega)]
   simp only[Array.getElem?_replicate]
   split
   ·exact .undef
   ·exact .undef
 refine wp_mono (h w g _ hR hT) ?_
 have fin:∀a' w' tm st',(resA P tm st' fn.results.toList).ok∧Q (resA P tm st' fn.results.toList).v st'→∀g',R w' g' st'→RT g' fn.ntmps tm a'→g.le g'→Below g.B w w' →
   a'.defers=[]∧∃v,(results fn a'.tmps).run P w'=.ok v w'∧∃r st' g' v',Ending.returned v=.returned v'∧Q r st'∧R w' g' st'∧Rep g' r v'∧g.le g'∧Below g.B w w':=by
  rintro a' w' tm st' ⟨h1,h4⟩ g' hR' hT' hle hbel
  obtain⟨v,hv',hrep⟩:=Zkq hR' hT' h1
  exact⟨hT'.defers,v,hv',_,_,g',v,rfl,h4,hR',hrep,hle,hbel⟩
 rintro e a' w' ⟨tm,st',g',h1,hR',hT',hle,hbel⟩
 cases e with
 | normal=>exact fin a' w' tm st' h1 g' hR' hT' hle hbel
 | ret=>exact fin a' w' tm st' h1 g' hR' hT' hle hbel
 | exit id=>exact h1.elim
 | goto l=>exact h1.elim
 | panic c=>exact h1.elim
 | outgrown=>exact h1.elim
theorem wp_seqC {P:Program}{nt:Nat}{ct:Ctb}(hm:P.follows .mixedOrders=true){x y:Code}{w:World}{g:Gh}{st:St}{a:Act}{Q:Exit→Tm→St→Prop}(hR:RP P w g st)(hd:ZfV ct y=true)
  (h:x.wp P (ConE nt w g (seqQ (fun tm st=>wpC P nt ct y tm st Q) Q)) a w):(Code.seq x y).wp P (ConE nt w g Q) a w:=by
 refine wp_seq (wp_mono h ?_)
 intro e a' w' hc
 cases e with
 | normal=>
  obtain⟨tm',st',g',h1,h2,h3,h4,h5⟩:=hc
  exact wp_mono (ZdK hm y hd (hR.next h2 h4 h5) h3 h1) fun e2 a2 w2 hc2=>hc2.trans h4 h5
 | _=>exact hc
def OpS (o:Oper)(d:Nat)(op:Op):Prop:=o.dst=some d∧o.op=op∧o.guard=none
def nilV:Value:=.slice none 0 0
theorem Zqg {P:Program}{w:World}{t e:TypeId}(hu:P.underlying t=some (.slice e))(ad:Option Addr)(n cap:Nat):(binOp .eql t (.slice ad n cap) nilV).run P w=.ok (.bool ad.isNone) w:=by
 have heq:(Op.equal t (.slice ad n cap) nilV).run P w=.ok ad.isNone w:=by
  show(Op.equalIn (9999+1) t _ _).run P w=_
  unfold Op.equalIn
  rw[Sem.run_bind,run_underlying hu]
  cases ad <;> rfl
 simp only[binOp,Sem.run_bind,heq,Result.andThen_ok,Sem.run_pure]
section
variable {P:Program}{nt:Nat}
theorem Zqh {ct:Ctb}{id:Nat}{o:Oper}{d:Nat}{op:Op}{tm:Tm}{st:St}{Q:Exit→Tm→St→Prop}(ho:OpS o d op)(hct:ct.lookup id=none)(hd:d<nt)(h:eff P tm st (fun v st'=>Q .normal (put tm (some d) v) st') op) :
  wpC P nt ct (.region id #[o] false) tm st Q:=by
 obtain⟨h1,h2,h3⟩:=ho
 refine .inr ?_
 rw[hct]
 simp only[wpL,wpAt,h3,gdec,Zk8,wpO,h1,h2,dstOk,decide_eq_true_eq]
 exact⟨hd,h⟩
theorem Zjc {ops rest:List Oper}{o:Oper}{d:Nat}{op:Op}{tm:Tm}{st:St}{K:Tm→St→Prop}(ho:OpS o d op)(hd:d<nt)(h:eff P tm st (fun v st'=>wpL P nt ops rest (put tm (some d) v) st' K) op):wpL P nt ops (o::rest) tm st K:=by
 obtain⟨h1,h2,h3⟩:=ho
 simp only[wpL,wpAt,h3,gdec,Zk8,wpO,h1,h2,dstOk,decide_eq_true_eq]
 exact⟨hd,h⟩
end
theorem ZoK {P:Program}{Γ:Den}{k t e n b:Nat}{fn:Func}{o1 o2 o3 o4 o5 o6 o7 o8:Oper}(hm:P.follows .mixedOrders=true)(hf:P.funcs[k]?=some fn)
  (hb:fn.body=some (.seq (.region 0 #[o1] false) (.seq (.seq (.region 1 #[o2,o3] false) (.cond (.tmp 4) (.seq (.region 2 #[o4] false) .ret) .skip)) (.seq (.region 3 #[o5,o6,o7,o8] false) .ret))))
  (h1:OpS o1 2 (.assign (.const nilV))) (h2:OpS o2 3 (.move (.tmp 0))) (h3:OpS o3 4 (.binOp .eql t (.tmp 3) (.const nilV) t)) (h4:OpS o4 2 (.assign (.const nilV)))
  (h5:OpS o5 5 (.buildSlice t 0 #[])) (h6:OpS o6 6 (.move (.tmp 0))) (h7:OpS o7 7 (.call { callee:=.builtin .append,args:=#[.tmp 5,.tmp 6],argTypes:=#[t,t] })) (h8:OpS o8 2 (.assign (.tmp 7)))
  (hres:fn.results.toList=[.tmp 2]) (hnt:fn.ntmps=8) (hE:enters P k=true) (he:elT P t=some (e,n,b)) (hn:0<n) (hz:(zeroC P e).map (·.length)=some n) (hx:isX e=false)
  (hΓ:∀ρ,Γ k ρ=Zhm n b ρ):ZdM P Γ k spI:=by
 refine Znl (hq:=⟨⟨2,[],3,0,[],[],[],[(.w 2,0,0)],[],[]⟩,[(0,⟨none,.one (.v 1) (some (.w 2))⟩)]⟩) (hn:=[]) rfl rfl ?_
 intro E st as outs J hrm hlen hrv hg hfin
 rw[hΓ]at hg
 obtain⟨xs,hρ,hl,hx1,hx2,rfl⟩:=ZoJ hg
 obtain⟨a,rfl⟩:∃a,as=[a]:=by
  rcases as with - | ⟨a,- | ⟨b,l⟩⟩
  ·simp[spI]at hlen
  ·exact⟨a,rfl⟩
  ·simp[spI]at hlen
 have hv:=hrv 0 _ a rfl rfl
 obtain⟨hoD,haD,haN⟩:dvo (slv n xs)=true∧toD a=some (slv n xs)∧noX a=true:=by
  cases hv with
  | one1 q1 q2 q3 q4=>
   simp only[At.ev,hρ,List.getElem?_cons_zero,oI,List.cons.injEq,and_true]at q1
   subst q1
   exact⟨q2,q4,hrm.hn _ _ q3 rfl⟩
 have jnil:xs=[]→J .nil st:=by
  intro hxs
  refine hfin E spI.pre (.one (.c [.sl 0 []]) (some (.w 0))) _ st (.refl E) hrm (.one1 rfl rfl hrm.w0 rfl) ?_
  subst hxs
  rfl
 have jown:J (.own (st.k+1) n xs) (((st.own e).eat st.k).own e):=by
  have r1:=(hrm.ownSt e).eat (tk:=st.k) (fun g e' s x hgr=>by cases hgr) (.inr (Nat.le_refl _))
  obtain⟨E',q1,q2,q3,q4⟩:=r1.own (s:=n) (xs:=xs) (Ziw he) hx
  have q5:=q3.lessGr (gr:=[]) (xn:=[]) (fun x hx=>by cases hx) (fun g hg=>by
   simp only[bads,flX,List.filterMap_cons,List.filterMap_nil,spI]at hg
   simp[hx]at hg)
  refine hfin E' _ (.one (.v 0) (some (.w 2))) _ _ q1 q5 (.one1 (x:=slv n xs) (by simp only[At.ev,q2,hρ];rfl) hoD q4 rfl) ?_
  rw[q2,hρ]
  rfl
 refine Ct.of_wp hf hb hE (by rw[hnt];show 1≤8;decide) ?_
 rw[hres,hnt]
 intro w g ac hR hT
 have hval:∀(g:Gh) (v:Value),Rep g a v→∃ad cap,v=.slice ad xs.length cap∧(ad.isNone=true→xs=[]):=by
  intro g v hr0
  have hd:=Zk2 haD hr0 (Zet haD hoD) haN
  clear haD jnil jown hoD hρ hrv
  cases xs with
  | nil=>
   cases hd with
   | sl0 _ ad cap=>exact⟨ad,cap,rfl,fun _=>rfl⟩
   | sl _ _ b o cap c hne=>exact absurd hne (by simp)
  | cons x l=>
   cases hd with
   | sl _ _ b o cap c hne=>exact⟨_,cap,rfl,fun h=>by cases h⟩
 have hdc:dcont a=some xs:=by
  cases xs with
  | nil=>exact ZjN (s:=0) haD haN
  | cons x l=>exact ZjN (s:=n) haD haN
 have hu:P.underlying t=some (.slice e):=by
  unfold elT at he
  split at he
  ·rename_i e' hu
   simp only[Option.map_eq_some_iff]at he
   obtain⟨i,-,hi⟩:=he
   cases hi
   exact hu
  ·cases he
 refine wp_seq (wp_mono (ZdK (ct:=[]) (Q:=fun e tm st'=>e=.normal∧tm=put (ZcR [a]) (some 2) .nil∧st'=st) hm _ rfl hR hT (Zqh h1 rfl (by decide) ⟨rfl,rfl,rfl,rfl⟩)) ?_)
 rintro e1 a1 w1 ⟨tm1,st1,g1,⟨rfl,rfl,hst⟩,hR1,hT1,hle1,hb1⟩
 rw[hst]at hR1
 clear hst st1
 have hP1:=hR.next hR1 hle1 hb1
 refine wp_mono (Q:=ConE 8 w1 g1 (endA P [.tmp 2] J)) ?_ (fun e2 a2 w2 hc2=>hc2.trans hle1 hb1)
 refine wp_seqC (ct:=[]) hm hP1 rfl ?_
 refine wp_seq (wp_region ?_)
 show wpOps P #[o2,o3] _ [0,1] a1 w1
 rw[wpOps_cons]
 obtain⟨p1,p2,p3⟩:=h2
 refine wpOp_mono ?_ (Zes (K:=fun tm st'=>tm=put (put (ZcR [a]) (some 2) .nil) (some 3) a∧st'=st) hP1 hT1 (ops:=#[o2,o3]) (i:=0) (o:=o2) rfl (by
  simp only[wpAt,p3,gdec,Zk8,wpO,p1,p2,dstOk]
  exact⟨rfl,rfl,rfl,rfl⟩) _)
 rintro a2 w2 ⟨tm2,st2,g2,⟨rfl,hst⟩,hR2,hT2,hle2,hb2⟩
 rw[hst]at hR2
 clear hst st2
 have hP2:=hP1.next hR2 hle2 hb2
 obtain⟨ad,cap,hv3,hnil⟩:=hval g2 _ (hT2.rep 3)
 obtain⟨q1,q2,q3⟩:=h3
 rw[wpOps_cons]
 unfold wpOp
 simp only[show(#[o2,o3]:Array Oper)[1]?=some o3 from rfl]
 rw[Zkj (o:=o3) (b:=true) hT2 (by rw[q3];rfl)]
 refine .inl ?_
 have hrun:(execOp a2.eval o3).run P w2=.ok (.value (.bool ad.isNone)) w2:=by
  rcases o3 with⟨dst,op,ty,pos,after,guard⟩
  simp only at q2
  subst q2
  have e3:a2.eval (.tmp 3)=.slice ad xs.length cap:=hv3
  have e4:a2.eval (.const nilV)=nilV:=rfl
  simp only[execOp,Sem.run_bind,e3,e4,Zer (P:=P) (w:=w2) (a:=.slice ad xs.length cap) rfl (by simp),Result.andThen_ok,Zqg hu,Sem.run_pure]
 unfold Oper.wp
 rw[hrun,Oper.upon_value,q1]
 have hT3:RT g2 8 (put (put (put (ZcR [a]) (some 2) .nil) (some 3) a) (some 4) (.d (.lit (.bool ad.isNone)))) (a2.put (some 4) (.bool ad.isNone)):=hT2.put (some 4) (fun d hd=>by cases hd;decide) (.d (.lit _ rfl))
 show wpOps P _ _ [] _ _
 simp only[wpOps]
 refine wp_mono (ZdK (ct:=[]) (Q:=seqQ (fun tm st=>wpC P 8 [] (.seq (.region 3 #[o5,o6,o7,o8] false) .ret) tm st (endA P [.tmp 2] J)) (endA P [.tmp 2] J)) hm _ rfl hP2 hT3 ?_) (fun e2 a2 w2 hc2=>hc2.trans hle2 hb2)
 refine⟨rfl,fun hb=>?_,fun hb=>?_⟩
 ·show wpC P 8 [] (.region 2 #[o4] false) _ _ _
  refine Zqh h4 rfl (by decide) ⟨rfl,?_⟩
  exact⟨trivial,jnil (hnil hb)⟩
 ·show wpC P 8 [] (.region 3 #[o5,o6,o7,o8] false) _ _ _
  refine .inr ?_
  show wpL P 8 [o5,o6,o7,o8] [o5,o6,o7,o8] _ _ _
  refine Zjc h5 (by decide) ⟨rfl,?_⟩
  unfold Zc2
  rw[he]
  refine⟨hn,by omega,hz,rfl,rfl,rfl,rfl,?_⟩
  show wpL P 8 [o5,o6,o7,o8] [o6,o7,o8] _ _ _
  refine Zjc h6 (by decide) ⟨rfl,?_⟩
  refine Zjc h7 (by decide) ?_
  refine⟨rfl,rfl,rfl,.inl ?_⟩
  show ZgM P t (.own st.k n []) a (st.own e) _
  unfold ZgM
  rw[he,hdc]
  refine⟨hn,hz,hl,rfl,by simp[St.own,upd],by simpa using hx1,by simpa using hx2,?_⟩
  rw[List.nil_append]
  refine Zjc h8 (by decide) ⟨rfl,?_⟩
  exact⟨trivial,jown⟩
def baseH (L:List (Nat×Spec×(List Row→Option (List Row)))):Den:=fun j ρ=>match lk j L with
 | some x=>x.2 ρ
 | none=>none
theorem Zrr {α β:Type}(f:α→β)(k:Nat):∀(l:List (Nat×α)),lk k (l.map fun x=>(x.1,f x.2))=(lk k l).map f
 | []=>rfl
 | x::l=>by
  simp only[List.map_cons,lk]
  split
  ·rfl
  ·exact Zrr f k l
theorem Chain.hand {P:Program}{U:Uni}{T:Tab}{L:List (Nat×Spec×(List Row→Option (List Row)))}{tc:List (Nat×TC U)}(hT:T.con=L.map fun x=>(x.1,x.2.1))
  (hok:∀k x,lk k L=some x→∀Γ:Den,(∀ρ,Γ k ρ=x.2 ρ)→ZdM P Γ k x.1)
  (hd:∀k C,lk k tc=some C→∃x,lk k L=some x∧∀a r,C.F a=some r→x.2 (Env.rows U C.as a)=some (Env.rows U C.rs r)):Chain P U T (baseH L) [] tc:=by
 have hlk:∀k,lk k T.con=(lk k L).map fun x=>x.1:=fun k=>by rw[hT];exact Zrr (fun x=>x.1) k L
 have hcon:∀k,conL T [] k=(lk k L).map fun x=>x.1:=fun k=>by rw[← hlk];rfl
 refine⟨fun Γ h hA k' sp hs=>?_,fun k' ρ o ho=>?_,fun k' C hC a r hr=>?_⟩
 ·have hs:conL T [] k'=some sp:=hs
  rw[hcon,Option.map_eq_some_iff]at hs
  obtain⟨x,hx,rfl⟩:=hs
  refine hok k' x hx Γ fun ρ=>?_
  rw[hA k' x.1 (by rw[hcon,hx];rfl) ρ]
  simp only[denL,baseH,hx]
 ·simp only[denL,baseH]at ho
  split at ho
  ·rename_i x hx
   exact⟨x.1,by rw[hcon,hx];rfl⟩
  ·cases ho
 ·obtain⟨x,hx,hd⟩:=hd k' C hC
  simp only[denL,baseH,hx]
  exact hd a r hr
def ZkN {α:Type}(b:Nat)(xs:List α):Option (List α×Unit):=if Zjb b xs.length=true then some (xs,())else none
theorem Chain.itoaC {P:Program}{U:Uni}{T:Tab}{k k2 k3 k4 n b:Nat}(t:Ty)(hT:T.con=[(k,spI),(k2,spB),(k3,spB),(k4,spI)])(hE:enters P k=true)(hE2:enters P k2=true)(hE3:enters P k3=true)
  (hI:∀(n:Int),-9223372036854775808≤n→n≤9223372036854775807→∀w,Lib.TabIs P w "internal/strconv.uint64pow10" .u64 Lib.pow10Tab→Calls P k #[.int .i64 n] w fun e w'=>e=.returned (.string ⟨(Lib.itoa n).toArray⟩)∧∃j os,w'=Sort.grow (w.drewN j) os)
  (hB:∀(s:ByteArray) (c:Int) (w:World),Calls P k2 #[.string s,.int .u8 c] w fun e w'=>e=.returned (.int .i64 (Lib.indexByte s.data.toList c.toNat.toUInt8))∧w'=w)
  (hX:∀(s:ByteArray) (c:UInt8) (w:World),Calls P k3 #[.string s,.string ⟨#[c]⟩] w fun e w'=>e=.returned (.int .i64 (Lib.indexByte s.data.toList c))∧w'=w)
  (hC:∀Γ:Den,(∀ρ,Γ k4 ρ=Zhm n b ρ)→ZdM P Γ k4 spI) (hpl:t.pl=true) (hsz:t.sz U=n) :
  Chain P U T (baseH [(k,spI,itoaD),(k2,spB,twoD idxV),(k3,spB,twoD ix1V),(k4,spI,Zhm n b)]) []
   [(k,⟨[.ik .i64],[.str],fun(a:Int×Unit)=>itoaF a.1⟩),(k2,⟨[.str,.ik .u8],[.ik .i64],idxF⟩),(k3,⟨[.str,.str],[.ik .i64],ix1F⟩),(k4,⟨[.li t],[.li t],fun(a:List (t.T U)×Unit)=>ZkN b a.1⟩)]:=by
 have hX':∀(a b:Value) (n:Int) (w:World),ix1V a b=some n→Calls P k3 #[a,b] w fun e w'=>e=.returned (.int .i64 n)∧w'=w:=by
  intro a b n w h
  unfold ix1V at h
  split at h
  ·rename_i s t
   unfold ix1N at h
   split at h
   ·rename_i c hc
    cases h
    have ht:t=⟨#[c]⟩:=by
     obtain⟨d⟩:=t
     have:d=#[c]:=Array.toList_inj.1 hc
     rw[this]
    rw[ht]
    exact hX s c w
   ·cases h
  ·cases h
 have hB':∀(a b:Value) (n:Int) (w:World),idxV a b=some n→Calls P k2 #[a,b] w fun e w'=>e=.returned (.int .i64 n)∧w'=w:=by
  intro a b n w h
  unfold idxV at h
  split at h
  ·cases h;exact hB _ _ w
  ·cases h
 have uB:∀(a b:Value) (n:Int),idxV a b=some n→a.oneCell'=true∧b.oneCell'=true:=by
  intro a b n h
  unfold idxV at h
  split at h
  ·exact⟨rfl,rfl⟩
  ·cases h
 have uX:∀(a b:Value) (n:Int),ix1V a b=some n→a.oneCell'=true∧b.oneCell'=true:=by
  intro a b n h
  unfold ix1V at h
  split at h
  ·exact⟨rfl,rfl⟩
  ·cases h
 refine Chain.hand hT (fun j x hx Γ hΓ=>?_) (fun j C hC=>?_)
 ·simp only[lk]at hx
  split at hx
  ·rename_i he;cases hx;rw[Nat.eq_of_beq_eq_true he]at hΓ ⊢;exact ZmI hE hI hΓ
  split at hx
  ·rename_i he;cases hx;rw[Nat.eq_of_beq_eq_true he]at hΓ ⊢;exact Zja hE2 uB hB' hΓ
  split at hx
  ·rename_i he;cases hx;rw[Nat.eq_of_beq_eq_true he]at hΓ ⊢;exact Zja hE3 uX hX' hΓ
  split at hx
  ·rename_i he;cases hx;rw[Nat.eq_of_beq_eq_true he]at hΓ ⊢;exact hC Γ hΓ
  ·cases hx
 ·simp only[lk]at hC ⊢
  split at hC
  ·rename_i he
   cases hC
   simp only[he,if_true]
   refine⟨_,rfl,fun a r hr=>?_⟩
   simp only[itoaF]at hr
   split at hr
   ·rename_i hn
    cases hr
    show itoaD [[.lit (.int .i64 a.1)]]=_
    simp only[itoaD,if_pos hn]
    rfl
   ·cases hr
  rename_i h1
  simp only[h1,bF,if_false]
  split at hC
  ·rename_i he
   cases hC
   simp only[he,if_true]
   refine⟨_,rfl,fun a r hr=>?_⟩
   cases hr
   show twoD idxV [[.lit (.string a.1)],[.lit (.int .u8 a.2.1)]]=_
   rfl
  rename_i h2
  simp only[h2,bF,if_false]
  split at hC
  ·rename_i he
   cases hC
   simp only[he,if_true]
   refine⟨_,rfl,fun a r hr=>?_⟩
   show twoD ix1V [[.lit (.string a.1)],[.lit (.string a.2.1)]]=_
   simp only[twoD,ix1V]
   cases hx:ix1N a.1 a.2.1 with
   | none=>simp[ix1F,hx]at hr
   | some n=>
    simp only[ix1F,hx,Option.bind_some]at hr
    cases hr
    rfl
  rename_i h3
  simp only[h3,bF,if_false]
  split at hC
  ·rename_i he
   cases hC
   simp only[he,if_true]
   refine⟨_,rfl,fun a r hr=>?_⟩
   simp only[ZkN]at hr
   split at hr
   ·rename_i hf
    cases hr
    show Zhm n b [[slv (t.sz U) (List.map (t.e U) a.1)]]=some [[slv (t.sz U) (List.map (t.e U) a.1)]]
    rw[hsz]
    have hall:(List.map (t.e U) a.1).all (fun x=>Nat.beq x.length n)=true:=by
     simp only[List.all_map,List.all_eq_true]
     intro x _
     show Nat.beq (t.e U x).length n=true
     rw[Ty.e_len U hpl,hsz]
     exact Nat.beq_refl n
    have hlen:(List.map (t.e U) a.1).length=a.1.length:=List.length_map _
    rw[← hlen]at hf
    generalize List.map (t.e U) a.1=l at hall hf
    have key:∀s,slS n s l=true→Zhm n b [[.sl s l]]=some [[.sl s l]]:=fun s hs=>by
     simp only[Zhm,hs,hall,hf,Bool.and_self,if_true]
    cases l with
    | nil=>exact key 0 rfl
    | cons x l=>exact key n (Nat.beq_refl n)
   ·cases hr
  ·cases hC
end Go.AW

namespace Go.AW
open Go.RowKit Go.WideShapes Go.ChangeShapes
def RepCs (pub:Nat→Nat→Option Value)(xs:List DV)(cs:List Value):Prop:=xs.length=cs.length∧∀(i:Nat) (x:DV) (v:Value),xs[i]?=some x→cs[i]?=some v→RepD pub x v
theorem RepCs.nil (pub:Nat→Nat→Option Value):RepCs pub [] []:=⟨rfl,fun i x v h=>by simp at h⟩
theorem RepCs.cons {pub:Nat→Nat→Option Value}{x:DV}{v:Value}{xs:List DV}{cs:List Value}(h:RepD pub x v)(h':RepCs pub xs cs):RepCs pub (x::xs) (v::cs):=by
 refine⟨by simp[h'.1],fun i y u h1 h2=>?_⟩
 cases i with
 | zero=>simp at h1 h2;subst h1;subst h2;exact h
 | succ i=>exact h'.2 i y u (by simpa using h1) (by simpa using h2)
theorem RepCs.append {pub:Nat→Nat→Option Value}:∀{xs:List DV} {cs:List Value} {ys:List DV} {ds:List Value},RepCs pub xs cs→RepCs pub ys ds→RepCs pub (xs++ys) (cs++ds)
 | [],[],_,_,_,h=>h
 | [],_::_,_,_,h,_=>by simp[RepCs]at h
 | _::_,[],_,_,h,_=>by simp[RepCs]at h
 | x::xs,v::cs,_,_,h,h'=>by
  refine RepCs.cons (h.2 0 x v rfl rfl) (RepCs.append ⟨by simpa using h.1,fun i a b h1 h2=>h.2 (i+1) a b (by simpa using h1) (by simpa using h2)⟩ h')
def RepAt (pub:Nat→Nat→Option Value)(cs:List Value)(o:Nat)(xs:List DV):Prop:=RepCs pub xs (cs.drop o)
theorem RepAt.nil {pub:Nat→Nat→Option Value}{cs:List Value}{o:Nat}(h:cs.length=o):RepAt pub cs o []:=by
 unfold RepAt;rw[List.drop_eq_nil_of_le (by omega)];exact .nil pub
theorem RepAt.app {pub:Nat→Nat→Option Value}{cs:List Value}{o n:Nat}{xs ys:List DV}(h:RepCs pub xs ((cs.drop o).take n))(h':RepAt pub cs (o+n) ys):RepAt pub cs o (xs++ys):=by
 unfold RepAt at h' ⊢
 rw[← List.take_append_drop n (cs.drop o),List.drop_drop]
 exact h.append h'
theorem RepAt.one {pub:Nat→Nat→Option Value}{cs:List Value}{o:Nat}{x:DV}{ys:List DV}(h:RepCs pub [x] ((cs.drop o).take 1))(h':RepAt pub cs (o+1) ys):RepAt pub cs o (x::ys):=RepAt.app h h'
section
variable {H:Type}{enc:TypeId×Value→H}{P:Program}{W:World}{n:Nat}{t:TypeId}{cs:List Value}{x:DataW H×List MemPlace}
abbrev rdT (enc:TypeId×Value→H)(P:Program)(W:World)(n:Nat)(t:TypeId)(cs:List Value):Option (DataW H×List MemPlace):=DataW.trod enc P W 0 (fun _=>true) true n t cs
def pubOf (W:World)(b o:Nat):Option Value:=W.cell? ⟨b,o,none⟩
structure Bulk (H:Type) where
 b:DataW H→Nat
 all:List (DataW H)→Nat
 str:∀s,b (.lit (.string s))=s.length+1
 slice:∀e s,b (.slice e s)=all e+all s+1
 agg:∀p,b (.agg p)=all p+1
 nil:all []=0
 cons:∀d r,all (d::r)=b d+all r
 pos:∀d,1≤b d
theorem Bulk.le {H:Type}(B:Bulk H):∀{l:List (DataW H)} {d:DataW H},d∈l→B.b d≤B.all l
 | x::l,d,h=>by
  rw[B.cons]
  cases h with
  | head=>omega
  | tail _ h=>have:=B.le h;omega
theorem Bulk.len {H:Type}(B:Bulk H):∀(l:List (DataW H)),l.length≤B.all l
 | []=>by simp
 | x::l=>by
  have:=B.len l
  have:=B.pos x
  rw[B.cons];simp;omega
variable {B:Bulk H}{N:Nat}
def Dec (B:Bulk H)(N:Nat)(enc:TypeId×Value→H)(P:Program)(W:World)(t:TypeId){α:Type}(cells:α→List DV)(Ok:α→Prop):Prop:=
 ∀(n:Nat) (cs:List Value) (x:DataW H×List MemPlace),rdT enc P W n t cs=some x→B.b x.1≤N→∃a,RepCs (pubOf W) (cells a) cs∧Ok a
theorem ZaP (ht:P.underlying t=some (.int .i64)):Dec B N enc P W t (fun m:Int=>[.lit (.int .i64 m)]) I64:=by
 intro n cs x h hb
 cases n with
 | zero=>simp[rdT,DataW.trod]at h
 | succ n=>
  unfold rdT DataW.trod at h
  rw[ht]at h
  rcases cs with - | ⟨v,- | ⟨u,cs⟩⟩
  ·cases h
  ·cases v with
   | int k m=>
    simp only at h
    split at h
    ·rename_i hk
     obtain⟨rfl,hw⟩:=hk
     refine⟨m,.cons (.lit _ rfl) (.nil _),?_⟩
     simp only[Lit.wf,bA,decide_eq_true_eq]at hw
     exact hw
    ·cases h
   | _=>cases h
  ·cases v <;> cases h
theorem Zgu (ht:P.underlying t=some .bool):Dec B N enc P W t (fun b:Bool=>[.lit (.bool b)]) (fun _=>True):=by
 intro n cs x h hb
 cases n with
 | zero=>simp[rdT,DataW.trod]at h
 | succ n=>
  unfold rdT DataW.trod at h
  rw[ht]at h
  rcases cs with - | ⟨v,- | ⟨u,cs⟩⟩
  ·cases h
  ·cases v with
   | bool b=>exact⟨b,.cons (.lit _ rfl) (.nil _),trivial⟩
   | _=>cases h
  ·cases v <;> cases h
theorem Zc5 (ht:P.underlying t=some .string):Dec B N enc P W t (fun s:ByteArray=>[.lit (.string s)]) (fun s=>s.size≤N):=by
 intro n cs x h hb
 cases n with
 | zero=>simp[rdT,DataW.trod]at h
 | succ n=>
  unfold rdT DataW.trod at h
  rw[ht]at h
  rcases cs with - | ⟨v,- | ⟨u,cs⟩⟩
  ·cases h
  ·cases v with
   | string s=>
    simp only at h
    split at h
    ·rename_i hs
     cases h
     rw[B.str]at hb
     have hsz:s.data.toList.length=s.size:=Array.length_toList
     exact⟨s,.cons (.lit _ rfl) (.nil _),by omega⟩
    ·cases h
   | _=>cases h
  ·cases v <;> cases h
theorem Zly {α β:Type}{f:α→Option β}:∀{l:List α} {r:List β},l.mapM f=some r→r.length=l.length∧∀(i:Nat) (a:α),l[i]?=some a→∃b,f a=some b∧b∈r
 | [],r,h=>by simp at h;subst h;exact⟨rfl,fun i a h=>by simp at h⟩
 | a::l,r,h=>by
  rw[List.mapM_cons]at h
  simp only[Option.bind_eq_bind,Option.bind_eq_some_iff,Option.pure_def,oI]at h
  obtain⟨b,hb,r',hr,rfl⟩:=h
  obtain⟨h1,h2⟩:=Zly hr
  refine⟨by simp[h1],fun i a' hi=>?_⟩
  cases i with
  | zero=>simp at hi;subst hi;exact⟨b,hb,List.mem_cons_self ..⟩
  | succ i=>obtain⟨b',q1,q2⟩:=h2 i a' (by simpa using hi);exact⟨b',q1,List.mem_cons_of_mem _ q2⟩
theorem Zj8 {α:Type}(Q:Nat→α→Prop):∀(n:Nat),(∀i,i<n→∃a,Q i a)→∃l:List α,l.length=n∧∀(i:Nat) (a:α),l[i]?=some a→Q i a
 | 0,_=>⟨[],rfl,fun i a h=>by simp at h⟩
 | n+1,h=>by
  obtain⟨l,hl,hq⟩:=Zj8 Q n fun i hi=>h i (by omega)
  obtain⟨a,ha⟩:=h n (by omega)
  refine⟨l++[a],by simp[hl],fun i b hb=>?_⟩
  rw[List.getElem?_append]at hb
  split at hb
  ·exact hq i b hb
  ·have:i=n:=by
    have:=(List.getElem?_eq_some_iff.1 hb).1
    simp at this;omega
   subst this
   simp[hl]at hb
   subst hb;exact ha
theorem Zoe (b o i:Nat):(⟨b,o,none⟩:Addr).add i=⟨b,o+i,none⟩:=by
 unfold Addr.add;split <;> simp_all
theorem cells?_get {a:Addr}{m:Nat}{ds:List Value}(h:W.cells? 0 a m=some ds):ds.length=m∧∀(j:Nat) (v:Value),ds[j]?=some v→W.cell? (a.add j)=some v:=by
 unfold World.cells? at h
 rw[if_pos (Nat.zero_le _)]at h
 have key:∀(l:List Nat) (ds:List Value),l.mapM (fun i=>W.cell? (a.add i))=some ds→ds.length=l.length∧∀(j:Nat) (k:Nat) (v:Value),l[j]?=some k→ds[j]?=some v→W.cell? (a.add k)=some v:=by
  intro l
  induction l with
  | nil=>intro ds h;simp at h;subst h;exact⟨rfl,fun j k v h=>by simp at h⟩
  | cons i l ih=>
   intro ds h
   rw[List.mapM_cons]at h
   simp only[Option.bind_eq_bind,Option.bind_eq_some_iff,Option.pure_def,oI]at h
   obtain⟨b,hb,r',hr,rfl⟩:=h
   obtain⟨h1,h2⟩:=ih r' hr
   refine⟨by simp[h1],fun j k v hj hv=>?_⟩
   cases j with
   | zero=>simp at hj hv;subst hj;subst hv;exact hb
   | succ j=>exact h2 j k v (by simpa using hj) (by simpa using hv)
 obtain⟨h1,h2⟩:=key _ _ h
 rw[List.length_range]at h1
 refine⟨h1,fun j v hv=>h2 j j v ?_ hv⟩
 have:=(List.getElem?_eq_some_iff.1 hv).1
 rw[List.getElem?_range (by omega)]
theorem ZcY {e:TypeId}{α:Type}{cells:α→List DV}{Ok:α→Prop}{s:Nat}(ht:P.underlying t=some (.slice e))(hs:P.cellsOf e=s)(hp:0<s)(hD:Dec B N enc P W e cells Ok) :
  Dec B N enc P W t (fun l:List α=>[slv s (l.map cells)]) (fun l=>l.length≤N∧∀a∈l,Ok a):=by
 intro n cs x h hb
 cases n with
 | zero=>simp[rdT,DataW.trod]at h
 | succ n=>
  unfold rdT DataW.trod at h
  rw[ht]at h
  rcases cs with - | ⟨v,- | ⟨u,cs⟩⟩
  ·cases h
  ·cases v with
   | slice a len cap=>
    cases a with
    | none=>
     cases len with
     | zero=>
      cases cap with
      | zero=>exact⟨[],.cons (.sl0 _ _ _) (.nil _),by simp,fun a h=>by simp at h⟩
      | succ c=>cases h
     | succ l=>cases h
    | some a=>
     simp only at h
     split at h
     ·rename_i hc
      obtain⟨-,hlc,hcm⟩:=hc
      simp only[Option.bind_eq_some_iff]at h
      obtain⟨elems,he,h⟩:=h
      simp only[Option.map_eq_some_iff]at h
      obtain⟨rest,-,rfl⟩:=h
      simp only at hb
      rw[B.slice]at hb
      have hel:=B.len (elems.map (·.1))
      rw[List.length_map]at hel
      obtain⟨h1,h2⟩:=Zly he
      have h3:∀i,i<len→∃a':α,∃ds,W.cells? 0 (a.add (i * s)) s=some ds∧RepCs (pubOf W) (cells a') ds∧Ok a':=by
       intro i hi
       obtain⟨b,hb',hbm⟩:=h2 i i (by simp[hi])
       simp only[Option.bind_eq_some_iff]at hb'
       obtain⟨ds,hd,hb'⟩:=hb'
       have hle:=B.le (List.mem_map_of_mem (f:=(·.1)) hbm)
       obtain⟨a',h4,h5⟩:=hD n ds b hb' (by omega)
       rw[hs]at hd
       exact⟨a',ds,hd,h4,h5⟩
      obtain⟨l,hl,hq⟩:=Zj8 (fun i (a':α)=>∃ds,W.cells? 0 (a.add (i * s)) s=some ds∧RepCs (pubOf W) (cells a') ds∧Ok a') len h3
      refine⟨l,.cons (RepD.slv ?_) (.nil _),by have h1':elems.length=len:=by { simpa using h1 };omega,fun a' ha'=>?_⟩
      ·rcases Nat.eq_zero_or_pos len with e0 | e0
       ·subst e0
        have:l=[]:=List.eq_nil_of_length_eq_zero hl
        subst this
        exact .sl0 _ _ _
       ·have hspot:a.spot=none:=by
         obtain⟨a',ds,hd,-,-⟩:=h3 0 e0
         obtain⟨hdl,hdc⟩:=cells?_get hd
         have:=hdc 0 (ds[0]'(by omega)) (by simp[gG (show 0<ds.length by omega)])
         unfold World.cell? at this
         split at this
         ·split at this
          ·cases this
          ·rename_i hsp
           simpa[Addr.add] using hsp
         ·cases this
        have ha:a=⟨a.block,a.off,none⟩:=by cases a;simp_all
        have hlen:(l.map cells).length=len:=by simp[hl]
        have hcell:∀(i j:Nat) (a':α) (d:DV),l[i]?=some a'→(cells a')[j]?=some d→∃v,pubOf W a.block (a.off+i * s+j)=some v∧RepD (pubOf W) d v:=by
         intro i j a' d hi hj
         obtain⟨ds,hd,hrep,-⟩:=hq i a' hi
         obtain⟨hdl,hdc⟩:=cells?_get hd
         have hjl:j<ds.length:=by rw[← hrep.1];exact(List.getElem?_eq_some_iff.1 hj).1
         refine⟨ds[j],?_,hrep.2 j d _ hj (gG hjl)⟩
         have:=hdc j ds[j] (gG hjl)
         rw[ha,Zoe,Zoe]at this
         exact this
        have:=RepD.sl (pub:=pubOf W) s (l.map cells) a.block a.off cap (fun k=>(pubOf W a.block (a.off+k)).getD undef) (by omega) (fun i y hy=>?_) (by omega) (fun i j y d hy hd=>?_) (fun i j y d hy hd=>?_)
        ·rw[hlen]at this
         rw[ha]
         exact this
        ·simp only[List.getElem?_map,Option.map_eq_some_iff]at hy
         obtain⟨a',hi,rfl⟩:=hy
         obtain⟨ds,hd,hrep,-⟩:=hq i a' hi
         rw[hrep.1];exact(cells?_get hd).1
        ·simp only[List.getElem?_map,Option.map_eq_some_iff]at hy
         obtain⟨a',hi,rfl⟩:=hy
         obtain⟨v,hv,-⟩:=hcell i j a' d hi hd
         simp only[← Nat.add_assoc]
         rw[hv];rfl
        ·simp only[List.getElem?_map,Option.map_eq_some_iff]at hy
         obtain⟨a',hi,rfl⟩:=hy
         obtain⟨v,hv,hr⟩:=hcell i j a' d hi hd
         simp only[← Nat.add_assoc]
         rw[hv];exact hr
      ·obtain⟨i,hi⟩:=List.getElem?_of_mem ha'
       exact(hq i a' hi).choose_spec.2.2
     ·cases h
   | _=>cases h
  ·cases v <;> first | cases h | (rename_i a len cap;cases a <;> cases len <;> cases cap <;> cases h)
theorem ZcA {fs:Array Field}(ht:P.underlying t=some (.struct fs))(h:rdT enc P W n t cs=some x)(hb:B.b x.1≤N):cs.length=P.cellsOf t∧∃m,∀(i:Nat) (f:Field),fs[i]?=some f→∃y,rdT enc P W m f.type ((cs.drop f.offset).take (P.cellsOf f.type))=some y∧B.b y.1≤N:=by
 cases n with
 | zero=>simp[rdT,DataW.trod]at h
 | succ n=>
  unfold rdT DataW.trod at h
  rw[ht]at h
  have h':(if cs.length=P.cellsOf t then(fs.toList.mapM fun f=>DataW.trod enc P W 0 (fun _=>true) true n f.type ((cs.drop f.offset).take (P.cellsOf f.type))).map fun xs=>(DataW.agg (xs.map (·.1)),xs.flatMap (·.2))else none)=some x:=by
   rcases cs with - | ⟨v,- | ⟨u,cs⟩⟩
   ·exact h
   ·cases v <;> first | exact h | (rename_i a len cap;cases a <;> cases len <;> cases cap <;> exact h)
   ·cases v <;> first | exact h | (rename_i a len cap;cases a <;> cases len <;> cases cap <;> exact h)
  split at h'
  ·rename_i hl
   simp only[Option.map_eq_some_iff]at h'
   obtain⟨xs,hx,rfl⟩:=h'
   simp only at hb
   rw[B.agg]at hb
   refine⟨hl,n,fun i f hf=>?_⟩
   obtain⟨y,q1,q2⟩:=(Zly hx).2 i f (by simpa using hf)
   have hle:=B.le (List.mem_map_of_mem (f:=(·.1)) q2)
   exact⟨y,q1,by omega⟩
  ·cases h'
end
end Go.AW

namespace Go.AW
open Go.RowKit Go.WideShapes Go.ChangeShapes Go.ChangeAt
def g0 (W:World):Gh:=⟨pubOf W,fun _=>0,0,0,fun _=>none,W.heap.size⟩
def st0:St:=⟨0,fun _=>(0,[]),0,fun _=>none,fun _=>false⟩
theorem R0 (W:World):R W (g0 W) st0 where
 hn:=rfl
 hk:=rfl
 pub:=fun _ _ _ h=>h
 obj:=fun i h=>by cases h
 inj:=fun i j h=>by cases h
 sep:=fun i h _=>by cases h
 base:=Nat.le_refl _
 baseO:=fun i h=>by cases h
 tok:=fun t e s v m h=>by cases h
 tinj:=fun t t' x x' b h=>by cases h
 liv:=fun t e h=>by cases h
theorem Zqi {W:World}{xs:List DV}{vs:Array Value}(h:RepCs (pubOf W) xs vs.toList):Rep (g0 W) (.agg (xs.map .d)) (.agg vs):=by
 refine .agg _ _ (by simpa using h.1) fun i a v h1 h2=>?_
 simp only[List.getElem?_map,Option.map_eq_some_iff]at h1
 obtain⟨x,hx,rfl⟩:=h1
 exact .d (h.2 i x v hx (by simpa using h2))
theorem RepL.nil' (g:Gh):RepL g [] #[]:=⟨rfl,fun i a v h=>by simp at h⟩
theorem RepL.cons' {g:Gh}{a:AV}{v:Value}{as:List AV}{vs:Array Value}(h:Rep g a v)(h':RepL g as vs):RepL g (a::as) (#[v]++vs):=by
 refine⟨by simp[h'.1];omega,fun i b u h1 h2=>?_⟩
 cases i with
 | zero=>simp at h1;subst h1;simp[Array.getElem?_append]at h2;subst h2;exact h
 | succ i=>
  refine h'.2 i b u (by simpa using h1) ?_
  rw[Array.getElem?_append]at h2
  simpa using h2
section
variable {H:Type}{enc:TypeId×Value→H}{P:Program}
theorem Zic (hl:laidOutB P=true){W W':World}{sp:Nat→Bool}:∀{ts:List TypeId} {vs:List Value} {ds:List (DataW H)} {ps:List MemPlace},(∀t∈ts,P.readableRec t=true∧t<P.types.size) →
  DataW.TrodAll enc P W 0 (fun _=>true) true ts vs ds ps→(∀x∈ps,W.sameAt W' x)→(∀x∈ps,sp x.block=true)→DataW.TrodAll enc P W' 0 sp true ts vs ds ps
 | [],vs,ds,ps,_,h,_,_=>by
  obtain⟨rfl,rfl,rfl⟩:=trodAll_nil h
  exact trodAll_mk0
 | t::ts,vs,ds,ps,ht,h,hs,hp=>by
  obtain⟨v,vs',d,ds',p,q,rfl,rfl,rfl,h1,h2⟩:=trodAll_cons h
  exact trodAll_cons_mk (Go.WideElems.Trod_stays hl (ht t (by simp)).1 (ht t (by simp)).2 h1 (fun x hx=>hs x (by simp[hx])) (fun x hx=>hp x (by simp[hx])))
   (Zic hl (fun u hu=>ht u (by simp[hu])) h2 (fun x hx=>hs x (by simp[hx])) (fun x hx=>hp x (by simp[hx])))
theorem Zhn {W:World}{b:Nat}{sp:Nat→Bool}{hd:Bool}:∀{ts:List TypeId} {vs:List Value} {ds:List (DataW H)} {ps:List MemPlace},DataW.TrodAll enc P W b sp hd ts vs ds ps→ds.length=ts.length
 | [],vs,ds,ps,h=>by obtain⟨rfl,rfl,rfl⟩:=trodAll_nil h;rfl
 | t::ts,vs,ds,ps,h=>by
  obtain⟨v,vs',d,ds',p,q,rfl,rfl,rfl,h1,h2⟩:=trodAll_cons h
  simp[Zhn h2]
theorem ZqY {f:Func}{s:ChangeSpec}{apart fresh handsOn again:Bool}{W W':World}{args:Array Value}{ds gs:List (DataW H)}{before:List MemPlace}{tb:TypeId}
  (hl:laidOutB P=true) (hr:f.resultTypes=#[tb]) (hb:P.underlying tb=some .bool) (hts:∀t∈f.params.toList,P.readableRec t=true∧t<P.types.size) (hv:s.vars=[])
  (hs:∀ds:List (DataW H),ds.length=f.params.toList.length→s.fn H ds={ results:=[.lit (.bool true)],args:=ds })
  (hW:DataW.Whole enc P f.params.toList s.vars apart W args.toList ds gs before) (hbel:Below W.heap.size W W') :
  s.post enc P f apart fresh handsOn again W args (.bool true) W':=by
 have hlt:∀p∈before,p.block<W.heap.size:=fun p hp=>hW.lt p hp
 have hold:∀p∈before,(fun b=>decide (b<W.heap.size)) p.block=true:=fun p hp=>by simpa using hlt p hp
 have hW':=hW
 obtain⟨p,q,h1,h2,rfl,hz,hn⟩:=hW
 rw[hv]at h2
 obtain⟨rfl,rfl⟩:=trodVars_none h2
 have hlen:=Zhn h1
 have e:=hs ds hlen
 have hargs:∀sp:Nat→Bool,(∀x∈p++([]:List MemPlace),sp x.block=true)→DataW.TrodAll enc P W' 0 sp true f.params.toList args.toList ds p:=fun sp hsp=>
  Zic hl hts h1 (fun x hx=>hbel.same (hlt x (by simp[hx]))) (fun x hx=>hsp x (by simp[hx]))
 have hres:∀(b:Nat) (sp:Nat→Bool) (hd:Bool),DataW.TrodAll enc P W' b sp hd f.resultTypes.toList ((Value.bool true).resultList f.resultTypes.size) (s.fn H (ds++[])).results []:=fun b sp hd=>by
  rw[hr,List.append_nil,e]
  exact trodAll_cons_mk (shut_bool hb _) trodAll_mk0
 have hvars:∀sp:Nat→Bool,DataW.TrodVars enc P W' sp s.vars (s.fn H (ds++[])).vars []:=fun sp=>by
  rw[List.append_nil,e,hv];exact rfl
 refine⟨ds,[],p++[],[],p,[],hW',hres _ _ _,by rw[List.append_nil,e];exact hargs _ hold,hvars _,World.keptBut_mono (fun x hx=>⟨hx,?_⟩) (hbel.frame (·∈p++[])),fun _=>?_⟩
 ·exact Or.inr (by simpa using hx)
 ·refine⟨?_,_,_,([]++p)++[],⟨[]++p,[],(by
   have h3:=hargs (fun _=>true) (fun _ _=>rfl)
   have h4:DataW.TrodAll enc P W' 0 (fun _=>true) true f.params.toList args.toList (s.fn H (ds++[])).args p:=by rw[List.append_nil,e];exact h3
   exact trodAll_append h4 (hres _ _ _)),hvars _,rfl,?_,?_⟩,?_⟩
  ·exact ok_one hr rfl (okWide_bool_mk hb _)
  ·intro b off hp
   have hin:MemPlace.cell b off∈p++[]:=by simpa using hp
   rw[hbel.frozen (hlt _ hin)]
   exact hz b off hin
  ·intro ha
   simpa using hn ha
  ·intro x hx _
   simpa using hx
end
end Go.AW

namespace Go.AW
open Go.RowKit
theorem ZqZ {pub:Nat→Nat→Option Value}{x:DV}{v:Value}(h:RepD pub x v):dvo x=true:=by
 induction h with
 | lit v h=>exact h
 | sl0 s a cap=>rfl
 | sl s xs b o cap c hne hl hc hp hr ih=>
  simp only[dvo]
  rw[ZcD]
  intro x hx
  rw[ZdO]
  intro d hd
  obtain⟨i,hi⟩:=List.getElem?_of_mem hx
  obtain⟨j,hj⟩:=List.getElem?_of_mem hd
  exact ih i j x d hi hj
theorem ZkO {pub:Nat→Nat→Option Value}{xs:List DV}{cs:List Value}(h:RepCs pub xs cs):dvos xs=true:=by
 rw[ZdO]
 intro x hx
 obtain⟨i,hi⟩:=List.getElem?_of_mem hx
 have hlt:i<cs.length:=by rw[← h.1];exact(List.getElem?_eq_some_iff.1 hi).1
 exact ZqZ (h.2 i x _ hi (gG hlt))
theorem ZmK:∀xs:List DV,toDs (xs.map .d)=some xs
 | []=>rfl
 | x::l=>by simp only[List.map_cons,toDs,toD,ZmK l]
inductive LA where
 | one (x:DV)
 | agg (r:Row)
def LA.row:LA→Row
 | .one x=>[x]
 | .agg r=>r
def LA.av:LA→AV
 | .one x=>.d x
 | .agg r=>.agg (r.map .d)
def LA.ok:LA→Prop
 | .one x=>dvo x=true
 | .agg r=>dvos r=true
def ZgB:Nat→Nat→Nat→List LA→List SV
 | _,_,_,[]=>[]
 | i,w,b,.one _::l=>.one (.v i) (some (.w w))::ZgB (i+1) (w+1) b l
 | i,w,b,.agg r::l=>.agg (.v i) r.length (.g b 0) []::ZgB (i+1) w (b+1) l
def ZgC:List LA→List AV
 | []=>[]
 | .one x::l=>.d x::ZgC l
 | .agg _::l=>ZgC l
def ZgD:List LA→List (List AV)
 | []=>[]
 | .one _::l=>ZgD l
 | .agg r::l=>r.map .d::ZgD l
theorem la_rv {E:En}:∀(l:List LA) (i w b:Nat),(∀j x,l[j]?=some x→E.ρ[i+j]?=some x.row∧x.ok)→(∀j a,(ZgC l)[j]?=some a→E.ω (w+j)=some a)→(∀j a,(ZgD l)[j]?=some a→E.β (b+j)=some a) →
  (ZgB i w b l).length=(l.map LA.av).length∧∀(j:Nat) (v:SV) (a:AV),(ZgB i w b l)[j]?=some v→(l.map LA.av)[j]?=some a→RV E v a
 | [],i,w,b,_,_,_=>⟨rfl,fun j v a h=>by simp[ZgB]at h⟩
 | .one x::l,i,w,b,hr,hw,hb=>by
  obtain⟨h1,h2⟩:=la_rv l (i+1) (w+1) b (fun j y hy=>by have:=hr (j+1) y (by simpa using hy);rw[show i+1+j=i+(j+1)by omega];exact this) (fun j a ha=>by have:=hw (j+1) a (by simpa[ZgC] using ha);rw[show w+1+j=w+(j+1)by omega];exact this) (fun j a ha=>hb j a (by simpa[ZgD] using ha))
  refine⟨by simp[ZgB,h1],fun j v a hv ha=>?_⟩
  cases j with
  | zero=>
   simp only[ZgB,List.getElem?_cons_zero,List.map_cons,oI]at hv ha
   subst hv;subst ha
   obtain⟨q1,q2⟩:=hr 0 _ rfl
   have q3:=hw 0 (.d x) rfl
   exact .one1 (x:=x) q1 q2 q3 rfl
  | succ j=>exact h2 j v a (by simpa[ZgB] using hv) (by simpa using ha)
 | .agg r::l,i,w,b,hr,hw,hb=>by
  obtain⟨h1,h2⟩:=la_rv l (i+1) w (b+1) (fun j y hy=>by have:=hr (j+1) y (by simpa using hy);rw[show i+1+j=i+(j+1)by omega];exact this) (fun j a ha=>hw j a (by simpa[ZgC] using ha)) (fun j a ha=>by have:=hb (j+1) a (by simpa[ZgD] using ha);rw[show b+1+j=b+(j+1)by omega];exact this)
  refine⟨by simp[ZgB,h1],fun j v a hv ha=>?_⟩
  cases j with
  | zero=>
   simp only[ZgB,List.getElem?_cons_zero,List.map_cons,oI]at hv ha
   subst hv;subst ha
   obtain⟨q1,q2⟩:=hr 0 _ rfl
   have q3:=hb 0 (r.map .d) rfl
   have e:((r.map AV.d).drop 0).take r.length=r.map .d:=by rw[List.drop_zero];exact List.take_of_length_le (by simp)
   have:=RB0.g (E:=E) (a:=.v i) (n:=r.length) (b:=b) (o:=0) (r:=r) q1 rfl q2 q3 (by rw[e];exact ZmK r)
   rw[e]at this
   exact .agg (avs:=[]) this rfl (fun j o k v av h=>by simp at h) rfl
  | succ j=>exact h2 j v a (by simpa[ZgB] using hv) (by simpa using ha)
theorem ZiB:∀{l:List LA} {a:AV},a∈ZgC l→noX a=true
 | [],_,h=>by simp[ZgC]at h
 | .one x::l,a,h=>by
  rcases List.mem_cons.1 h with h | h
  ·rw[h];rfl
  ·exact ZiB h
 | .agg r::l,a,h=>ZiB (l:=l) h
theorem ZiC:∀{l:List LA} {cs:List AV} {a:AV},cs∈ZgD l→a∈cs→noX a=true
 | [],_,_,h,_=>by simp[ZgD]at h
 | .one x::l,cs,a,h,h'=>ZiC (l:=l) h h'
 | .agg r::l,cs,a,h,h'=>by
  rcases List.mem_cons.1 h with h | h
  ·rw[h]at h'
   obtain⟨x,-,rfl⟩:=List.mem_map.1 h'
   rfl
  ·exact ZiC (l:=l) h h'
theorem la_noX (l:List LA)(g:GK)(av:AV)(hg:gav ⟨l.map LA.row,fun _=>none,fun n=>match n with | 0=>some .nil | n+1=>(ZgC l)[n]?,fun b=>(ZgD l)[b]?⟩ g=some av):noX av=true:=by
 cases g with
 | w n=>
  cases n with
  | zero=>simp only[gav,oI]at hg;subst hg;rfl
  | succ n=>exact ZiB (List.mem_of_getElem? hg)
 | b b i=>
  simp only[gav,Option.bind_eq_some_iff]at hg
  obtain⟨cs,h1,h2⟩:=hg
  exact ZiC (List.mem_of_getElem? h1) (List.mem_of_getElem? h2)
theorem law_ct {P:Program}{Γ:Den}{k nv nw nb:Nat}{sp:Spec}{org:List (GK×Nat×Nat)}(hS:ZdM P Γ k sp)(l:List LA)(hl:∀x∈l,x.ok)
  (hsp:sp=⟨ZgB 0 1 0 l,⟨nv,[],nw,nb,[],[],[],org,[],[]⟩,⟨[0],[],[],[],[],[],[],0⟩,[(0,⟨none,.one (.c []) none⟩)],false⟩) (hnv:nv=l.length) (hnw:nw=(ZgC l).length+1) (hnb:nb=(ZgD l).length)
  (hΓ:Γ k (l.map LA.row)=some [[.lit (.bool true)]]):Ct P k (l.map LA.av) st0 (fun r _=>r=.d (.lit (.bool true))):=by
 subst hsp
 obtain⟨hq,hn,hh,hso,H⟩:=hS
 have hh':ZhX (⟨[0],[],[],[],[],[],[],0⟩:Hint) [(0,⟨none,.one (.c []) none⟩)] ⟨nv,[],nw,nb,[],[],[],org,[],[]⟩=some (⟨⟨nv+1,[],nw+1,nb,[],[],[],(.w nw,0,0)::org,[],[]⟩,[(0,⟨none,.one (.v nv) (some (.w nw))⟩)]⟩,[]):=rfl
 have hh:some (_,_)=some (hq,hn):=hh'.symm.trans hh
 cases hh
 let E:En:=⟨l.map LA.row,fun _=>none,fun n=>match n with | 0=>some .nil | n+1=>(ZgC l)[n]?,fun b=>(ZgD l)[b]?⟩
 have hwf:Wf st0:=fun t e h=>by cases h
 have hrv:=la_rv (E:=E) l 0 1 0 (fun j x hx=>⟨by simp[E,hx],hl x (List.mem_of_getElem? hx)⟩) (fun j a ha=>by show(match 1+j with | 0=>some AV.nil | n+1=>(ZgC l)[n]?)=some a;rw[Nat.add_comm];exact ha) (fun j a ha=>by show(ZgD l)[0+j]?=some a;rw[Nat.zero_add];exact ha)
 refine H E st0 (l.map LA.av) [[.lit (.bool true)]] (fun r _=>r=.d (.lit (.bool true))) ?_ hrv.1 hrv.2 hΓ rfl ?_
 ·exact { nv:=by simp[E,hnv],w0:=rfl,wn:=fun n h=>by
           cases n with
           | zero=>simp only at h;omega
           | succ n=>show(ZgC l)[n]?=none;rw[List.getElem?_eq_none_iff];simp only at h;omega
          bn:=fun n h=>by show(ZgD l)[n]?=none;rw[List.getElem?_eq_none_iff];simp only at h;omega
          on:=fun _ _=>rfl,ob:=fun j o h=>by simp at h,inj:=fun i j id h=>by simp[E]at h,gr:=fun g e h=>by simp at h,gd:=fun g e g' e' h=>by simp at h,wf:=hwf,wf0:=hwf,kn:=fun i b h=>by simp at h
          ac:=fun x h=>by simp at h,eqc:=fun x h=>by simp at h,fr:=⟨Nat.le_refl _,Nat.le_refl _,fun _ _ _=>rfl,fun _ _ _=>rfl,fun _ _ h _=>h⟩,oA:=fun j id h=>by simp[E]at h,gT:=fun g e t s xs h=>by simp at h
          gx:=fun g e g' e' h=>by simp at h,ix:=fun g e id o s cap xs j h=>by simp at h,gA:=fun g e id o s cap xs h=>by simp at h,hn:=fun g av hg _=>la_noX l g av hg }
 ·intro E' st' avs hle hρ hm hal hrt _
  have h0:=hrt 0 ⟨none,.one (.v nv) (some (.w nw))⟩ rfl
  simp only[resAV,bF,if_false]
  rcases h0 with⟨k,h0⟩ | h0
  ·cases h0
  ·generalize ZcR avs 0=av at h0
   cases h0 with
   | one1 h1 h2 h3 h4=>
    have e:E'.ρ[nv]?=some [.lit (.bool true)]:=by rw[hρ];simp[E,hnv]
    simp only[At.ev,e,oI,List.cons.injEq,and_true]at h1
    subst h1
    exact ZdQ h4
theorem law_run {P:Program}{k:FuncId}{as:List AV}{vals:Array Value}{W:World}(ht:∀W',Below W.heap.size W W'→Glob P W')(hct:Ct P k as st0 (fun r _=>r=.d (.lit (.bool true))))(hr:RepL (g0 W) as vals) :
  Calls P k vals W fun e W'=>e=.returned (.bool true)∧Below W.heap.size W W':=
 (hct.2 W (g0 W) vals ⟨R0 W,ht⟩ hr).mono fun e w' ⟨r,st',g',v,he,hq,_,hv,_,hb⟩=>by
  subst hq
  have:=hv.lit_inv
  subst this
  exact⟨he,hb⟩
theorem Chain.law {P:Program}{U:Uni}{T:Tab}{B:Den}{l:Ch}{tc:List (Nat×TC U)}(H:Chain P U T B l tc){k:Nat}{sp:Spec}(hsp:conL T l k=some sp){C:TC U}(hC:lk k tc=some C)(a:Env U C.as)(r:Env U C.rs)(hF:C.F a=some r) :
  ZdM P (denL T B l) k sp∧denL T B l k (Env.rows U C.as a)=some (Env.rows U C.rs r):=
 ⟨H.ok (denL T B l) [] (fun _ _ _ _=>rfl) k sp hsp,H.den k C hC a r hF⟩
end Go.AW

namespace Go.AW
open Go.RowKit
theorem ZmL {P:Program}{W:World}{x:String×DataW Unit}{rest:List (String×DataW Unit)}{ps:List MemPlace}(h:DataW.LaidVars P W (x::rest) ps):∃q,DataW.LaidVars P W rest q:=by
 obtain⟨g,t,cs,fuel,p,q,-,-,-,-,h5,-⟩:=h
 exact⟨q,h5⟩
theorem Zqj {P:Program}{W:World}{name:String}{k:IntKind}{zs:List Int}{rest:List (String×DataW Unit)}{g:Nat}{t e:TypeId}{n:Nat}{ps:List MemPlace}
  (hg:P.globalNamed name=some g) (hty:(P.globals[g]?).map (·.type)=some t) (ht:P.underlying t=some (.array n e)) (he:P.underlying e=some (.int k)) (hce:P.cellsOf e=1) (hct:P.cellsOf t=n)
  (h:DataW.LaidVars P W ((name,Lib.tabData k zs)::rest) ps):Lib.TabIs P W name k zs:=by
 obtain⟨g',t',cs,fuel,p,q,hg',ht',hvar,hd,-,-⟩:=h
 obtain rfl:=Option.some.inj (hg.symm.trans hg')
 obtain rfl:=Option.some.inj (hty.symm.trans ht')
 unfold Lib.TabIs
 rw[hvar,← Lib.cells_of_tab ht he hce hct hd]
theorem Zqk {P:Program}{n:String}{g:Nat}{k:IntKind}{zs:List Int}{w w':World}(hg:P.globalNamed n=some g)(h:Lib.TabIs P w n k zs)(hb:Below w.heap.size w w'):Lib.TabIs P w' n k zs:=by
 unfold Lib.TabIs World.var? at h ⊢
 rw[hg]at h ⊢
 simp only[Option.bind_some]at h ⊢
 have hlt:g<w.heap.size:=by
  rcases Nat.lt_or_ge g w.heap.size with h' | h'
  ·exact h'
  ·rw[Array.getElem?_eq_none h']at h;cases h
 rw[hb.block g hlt]
 exact h
theorem ZoL {P:Program}{W:World}{a b:String×DataW Unit}{d:DataW Unit}{g:Nat}{t e:TypeId}{n:Nat}(hd:d=Lib.tabData .u64 Lib.pow10Tab)
  (hg:P.globalNamed "internal/strconv.uint64pow10"=some g) (hty:(P.globals[g]?).map (·.type)=some t) (ht:P.underlying t=some (.array n e)) (he:P.underlying e=some (.int .u64)) (hce:P.cellsOf e=1) (hct:P.cellsOf t=n)
  (h:laidMet P [a,b,("internal/strconv.uint64pow10",d)] W):∀W',Below W.heap.size W W'→Glob P W':=by
 subst hd
 obtain⟨ps,h,-⟩:=h
 obtain⟨q,h⟩:=ZmL h
 obtain⟨q,h⟩:=ZmL h
 have:=Zqj hg hty ht he hce hct h
 exact fun W' hb=>Zqk hg this hb
end Go.AW
