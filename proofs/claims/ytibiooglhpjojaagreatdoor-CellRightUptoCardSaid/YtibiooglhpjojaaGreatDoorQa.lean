/- Values that are there, with what holds of them; spans, a command's course. · A service's course: what each step leaves. · A service's course: up, down, begun, told to stop. · A service's course: what a command says, how it ends; the least connection; a time that is over. · A service's course: the ends of commands; a connection that is served. · A service's event: each piece does what its actions do. Printed by evgen.py. · A cell, a unit that is copied is as it was. Printed by copyof5.py. · How often a service may begin; a service's begin. · A service's begin: start, stop, reload. · A service's cell behind a job, behind an event; when something comes. · Calls that lie in order: sorting leaves them as they are. · Names: kinds, endings; what a timer wakes; a timer's cell. · A world's calls; a socket's cell. · The document's word of a right cell, as a sentence. · What the law asks first: names, acts, calls that may be. · The law CellRight, of typed values. -/
import Derived.Test.YtibiooglhpjojaaGreatDoorF5
import Derived.Test.YtibiooglhpjojaaGreatDoorPe
import Derived.Test.YtibiooglhpjojaaGreatDoorF6
import Derived.Test.YtibiooglhpjojaaGreatDoorD0
import Derived.Test.YtibiooglhpjojaaGreatDoorF14
import Derived.Test.YtibiooglhpjojaaGreatDoorF15
set_option linter.unusedSimpArgs false
set_option linter.unusedVariables false
namespace Go.AW.M
open Go.RowKit Go.Proofs
set_option maxRecDepth 100000
def Wp {α:Type}(o:Option α)(Q:α→Prop):Prop:=∃r,o=some r∧Q r
theorem Wp.bind {α β:Type}{o:Option α}{f:α→Option β}{Q:β→Prop}(h:Wp o fun r=>Wp (f r) Q):Wp (o.bind f) Q:=by
 obtain⟨r,rfl,s,h1,h2⟩:=h
 exact⟨s,h1,h2⟩
theorem Wp.ret {α:Type}{r:α}{Q:α→Prop}(h:Q r):Wp (some r) Q:=⟨r,rfl,h⟩
theorem Wp.ite {α:Type}{c:Bool}{x y:Option α}{Q:α→Prop}(h1:c=true→Wp x Q)(h2:c=false→Wp y Q):Wp (if c=true then x else y) Q:=by
 cases c
 ·exact h2 rfl
 ·exact h1 rfl
theorem Wp.mono {α:Type}{o:Option α}{P Q:α→Prop}(h:Wp o P)(hq:∀r,P r→Q r):Wp o Q:=by
 obtain⟨r,h1,h2⟩:=h
 exact⟨r,h1,hq r h2⟩
theorem Wp.of {α:Type}{o:Option α}{r:α}{Q:α→Prop}(h:o=some r)(hq:Q r):Wp o Q:=⟨r,h,hq⟩
theorem ZmP (a:Int):∃n,ZfC a=some (n,()):=by
 unfold ZfC
 simp only
 split <;> exact⟨_,rfl⟩
theorem sum_ex (a b:Int):∃n,ZcZ a b=some (n,()):=by
 unfold ZcZ
 obtain⟨x,hx⟩:=ZmP a
 obtain⟨y,hy⟩:=ZmP b
 obtain⟨z,hz⟩:=ZmP (IntKind.i64.wrap (x+y))
 simp only[hx,hy,hz,Option.bind_some]
 exact⟨_,rfl⟩
theorem Zjo {a b:Int}{Q:Int×Unit→Prop}(h:∀n,Q (n,())):Wp (ZcZ a b) Q:=by
 obtain⟨n,hn⟩:=sum_ex a b
 exact⟨_,hn,h n⟩
theorem ZmQ {a:Zam}{r:Zal}{Q:Int×Int×Unit→Prop}(h:∀n c,Q (n,c,())):Wp (Zev a r) Q:=by
 unfold Zev Zho
 simp only
 repeat' first
  | exact Wp.ret (h _ _)
  | refine Wp.ite (fun _=>?_) (fun _=>?_)
  | (refine Wp.bind (Zjo fun _=>?_))
theorem ZoN {a:Zam}{r:Zal}{Q:Int×Int×Unit→Prop}(h:∀n w,(w≠0→0<r.Part)→(w=1→0≤r.Said∧r.Said<((List.length a.Says:Nat):Int))→Q (n,w,())):Wp (ZfD a r) Q:=by
 unfold ZfD Zig Zj9 Zif Zie Zid
 simp only[gS,gA,gA',gB,gC,gD,gE,gF,gM,gAnd,gOr,Option.bind_some]
 refine Wp.ite (fun _=>Wp.ret (h _ _ (fun h=>absurd rfl h) (fun h=>absurd h (by decide)))) (fun hp=>?_)
 have hp:0<r.Part:=by simpa using hp
 have h1:=fun n w hw=>h n w (fun _=>hp) hw
 have h:=fun n w (hw:¬ w=1)=>h1 n w (fun e=>absurd e hw)
 have hx:(decide (r.Said≥0)&&decide (r.Said<↑(List.length a.Says)))=true→(∃x,ixN a.Says r.Said=some x)∧0≤r.Said∧r.Said<((List.length a.Says:Nat):Int):=by
  intro hc
  simp only[bA,decide_eq_true_eq]at hc
  unfold ixN
  rw[if_pos ⟨hc.1,hc.2⟩]
  exact⟨⟨_,gG (by omega)⟩,hc.1,hc.2⟩
 repeat' first
  | exact Wp.ret (h _ _ (by decide))
  | exact Wp.ret (h1 _ _ fun _=>by assumption)
  | exact Wp.bind (ZmQ fun _ _=>(Wp.ite (fun _=>Wp.ret (h _ _ (by decide))) (fun _=>Wp.ret (h _ _ (by decide)))))
  | exact Wp.bind (ZmQ fun _ _=>(Wp.ite (fun _=>Wp.ret (h _ _ (by decide))) (fun _=>Wp.ret (h1 _ _ fun _=>by assumption))))
  | refine Wp.ite (fun hc=>?_) (fun _=>?_)
  | (refine Wp.bind (Zjo fun _=>?_))
  | (obtain⟨⟨x,hx⟩,hs⟩:=hx (by assumption);rw[hx,Option.bind_some])
theorem do_of {a:Zam}{r:Zal}{n w:Int}(hd:ZfD a r=some (n,w,()))(h1:w=1→0≤r.Said∧r.Said<((List.length a.Says:Nat):Int))(hl:a.Says.length≤1048576) :
  ∃r' t,ZiL a r=some (r',t,())∧(w=1∨w=2→r'.Part=r.Part∧r'.Told=r.Told):=by
 unfold ZiL
 simp only[hd,Option.bind_some]
 by_cases hw1:w=1
 ·subst hw1
  obtain⟨q1,q2⟩:=h1 rfl
  have e1:IntKind.i64.wrap (r.Said+1)=r.Said+1:=ZaI (by omega) (by omega)
  have e2:IntKind.i64.wrap (r.Said+1 - 1)=r.Said:=by rw[show r.Said+1 - 1=r.Said by omega];exact ZaI (by omega) (by omega)
  obtain⟨m,hm⟩:=Int.eq_ofNat_of_zero_le q1
  have hlt:m<a.Says.length:=by omega
  have key:ixN a.Says r.Said=some a.Says[m]:=by
   rw[hm]
   unfold ixN
   exact Zbt (gG hlt)
  simp only[e1,e2,key,Option.bind_some]
  exact⟨_,_,rfl,fun _=>⟨rfl,rfl⟩⟩
 ·rw[if_neg (by simpa using hw1)]
  by_cases hw2:w=2
  ·subst hw2
   exact⟨_,_,rfl,fun _=>⟨rfl,rfl⟩⟩
  ·rw[if_neg (by simpa using hw2)]
   split
   ·exact⟨_,_,rfl,fun h=>by omega⟩
   ·exact⟨_,_,rfl,fun h=>by omega⟩
end Go.AW.M

namespace Go.AW.M
open Go.RowKit Go.Proofs
set_option maxRecDepth 100000
def KeepOk (c:Zac):Prop:=c.Begins≠[]→∃x l,ixN c.Begins (IntKind.i64.wrap (((List.length c.Begins:Nat):Int) - 1))=some x∧Zb6 c.Begins x c.U.Every=some (l,())∧((List.length l:Nat):Int)≤max 1 c.U.Burst
def Sv (c:Zac):Prop:=(0≤c.State∧c.State≤9)∧(0<c.Main.Part→2≤c.State∧c.State≤7∧c.Main.Part=2∧(0≤c.Main.Told↔c.State=7))∧(c.State=7→0<c.Main.Part) ∧
 (c.State=1→c.Aux.Part=1)∧(c.State=3→c.Aux.Part=3)∧(c.State=5→c.Aux.Part=5)∧(c.State=6→c.Aux.Part=4)∧(0<c.Aux.Part→c.State=1∨c.State=3∨c.State=5∨c.State=6) ∧
 (c.State=0∨c.State=8∨c.State=9∨c.State=1→List.length c.Serves=0)
structure CI (c0 c:Zac):Prop where
 U:c.U=c0.U
 att:0≤c.Attempt
 res:0≤c.Result∧c.Result≤4
 beg:c.Begins.length≤1048577
 waits:c.Waits=[]
 serves:c.Serves.length≤1048576∧∀x∈c.Serves,x.Socket.size≤1048576∧I64 x.Num
structure Rw (r0:Int)(k:Nat)(s:Zaa):Prop where
 b:0≤r0∧r0≤4398046511104
 rows:s.c.Rows=r0+((List.length s.out.Rows:Nat):Int)
 len:s.out.Rows.length≤k
 asks:s.out.Asks=[]
structure G (c0:Zac)(r0:Int)(k:Nat)(s:Zaa):Prop where
 ci:CI c0 s.c
 keep:KeepOk s.c
 rw:Rw r0 k s
 now:0≤s.now
 back:s.out.Back=[]
structure Fin (c0:Zac)(r0:Int)(k:Nat)(s:Zaa):Prop where
 ci:CI c0 s.c
 sv:Sv s.c
 keep:s.c.State≠0→s.c.State≠9→KeepOk s.c
 rw:Rw r0 k s
theorem Zq3 (a:Int)(t:ByteArray)(s:Zaa)(h:s.out.Rows.length≤1000) :
  Zan a t s=some ({ s with c:={ s.c with Rows:=IntKind.i64.wrap (s.c.Rows+1) },out:={ s.out with Rows:=s.out.Rows++[⟨s.now,s.c.U.Name,IntKind.i64.wrap (s.c.Rows+1),a,t⟩] } },()):=by
 unfold Zan
 simp only[apN,List.length_singleton]
 rw[if_pos ⟨by omega,by omega⟩]
 rfl
theorem Rw.row {r0:Int}{k:Nat}{s:Zaa}(h:Rw r0 k s)(hk:k≤100)(x:Zaq):Rw r0 (k+1) { s with c:={ s.c with Rows:=IntKind.i64.wrap (s.c.Rows+1) },out:={ s.out with Rows:=s.out.Rows++[x] } }:=by
 obtain⟨h1,h2,h3,h4⟩:=h
 have hw:IntKind.i64.wrap (s.c.Rows+1)=s.c.Rows+1:=ZaI (by omega) (by omega)
 refine⟨h1,?_,?_,h4⟩
 ·simp only[hw,List.length_append,List.length_singleton];omega
 ·simp only[List.length_append,List.length_singleton];omega
theorem Fin.rowW {c0:Zac}{r0:Int}{k:Nat}{s:Zaa}{a:Int}{t:ByteArray}{Q:Zaa×Unit→Prop}(h:Fin c0 r0 k s)(hk:k≤100)(hQ:∀s',Fin c0 r0 (k+1) s'→Q (s',())):Wp (Zan a t s) Q:=by
 refine Wp.of (Zq3 a t s (by have:=h.rw.len;omega)) (hQ _ ⟨?_,h.sv,h.keep,h.rw.row hk _⟩)
 exact⟨h.ci.U,h.ci.att,h.ci.res,h.ci.beg,h.ci.waits,h.ci.serves⟩
theorem G.rowW {c0:Zac}{r0:Int}{k:Nat}{s:Zaa}{a:Int}{t:ByteArray}{Q:Zaa×Unit→Prop}(h:G c0 r0 k s)(hk:k≤100)(hQ:∀s',s'.c.State=s.c.State→s'.c.Main=s.c.Main→s'.c.Aux=s.c.Aux→s'.c.Serves=s.c.Serves→G c0 r0 (k+1) s'→Q (s',())):Wp (Zan a t s) Q:=by
 refine Wp.of (Zq3 a t s (by have:=h.rw.len;omega)) (hQ _ rfl rfl rfl rfl ⟨?_,h.keep,h.rw.row hk _,h.now,h.back⟩)
 exact⟨h.ci.U,h.ci.att,h.ci.res,h.ci.beg,h.ci.waits,h.ci.serves⟩
theorem to_eq (a:Int)(s:Zaa):ZaE a s=some ({ s with c:={ s.c with State:=a,Since:=s.now } },()):=rfl
theorem Zgk (a b n:Int):ZdI a b n=some (⟨a,b,n,-1,0,false⟩,()):=rfl
theorem tell_wp {r:Zal}{n:Int}{Q:Zal×Unit→Prop}(h:∀r',r'.Part=r.Part→(0<r.Part→0≤n→0≤r'.Told)→Q (r',())):Wp (ZhG r n) Q:=by
 unfold ZhG
 simp only[gS,gA,gA',gB,gC,gD,gE,gF,gM,gAnd,gOr,Option.bind_some]
 refine Wp.ite (fun _=>Wp.ret (h _ rfl fun _ hn=>hn)) (fun hc=>Wp.ret (h _ rfl fun hp _=>?_))
 simp only[Bool.and_eq_false_iff,decide_eq_false_iff_not]at hc
 omega
theorem Zqm (a b:Int):∃x,ZfH a b=some (x,()):=by
 unfold ZfH
 simp only[gS,gA,gA',gB,gC,gD,gE,gF,gM,gAnd,gOr,Option.bind_some]
 repeat' first
  | exact⟨_,rfl⟩
  | split
theorem ZmR {u:Zae}{a n:Int}{Q:Int×Bool×Unit→Prop}(h:∀t b,Q (t,b,())):Wp (ZgE u a n) Q:=by
 unfold ZgE
 obtain⟨x,hx⟩:=Zqm u.Restart a
 simp only[hx,Option.bind_some]
 exact Wp.ite (fun _=>Wp.ret (h _ _)) (fun _=>Wp.bind (Zjo fun _=>Wp.ret (h _ _)))
theorem Znn {c0:Zac}{r0:Int}{k:Nat}{s:Zaa}(hci:CI c0 s.c)(hk:KeepOk s.c)(hr:Rw r0 k s)(hs:s.c.State=0∨s.c.State=8∨s.c.State=9)(hm:s.c.Main.Part≤0)(ha:s.c.Aux.Part≤0)(hv:s.c.Serves=[]):Fin c0 r0 k s:=by
 refine⟨hci,?_,fun _ _=>hk,hr⟩
 have hv:List.length s.c.Serves=0:=by rw[hv];rfl
 unfold Sv
 omega
theorem ZoO {c0:Zac}{r0:Int}{k:Nat}{s:Zaa}{Q:Zaa×Unit→Prop}(hci:CI c0 s.c)(hk:KeepOk s.c)(hr:Rw r0 k s)(hm:s.c.Main=z3)(ha:s.c.Aux=z3)(hkk:k≤100)(hQ:∀s',Fin c0 r0 (k+1) s'→Q (s',())):Wp (Zc1 s) Q:=by
 have hci':∀(o a st:Int),CI c0 { s.c with Serves:=[],Over:=o,State:=st,Since:=a }:=fun o a st=>⟨hci.U,hci.att,hci.res,hci.beg,hci.waits,by simp,by simp⟩
 have hm':s.c.Main.Part≤0:=by rw[hm];decide
 have ha':s.c.Aux.Part≤0:=by rw[ha];decide
 have key:∀(o a st:Int),(st=0∨st=8∨st=9)→Fin c0 r0 k { s with c:={ s.c with Serves:=[],Over:=o,State:=st,Since:=a } }:=fun o a st hst=>Znn (hci' o a st) hk ⟨hr.b,hr.rows,hr.len,hr.asks⟩ hst hm' ha' rfl
 unfold Zc1
 refine Wp.bind (ZmR fun t b=>?_)
 simp only[gS,gA,gA',gB,gC,gD,gE,gF,gM,gAnd,gOr,Option.bind_some,to_eq]
 have e1:Wp (Zcb s) Q:=by
  unfold Zcb
  simp only[to_eq,Option.bind_some]
  exact Wp.bind ((key s.c.Over s.now 9 (by omega)).rowW hkk fun s' hs'=>Wp.ret (hQ _ ⟨hs'.ci,hs'.sv,hs'.keep,hs'.rw.b,hs'.rw.rows,hs'.rw.len,hs'.rw.asks⟩))
 refine Wp.ite (fun _=>e1) (fun _=>Wp.ite (fun _=>e1) (fun _=>Wp.ite (fun _=>?_) (fun _=>?_)))
 ·exact Wp.bind ((key _ s.now 8 (by omega)).rowW hkk fun s' hs'=>Wp.ret (hQ _ ⟨hs'.ci,hs'.sv,hs'.keep,hs'.rw.b,hs'.rw.rows,hs'.rw.len,hs'.rw.asks⟩))
 ·exact Wp.bind ((key s.c.Over s.now 0 (by omega)).rowW hkk fun s' hs'=>Wp.ret (hQ _ ⟨hs'.ci,hs'.sv,hs'.keep,hs'.rw.b,hs'.rw.rows,hs'.rw.len,hs'.rw.asks⟩))
theorem wp_loop {A B:Type}{f:A→Option (A⊕B)}(I:Nat→A→Prop){Q:B→Prop}(n:Nat)(v:A)(hn:n<4611686018427387904)(h0:I n v)
  (h:∀m v,I m v→Wp (f v) fun r=>(∃b,r=.inr b∧Q b)∨∃m' v',m'<m∧r=.inl v'∧I m' v'):Wp (loopS f v) Q:=
 Zj7 I n v hn h0 fun m v hI=>Zqf (h m v hI)
theorem Zfp {α:Type}{xs:List α}{i:Nat}{Q:α→Prop}(h:i<xs.length)(hQ:Q xs[i]):Wp (ixN xs (i:Int)) Q:=by
 refine Wp.of (r:=xs[i]) ?_ hQ
 unfold ixN
 exact Zbt (gG h)
theorem Zg1 {c0:Zac}{r0:Int}{k:Nat}{s:Zaa}{Q:Zaa×Unit→Prop}(h:G c0 r0 k s)(hkk:k≤100)(hQ:∀s',Fin c0 r0 (k+1) s'→Q (s',())):Wp (ZaR s) Q:=by
 unfold ZaR
 simp only
 have hsl:=h.ci.serves.1
 refine wp_loop (fun m (v:Int×Zaa×Unit)=>∃i:Nat,v.1=i∧i+m=s.c.Serves.length∧v.2.1.c={ s.c with Main:=z3,Aux:=z3,Over:=1099511627776 }∧v.2.1.out.Rows=s.out.Rows∧v.2.1.out.Asks=s.out.Asks∧v.2.1.out.Back.length≤i) s.c.Serves.length _ (by omega) ⟨0,rfl,by omega,rfl,rfl,rfl,by rw[h.back];exact Nat.le_refl _⟩ (fun m v ⟨i,hi,hm,hc,hr,ha,hb⟩=>?_)
 obtain⟨v1,x,u⟩:=v
 simp only at hi hc hr ha hb
 subst hi
 by_cases hlt:i<s.c.Serves.length
 ·simp only[dec_lt hlt,if_true]
  refine Wp.bind (Zfp hlt ?_)
  simp only[apN,List.length_singleton]
  rw[if_pos ⟨by omega,by omega⟩]
  simp only[Option.bind_some,ZaW hlt (show s.c.Serves.length<4611686018427387904 by omega)]
  exact Wp.ret (.inr ⟨m - 1,_,by omega,rfl,i+1,rfl,by omega,hc,hr,ha,by simp;omega⟩)
 ·have:i=s.c.Serves.length:=by omega
  subst this
  simp only[Za4,bF,if_false]
  refine Wp.bind (ZoO (c0:=c0) (r0:=r0) (k:=k) ?_ ?_ ⟨h.rw.b,?_,?_,?_⟩ ?_ ?_ hkk fun s' hs'=>Wp.ret (.inl ⟨_,rfl,hQ _ hs'⟩))
  ·rw[hc];exact⟨h.ci.U,h.ci.att,h.ci.res,h.ci.beg,h.ci.waits,h.ci.serves⟩
  ·rw[hc];exact h.keep
  ·rw[hc,hr];exact h.rw.rows
  ·rw[hr];exact h.rw.len
  ·rw[ha];exact h.rw.asks
  ·rw[hc]
  ·rw[hc]
end Go.AW.M

namespace Go.AW.M
open Go.RowKit Go.Proofs
set_option maxRecDepth 100000
section
variable {c0:Zac}{r0:Int}{k:Nat}{s:Zaa}{Q:Zaa×Unit→Prop}
theorem CI.fin {c:Zac}(h:CI c0 c)(st si ov:Int)(m a:Zal):CI c0 { c with State:=st,Since:=si,Over:=ov,Main:=m,Aux:=a }:=⟨h.U,h.att,h.res,h.beg,h.waits,h.serves⟩
theorem Rw.up (h:Rw r0 k s){j:Nat}(hj:k≤j):Rw r0 j s:=⟨h.b,h.rows,Nat.le_trans h.len hj,h.asks⟩
theorem Fin.up (h:Fin c0 r0 k s){j:Nat}(hj:k≤j):Fin c0 r0 j s:=⟨h.ci,h.sv,h.keep,h.rw.up hj⟩
theorem up_wp {t:ByteArray}(h:G c0 r0 k s)(hk:k≤100)(hm:0<s.c.Main.Part→s.c.Main.Part=2∧s.c.Main.Told<0)(ha:s.c.Aux.Part≤0)(hQ:∀s',Fin c0 r0 (k+1) s'→Q (s',())):Wp (ZbR t s) Q:=by
 unfold ZbR
 simp only[to_eq,Option.bind_some]
 refine Wp.bind (Fin.rowW (c0:=c0) (r0:=r0) (k:=k) ⟨⟨h.ci.U,h.ci.att,h.ci.res,h.ci.beg,h.ci.waits,h.ci.serves⟩,?_,fun _ _=>h.keep,⟨h.rw.b,h.rw.rows,h.rw.len,h.rw.asks⟩⟩ hk fun s' hs'=>Wp.ret (hQ _ hs'))
 simp only[Sv]
 refine⟨?_,?_,?_,?_,?_,?_,?_,?_,?_⟩ <;> first | omega | (simp;done) | (simp;omega)
theorem ZoP (h:G c0 r0 k s)(hk:k≤100)(hm:0<s.c.Main.Part→s.c.Main.Part=2∧s.c.Main.Told<0)(ha:s.c.Aux.Part≤0)(hQ:∀s',Fin c0 r0 (k+1) s'→Q (s',())):Wp (ZbS s) Q:=by
 unfold ZbS
 simp only[gS,gA,gA',gB,gC,gD,gE,gF,gM,gAnd,gOr,Option.bind_some]
 exact Wp.ite (fun _=>Wp.bind (Zg1 h hk fun s' hs'=>Wp.ret (hQ _ hs'))) (fun _=>Wp.bind (up_wp h hk hm ha fun s' hs'=>Wp.ret (hQ _ hs')))
theorem ZkQ (h:G c0 r0 k s)(hk:k≤100)(hm:0<s.c.Main.Part→s.c.Main.Part=2∧s.c.Main.Told<0)(ha:s.c.Aux.Part≤0)(hQ:∀s',Fin c0 r0 (k+1) s'→Q (s',())):Wp (Zbj s) Q:=by
 unfold Zbj
 simp only[to_eq,Zgk,Option.bind_some]
 refine Wp.ite (fun _=>Wp.bind (ZoP h hk hm ha fun s' hs'=>Wp.ret (hQ _ hs'))) (fun _=>Wp.ret (hQ _ ⟨⟨h.ci.U,h.ci.att,h.ci.res,h.ci.beg,h.ci.waits,h.ci.serves⟩,?_,fun _ _=>h.keep,⟨h.rw.b,h.rw.rows,Nat.le_trans h.rw.len (by omega),h.rw.asks⟩⟩))
 simp only[Sv]
 refine⟨?_,?_,?_,?_,?_,?_,?_,?_,?_⟩ <;> first | omega | (simp;done) | (simp;omega)
theorem Zno (h:G c0 r0 k s)(hk:k≤100)(ha:s.c.Aux.Part≤0)(hQ:∀s',Fin c0 r0 (k+1) s'→Q (s',())):Wp (ZbD s) Q:=by
 unfold ZbD
 simp only[to_eq,Zgk,Option.bind_some]
 refine Wp.ite (fun _=>Wp.bind (ZkQ (c0:=c0) (r0:=r0) (k:=k) ⟨⟨h.ci.U,h.ci.att,h.ci.res,h.ci.beg,h.ci.waits,h.ci.serves⟩,h.keep,⟨h.rw.b,h.rw.rows,h.rw.len,h.rw.asks⟩,h.now,h.back⟩ hk ?_ ha fun s' hs'=>Wp.ret (hQ _ hs')))
  (fun _=>Wp.ret (hQ _ ⟨⟨h.ci.U,h.ci.att,h.ci.res,h.ci.beg,h.ci.waits,h.ci.serves⟩,?_,fun _ _=>h.keep,⟨h.rw.b,h.rw.rows,Nat.le_trans h.rw.len (by omega),h.rw.asks⟩⟩))
 ·exact fun _=>⟨rfl,show(-1:Int)<0 by decide⟩
 ·simp only[Sv]
  refine⟨?_,?_,?_,?_,?_,?_,?_,?_,?_⟩ <;> first | omega | (simp;done) | (simp;omega)
theorem ZmS (h:G c0 r0 k s)(hk:k≤100)(hm:s.c.Main.Part≤0)(ha:s.c.Aux.Part≤0)(hv:s.c.Serves=[])(hQ:∀s',Fin c0 r0 (k+1) s'→Q (s',())):Wp (ZbB s) Q:=by
 unfold ZbB
 simp only[to_eq,Zgk,Option.bind_some]
 refine Wp.ite (fun _=>Wp.bind (Zno h hk ha fun s' hs'=>Wp.ret (hQ _ hs'))) (fun _=>Wp.ret (hQ _ ⟨⟨h.ci.U,h.ci.att,h.ci.res,h.ci.beg,h.ci.waits,h.ci.serves⟩,?_,fun _ _=>h.keep,⟨h.rw.b,h.rw.rows,Nat.le_trans h.rw.len (by omega),h.rw.asks⟩⟩))
 simp only[Sv,hv,List.length_nil]
 refine⟨?_,?_,?_,?_,?_,?_,?_,?_,?_⟩ <;> first | omega | (simp;done) | (simp;omega)
theorem ZgH (h:G c0 r0 k s)(hk:k≤100)(hm:0<s.c.Main.Part→s.c.Main.Part=2)(hQ:∀s',Fin c0 r0 (k+1) s'→Q (s',())):Wp (ZaL s) Q:=by
 unfold ZaL
 simp only[to_eq,Option.bind_some]
 refine Wp.ite (fun _=>Wp.bind (Zg1 (c0:=c0) (r0:=r0) (k:=k) ⟨⟨h.ci.U,h.ci.att,h.ci.res,h.ci.beg,h.ci.waits,h.ci.serves⟩,h.keep,⟨h.rw.b,h.rw.rows,h.rw.len,h.rw.asks⟩,h.now,h.back⟩ hk fun s' hs'=>Wp.ret (hQ _ hs')))
  (fun hp=>Wp.bind (tell_wp fun r h1 h2=>Wp.bind (Zjo fun n=>Wp.bind (Fin.rowW (c0:=c0) (r0:=r0) (k:=k) ⟨⟨h.ci.U,h.ci.att,h.ci.res,h.ci.beg,h.ci.waits,h.ci.serves⟩,?_,fun _ _=>h.keep,⟨h.rw.b,h.rw.rows,h.rw.len,h.rw.asks⟩⟩ hk fun s' hs'=>Wp.ret (hQ _ hs')))))
 simp only[decide_eq_false_iff_not]at hp
 have h2:=h2 (by omega) h.now
 have h3:(z3:Zal).Part=0:=rfl
 simp only[Sv,h3]
 refine⟨?_,?_,?_,?_,?_,?_,?_,?_,?_⟩ <;> first | omega | (simp;done) | (simp;omega)
theorem ZhL {a:Int}(h:G c0 r0 k s)(hk:k≤100)(h0:0≤a∧a≤4)(hm:0<s.c.Main.Part→s.c.Main.Part=2)(hQ:∀s',Fin c0 r0 (k+1) s'→Q (s',())):Wp (ZaF a s) Q:=by
 unfold ZaF
 simp only
 exact Wp.bind (ZgH (c0:=c0) (r0:=r0) (k:=k) ⟨⟨h.ci.U,h.ci.att,h0,h.ci.beg,h.ci.waits,h.ci.serves⟩,h.keep,⟨h.rw.b,h.rw.rows,h.rw.len,h.rw.asks⟩,h.now,h.back⟩ hk hm fun s' hs'=>Wp.ret (hQ _ hs'))
theorem Zjp (h:G c0 r0 k s)(hk:k≤100)(hm:0<s.c.Main.Part→s.c.Main.Part=2∧s.c.Main.Told<0)(hQ:∀s',Fin c0 r0 (k+1) s'→Q (s',())):Wp (Zbd s) Q:=by
 unfold Zbd
 simp only
 exact Wp.bind (up_wp (c0:=c0) (r0:=r0) (k:=k) ⟨⟨h.ci.U,h.ci.att,h.ci.res,h.ci.beg,h.ci.waits,h.ci.serves⟩,h.keep,⟨h.rw.b,h.rw.rows,h.rw.len,h.rw.asks⟩,h.now,h.back⟩ hk hm (show(z3:Zal).Part≤0 by decide) fun s' hs'=>Wp.ret (hQ _ hs'))
structure Pre (c0:Zac)(r0:Int)(k:Nat)(s:Zaa):Prop where
 ci:CI c0 s.c
 sv:Sv s.c
 keep:s.c.State≠0→s.c.State≠9→KeepOk s.c
 rw:Rw r0 k s
 now:0≤s.now
 back:s.out.Back=[]
theorem Pre.g (h:Pre c0 r0 k s)(h0:s.c.State≠0)(h9:s.c.State≠9):G c0 r0 k s:=⟨h.ci,h.keep h0 h9,h.rw,h.now,h.back⟩
end
end Go.AW.M

namespace Go.AW.M
open Go.RowKit Go.Proofs
set_option maxRecDepth 100000
theorem Zqn {α:Type}{b:Nat}(xs:List α)(hl:xs.length≤1048576)(hb:b≤1000):ZkN b xs=some (xs,()):=by
 unfold ZkN Zjb
 have h2:xs.length * b≤1048576 * 1000:=Nat.mul_le_mul hl hb
 rw[if_pos (by simp only[bA,Nat.ble_eq];omega)]
theorem Zgl {acts:List Zam}{f:Int×Unit→Option ((Int×Unit)⊕(Zam×Unit))}{Q:Zam×Unit→Prop}{fin:Option (Zam×Unit)}(hl:acts.length≤1048576)(hw:∀a∈acts,a.Says.length≤1048576)
  (hf:∀i:Nat,∀h:i<acts.length,∃b:Bool,f ((i:Int),())=if b=true then Zdx acts[i] else some (Sum.inl (IntKind.i64.wrap ((i:Int)+1),())))
  (he:f (((acts.length:Nat):Int),())=fin.bind fun r=>some (Sum.inr r)) (h:∀a:Zam,a.Says.length≤1048576→Q (a,())) (hfin:Wp fin Q):Wp (loopS f ((0:Int),())) Q:=by
 refine wp_loop (fun m (v:Int×Unit)=>∃i:Nat,v.1=i∧i+m=acts.length) acts.length _ (by omega) ⟨0,rfl,by omega⟩ (fun m v ⟨i,hi,hm⟩=>?_)
 obtain⟨v1,u⟩:=v
 simp only at hi
 subst hi
 by_cases hlt:i<acts.length
 ·obtain⟨b,hb⟩:=hf i hlt
  rw[hb]
  refine Wp.ite (fun _=>?_) (fun _=>Wp.ret (.inr ⟨m - 1,(((i+1:Nat):Int),()),by omega,?_,i+1,rfl,by omega⟩))
  ·unfold Zdx
   have:=hw _ (List.getElem_mem hlt)
   simp only[Zqn _ this (b:=24) (by decide),Option.bind_some,ZhE]
   exact Wp.ret (.inl ⟨_,rfl,h _ this⟩)
  ·rw[ZaW hlt (by omega)];rfl
 ·have:i=acts.length:=by omega
  subst this
  rw[he]
  exact Wp.bind (hfin.mono fun r hr=>Wp.ret (.inl ⟨_,rfl,hr⟩))
theorem ZmT {w:Zaf}{u:Zae}{p n t:Int}{Q:Zam×Unit→Prop}(hw:w.Fit 1048576)(h:∀a:Zam,a.Says.length≤1048576→Q (a,())):Wp (Zee w u p n t) Q:=by
 have hl:=hw.1.1
 have ha:∀a∈w.Acts,a.Says.length≤1048576:=hw.1.2
 have h3:Wp (Zfq u p n t) Q:=by
  unfold Zfq
  simp only[gS,gA,gA',gB,gC,gD,gE,gF,gM,gAnd,gOr,Option.bind_some]
  exact Wp.ite (fun _=>Wp.ret (h _ (by simp[z4]))) (fun _=>Wp.ret (h _ (by simp[z4])))
 have e4:∀nm,Wp (Zfr w nm p u n t) Q:=fun nm=>by
  unfold Zfr
  refine Zgl (fin:=Zfq u p n t) hl ha (fun i hlt=>?_) ?_ h h3
  ·simp only[dec_lt hlt,if_true]
   rw[show ixN w.Acts (i:Int)=some w.Acts[i] from Zbt (gG hlt)]
   simp only[gS,gA,gA',gB,gC,gD,gE,gF,gM,gAnd,gOr,Option.bind_some]
   exact⟨_,rfl⟩
  ·simp only[Za4,bF,if_false]
 have e5:∀nm,Wp (Zfs w nm p n u t) Q:=fun nm=>by
  unfold Zfs
  refine Zgl (fin:=Zfr w nm p u n t) hl ha (fun i hlt=>?_) ?_ h (e4 nm)
  ·simp only[dec_lt hlt,if_true]
   rw[show ixN w.Acts (i:Int)=some w.Acts[i] from Zbt (gG hlt)]
   simp only[gS,gA,gA',gB,gC,gD,gE,gF,gM,gAnd,gOr,Option.bind_some]
   exact⟨_,rfl⟩
  ·simp only[Za4,bF,if_false]
 have e6:∀nm,Wp (Zft w nm p t n u) Q:=fun nm=>by
  unfold Zft
  refine Zgl (fin:=Zfs w nm p n u t) hl ha (fun i hlt=>?_) ?_ h (e5 nm)
  ·simp only[dec_lt hlt,if_true]
   rw[show ixN w.Acts (i:Int)=some w.Acts[i] from Zbt (gG hlt)]
   simp only[gS,gA,gA',gB,gC,gD,gE,gF,gM,gAnd,gOr,Option.bind_some]
   exact⟨_,rfl⟩
  ·simp only[Za4,bF,if_false]
 unfold Zee
 refine Zgl (fin:=Zft w u.Name p t n u) hl ha (fun i hlt=>?_) ?_ h (e6 _)
 ·simp only[dec_lt hlt,if_true]
  rw[show ixN w.Acts (i:Int)=some w.Acts[i] from Zbt (gG hlt)]
  simp only[gS,gA,gA',gB,gC,gD,gE,gF,gM,gAnd,gOr,Option.bind_some]
  exact⟨_,rfl⟩
 ·simp only[Za4,bF,if_false]
theorem act_wp {r:Zal}{s:Zaa}{Q:Zam×Unit→Prop}(hw:s.w.Fit 1048576)(h:∀a:Zam,a.Says.length≤1048576→Q (a,())):Wp (ZaJ r s) Q:=by
 unfold ZaJ
 simp only
 exact Wp.bind (ZmT hw fun a ha=>Wp.ret (h a ha))
def DueIs (r:Zal)(s:Zaa)(n w:Int):Prop:=∃a:Zam,ZaJ r s=some (a,())∧ZfD a r=some (n,w,())∧(w≠0→0<r.Part)∧(w=1→0≤r.Said∧r.Said<((List.length a.Says:Nat):Int))∧a.Says.length≤1048576
theorem Znp {r:Zal}{s:Zaa}(hw:s.w.Fit 1048576):∃n w,DueIs r s n w:=by
 obtain⟨_,h1,a,ha,rfl⟩:=act_wp (r:=r) (Q:=fun x=>∃a:Zam,a.Says.length≤1048576∧x=(a,())) hw fun a ha=>⟨a,ha,rfl⟩
 obtain⟨_,h2,n,w,h3,h4,rfl⟩:=ZoN (a:=a) (r:=r) (Q:=fun x=>∃n w,(w≠0→0<r.Part)∧(w=1→0≤r.Said∧r.Said<((List.length a.Says:Nat):Int))∧x=(n,w,())) fun n w h3 h4=>⟨n,w,h3,h4,rfl⟩
 exact⟨n,w,a,h1,h2,h3,h4,ha⟩
theorem ZoQ {s:Zaa}{n w:Int}(h:DueIs s.c.Aux s n w):Zbv s=some (n,w,()):=by
 obtain⟨a,h1,h2,-⟩:=h
 unfold Zbv
 simp only[h1,h2,Option.bind_some]
theorem Zof {s:Zaa}{n w:Int}(h:DueIs s.c.Main s n w):Zbm s=some (n,w,()):=by
 obtain⟨a,h1,h2,-⟩:=h
 unfold Zbm
 simp only[h1,h2,Option.bind_some]
structure Done (c0:Zac)(r0:Int)(k:Nat)(c:Zac):Prop where
 ci:CI c0 c
 sv:Sv c
 keep:c.State≠0→c.State≠9→KeepOk c
 rows:r0≤c.Rows∧c.Rows≤r0+k
section
variable {c0:Zac}{r0:Int}{k:Nat}{s:Zaa}{Q:Zaa×Unit→Prop}
theorem Fin.done (h:Fin c0 r0 k s){j:Nat}(hj:k≤j):Done c0 r0 j s.c:=⟨h.ci,h.sv,h.keep,by have:=h.rw.rows;omega,by have:=h.rw.rows;have:=h.rw.len;omega⟩
theorem over_wp (h:Pre c0 r0 k s)(hk:k≤99)(hQ:∀s':Zaa,Done c0 r0 (k+1) s'.c→Q (s',())):Wp (Zag s) Q:=by
 have hsv:=h.sv
 have hF:∀s',Fin c0 r0 (k+1) s'→Q (s',()):=fun s' hs'=>hQ s' (hs'.done (Nat.le_refl _))
 unfold Sv at hsv
 unfold Zag
 simp only[to_eq,Option.bind_some]
 refine Wp.ite (fun he=>?_) (fun _=>Wp.ite (fun he=>?_) (fun _=>Wp.ite (fun he=>?_) (fun _=>Wp.ite (fun he=>?_) (fun _=>Wp.ite (fun he=>?_) (fun _=>Wp.ite (fun he=>?_) (fun _=>Wp.ite (fun he=>?_) (fun _=>?_)))))))
 ·simp only[beq_iff_eq]at he
  exact Wp.bind (ZhL (h.g (by omega) (by omega)) (by omega) (by omega) (by omega) fun s' hs'=>Wp.ret (hF _ hs'))
 ·simp only[beq_iff_eq]at he
  exact Wp.bind (ZhL (h.g (by omega) (by omega)) (by omega) (by omega) (by omega) fun s' hs'=>Wp.ret (hF _ hs'))
 ·simp only[beq_iff_eq]at he
  exact Wp.bind (ZhL (h.g (by omega) (by omega)) (by omega) (by omega) (by omega) fun s' hs'=>Wp.ret (hF _ hs'))
 ·simp only[beq_iff_eq]at he
  exact Wp.bind (Zjp (h.g (by omega) (by omega)) (by omega) (by omega) fun s' hs'=>Wp.ret (hF _ hs'))
 ·simp only[beq_iff_eq]at he
  exact Wp.bind (ZgH (h.g (by omega) (by omega)) (by omega) (by omega) fun s' hs'=>Wp.ret (hF _ hs'))
 ·simp only[beq_iff_eq]at he
  have hg:=h.g (by omega) (by omega)
  exact Wp.bind (Zg1 (c0:=c0) (r0:=r0) (k:=k) ⟨⟨hg.ci.U,hg.ci.att,⟨show(0:Int)≤3 by decide,show(3:Int)≤4 by decide⟩,hg.ci.beg,hg.ci.waits,hg.ci.serves⟩,hg.keep,⟨hg.rw.b,hg.rw.rows,hg.rw.len,hg.rw.asks⟩,hg.now,hg.back⟩ (by omega) fun s' hs'=>Wp.ret (hF _ hs'))
 ·simp only[beq_iff_eq]at he
  have hg:=h.g (by omega) (by omega)
  refine Wp.bind (Fin.rowW (c0:=c0) (r0:=r0) (k:=k) ⟨⟨hg.ci.U,hg.ci.att,hg.ci.res,hg.ci.beg,hg.ci.waits,hg.ci.serves⟩,?_,fun _ _=>hg.keep,⟨hg.rw.b,hg.rw.rows,hg.rw.len,hg.rw.asks⟩⟩ (by omega) fun s' hs'=>?_)
  ·simp only[Sv]
   refine⟨?_,?_,?_,?_,?_,?_,?_,?_,?_⟩ <;> first | omega | (simp;done) | (simp;omega)
  ·simp only[hs'.rw.asks,apN,List.length_nil,List.length_singleton]
   rw[if_pos ⟨by omega,by omega⟩]
   exact Wp.ret (hQ _ (hs'.done (Nat.le_refl _)))
 ·exact Wp.ret (hQ _ ⟨⟨h.ci.U,h.ci.att,h.ci.res,h.ci.beg,h.ci.waits,h.ci.serves⟩,h.sv,h.keep,by have:=h.rw.rows;simp only;omega,by have:=h.rw.rows;have:=h.rw.len;simp only;omega⟩)
theorem Zog {n:Int}(h:Pre c0 r0 k s)(hk:k≤99)(hd:DueIs s.c.Aux s n 1)(hQ:∀s':Zaa,Done c0 r0 (k+1) s'.c→Q (s',())):Wp (ZaK s) Q:=by
 obtain⟨a,h1,h2,h3,h4,h5⟩:=hd
 obtain⟨r',t,h6,h7⟩:=do_of h2 h4 h5
 obtain⟨h8,h9⟩:=h7 (.inl rfl)
 have hsv:=h.sv
 have h3:=h3 (by decide)
 unfold ZaK
 simp only[h1,h6,Option.bind_some]
 refine Wp.bind (Fin.rowW (c0:=c0) (r0:=r0) (k:=k) ⟨⟨h.ci.U,h.ci.att,h.ci.res,h.ci.beg,h.ci.waits,h.ci.serves⟩,?_,h.keep,⟨h.rw.b,h.rw.rows,h.rw.len,h.rw.asks⟩⟩ (by omega) fun s' hs'=>Wp.ret (hQ _ (hs'.done (Nat.le_refl _))))
 unfold Sv at hsv ⊢
 simp only[h8]
 exact hsv
theorem ZmU {n:Int}(h:Pre c0 r0 k s)(hk:k≤99)(hd:DueIs s.c.Main s n 1)(hQ:∀s':Zaa,Done c0 r0 (k+1) s'.c→Q (s',())):Wp (Zax s) Q:=by
 obtain⟨a,h1,h2,h3,h4,h5⟩:=hd
 obtain⟨r',t,h6,h7⟩:=do_of h2 h4 h5
 obtain⟨h8,h9⟩:=h7 (.inl rfl)
 have hsv:=h.sv
 unfold Zax
 simp only[h1,h6,Option.bind_some]
 refine Wp.bind (Fin.rowW (c0:=c0) (r0:=r0) (k:=k) ⟨⟨h.ci.U,h.ci.att,h.ci.res,h.ci.beg,h.ci.waits,h.ci.serves⟩,?_,h.keep,⟨h.rw.b,h.rw.rows,h.rw.len,h.rw.asks⟩⟩ (by omega) fun s' hs'=>Wp.ret (hQ _ (hs'.done (Nat.le_refl _))))
 unfold Sv at hsv ⊢
 simp only[h8,h9]
 exact hsv
theorem ZmV {n:Int}(h:Pre c0 r0 k s)(hd:DueIs s.c.Aux s n 2)(hQ:∀s':Zaa,Done c0 r0 (k+1) s'.c→Q (s',())):Wp (Zay s) Q:=by
 have hF:∀s',Fin c0 r0 (k+1) s'→Q (s',()):=fun s' hs'=>hQ s' (hs'.done (Nat.le_refl _))
 obtain⟨a,h1,h2,h3,h4,h5⟩:=hd
 obtain⟨r',t,h6,h7⟩:=do_of h2 h4 h5
 obtain⟨h8,h9⟩:=h7 (.inr rfl)
 have hsv:=h.sv
 unfold Zay
 simp only[h1,h6,Option.bind_some]
 refine Wp.ret (hF _ ⟨⟨h.ci.U,h.ci.att,h.ci.res,h.ci.beg,h.ci.waits,h.ci.serves⟩,?_,h.keep,⟨h.rw.b,h.rw.rows,Nat.le_trans h.rw.len (Nat.le_succ k),h.rw.asks⟩⟩)
 unfold Sv at hsv ⊢
 simp only[h8]
 exact hsv
theorem ZlG {n:Int}(h:Pre c0 r0 k s)(hk:k≤99)(hd:DueIs s.c.Main s n 2)(hQ:∀s':Zaa,Done c0 r0 (k+1) s'.c→Q (s',())):Wp (Zat s) Q:=by
 have hF:∀s',Fin c0 r0 (k+1) s'→Q (s',()):=fun s' hs'=>hQ s' (hs'.done (Nat.le_refl _))
 obtain⟨a,h1,h2,h3,h4,h5⟩:=hd
 obtain⟨r',t,h6,h7⟩:=do_of h2 h4 h5
 obtain⟨h8,h9⟩:=h7 (.inr rfl)
 have hsv:=h.sv
 unfold Zat
 simp only[gS,gA,gA',gB,gC,gD,gE,gF,gM,gAnd,gOr,h1,h6,Option.bind_some]
 refine Wp.ite (fun he=>?_) (fun _=>Wp.ret (hF _ ⟨⟨h.ci.U,h.ci.att,h.ci.res,h.ci.beg,h.ci.waits,h.ci.serves⟩,?_,h.keep,⟨h.rw.b,h.rw.rows,Nat.le_trans h.rw.len (Nat.le_succ k),h.rw.asks⟩⟩))
 ·simp only[bA,beq_iff_eq]at he
  unfold Sv at hsv
  have hg:=h.g (by omega) (by omega)
  refine Wp.bind (ZkQ (c0:=c0) (r0:=r0) (k:=k) ⟨⟨hg.ci.U,hg.ci.att,hg.ci.res,hg.ci.beg,hg.ci.waits,hg.ci.serves⟩,hg.keep,⟨hg.rw.b,hg.rw.rows,hg.rw.len,hg.rw.asks⟩,hg.now,hg.back⟩ (by omega) ?_ ?_ fun s' hs'=>Wp.ret (hQ _ (hs'.done (Nat.le_refl _))))
  ·simp only[h8,h9];omega
  ·simp only;omega
 ·unfold Sv at hsv ⊢
  simp only[h8,h9]
  exact hsv
end
end Go.AW.M

namespace Go.AW.M
open Go.RowKit Go.Proofs
set_option maxRecDepth 100000
theorem ZkR {l:List Zad}{part num:Int}{s:Zaa}{Q:Bool×Zaa×Unit→Prop}(hf:Q (false,s,()))(ht:∀r:Zal,r.Part=part→Q (true,{ s with c:={ s.c with Aux:=r } },())):Wp (Zba l part num s) Q:=by
 unfold Zba
 simp only[gS,gA,gA',gB,gC,gD,gE,gF,gM,gAnd,gOr,Option.bind_some,Zgk]
 exact Wp.ite (fun _=>Wp.ret hf) (fun _=>Wp.ret (ht _ rfl))
theorem ZkS {l:List Zad}{num:Int}{Q:Zad×Unit→Prop}(h:∀e,Q (e,())):Wp (ZcW l num) Q:=by
 unfold ZcW
 simp only[gS,gA,gA',gB,gC,gD,gE,gF,gM,gAnd,gOr,Option.bind_some]
 refine Wp.ite (fun _=>Wp.ret (h _)) (fun hc=>?_)
 simp only[Bool.or_eq_false_iff,decide_eq_false_iff_not]at hc
 obtain⟨m,hm⟩:=Int.eq_ofNat_of_zero_le (show 0≤num by omega)
 subst hm
 exact Wp.bind (Zfp (by omega) (Wp.ret (h _)))
theorem ZkT {e:Zad}{code:Int}{l:List Int}{Q:Bool×Unit→Prop}(hl:l.length≤1048576)(h:∀b,Q (b,())):Wp (ZdT e code l) Q:=by
 unfold ZdT ZhK
 simp only[gS,gA,gA',gB,gC,gD,gE,gF,gM,gAnd,gOr,Option.bind_some]
 refine Wp.ite (fun _=>Wp.ret (h _)) (fun _=>?_)
 refine wp_loop (fun m (v:Int×Unit)=>∃i:Nat,v.1=i∧i+m=l.length) l.length _ (by omega) ⟨0,rfl,by omega⟩ (fun m v ⟨i,hi,hm⟩=>?_)
 obtain⟨v1,u⟩:=v
 simp only at hi
 subst hi
 by_cases hlt:i<l.length
 ·simp only[dec_lt hlt,if_true,ZaW hlt (show l.length<4611686018427387904 by omega)]
  refine Wp.bind (Zfp hlt ?_)
  exact Wp.ite (fun _=>Wp.ret (.inl ⟨_,rfl,h _⟩)) (fun _=>Wp.ret (.inr ⟨m - 1,(((i+1:Nat):Int),()),by omega,rfl,i+1,rfl,by omega⟩))
 ·have:i=l.length:=by omega
  subst this
  simp only[Za4,bF,if_false]
  exact Wp.ret (.inl ⟨_,rfl,h _⟩)
theorem ZlH {code:Int}{l:List Int}{Q:Int×Unit→Prop}(hl:l.length≤1048576)(h:∀n,0≤n∧n≤4→Q (n,())):Wp (ZdS code l) Q:=by
 have e1:Wp (Zd3 code) Q:=by
  unfold Zd3
  exact Wp.ite (fun _=>Wp.ret (h _ (by decide))) (fun _=>Wp.ret (h _ (by decide)))
 unfold ZdS
 simp only
 refine Wp.ite (fun _=>Wp.ret (h _ (by decide))) (fun _=>?_)
 refine wp_loop (fun m (v:Int×Unit)=>∃i:Nat,v.1=i∧i+m=l.length) l.length _ (by omega) ⟨0,rfl,by omega⟩ (fun m v ⟨i,hi,hm⟩=>?_)
 obtain⟨v1,u⟩:=v
 simp only at hi
 subst hi
 by_cases hlt:i<l.length
 ·simp only[dec_lt hlt,if_true,ZaW hlt (show l.length<4611686018427387904 by omega)]
  refine Wp.bind (Zfp hlt ?_)
  refine Wp.ite (fun _=>?_) (fun _=>Wp.ret (.inr ⟨m - 1,(((i+1:Nat):Int),()),by omega,rfl,i+1,rfl,by omega⟩))
  unfold ZgG
  exact Wp.bind (Wp.ite (fun _=>Wp.ret (Wp.ret (.inl ⟨_,rfl,h _ (by decide)⟩))) (fun _=>e1.mono fun r hr=>Wp.ret (.inl ⟨_,rfl,hr⟩)))
 ·have:i=l.length:=by omega
  subst this
  simp only[Za4,bF,if_false]
  exact Wp.bind (e1.mono fun r hr=>Wp.ret (.inl ⟨_,rfl,hr⟩))
theorem Zkb (a:Zam)(r:Zal):∃n c,Zev a r=some (n,c,()):=by
 obtain⟨_,h,n,c,rfl⟩:=ZmQ (a:=a) (r:=r) (Q:=fun x=>∃n c,x=(n,c,())) fun n c=>⟨n,c,rfl⟩
 exact⟨n,c,h⟩
section
variable {c0:Zac}{r0:Int}{k:Nat}{s:Zaa}{Q:Zaa×Unit→Prop}
theorem ZhM {code:Int}(h:G c0 r0 k s)(hk:k≤99)(hm:0<s.c.Main.Part→s.c.Main.Part=2)(hQ:∀s':Zaa,Done c0 r0 (k+1) s'.c→Q (s',())):Wp (ZbZ code s) Q:=by
 unfold ZbZ
 simp only
 exact Wp.bind (ZlH (by simp) fun n hn=>Wp.bind (ZhL (c0:=c0) (r0:=r0) (k:=k) ⟨⟨h.ci.U,h.ci.att,h.ci.res,h.ci.beg,h.ci.waits,h.ci.serves⟩,h.keep,⟨h.rw.b,h.rw.rows,h.rw.len,h.rw.asks⟩,h.now,h.back⟩ (by omega) hn hm fun s' hs'=>Wp.ret (hQ _ (hs'.done (Nat.le_refl _)))))
theorem ZiZ {st part:Int}{r:Zal}(h:G c0 r0 k s)(hsv:Sv s.c)(hst:s.c.State=st)(hr:r.Part=part)(hp:st=1∧part=1∨st=3∧part=3∨st=5∧part=5∨st=6∧part=4):Done c0 r0 (k+1) { s.c with Aux:=r }:=by
 have hf:Fin c0 r0 k { s with c:={ s.c with Aux:=r } }:=by
  refine⟨⟨h.ci.U,h.ci.att,h.ci.res,h.ci.beg,h.ci.waits,h.ci.serves⟩,?_,fun _ _=>h.keep,⟨h.rw.b,h.rw.rows,h.rw.len,h.rw.asks⟩⟩
  unfold Sv at hsv ⊢
  simp only[hr]
  omega
 exact hf.done (Nat.le_succ k)
theorem Zoh {n:Int}(h:Pre c0 r0 k s)(hk:k≤99)(hd:DueIs s.c.Aux s n 3)(hQ:∀s':Zaa,Done c0 r0 (k+1) s'.c→Q (s',())):Wp (ZaC s) Q:=by
 obtain⟨a,h1,h2,h3,h4,h5⟩:=hd
 have h3:=h3 (by decide)
 obtain⟨n',code,he⟩:=Zkb a s.c.Aux
 have hsv:=h.sv
 have hsv':=hsv
 unfold Sv at hsv
 have hg:G c0 r0 k s:=h.g (by omega) (by omega)
 have hz:(z3:Zal).Part=0:=rfl
 have hgz:G c0 r0 k { s with c:={ s.c with Aux:=z3 } }:=⟨⟨h.ci.U,h.ci.att,h.ci.res,h.ci.beg,h.ci.waits,h.ci.serves⟩,hg.keep,⟨h.rw.b,h.rw.rows,h.rw.len,h.rw.asks⟩,h.now,h.back⟩
 have hF:∀s',Fin c0 r0 (k+1) s'→Q (s',()):=fun s' hs'=>hQ s' (hs'.done (Nat.le_refl _))
 unfold ZaC
 simp only[h1,he,Option.bind_some]
 refine Wp.ite (fun hs=>?_) (fun _=>Wp.ite (fun hs=>?_) (fun _=>Wp.ite (fun hs=>?_) (fun _=>Wp.ite (fun hs=>?_) (fun _=>?_))))
 ·simp only[beq_iff_eq]at hs
  refine Wp.bind (ZkS fun e=>Wp.bind (ZkT (by simp) fun b=>Wp.ite (fun _=>ZhM hg hk (by omega) hQ) (fun _=>Wp.bind (ZkR ?_ fun r hr=>?_))))
  ·exact Wp.ite (fun _=>Wp.bind (Zno hgz (by omega) (by rw[hz];decide) fun s' hs'=>Wp.ret (hF _ hs'))) (fun h=>by cases h)
  ·exact Wp.ite (fun h=>by cases h) (fun _=>Wp.ret (hQ _ (show Done c0 r0 (k+1) { s.c with Aux:=r } from ZiZ hg hsv' hs hr (by omega))))
 ·simp only[beq_iff_eq]at hs
  refine Wp.bind (ZkS fun e=>Wp.bind (ZkT (by simp) fun b=>Wp.ite (fun _=>ZhM hg hk (by omega) hQ) (fun _=>Wp.bind (ZkR ?_ fun r hr=>?_))))
  ·exact Wp.ite (fun _=>Wp.bind (ZoP hgz (by omega) (by simp only;omega) (by rw[hz];decide) fun s' hs'=>Wp.ret (hF _ hs'))) (fun h=>by cases h)
  ·exact Wp.ite (fun h=>by cases h) (fun _=>Wp.ret (hQ _ (show Done c0 r0 (k+1) { s.c with Aux:=r } from ZiZ hg hsv' hs hr (by omega))))
 ·simp only[beq_iff_eq]at hs
  refine Wp.bind (ZkS fun e=>Wp.bind (ZkT (by simp) fun b=>Wp.ite (fun _=>Wp.bind (Zjp hgz (by omega) (by simp only;omega) fun s' hs'=>Wp.ret (hF _ hs'))) (fun _=>Wp.bind (ZkR ?_ fun r hr=>?_))))
  ·exact Wp.ite (fun _=>Wp.bind (up_wp hgz (by omega) (by simp only;omega) (by rw[hz];decide) fun s' hs'=>Wp.ret (hF _ hs'))) (fun h=>by cases h)
  ·exact Wp.ite (fun h=>by cases h) (fun _=>Wp.ret (hQ _ (show Done c0 r0 (k+1) { s.c with Aux:=r } from ZiZ hg hsv' hs hr (by omega))))
 ·simp only[beq_iff_eq]at hs
  refine Wp.bind (ZkR ?_ fun r hr=>?_)
  ·exact Wp.ite (fun _=>Wp.bind (ZgH hgz (by omega) (by simp only;omega) fun s' hs'=>Wp.ret (hF _ hs'))) (fun h=>by cases h)
  ·exact Wp.ite (fun h=>by cases h) (fun _=>Wp.ret (hQ _ (show Done c0 r0 (k+1) { s.c with Aux:=r } from ZiZ hg hsv' hs hr (by omega))))
 ·rename_i e1 e2 e3 e4
  simp only[beq_eq_false_iff_ne,ne_eq]at e1 e2 e3 e4
  omega
theorem Zf3 {num:Int}(h:G c0 r0 k s)(hsv:Sv s.c)(hs:s.c.State=2)(hk:k≤99)(hQ:∀s':Zaa,Done c0 r0 (k+1) s'.c→Q (s',())):Wp (ZbI num s) Q:=by
 have hF:∀s',Fin c0 r0 (k+1) s'→Q (s',()):=fun s' hs'=>hQ s' (hs'.done (Nat.le_refl _))
 have hsv':=hsv
 unfold Sv at hsv'
 have hz:(z3:Zal).Part=0:=rfl
 unfold ZbI ZdE
 simp only[gS,gA,gA',gB,gC,gD,gE,gF,gM,gAnd,gOr,Option.bind_some,Zgk]
 refine Wp.ite (fun _=>Wp.ret (hF _ ⟨⟨h.ci.U,h.ci.att,h.ci.res,h.ci.beg,h.ci.waits,h.ci.serves⟩,?_,fun _ _=>h.keep,⟨h.rw.b,h.rw.rows,Nat.le_trans h.rw.len (Nat.le_succ k),h.rw.asks⟩⟩)) (fun _=>?_)
 ·simp only[Sv,hs]
  refine⟨?_,?_,?_,?_,?_,?_,?_,?_,?_⟩ <;> first | omega | (simp;done) | (simp;omega)
 ·exact Wp.bind (ZkQ (c0:=c0) (r0:=r0) (k:=k) ⟨⟨h.ci.U,h.ci.att,h.ci.res,h.ci.beg,h.ci.waits,h.ci.serves⟩,h.keep,⟨h.rw.b,h.rw.rows,h.rw.len,h.rw.asks⟩,h.now,h.back⟩ (by omega) (by simp only[hz];omega) (by simp only;omega) fun s' hs'=>Wp.ret (hQ _ (hs'.done (Nat.le_refl _))))
theorem Zhf {st:Int}(h:G c0 r0 k s)(hsv:Sv s.c)(hst:s.c.State=st)(hs:st=6∨st=7)(hk:k≤99)(hQ:∀s':Zaa,Done c0 r0 (k+1) s'.c→Q (s',())):Wp (ZbJ st s) Q:=by
 have hF:∀s',Fin c0 r0 (k+1) s'→Q (s',()):=fun s' hs'=>hQ s' (hs'.done (Nat.le_refl _))
 have hz:(z3:Zal).Part=0:=rfl
 unfold ZbJ
 simp only
 refine Wp.ite (fun _=>Wp.bind (Zg1 (c0:=c0) (r0:=r0) (k:=k) ⟨⟨h.ci.U,h.ci.att,h.ci.res,h.ci.beg,h.ci.waits,h.ci.serves⟩,h.keep,⟨h.rw.b,h.rw.rows,h.rw.len,h.rw.asks⟩,h.now,h.back⟩ (by omega) fun s' hs'=>Wp.ret (hQ _ (hs'.done (Nat.le_refl _)))))
  (fun he=>Wp.ret (hF _ ⟨⟨h.ci.U,h.ci.att,h.ci.res,h.ci.beg,h.ci.waits,h.ci.serves⟩,?_,fun _ _=>h.keep,⟨h.rw.b,h.rw.rows,Nat.le_trans h.rw.len (Nat.le_succ k),h.rw.asks⟩⟩))
 simp only[beq_eq_false_iff_ne,ne_eq]at he
 unfold Sv at hsv ⊢
 simp only[hz]
 omega
theorem ZmW {n:Int}(h:Pre c0 r0 k s)(hsu:s.c.U.Success.length≤1048576)(hk:k≤99)(hd:DueIs s.c.Main s n 3)(hQ:∀s':Zaa,Done c0 r0 (k+1) s'.c→Q (s',())):Wp (Zaz s) Q:=by
 obtain⟨a,h1,h2,h3,h4,h5⟩:=hd
 have h3:=h3 (by decide)
 obtain⟨n',code,he⟩:=Zkb a s.c.Main
 have hsv:=h.sv
 have hsv':=hsv
 unfold Sv at hsv
 have hg:G c0 r0 k s:=h.g (by omega) (by omega)
 have hz:(z3:Zal).Part=0:=rfl
 have hgz:G c0 r0 k { s with c:={ s.c with Main:=z3 } }:=⟨⟨h.ci.U,h.ci.att,h.ci.res,h.ci.beg,h.ci.waits,h.ci.serves⟩,hg.keep,⟨h.rw.b,h.rw.rows,h.rw.len,h.rw.asks⟩,h.now,h.back⟩
 have hF:∀s',Fin c0 r0 (k+1) s'→Q (s',()):=fun s' hs'=>hQ s' (hs'.done (Nat.le_refl _))
 have e3:∀{v:Int},0≤v∧v≤4→Wp (Zbg s v) Q:=fun {v} hv=>by
  unfold Zbg
  simp only
  exact Wp.bind (Zg1 (c0:=c0) (r0:=r0) (k:=k) ⟨⟨h.ci.U,h.ci.att,hv,h.ci.beg,h.ci.waits,h.ci.serves⟩,hg.keep,⟨h.rw.b,h.rw.rows,h.rw.len,h.rw.asks⟩,h.now,h.back⟩ (by omega) fun s' hs'=>Wp.ret (hF _ hs'))
 have e5:Wp (Zbh s) Q:=by
  unfold Zbh
  simp only
  exact Wp.bind (Zg1 (c0:=c0) (r0:=r0) (k:=k) ⟨⟨h.ci.U,h.ci.att,⟨show(0:Int)≤0 by decide,show(0:Int)≤4 by decide⟩,h.ci.beg,h.ci.waits,h.ci.serves⟩,hg.keep,⟨h.rw.b,h.rw.rows,h.rw.len,h.rw.asks⟩,h.now,h.back⟩ (by omega) fun s' hs'=>Wp.ret (hF _ hs'))
 have ef:∀{v:Int},0≤v∧v≤4→Wp (ZaF v { s with c:={ s.c with Main:=z3 } }) Q:=fun {v} hv=>ZhL hgz (by omega) hv (by simp only[hz];omega) fun s' hs'=>hF _ hs'
 have fs:∀{o:Option (Zaa×Unit)},Wp o Q→Wp (o.bind fun r=>some (r.1,())) Q:=fun h=>Wp.bind (h.mono fun r hr=>Wp.ret hr)
 unfold Zaz
 simp only[gS,gA,gA',gB,gC,gD,gE,gF,gM,gAnd,gOr,h1,he,Option.bind_some]
 refine Wp.bind (ZkS fun e=>Wp.bind (ZkT hsu fun b=>Wp.ite (fun _=>?_) (fun _=>?_)))
 ·refine Wp.bind (ZlH hsu fun v hv=>Wp.ite (fun hs=>?_) (fun _=>Wp.ite (fun hs=>e3 hv) (fun _=>Wp.ite (fun hs=>e3 hv) (fun _=>Wp.ite (fun hs=>e3 hv) (fun _=>?_)))))
  ·simp only[beq_iff_eq]at hs
   exact Wp.ite (fun _=>fs (ef (by decide))) (fun _=>Wp.ite (fun _=>fs (ef hv)) (fun _=>Zf3 hg hsv' hs hk hQ))
  ·rename_i q1 q2 q3 q4
   simp only[beq_eq_false_iff_ne,ne_eq]at q1 q2 q3 q4
   exact Zhf hg hsv' rfl (by omega) hk hQ
 ·refine Wp.ite (fun hs=>?_) (fun _=>Wp.ite (fun hs=>e5) (fun _=>Wp.ite (fun hs=>e5) (fun _=>Wp.ite (fun hs=>e5) (fun _=>?_))))
  ·simp only[beq_iff_eq]at hs
   refine Wp.ite (fun _=>fs (ef (by decide))) (fun _=>?_)
   first
    | exact Wp.ite (fun _=>fs (ef (by decide))) (fun _=>Zf3 hg hsv' hs hk hQ)
    | exact Zf3 hg hsv' hs hk hQ
  ·rename_i q1 q2 q3 q4
   simp only[beq_eq_false_iff_ne,ne_eq]at q1 q2 q3 q4
   exact Zhf hg hsv' rfl (by omega) hk hQ
theorem Znq {Q:Int×Unit→Prop}(hl:s.c.Serves.length≤1048576)(h0:0<s.c.Serves.length)(h:∀i:Nat,i<s.c.Serves.length→Q ((i:Int),())):Wp (ZbE s) Q:=by
 unfold ZbE
 simp only[gS,gA,gA',gB,gC,gD,gE,gF,gM,gAnd,gOr,Option.bind_some]
 refine wp_loop (fun m (v:Int×Int×Unit)=>∃i j:Nat,v.1=i∧i+m=s.c.Serves.length∧v.2.1=j∧j<s.c.Serves.length) s.c.Serves.length _ (by omega) ⟨0,0,rfl,by omega,rfl,h0⟩ (fun m v ⟨i,j,hi,hm,hj,hjl⟩=>?_)
 obtain⟨v1,v2,u⟩:=v
 simp only at hi hj
 subst hi hj
 by_cases hlt:i<s.c.Serves.length
 ·simp only[dec_lt hlt,if_true,ZaW hlt (show s.c.Serves.length<4611686018427387904 by omega)]
  refine Wp.bind (Zfp hlt ?_)
  refine Wp.bind (Zfp hjl ?_)
  exact Wp.ite (fun _=>Wp.ret (.inr ⟨m - 1,(((i+1:Nat):Int),(i:Int),()),by omega,rfl,i+1,i,rfl,by omega,rfl,hlt⟩)) (fun _=>Wp.ret (.inr ⟨m - 1,(((i+1:Nat):Int),(j:Int),()),by omega,rfl,i+1,j,rfl,by omega,rfl,hjl⟩))
 ·have:i=s.c.Serves.length:=by omega
  subst this
  simp only[Za4,bF,if_false]
  exact Wp.ret (.inl ⟨_,rfl,h j hjl⟩)
theorem Zqo (hl:s.c.Serves.length≤1048576):∃n,Zbk s=some (n,()):=by
 obtain⟨_,h,n,rfl⟩:Wp (Zbk s) (fun x=>∃n,x=(n,())):=by
  unfold Zbk
  simp only
  refine Wp.ite (fun _=>Wp.ret ⟨_,rfl⟩) (fun hc=>?_)
  simp only[beq_eq_false_iff_ne,ne_eq]at hc
  exact Wp.bind (Znq hl (by omega) fun i hi=>Wp.bind (Zfp hi (Wp.ret ⟨_,rfl⟩)))
 exact⟨n,h⟩
theorem ZoR {α:Type}{xs:List α}{l h:Nat}(hl:l≤h)(hh:h≤xs.length):ctN xs (l:Int) (h:Int)=some ((xs.take h).drop l):=by
 unfold ctN
 rw[if_pos ⟨by omega,by omega,by omega⟩]
 rfl
theorem ZgI {x y:ByteArray}(h:x.size+y.size≤9223372036854775807):caN x y=some (x++y):=if_pos h
theorem Zkc:∀(k u:Nat),u<10 ^ (k+1)→Lib.nDigits u≤k+1
 | 0,u,h=>by rw[Lib.nDigits_small (by simpa using h)];exact Nat.le_refl _
 | k+1,u,h=>by
  by_cases hu:u<10
  ·rw[Lib.nDigits_small hu];omega
  ·rw[Lib.nDigits_big hu]
   have:=Zkc k (u / 10) (by rw[Nat.div_lt_iff_lt_mul (by decide)];rw[Nat.pow_succ]at h;exact h)
   omega
theorem Zjq (n:Int)(h:I64 n):(itoaB n).size≤21:=by
 obtain⟨h1,h2⟩:=h
 have hp:(10:Nat) ^ 20=100000000000000000000:=by decide
 have key:∀u:Nat,u≤9223372036854775808→(Lib.decDigits u).length≤20:=fun u hu=>by
  rw[Lib.decDigits_length]
  exact Zkc 19 u (by rw[hp];omega)
 show(Lib.itoa n).toArray.size≤21
 unfold Lib.itoa
 split
 ·have:=key n.natAbs (by omega)
  simp;omega
 ·have:=key n.toNat (by omega)
  simp;omega
theorem ZoS (h:Pre c0 r0 k s)(hk:k≤99)(h0:0<s.c.Serves.length)(hQ:∀s':Zaa,Done c0 r0 (k+1) s'.c→Q (s',())):Wp (Zaj s) Q:=by
 have hl:=h.ci.serves.1
 have hsv:=h.sv
 unfold Zaj
 refine Wp.bind (Znq hl h0 fun i hi=>?_)
 simp only
 refine Wp.bind (Zfp hi ?_)
 have hx:=h.ci.serves.2 _ (List.getElem_mem hi)
 refine Wp.bind (Wp.of (r:=s.c.Serves[0]) (show ixN s.c.Serves ((0:Nat):Int)=_ from by unfold ixN;exact Zbt (gG h0)) ?_)
 rw[show ctN s.c.Serves 0 (i:Int)=some ((s.c.Serves.take i).drop 0)from ZoR (Nat.zero_le _) (by omega)]
 simp only[Option.bind_some,ZaW hi (show s.c.Serves.length<4611686018427387904 by omega)]
 refine Wp.bind (Wp.of (r:=s.c.Serves[0]) (show ixN s.c.Serves ((0:Nat):Int)=_ from by unfold ixN;exact Zbt (gG h0)) ?_)
 rw[show ctN s.c.Serves ((i:Int)+1) ((s.c.Serves.length:Nat):Int)=some ((s.c.Serves.take s.c.Serves.length).drop (i+1))from ZoR (l:=i+1) (by omega) (Nat.le_refl _)]
 simp only[Option.bind_some,List.drop_zero,List.take_length]
 have hlen:(s.c.Serves.take i).length+(s.c.Serves.drop (i+1)).length≤1048576:=by simp;omega
 simp only[apN]
 rw[if_pos ⟨by omega,by omega⟩]
 have e1:(⟨#[115,101,114,118,101,100,32]⟩:ByteArray).size=7:=rfl
 have e2:(⟨#[32]⟩:ByteArray).size=1:=rfl
 simp only[Option.bind_some]
 rw[ZgI (by rw[e1];have:=hx.1;omega),Option.bind_some,ZgI (by rw[ByteArray.size_append,e1,e2];have:=hx.1;omega),Option.bind_some]
 simp only[itoaF,if_pos hx.2,Option.bind_some]
 rw[ZgI (by rw[ByteArray.size_append,ByteArray.size_append,e1,e2];have:=hx.1;have:=Zjq _ hx.2;omega),Option.bind_some]
 refine Wp.bind (Fin.rowW (c0:=c0) (r0:=r0) (k:=k) ⟨⟨h.ci.U,h.ci.att,h.ci.res,h.ci.beg,h.ci.waits,?_,?_⟩,?_,h.keep,⟨h.rw.b,h.rw.rows,h.rw.len,h.rw.asks⟩⟩ (by omega) fun s' hs'=>Wp.ret (hQ _ (hs'.done (Nat.le_refl _))))
 ·simp only[List.length_append];exact hlen
 ·intro x hx
  simp only[List.mem_append]at hx
  rcases hx with hx | hx
  ·exact h.ci.serves.2 x (List.mem_of_mem_take hx)
  ·exact h.ci.serves.2 x (List.mem_of_mem_drop hx)
 ·unfold Sv at hsv ⊢
  simp only
  omega
end
end Go.AW.M

namespace Go.AW.M
open Go.RowKit Go.Proofs
set_option maxRecDepth 100000
section
variable {v0:Zaf}{v3:Zac}{v2:Int}{Q:Zac×Zab×Unit→Prop}
def EvA (f:Zaa→Option (Zaa×Unit))(v0:Zaf)(v3:Zac)(v2:Int)(Q:Zac×Zab×Unit→Prop):Prop:=Wp (f ⟨v0,v3,v2,⟨[],[],[],false,false⟩⟩) fun r=>Q (r.1.c,r.1.out,())
theorem EvA.leaf {f:Zaa→Option (Zaa×Unit)}(h:EvA f v0 v3 v2 Q):Wp ((f { { { z6 with w:=v0 } with c:=v3 } with now:=v2 }).bind fun r=>some (r.1.c,r.1.out,())) Q:=Wp.bind (h.mono fun _ hr=>Wp.ret hr)
theorem ZaA {l:List Zao}(h:decide (((List.length l:Nat):Int)>0)=true):0<l.length:=by simp only[decide_eq_true_eq]at h;omega
theorem ev_e1  (hN:Q (v3,⟨[],[],[],false,false⟩,()))(h_over:EvA Zag v0 v3 v2 Q):Wp (Zfi v0 v3 v2) Q:=by
 unfold Zfi
 simp only
 repeat' first
  | exact Wp.ret hN
  | exact EvA.leaf h_over
  | refine Wp.ite (fun _=>?_) (fun _=>?_)
theorem ev_e2 (v27:Int)(hN:Q (v3,⟨[],[],[],false,false⟩,()))(h_over:EvA Zag v0 v3 v2 Q):Wp (Zbc v27 v2 v0 v3) Q:=by
 unfold Zbc
 simp only
 repeat' first
  | exact Wp.ret hN
  | exact ev_e1 hN h_over
  | refine Wp.ite (fun _=>?_) (fun _=>?_)
theorem ev_e3  (hN:Q (v3,⟨[],[],[],false,false⟩,()))(h_served:EvA Zaj v0 v3 v2 Q):Wp (Zfj v0 v3 v2) Q:=by
 unfold Zfj
 simp only
 repeat' first
  | exact Wp.ret hN
  | exact EvA.leaf h_served
  | refine Wp.ite (fun _=>?_) (fun _=>?_)
theorem ev_e4 (v26:Int)(hN:Q (v3,⟨[],[],[],false,false⟩,()))(h_served:EvA Zaj v0 v3 v2 Q):Wp (Zfk v26 v2 v0 v3) Q:=by
 unfold Zfk
 simp only
 repeat' first
  | exact Wp.ret hN
  | exact ev_e3 hN h_served
  | refine Wp.ite (fun _=>?_) (fun _=>?_)
theorem ev_e5 (v27:Int)(v26:Int)(hN:Q (v3,⟨[],[],[],false,false⟩,()))(h_served:EvA Zaj v0 v3 v2 Q)(h_over:EvA Zag v0 v3 v2 Q):Wp (Zbq v27 v26 v2 v0 v3) Q:=by
 unfold Zbq
 simp only
 repeat' first
  | exact Wp.ret hN
  | exact ev_e2 _ hN h_over
  | exact ev_e4 _ hN h_served
  | refine Wp.ite (fun _=>?_) (fun _=>?_)
theorem ev_e6  (hN:Q (v3,⟨[],[],[],false,false⟩,()))(h_mainSays:EvA Zax v0 v3 v2 Q):Wp (Zfl v0 v3 v2) Q:=by
 unfold Zfl
 simp only
 repeat' first
  | exact Wp.ret hN
  | exact EvA.leaf h_mainSays
  | refine Wp.ite (fun _=>?_) (fun _=>?_)
theorem ev_e7 (v12:Int)(hN:Q (v3,⟨[],[],[],false,false⟩,()))(h_mainSays:EvA Zax v0 v3 v2 Q):Wp (Zfm v12 v2 v0 v3) Q:=by
 unfold Zfm
 simp only
 repeat' first
  | exact Wp.ret hN
  | exact ev_e6 hN h_mainSays
  | refine Wp.ite (fun _=>?_) (fun _=>?_)
theorem ev_e8 (v27:Int)(v12:Int)(hN:Q (v3,⟨[],[],[],false,false⟩,()))(h_mainSays:EvA Zax v0 v3 v2 Q)(h_over:EvA Zag v0 v3 v2 Q):Wp (Zb7 v27 v12 v2 v0 v3) Q:=by
 unfold Zb7
 simp only
 repeat' first
  | exact Wp.ret hN
  | exact ev_e2 _ hN h_over
  | exact ev_e7 _ hN h_mainSays
  | refine Wp.ite (fun _=>?_) (fun _=>?_)
theorem ev_e9 (v26:Int)(v12:Int)(v27:Int)(hN:Q (v3,⟨[],[],[],false,false⟩,()))(h_mainSays:EvA Zax v0 v3 v2 Q)(h_served:EvA Zaj v0 v3 v2 Q)(h_over:EvA Zag v0 v3 v2 Q):Wp (Zcz v26 v12 v27 v2 v0 v3) Q:=by
 unfold Zcz
 simp only
 repeat' first
  | exact Wp.ret hN
  | exact ev_e5 _ _ hN h_served h_over
  | exact ev_e8 _ _ hN h_mainSays h_over
  | refine Wp.ite (fun _=>?_) (fun _=>?_)
theorem ev_e10  (hN:Q (v3,⟨[],[],[],false,false⟩,()))(h_auxSays:EvA ZaK v0 v3 v2 Q):Wp (Zeg v0 v3 v2) Q:=by
 unfold Zeg
 simp only
 repeat' first
  | exact Wp.ret hN
  | exact EvA.leaf h_auxSays
  | refine Wp.ite (fun _=>?_) (fun _=>?_)
theorem ev_e11 (v7:Int)(hN:Q (v3,⟨[],[],[],false,false⟩,()))(h_auxSays:EvA ZaK v0 v3 v2 Q):Wp (Zeh v7 v2 v0 v3) Q:=by
 unfold Zeh
 simp only
 repeat' first
  | exact Wp.ret hN
  | exact ev_e10 hN h_auxSays
  | refine Wp.ite (fun _=>?_) (fun _=>?_)
theorem ZlI (v27:Int)(v7:Int)(hN:Q (v3,⟨[],[],[],false,false⟩,()))(h_auxSays:EvA ZaK v0 v3 v2 Q)(h_over:EvA Zag v0 v3 v2 Q):Wp (ZbT v27 v7 v2 v0 v3) Q:=by
 unfold ZbT
 simp only
 repeat' first
  | exact Wp.ret hN
  | exact ev_e2 _ hN h_over
  | exact ev_e11 _ hN h_auxSays
  | refine Wp.ite (fun _=>?_) (fun _=>?_)
theorem Znr (v26:Int)(v7:Int)(v27:Int)(hN:Q (v3,⟨[],[],[],false,false⟩,()))(h_auxSays:EvA ZaK v0 v3 v2 Q)(h_served:EvA Zaj v0 v3 v2 Q)(h_over:EvA Zag v0 v3 v2 Q):Wp (Zcg v26 v7 v27 v2 v0 v3) Q:=by
 unfold Zcg
 simp only
 repeat' first
  | exact Wp.ret hN
  | exact ev_e5 _ _ hN h_served h_over
  | exact ZlI _ _ hN h_auxSays h_over
  | refine Wp.ite (fun _=>?_) (fun _=>?_)
theorem ev_e14  (hN:Q (v3,⟨[],[],[],false,false⟩,())) :Wp (Zei v2 v3) Q:=by
 unfold Zei
 simp only
 repeat' first
  | exact Wp.ret hN
  | refine Wp.ite (fun _=>?_) (fun _=>?_)
theorem ZiN (v27:Int)(hN:Q (v3,⟨[],[],[],false,false⟩,()))(h_over:EvA Zag v0 v3 v2 Q):Wp (Za7 v27 v2 v0 v3) Q:=by
 unfold Za7
 simp only
 repeat' first
  | exact Wp.ret hN
  | exact ev_e2 _ hN h_over
  | exact ev_e14 hN
  | refine Wp.ite (fun _=>?_) (fun _=>?_)
theorem Zjr (v26:Int)(v27:Int)(hN:Q (v3,⟨[],[],[],false,false⟩,()))(h_served:EvA Zaj v0 v3 v2 Q)(h_over:EvA Zag v0 v3 v2 Q):Wp (Zbe v26 v27 v2 v0 v3) Q:=by
 unfold Zbe
 simp only
 repeat' first
  | exact Wp.ret hN
  | exact ev_e5 _ _ hN h_served h_over
  | exact ZiN _ hN h_over
  | refine Wp.ite (fun _=>?_) (fun _=>?_)
theorem Zq4 (v12:Int)(v26:Int)(v27:Int)(hN:Q (v3,⟨[],[],[],false,false⟩,()))(h_mainSays:EvA Zax v0 v3 v2 Q)(h_served:EvA Zaj v0 v3 v2 Q)(h_over:EvA Zag v0 v3 v2 Q):Wp (Zdz v12 v26 v27 v2 v0 v3) Q:=by
 unfold Zdz
 simp only
 repeat' first
  | exact Wp.ret hN
  | exact ev_e9 _ _ _ hN h_mainSays h_served h_over
  | exact Zjr _ _ hN h_served h_over
  | refine Wp.ite (fun _=>?_) (fun _=>?_)
theorem Zq5 (v12:Int)(v27:Int)(hN:Q (v3,⟨[],[],[],false,false⟩,()))(h_mainSays:EvA Zax v0 v3 v2 Q)(h_over:EvA Zag v0 v3 v2 Q):Wp (ZdA v12 v27 v2 v0 v3) Q:=by
 unfold ZdA
 simp only
 repeat' first
  | exact Wp.ret hN
  | exact ev_e8 _ _ hN h_mainSays h_over
  | exact ZiN _ hN h_over
  | refine Wp.ite (fun _=>?_) (fun _=>?_)
theorem ev_e19  (hN:Q (v3,⟨[],[],[],false,false⟩,()))(h_mainReady:EvA Zat v0 v3 v2 Q):Wp (Zej v0 v3 v2) Q:=by
 unfold Zej
 simp only
 repeat' first
  | exact Wp.ret hN
  | exact EvA.leaf h_mainReady
  | refine Wp.ite (fun _=>?_) (fun _=>?_)
theorem ev_e20 (v12:Int)(hN:Q (v3,⟨[],[],[],false,false⟩,()))(h_mainReady:EvA Zat v0 v3 v2 Q):Wp (Zek v12 v2 v0 v3) Q:=by
 unfold Zek
 simp only
 repeat' first
  | exact Wp.ret hN
  | exact ev_e19 hN h_mainReady
  | refine Wp.ite (fun _=>?_) (fun _=>?_)
theorem ZlJ (v27:Int)(v12:Int)(hN:Q (v3,⟨[],[],[],false,false⟩,()))(h_mainReady:EvA Zat v0 v3 v2 Q)(h_over:EvA Zag v0 v3 v2 Q):Wp (ZbU v27 v12 v2 v0 v3) Q:=by
 unfold ZbU
 simp only
 repeat' first
  | exact Wp.ret hN
  | exact ev_e2 _ hN h_over
  | exact ev_e20 _ hN h_mainReady
  | refine Wp.ite (fun _=>?_) (fun _=>?_)
theorem Zns (v26:Int)(v12:Int)(v27:Int)(hN:Q (v3,⟨[],[],[],false,false⟩,()))(h_mainReady:EvA Zat v0 v3 v2 Q)(h_served:EvA Zaj v0 v3 v2 Q)(h_over:EvA Zag v0 v3 v2 Q):Wp (Zch v26 v12 v27 v2 v0 v3) Q:=by
 unfold Zch
 simp only
 repeat' first
  | exact Wp.ret hN
  | exact ev_e5 _ _ hN h_served h_over
  | exact ZlJ _ _ hN h_mainReady h_over
  | refine Wp.ite (fun _=>?_) (fun _=>?_)
theorem Zq6 (v12:Int)(v26:Int)(v27:Int)(hN:Q (v3,⟨[],[],[],false,false⟩,()))(h_mainReady:EvA Zat v0 v3 v2 Q)(h_served:EvA Zaj v0 v3 v2 Q)(h_over:EvA Zag v0 v3 v2 Q):Wp (ZdB v12 v26 v27 v2 v0 v3) Q:=by
 unfold ZdB
 simp only
 repeat' first
  | exact Wp.ret hN
  | exact Zjr _ _ hN h_served h_over
  | exact Zns _ _ _ hN h_mainReady h_served h_over
  | refine Wp.ite (fun _=>?_) (fun _=>?_)
theorem Zq7 (v12:Int)(v27:Int)(hN:Q (v3,⟨[],[],[],false,false⟩,()))(h_mainReady:EvA Zat v0 v3 v2 Q)(h_over:EvA Zag v0 v3 v2 Q):Wp (ZdC v12 v27 v2 v0 v3) Q:=by
 unfold ZdC
 simp only
 repeat' first
  | exact Wp.ret hN
  | exact ZiN _ hN h_over
  | exact ZlJ _ _ hN h_mainReady h_over
  | refine Wp.ite (fun _=>?_) (fun _=>?_)
theorem ev_e25  (hN:Q (v3,⟨[],[],[],false,false⟩,()))(h_mainEnds:EvA Zaz v0 v3 v2 Q):Wp (Zel v0 v3 v2) Q:=by
 unfold Zel
 simp only
 repeat' first
  | exact Wp.ret hN
  | exact EvA.leaf h_mainEnds
  | refine Wp.ite (fun _=>?_) (fun _=>?_)
theorem ev_e26 (v12:Int)(hN:Q (v3,⟨[],[],[],false,false⟩,()))(h_mainEnds:EvA Zaz v0 v3 v2 Q):Wp (Zem v12 v2 v0 v3) Q:=by
 unfold Zem
 simp only
 repeat' first
  | exact Wp.ret hN
  | exact ev_e25 hN h_mainEnds
  | refine Wp.ite (fun _=>?_) (fun _=>?_)
theorem ZlK (v27:Int)(v12:Int)(hN:Q (v3,⟨[],[],[],false,false⟩,()))(h_mainEnds:EvA Zaz v0 v3 v2 Q)(h_over:EvA Zag v0 v3 v2 Q):Wp (ZbV v27 v12 v2 v0 v3) Q:=by
 unfold ZbV
 simp only
 repeat' first
  | exact Wp.ret hN
  | exact ev_e2 _ hN h_over
  | exact ev_e26 _ hN h_mainEnds
  | refine Wp.ite (fun _=>?_) (fun _=>?_)
theorem Znt (v26:Int)(v12:Int)(v27:Int)(hN:Q (v3,⟨[],[],[],false,false⟩,()))(h_mainEnds:EvA Zaz v0 v3 v2 Q)(h_served:EvA Zaj v0 v3 v2 Q)(h_over:EvA Zag v0 v3 v2 Q):Wp (Zci v26 v12 v27 v2 v0 v3) Q:=by
 unfold Zci
 simp only
 repeat' first
  | exact Wp.ret hN
  | exact ev_e5 _ _ hN h_served h_over
  | exact ZlK _ _ hN h_mainEnds h_over
  | refine Wp.ite (fun _=>?_) (fun _=>?_)
theorem Znu (v12:Int)(v26:Int)(v27:Int)(hN:Q (v3,⟨[],[],[],false,false⟩,()))(h_mainEnds:EvA Zaz v0 v3 v2 Q)(h_served:EvA Zaj v0 v3 v2 Q)(h_over:EvA Zag v0 v3 v2 Q):Wp (Zcj v12 v26 v27 v2 v0 v3) Q:=by
 unfold Zcj
 simp only
 repeat' first
  | exact Wp.ret hN
  | exact Zjr _ _ hN h_served h_over
  | exact Znt _ _ _ hN h_mainEnds h_served h_over
  | refine Wp.ite (fun _=>?_) (fun _=>?_)
theorem Znv (v12:Int)(v27:Int)(hN:Q (v3,⟨[],[],[],false,false⟩,()))(h_mainEnds:EvA Zaz v0 v3 v2 Q)(h_over:EvA Zag v0 v3 v2 Q):Wp (Zck v12 v27 v2 v0 v3) Q:=by
 unfold Zck
 simp only
 repeat' first
  | exact Wp.ret hN
  | exact ZiN _ hN h_over
  | exact ZlK _ _ hN h_mainEnds h_over
  | refine Wp.ite (fun _=>?_) (fun _=>?_)
theorem ev_e31  (hN:Q (v3,⟨[],[],[],false,false⟩,()))(h_auxReady:EvA Zay v0 v3 v2 Q):Wp (Zen v0 v3 v2) Q:=by
 unfold Zen
 simp only
 repeat' first
  | exact Wp.ret hN
  | exact EvA.leaf h_auxReady
  | refine Wp.ite (fun _=>?_) (fun _=>?_)
theorem ev_e32 (v7:Int)(hN:Q (v3,⟨[],[],[],false,false⟩,()))(h_auxReady:EvA Zay v0 v3 v2 Q):Wp (Zeo v7 v2 v0 v3) Q:=by
 unfold Zeo
 simp only
 repeat' first
  | exact Wp.ret hN
  | exact ev_e31 hN h_auxReady
  | refine Wp.ite (fun _=>?_) (fun _=>?_)
theorem ZlL (v27:Int)(v7:Int)(hN:Q (v3,⟨[],[],[],false,false⟩,()))(h_auxReady:EvA Zay v0 v3 v2 Q)(h_over:EvA Zag v0 v3 v2 Q):Wp (ZbW v27 v7 v2 v0 v3) Q:=by
 unfold ZbW
 simp only
 repeat' first
  | exact Wp.ret hN
  | exact ev_e2 _ hN h_over
  | exact ev_e32 _ hN h_auxReady
  | refine Wp.ite (fun _=>?_) (fun _=>?_)
theorem Znw (v26:Int)(v7:Int)(v27:Int)(hN:Q (v3,⟨[],[],[],false,false⟩,()))(h_auxReady:EvA Zay v0 v3 v2 Q)(h_served:EvA Zaj v0 v3 v2 Q)(h_over:EvA Zag v0 v3 v2 Q):Wp (Zcl v26 v7 v27 v2 v0 v3) Q:=by
 unfold Zcl
 simp only
 repeat' first
  | exact Wp.ret hN
  | exact ev_e5 _ _ hN h_served h_over
  | exact ZlL _ _ hN h_auxReady h_over
  | refine Wp.ite (fun _=>?_) (fun _=>?_)
theorem ZoT (v7:Int)(v26:Int)(v27:Int)(hN:Q (v3,⟨[],[],[],false,false⟩,()))(h_auxReady:EvA Zay v0 v3 v2 Q)(h_served:EvA Zaj v0 v3 v2 Q)(h_over:EvA Zag v0 v3 v2 Q):Wp (ZcN v7 v26 v27 v2 v0 v3) Q:=by
 unfold ZcN
 simp only
 repeat' first
  | exact Wp.ret hN
  | exact Zjr _ _ hN h_served h_over
  | exact Znw _ _ _ hN h_auxReady h_served h_over
  | refine Wp.ite (fun _=>?_) (fun _=>?_)
theorem ZoU (v7:Int)(v27:Int)(hN:Q (v3,⟨[],[],[],false,false⟩,()))(h_auxReady:EvA Zay v0 v3 v2 Q)(h_over:EvA Zag v0 v3 v2 Q):Wp (ZcO v7 v27 v2 v0 v3) Q:=by
 unfold ZcO
 simp only
 repeat' first
  | exact Wp.ret hN
  | exact ZiN _ hN h_over
  | exact ZlL _ _ hN h_auxReady h_over
  | refine Wp.ite (fun _=>?_) (fun _=>?_)
theorem ev_e37  (hN:Q (v3,⟨[],[],[],false,false⟩,()))(h_auxEnds:EvA ZaC v0 v3 v2 Q):Wp (Zep v0 v3 v2) Q:=by
 unfold Zep
 simp only
 repeat' first
  | exact Wp.ret hN
  | exact EvA.leaf h_auxEnds
  | refine Wp.ite (fun _=>?_) (fun _=>?_)
theorem ev_e38 (v7:Int)(hN:Q (v3,⟨[],[],[],false,false⟩,()))(h_auxEnds:EvA ZaC v0 v3 v2 Q):Wp (Zeq v7 v2 v0 v3) Q:=by
 unfold Zeq
 simp only
 repeat' first
  | exact Wp.ret hN
  | exact ev_e37 hN h_auxEnds
  | refine Wp.ite (fun _=>?_) (fun _=>?_)
theorem ZlM (v27:Int)(v7:Int)(hN:Q (v3,⟨[],[],[],false,false⟩,()))(h_auxEnds:EvA ZaC v0 v3 v2 Q)(h_over:EvA Zag v0 v3 v2 Q):Wp (ZbX v27 v7 v2 v0 v3) Q:=by
 unfold ZbX
 simp only
 repeat' first
  | exact Wp.ret hN
  | exact ev_e2 _ hN h_over
  | exact ev_e38 _ hN h_auxEnds
  | refine Wp.ite (fun _=>?_) (fun _=>?_)
theorem Znx (v26:Int)(v7:Int)(v27:Int)(hN:Q (v3,⟨[],[],[],false,false⟩,()))(h_auxEnds:EvA ZaC v0 v3 v2 Q)(h_served:EvA Zaj v0 v3 v2 Q)(h_over:EvA Zag v0 v3 v2 Q):Wp (Zcm v26 v7 v27 v2 v0 v3) Q:=by
 unfold Zcm
 simp only
 repeat' first
  | exact Wp.ret hN
  | exact ev_e5 _ _ hN h_served h_over
  | exact ZlM _ _ hN h_auxEnds h_over
  | refine Wp.ite (fun _=>?_) (fun _=>?_)
theorem ZoV (v7:Int)(v26:Int)(v27:Int)(hN:Q (v3,⟨[],[],[],false,false⟩,()))(h_auxEnds:EvA ZaC v0 v3 v2 Q)(h_served:EvA Zaj v0 v3 v2 Q)(h_over:EvA Zag v0 v3 v2 Q):Wp (ZcP v7 v26 v27 v2 v0 v3) Q:=by
 unfold ZcP
 simp only
 repeat' first
  | exact Wp.ret hN
  | exact Zjr _ _ hN h_served h_over
  | exact Znx _ _ _ hN h_auxEnds h_served h_over
  | refine Wp.ite (fun _=>?_) (fun _=>?_)
theorem ZoW (v7:Int)(v27:Int)(hN:Q (v3,⟨[],[],[],false,false⟩,()))(h_auxEnds:EvA ZaC v0 v3 v2 Q)(h_over:EvA Zag v0 v3 v2 Q):Wp (ZcQ v7 v27 v2 v0 v3) Q:=by
 unfold ZcQ
 simp only
 repeat' first
  | exact Wp.ret hN
  | exact ZiN _ hN h_over
  | exact ZlM _ _ hN h_auxEnds h_over
  | refine Wp.ite (fun _=>?_) (fun _=>?_)
theorem Zqp {v1:Zac}{na wa nm wm nu:Int}(hcell:Zbl v1=some (v3,()))(hda:Zbv ⟨v0,v3,v2,⟨[],[],[],false,false⟩⟩=some (na,wa,()))(hdm:Zbm ⟨v0,v3,v2,⟨[],[],[],false,false⟩⟩=some (nm,wm,()))
  (hun:Zbk ⟨v0,v3,v2,⟨[],[],[],false,false⟩⟩=some (nu,())) (hN:Q (v3,⟨[],[],[],false,false⟩,())) (hc_auxSays:wa=1→EvA ZaK v0 v3 v2 Q) (hc_mainSays:wm=1→EvA Zax v0 v3 v2 Q) (hc_mainReady:wm=2→EvA Zat v0 v3 v2 Q) (hc_auxReady:wa=2→EvA Zay v0 v3 v2 Q) (hc_auxEnds:wa=3→EvA ZaC v0 v3 v2 Q) (hc_mainEnds:wm=3→EvA Zaz v0 v3 v2 Q) (hc_served:0<v3.Serves.length→EvA Zaj v0 v3 v2 Q) (h_over:EvA Zag v0 v3 v2 Q):Wp (ZdD v0 v1 v2) Q:=by
 have ez:z6.out=⟨[],[],[],false,false⟩:=rfl
 unfold ZdD
 simp only[hcell,ez,hda,hdm,hun,Option.bind_some]
 exact(Wp.ite (fun hv14=>(Wp.ite (fun hv15=>(Wp.ite (fun hv22=>(Wp.ite (fun hv28=>(Wp.ite (fun hv29=>ev_e9 _ _ _ hN (hc_mainSays (beq_iff_eq.1 hv15)) (hc_served (ZaA hv22)) h_over) (fun _=>Znr _ _ _ hN (hc_auxSays (beq_iff_eq.1 hv14)) (hc_served (ZaA hv22)) h_over))) (fun _=>Zq4 _ _ _ hN (hc_mainSays (beq_iff_eq.1 hv15)) (hc_served (ZaA hv22)) h_over))) (fun _=>(Wp.ite (fun hv28=>(Wp.ite (fun hv29=>ev_e8 _ _ hN (hc_mainSays (beq_iff_eq.1 hv15)) h_over) (fun _=>ZlI _ _ hN (hc_auxSays (beq_iff_eq.1 hv14)) h_over))) (fun _=>Zq5 _ _ hN (hc_mainSays (beq_iff_eq.1 hv15)) h_over))))) (fun _=>(Wp.ite (fun hv16=>(Wp.ite (fun hv22=>(Wp.ite (fun hv28=>(Wp.ite (fun hv29=>Zns _ _ _ hN (hc_mainReady (beq_iff_eq.1 hv16)) (hc_served (ZaA hv22)) h_over) (fun _=>Znr _ _ _ hN (hc_auxSays (beq_iff_eq.1 hv14)) (hc_served (ZaA hv22)) h_over))) (fun _=>Zq6 _ _ _ hN (hc_mainReady (beq_iff_eq.1 hv16)) (hc_served (ZaA hv22)) h_over))) (fun _=>(Wp.ite (fun hv28=>(Wp.ite (fun hv29=>ZlJ _ _ hN (hc_mainReady (beq_iff_eq.1 hv16)) h_over) (fun _=>ZlI _ _ hN (hc_auxSays (beq_iff_eq.1 hv14)) h_over))) (fun _=>Zq7 _ _ hN (hc_mainReady (beq_iff_eq.1 hv16)) h_over))))) (fun _=>(Wp.ite (fun hv19=>(Wp.ite (fun hv22=>(Wp.ite (fun hv28=>(Wp.ite (fun hv29=>Znt _ _ _ hN (hc_mainEnds (beq_iff_eq.1 hv19)) (hc_served (ZaA hv22)) h_over) (fun _=>Znr _ _ _ hN (hc_auxSays (beq_iff_eq.1 hv14)) (hc_served (ZaA hv22)) h_over))) (fun _=>Znu _ _ _ hN (hc_mainEnds (beq_iff_eq.1 hv19)) (hc_served (ZaA hv22)) h_over))) (fun _=>(Wp.ite (fun hv28=>(Wp.ite (fun hv29=>ZlK _ _ hN (hc_mainEnds (beq_iff_eq.1 hv19)) h_over) (fun _=>ZlI _ _ hN (hc_auxSays (beq_iff_eq.1 hv14)) h_over))) (fun _=>Znv _ _ hN (hc_mainEnds (beq_iff_eq.1 hv19)) h_over))))) (fun _=>(Wp.ite (fun hv22=>(Wp.ite (fun hv28=>Znr _ _ _ hN (hc_auxSays (beq_iff_eq.1 hv14)) (hc_served (ZaA hv22)) h_over) (fun _=>Zjr _ _ hN (hc_served (ZaA hv22)) h_over))) (fun _=>(Wp.ite (fun hv28=>ZlI _ _ hN (hc_auxSays (beq_iff_eq.1 hv14)) h_over) (fun _=>ZiN _ hN h_over))))))))))) (fun _=>(Wp.ite (fun hv15=>(Wp.ite (fun hv17=>(Wp.ite (fun hv22=>(Wp.ite (fun hv28=>(Wp.ite (fun hv29=>Znw _ _ _ hN (hc_auxReady (beq_iff_eq.1 hv17)) (hc_served (ZaA hv22)) h_over) (fun _=>ev_e9 _ _ _ hN (hc_mainSays (beq_iff_eq.1 hv15)) (hc_served (ZaA hv22)) h_over))) (fun _=>ZoT _ _ _ hN (hc_auxReady (beq_iff_eq.1 hv17)) (hc_served (ZaA hv22)) h_over))) (fun _=>(Wp.ite (fun hv28=>(Wp.ite (fun hv29=>ZlL _ _ hN (hc_auxReady (beq_iff_eq.1 hv17)) h_over) (fun _=>ev_e8 _ _ hN (hc_mainSays (beq_iff_eq.1 hv15)) h_over))) (fun _=>ZoU _ _ hN (hc_auxReady (beq_iff_eq.1 hv17)) h_over))))) (fun _=>(Wp.ite (fun hv18=>(Wp.ite (fun hv22=>(Wp.ite (fun hv28=>(Wp.ite (fun hv29=>Znx _ _ _ hN (hc_auxEnds (beq_iff_eq.1 hv18)) (hc_served (ZaA hv22)) h_over) (fun _=>ev_e9 _ _ _ hN (hc_mainSays (beq_iff_eq.1 hv15)) (hc_served (ZaA hv22)) h_over))) (fun _=>ZoV _ _ _ hN (hc_auxEnds (beq_iff_eq.1 hv18)) (hc_served (ZaA hv22)) h_over))) (fun _=>(Wp.ite (fun hv28=>(Wp.ite (fun hv29=>ZlM _ _ hN (hc_auxEnds (beq_iff_eq.1 hv18)) h_over) (fun _=>ev_e8 _ _ hN (hc_mainSays (beq_iff_eq.1 hv15)) h_over))) (fun _=>ZoW _ _ hN (hc_auxEnds (beq_iff_eq.1 hv18)) h_over))))) (fun _=>(Wp.ite (fun hv22=>Zq4 _ _ _ hN (hc_mainSays (beq_iff_eq.1 hv15)) (hc_served (ZaA hv22)) h_over) (fun _=>Zq5 _ _ hN (hc_mainSays (beq_iff_eq.1 hv15)) h_over))))))) (fun _=>(Wp.ite (fun hv16=>(Wp.ite (fun hv17=>(Wp.ite (fun hv22=>(Wp.ite (fun hv28=>(Wp.ite (fun hv29=>Znw _ _ _ hN (hc_auxReady (beq_iff_eq.1 hv17)) (hc_served (ZaA hv22)) h_over) (fun _=>Zns _ _ _ hN (hc_mainReady (beq_iff_eq.1 hv16)) (hc_served (ZaA hv22)) h_over))) (fun _=>ZoT _ _ _ hN (hc_auxReady (beq_iff_eq.1 hv17)) (hc_served (ZaA hv22)) h_over))) (fun _=>(Wp.ite (fun hv28=>(Wp.ite (fun hv29=>ZlL _ _ hN (hc_auxReady (beq_iff_eq.1 hv17)) h_over) (fun _=>ZlJ _ _ hN (hc_mainReady (beq_iff_eq.1 hv16)) h_over))) (fun _=>ZoU _ _ hN (hc_auxReady (beq_iff_eq.1 hv17)) h_over))))) (fun _=>(Wp.ite (fun hv18=>(Wp.ite (fun hv22=>(Wp.ite (fun hv28=>(Wp.ite (fun hv29=>Znx _ _ _ hN (hc_auxEnds (beq_iff_eq.1 hv18)) (hc_served (ZaA hv22)) h_over) (fun _=>Zns _ _ _ hN (hc_mainReady (beq_iff_eq.1 hv16)) (hc_served (ZaA hv22)) h_over))) (fun _=>ZoV _ _ _ hN (hc_auxEnds (beq_iff_eq.1 hv18)) (hc_served (ZaA hv22)) h_over))) (fun _=>(Wp.ite (fun hv28=>(Wp.ite (fun hv29=>ZlM _ _ hN (hc_auxEnds (beq_iff_eq.1 hv18)) h_over) (fun _=>ZlJ _ _ hN (hc_mainReady (beq_iff_eq.1 hv16)) h_over))) (fun _=>ZoW _ _ hN (hc_auxEnds (beq_iff_eq.1 hv18)) h_over))))) (fun _=>(Wp.ite (fun hv22=>Zq6 _ _ _ hN (hc_mainReady (beq_iff_eq.1 hv16)) (hc_served (ZaA hv22)) h_over) (fun _=>Zq7 _ _ hN (hc_mainReady (beq_iff_eq.1 hv16)) h_over))))))) (fun _=>(Wp.ite (fun hv17=>(Wp.ite (fun hv19=>(Wp.ite (fun hv22=>(Wp.ite (fun hv28=>(Wp.ite (fun hv29=>Znt _ _ _ hN (hc_mainEnds (beq_iff_eq.1 hv19)) (hc_served (ZaA hv22)) h_over) (fun _=>Znw _ _ _ hN (hc_auxReady (beq_iff_eq.1 hv17)) (hc_served (ZaA hv22)) h_over))) (fun _=>Znu _ _ _ hN (hc_mainEnds (beq_iff_eq.1 hv19)) (hc_served (ZaA hv22)) h_over))) (fun _=>(Wp.ite (fun hv28=>(Wp.ite (fun hv29=>ZlK _ _ hN (hc_mainEnds (beq_iff_eq.1 hv19)) h_over) (fun _=>ZlL _ _ hN (hc_auxReady (beq_iff_eq.1 hv17)) h_over))) (fun _=>Znv _ _ hN (hc_mainEnds (beq_iff_eq.1 hv19)) h_over))))) (fun _=>(Wp.ite (fun hv22=>ZoT _ _ _ hN (hc_auxReady (beq_iff_eq.1 hv17)) (hc_served (ZaA hv22)) h_over) (fun _=>ZoU _ _ hN (hc_auxReady (beq_iff_eq.1 hv17)) h_over))))) (fun _=>(Wp.ite (fun hv18=>(Wp.ite (fun hv19=>(Wp.ite (fun hv22=>(Wp.ite (fun hv28=>(Wp.ite (fun hv29=>Znt _ _ _ hN (hc_mainEnds (beq_iff_eq.1 hv19)) (hc_served (ZaA hv22)) h_over) (fun _=>Znx _ _ _ hN (hc_auxEnds (beq_iff_eq.1 hv18)) (hc_served (ZaA hv22)) h_over))) (fun _=>Znu _ _ _ hN (hc_mainEnds (beq_iff_eq.1 hv19)) (hc_served (ZaA hv22)) h_over))) (fun _=>(Wp.ite (fun hv28=>(Wp.ite (fun hv29=>ZlK _ _ hN (hc_mainEnds (beq_iff_eq.1 hv19)) h_over) (fun _=>ZlM _ _ hN (hc_auxEnds (beq_iff_eq.1 hv18)) h_over))) (fun _=>Znv _ _ hN (hc_mainEnds (beq_iff_eq.1 hv19)) h_over))))) (fun _=>(Wp.ite (fun hv22=>ZoV _ _ _ hN (hc_auxEnds (beq_iff_eq.1 hv18)) (hc_served (ZaA hv22)) h_over) (fun _=>ZoW _ _ hN (hc_auxEnds (beq_iff_eq.1 hv18)) h_over))))) (fun _=>(Wp.ite (fun hv19=>(Wp.ite (fun hv22=>Znu _ _ _ hN (hc_mainEnds (beq_iff_eq.1 hv19)) (hc_served (ZaA hv22)) h_over) (fun _=>Znv _ _ hN (hc_mainEnds (beq_iff_eq.1 hv19)) h_over))) (fun _=>(Wp.ite (fun hv22=>Zjr _ _ hN (hc_served (ZaA hv22)) h_over) (fun _=>ZiN _ hN h_over))))))))))))))
end
end Go.AW.M

namespace Go.AW.M
open Go.RowKit Go.Proofs
set_option maxRecDepth 100000
theorem ZbC (c:Zac)(h:c.Fit 2097152):Zbl c=some (c,()):=by
 unfold Zbl
 refine Eq.trans (ZaD c.U.Rels 24 _ (ZeX c) _ (by have:=h.1.1;omega) (by have:=h.1.1;omega) (fun _ _=>rfl)) ?_
 unfold ZeX
 refine Eq.trans (ZcU c.U.Pre 32 (ZeW c c.U.Rels) _ (by have:=h.1.2.1.1;omega) (by have:=h.1.2.1.1;omega) (fun i x acc hi hx=>?_) (fun acc=>?_)) ?_
 ·show(if decide ((i:Int)<((List.length c.U.Pre:Nat):Int))=true then _ else _)=_
  simp only[dec_lt hi,if_true];rw[show ixN c.U.Pre (i:Int)=some x from Zbt hx];simp only[Option.bind_some]
  show loopS _ _=_
  refine Eq.trans (ZaD x.Words 16 _ (fun w=>ZcI x w acc (i:Int)) _ (by have:x.Words.length≤2097152:=h.1.2.1.2 x (List.mem_of_getElem? hx);omega) (by have:x.Words.length≤2097152:=h.1.2.1.2 x (List.mem_of_getElem? hx);omega) (fun _ _=>rfl)) ?_
  rfl
 ·show(if decide (((List.length c.U.Pre:Nat):Int)<((List.length c.U.Pre:Nat):Int))=true then _ else _)=_
  rw[Za4];rfl
 unfold ZeW
 refine Eq.trans (ZcU c.U.Start 32 (ZeV c c.U.Rels c.U.Pre) _ (by have:=h.1.2.2.1.1;omega) (by have:=h.1.2.2.1.1;omega) (fun i x acc hi hx=>?_) (fun acc=>?_)) ?_
 ·show(if decide ((i:Int)<((List.length c.U.Start:Nat):Int))=true then _ else _)=_
  simp only[dec_lt hi,if_true];rw[show ixN c.U.Start (i:Int)=some x from Zbt hx];simp only[Option.bind_some]
  show loopS _ _=_
  refine Eq.trans (ZaD x.Words 16 _ (fun w=>ZcI x w acc (i:Int)) _ (by have:x.Words.length≤2097152:=h.1.2.2.1.2 x (List.mem_of_getElem? hx);omega) (by have:x.Words.length≤2097152:=h.1.2.2.1.2 x (List.mem_of_getElem? hx);omega) (fun _ _=>rfl)) ?_
  rfl
 ·show(if decide (((List.length c.U.Start:Nat):Int)<((List.length c.U.Start:Nat):Int))=true then _ else _)=_
  rw[Za4];rfl
 unfold ZeV
 refine Eq.trans (ZcU c.U.Post 32 (ZeU c c.U.Rels c.U.Pre c.U.Start) _ (by have:=h.1.2.2.2.1.1;omega) (by have:=h.1.2.2.2.1.1;omega) (fun i x acc hi hx=>?_) (fun acc=>?_)) ?_
 ·show(if decide ((i:Int)<((List.length c.U.Post:Nat):Int))=true then _ else _)=_
  simp only[dec_lt hi,if_true];rw[show ixN c.U.Post (i:Int)=some x from Zbt hx];simp only[Option.bind_some]
  show loopS _ _=_
  refine Eq.trans (ZaD x.Words 16 _ (fun w=>ZcI x w acc (i:Int)) _ (by have:x.Words.length≤2097152:=h.1.2.2.2.1.2 x (List.mem_of_getElem? hx);omega) (by have:x.Words.length≤2097152:=h.1.2.2.2.1.2 x (List.mem_of_getElem? hx);omega) (fun _ _=>rfl)) ?_
  rfl
 ·show(if decide (((List.length c.U.Post:Nat):Int)<((List.length c.U.Post:Nat):Int))=true then _ else _)=_
  rw[Za4];rfl
 unfold ZeU
 refine Eq.trans (ZcU c.U.Stop 32 (ZeT c c.U.Rels c.U.Pre c.U.Start c.U.Post) _ (by have:=h.1.2.2.2.2.1.1;omega) (by have:=h.1.2.2.2.2.1.1;omega) (fun i x acc hi hx=>?_) (fun acc=>?_)) ?_
 ·show(if decide ((i:Int)<((List.length c.U.Stop:Nat):Int))=true then _ else _)=_
  simp only[dec_lt hi,if_true];rw[show ixN c.U.Stop (i:Int)=some x from Zbt hx];simp only[Option.bind_some]
  show loopS _ _=_
  refine Eq.trans (ZaD x.Words 16 _ (fun w=>ZcI x w acc (i:Int)) _ (by have:x.Words.length≤2097152:=h.1.2.2.2.2.1.2 x (List.mem_of_getElem? hx);omega) (by have:x.Words.length≤2097152:=h.1.2.2.2.2.1.2 x (List.mem_of_getElem? hx);omega) (fun _ _=>rfl)) ?_
  rfl
 ·show(if decide (((List.length c.U.Stop:Nat):Int)<((List.length c.U.Stop:Nat):Int))=true then _ else _)=_
  rw[Za4];rfl
 unfold ZeT
 refine Eq.trans (ZcU c.U.Reload 32 (ZeS c c.U.Rels c.U.Pre c.U.Start c.U.Post c.U.Stop) _ (by have:=h.1.2.2.2.2.2.1.1;omega) (by have:=h.1.2.2.2.2.2.1.1;omega) (fun i x acc hi hx=>?_) (fun acc=>?_)) ?_
 ·show(if decide ((i:Int)<((List.length c.U.Reload:Nat):Int))=true then _ else _)=_
  simp only[dec_lt hi,if_true];rw[show ixN c.U.Reload (i:Int)=some x from Zbt hx];simp only[Option.bind_some]
  show loopS _ _=_
  refine Eq.trans (ZaD x.Words 16 _ (fun w=>ZcI x w acc (i:Int)) _ (by have:x.Words.length≤2097152:=h.1.2.2.2.2.2.1.2 x (List.mem_of_getElem? hx);omega) (by have:x.Words.length≤2097152:=h.1.2.2.2.2.2.1.2 x (List.mem_of_getElem? hx);omega) (fun _ _=>rfl)) ?_
  rfl
 ·show(if decide (((List.length c.U.Reload:Nat):Int)<((List.length c.U.Reload:Nat):Int))=true then _ else _)=_
  rw[Za4];rfl
 unfold ZeS
 refine Eq.trans (ZaD c.U.Success 8 _ (ZeR c c.U.Rels c.U.Pre c.U.Start c.U.Post c.U.Stop c.U.Reload) _ (by have:=h.1.2.2.2.2.2.2.1;omega) (by have:=h.1.2.2.2.2.2.2.1;omega) (fun _ _=>rfl)) ?_
 unfold ZeR
 refine Eq.trans (ZaD c.U.Env 32 _ (ZeQ c c.U.Rels c.U.Pre c.U.Start c.U.Post c.U.Stop c.U.Reload c.U.Success) _ (by have:=h.1.2.2.2.2.2.2.2.1;omega) (by have:=h.1.2.2.2.2.2.2.2.1;omega) (fun _ _=>rfl)) ?_
 unfold ZeQ
 refine Eq.trans (ZaD c.U.Sockets 16 _ (ZeP c c.U.Rels c.U.Pre c.U.Start c.U.Post c.U.Stop c.U.Reload c.U.Success c.U.Env) _ (by have:=h.1.2.2.2.2.2.2.2.2.1;omega) (by have:=h.1.2.2.2.2.2.2.2.2.1;omega) (fun _ _=>rfl)) ?_
 unfold ZeP
 refine Eq.trans (ZaD c.U.Ports 8 _ (ZeO c c.U.Rels c.U.Pre c.U.Start c.U.Post c.U.Stop c.U.Reload c.U.Success c.U.Env c.U.Sockets) _ (by have:=h.1.2.2.2.2.2.2.2.2.2.1;omega) (by have:=h.1.2.2.2.2.2.2.2.2.2.1;omega) (fun _ _=>rfl)) ?_
 unfold ZeO
 refine Eq.trans (ZaD c.U.Boot 8 _ (ZeN c c.U.Rels c.U.Pre c.U.Start c.U.Post c.U.Stop c.U.Reload c.U.Success c.U.Env c.U.Sockets c.U.Ports) _ (by have:=h.1.2.2.2.2.2.2.2.2.2.2.1;omega) (by have:=h.1.2.2.2.2.2.2.2.2.2.2.1;omega) (fun _ _=>rfl)) ?_
 unfold ZeN
 refine Eq.trans (ZaD c.U.Active 8 _ (ZeM c c.U.Rels c.U.Pre c.U.Start c.U.Post c.U.Stop c.U.Reload c.U.Success c.U.Env c.U.Sockets c.U.Ports c.U.Boot) _ (by have:=h.1.2.2.2.2.2.2.2.2.2.2.2.1;omega) (by have:=h.1.2.2.2.2.2.2.2.2.2.2.2.1;omega) (fun _ _=>rfl)) ?_
 unfold ZeM
 refine Eq.trans (ZaD c.U.Idle 8 _ (ZeL c c.U.Rels c.U.Pre c.U.Start c.U.Post c.U.Stop c.U.Reload c.U.Success c.U.Env c.U.Sockets c.U.Ports c.U.Boot c.U.Active) _ (by have:=h.1.2.2.2.2.2.2.2.2.2.2.2.2.1;omega) (by have:=h.1.2.2.2.2.2.2.2.2.2.2.2.2.1;omega) (fun _ _=>rfl)) ?_
 unfold ZeL
 refine Eq.trans (ZaD c.U.Calendar 16 _ (ZeK c c.U.Rels c.U.Pre c.U.Start c.U.Post c.U.Stop c.U.Reload c.U.Success c.U.Env c.U.Sockets c.U.Ports c.U.Boot c.U.Active c.U.Idle) _ (by have:=h.1.2.2.2.2.2.2.2.2.2.2.2.2.2.1;omega) (by have:=h.1.2.2.2.2.2.2.2.2.2.2.2.2.2.1;omega) (fun _ _=>rfl)) ?_
 unfold ZeK
 refine Eq.trans (ZaD c.U.WantedBy 16 _ (ZeJ c c.U.Rels c.U.Pre c.U.Start c.U.Post c.U.Stop c.U.Reload c.U.Success c.U.Env c.U.Sockets c.U.Ports c.U.Boot c.U.Active c.U.Idle c.U.Calendar) _ (by have:=h.1.2.2.2.2.2.2.2.2.2.2.2.2.2.2.1;omega) (by have:=h.1.2.2.2.2.2.2.2.2.2.2.2.2.2.2.1;omega) (fun _ _=>rfl)) ?_
 unfold ZeJ
 refine Eq.trans (ZaD c.U.RequiredBy 16 _ (ZeI c c.U.Rels c.U.Pre c.U.Start c.U.Post c.U.Stop c.U.Reload c.U.Success c.U.Env c.U.Sockets c.U.Ports c.U.Boot c.U.Active c.U.Idle c.U.Calendar c.U.WantedBy) _ (by have:=h.1.2.2.2.2.2.2.2.2.2.2.2.2.2.2.2.1;omega) (by have:=h.1.2.2.2.2.2.2.2.2.2.2.2.2.2.2.2.1;omega) (fun _ _=>rfl)) ?_
 unfold ZeI
 refine Eq.trans (ZaD c.U.Alias 16 _ (ZeH c c.U.Rels c.U.Pre c.U.Start c.U.Post c.U.Stop c.U.Reload c.U.Success c.U.Env c.U.Sockets c.U.Ports c.U.Boot c.U.Active c.U.Idle c.U.Calendar c.U.WantedBy c.U.RequiredBy) _ (by have:=h.1.2.2.2.2.2.2.2.2.2.2.2.2.2.2.2.2.1;omega) (by have:=h.1.2.2.2.2.2.2.2.2.2.2.2.2.2.2.2.2.1;omega) (fun _ _=>rfl)) ?_
 unfold ZeH
 refine Eq.trans (ZaD c.U.Also 16 _ (ZeG c c.U.Rels c.U.Pre c.U.Start c.U.Post c.U.Stop c.U.Reload c.U.Success c.U.Env c.U.Sockets c.U.Ports c.U.Boot c.U.Active c.U.Idle c.U.Calendar c.U.WantedBy c.U.RequiredBy c.U.Alias) _ (by have:=h.1.2.2.2.2.2.2.2.2.2.2.2.2.2.2.2.2.2;omega) (by have:=h.1.2.2.2.2.2.2.2.2.2.2.2.2.2.2.2.2.2;omega) (fun _ _=>rfl)) ?_
 unfold ZeG
 refine Eq.trans (ZaD c.Begins 8 _ (ZeF c c.U.Rels c.U.Pre c.U.Start c.U.Post c.U.Stop c.U.Reload c.U.Success c.U.Env c.U.Sockets c.U.Ports c.U.Boot c.U.Active c.U.Idle c.U.Calendar c.U.WantedBy c.U.RequiredBy c.U.Alias c.U.Also) _ (by have:=h.2.1;omega) (by have:=h.2.1;omega) (fun _ _=>rfl)) ?_
 unfold ZeF
 refine Eq.trans (ZaD c.Serves 48 _ (ZeE c c.U.Rels c.U.Pre c.U.Start c.U.Post c.U.Stop c.U.Reload c.U.Success c.U.Env c.U.Sockets c.U.Ports c.U.Boot c.U.Active c.U.Idle c.U.Calendar c.U.WantedBy c.U.RequiredBy c.U.Alias c.U.Also c.Begins) _ (by have:=h.2.2.1;omega) (by have:=h.2.2.1;omega) (fun _ _=>rfl)) ?_
 unfold ZeE
 refine Eq.trans (ZaD c.Waits 48 _ (Zgv c c.U.Rels c.U.Pre c.U.Start c.U.Post c.U.Stop c.U.Reload c.U.Success c.U.Env c.U.Sockets c.U.Ports c.U.Boot c.U.Active c.U.Idle c.U.Calendar c.U.WantedBy c.U.RequiredBy c.U.Alias c.U.Also c.Begins c.Serves) _ (by have:=h.2.2.2;omega) (by have:=h.2.2.2;omega) (fun _ _=>rfl)) ?_
 rfl
theorem Zd4 (c:Zae)(h:c.Fit 2097152):ZcV c=some (c,()):=by
 unfold ZcV
 refine Eq.trans (ZaD c.Rels 24 _ (Zfe c) _ (by have:=h.1;omega) (by have:=h.1;omega) (fun _ _=>rfl)) ?_
 unfold Zfe
 refine Eq.trans (ZcU c.Pre 32 (Zfd c c.Rels) _ (by have:=h.2.1.1;omega) (by have:=h.2.1.1;omega) (fun i x acc hi hx=>?_) (fun acc=>?_)) ?_
 ·show(if decide ((i:Int)<((List.length c.Pre:Nat):Int))=true then _ else _)=_
  simp only[dec_lt hi,if_true];rw[show ixN c.Pre (i:Int)=some x from Zbt hx];simp only[Option.bind_some]
  show loopS _ _=_
  refine Eq.trans (ZaD x.Words 16 _ (fun w=>ZcJ x w acc (i:Int)) _ (by have:x.Words.length≤2097152:=h.2.1.2 x (List.mem_of_getElem? hx);omega) (by have:x.Words.length≤2097152:=h.2.1.2 x (List.mem_of_getElem? hx);omega) (fun _ _=>rfl)) ?_
  rfl
 ·show(if decide (((List.length c.Pre:Nat):Int)<((List.length c.Pre:Nat):Int))=true then _ else _)=_
  rw[Za4];rfl
 unfold Zfd
 refine Eq.trans (ZcU c.Start 32 (Zfc c c.Rels c.Pre) _ (by have:=h.2.2.1.1;omega) (by have:=h.2.2.1.1;omega) (fun i x acc hi hx=>?_) (fun acc=>?_)) ?_
 ·show(if decide ((i:Int)<((List.length c.Start:Nat):Int))=true then _ else _)=_
  simp only[dec_lt hi,if_true];rw[show ixN c.Start (i:Int)=some x from Zbt hx];simp only[Option.bind_some]
  show loopS _ _=_
  refine Eq.trans (ZaD x.Words 16 _ (fun w=>ZcJ x w acc (i:Int)) _ (by have:x.Words.length≤2097152:=h.2.2.1.2 x (List.mem_of_getElem? hx);omega) (by have:x.Words.length≤2097152:=h.2.2.1.2 x (List.mem_of_getElem? hx);omega) (fun _ _=>rfl)) ?_
  rfl
 ·show(if decide (((List.length c.Start:Nat):Int)<((List.length c.Start:Nat):Int))=true then _ else _)=_
  rw[Za4];rfl
 unfold Zfc
 refine Eq.trans (ZcU c.Post 32 (Zfb c c.Rels c.Pre c.Start) _ (by have:=h.2.2.2.1.1;omega) (by have:=h.2.2.2.1.1;omega) (fun i x acc hi hx=>?_) (fun acc=>?_)) ?_
 ·show(if decide ((i:Int)<((List.length c.Post:Nat):Int))=true then _ else _)=_
  simp only[dec_lt hi,if_true];rw[show ixN c.Post (i:Int)=some x from Zbt hx];simp only[Option.bind_some]
  show loopS _ _=_
  refine Eq.trans (ZaD x.Words 16 _ (fun w=>ZcJ x w acc (i:Int)) _ (by have:x.Words.length≤2097152:=h.2.2.2.1.2 x (List.mem_of_getElem? hx);omega) (by have:x.Words.length≤2097152:=h.2.2.2.1.2 x (List.mem_of_getElem? hx);omega) (fun _ _=>rfl)) ?_
  rfl
 ·show(if decide (((List.length c.Post:Nat):Int)<((List.length c.Post:Nat):Int))=true then _ else _)=_
  rw[Za4];rfl
 unfold Zfb
 refine Eq.trans (ZcU c.Stop 32 (Zfa c c.Rels c.Pre c.Start c.Post) _ (by have:=h.2.2.2.2.1.1;omega) (by have:=h.2.2.2.2.1.1;omega) (fun i x acc hi hx=>?_) (fun acc=>?_)) ?_
 ·show(if decide ((i:Int)<((List.length c.Stop:Nat):Int))=true then _ else _)=_
  simp only[dec_lt hi,if_true];rw[show ixN c.Stop (i:Int)=some x from Zbt hx];simp only[Option.bind_some]
  show loopS _ _=_
  refine Eq.trans (ZaD x.Words 16 _ (fun w=>ZcJ x w acc (i:Int)) _ (by have:x.Words.length≤2097152:=h.2.2.2.2.1.2 x (List.mem_of_getElem? hx);omega) (by have:x.Words.length≤2097152:=h.2.2.2.2.1.2 x (List.mem_of_getElem? hx);omega) (fun _ _=>rfl)) ?_
  rfl
 ·show(if decide (((List.length c.Stop:Nat):Int)<((List.length c.Stop:Nat):Int))=true then _ else _)=_
  rw[Za4];rfl
 unfold Zfa
 refine Eq.trans (ZcU c.Reload 32 (Ze9 c c.Rels c.Pre c.Start c.Post c.Stop) _ (by have:=h.2.2.2.2.2.1.1;omega) (by have:=h.2.2.2.2.2.1.1;omega) (fun i x acc hi hx=>?_) (fun acc=>?_)) ?_
 ·show(if decide ((i:Int)<((List.length c.Reload:Nat):Int))=true then _ else _)=_
  simp only[dec_lt hi,if_true];rw[show ixN c.Reload (i:Int)=some x from Zbt hx];simp only[Option.bind_some]
  show loopS _ _=_
  refine Eq.trans (ZaD x.Words 16 _ (fun w=>ZcJ x w acc (i:Int)) _ (by have:x.Words.length≤2097152:=h.2.2.2.2.2.1.2 x (List.mem_of_getElem? hx);omega) (by have:x.Words.length≤2097152:=h.2.2.2.2.2.1.2 x (List.mem_of_getElem? hx);omega) (fun _ _=>rfl)) ?_
  rfl
 ·show(if decide (((List.length c.Reload:Nat):Int)<((List.length c.Reload:Nat):Int))=true then _ else _)=_
  rw[Za4];rfl
 unfold Ze9
 refine Eq.trans (ZaD c.Success 8 _ (Ze8 c c.Rels c.Pre c.Start c.Post c.Stop c.Reload) _ (by have:=h.2.2.2.2.2.2.1;omega) (by have:=h.2.2.2.2.2.2.1;omega) (fun _ _=>rfl)) ?_
 unfold Ze8
 refine Eq.trans (ZaD c.Env 32 _ (Ze7 c c.Rels c.Pre c.Start c.Post c.Stop c.Reload c.Success) _ (by have:=h.2.2.2.2.2.2.2.1;omega) (by have:=h.2.2.2.2.2.2.2.1;omega) (fun _ _=>rfl)) ?_
 unfold Ze7
 refine Eq.trans (ZaD c.Sockets 16 _ (Ze6 c c.Rels c.Pre c.Start c.Post c.Stop c.Reload c.Success c.Env) _ (by have:=h.2.2.2.2.2.2.2.2.1;omega) (by have:=h.2.2.2.2.2.2.2.2.1;omega) (fun _ _=>rfl)) ?_
 unfold Ze6
 refine Eq.trans (ZaD c.Ports 8 _ (Ze5 c c.Rels c.Pre c.Start c.Post c.Stop c.Reload c.Success c.Env c.Sockets) _ (by have:=h.2.2.2.2.2.2.2.2.2.1;omega) (by have:=h.2.2.2.2.2.2.2.2.2.1;omega) (fun _ _=>rfl)) ?_
 unfold Ze5
 refine Eq.trans (ZaD c.Boot 8 _ (Ze4 c c.Rels c.Pre c.Start c.Post c.Stop c.Reload c.Success c.Env c.Sockets c.Ports) _ (by have:=h.2.2.2.2.2.2.2.2.2.2.1;omega) (by have:=h.2.2.2.2.2.2.2.2.2.2.1;omega) (fun _ _=>rfl)) ?_
 unfold Ze4
 refine Eq.trans (ZaD c.Active 8 _ (Ze3 c c.Rels c.Pre c.Start c.Post c.Stop c.Reload c.Success c.Env c.Sockets c.Ports c.Boot) _ (by have:=h.2.2.2.2.2.2.2.2.2.2.2.1;omega) (by have:=h.2.2.2.2.2.2.2.2.2.2.2.1;omega) (fun _ _=>rfl)) ?_
 unfold Ze3
 refine Eq.trans (ZaD c.Idle 8 _ (Ze2 c c.Rels c.Pre c.Start c.Post c.Stop c.Reload c.Success c.Env c.Sockets c.Ports c.Boot c.Active) _ (by have:=h.2.2.2.2.2.2.2.2.2.2.2.2.1;omega) (by have:=h.2.2.2.2.2.2.2.2.2.2.2.2.1;omega) (fun _ _=>rfl)) ?_
 unfold Ze2
 refine Eq.trans (ZaD c.Calendar 16 _ (Ze1 c c.Rels c.Pre c.Start c.Post c.Stop c.Reload c.Success c.Env c.Sockets c.Ports c.Boot c.Active c.Idle) _ (by have:=h.2.2.2.2.2.2.2.2.2.2.2.2.2.1;omega) (by have:=h.2.2.2.2.2.2.2.2.2.2.2.2.2.1;omega) (fun _ _=>rfl)) ?_
 unfold Ze1
 refine Eq.trans (ZaD c.WantedBy 16 _ (Ze0 c c.Rels c.Pre c.Start c.Post c.Stop c.Reload c.Success c.Env c.Sockets c.Ports c.Boot c.Active c.Idle c.Calendar) _ (by have:=h.2.2.2.2.2.2.2.2.2.2.2.2.2.2.1;omega) (by have:=h.2.2.2.2.2.2.2.2.2.2.2.2.2.2.1;omega) (fun _ _=>rfl)) ?_
 unfold Ze0
 refine Eq.trans (ZaD c.RequiredBy 16 _ (ZeZ c c.Rels c.Pre c.Start c.Post c.Stop c.Reload c.Success c.Env c.Sockets c.Ports c.Boot c.Active c.Idle c.Calendar c.WantedBy) _ (by have:=h.2.2.2.2.2.2.2.2.2.2.2.2.2.2.2.1;omega) (by have:=h.2.2.2.2.2.2.2.2.2.2.2.2.2.2.2.1;omega) (fun _ _=>rfl)) ?_
 unfold ZeZ
 refine Eq.trans (ZaD c.Alias 16 _ (ZeY c c.Rels c.Pre c.Start c.Post c.Stop c.Reload c.Success c.Env c.Sockets c.Ports c.Boot c.Active c.Idle c.Calendar c.WantedBy c.RequiredBy) _ (by have:=h.2.2.2.2.2.2.2.2.2.2.2.2.2.2.2.2.1;omega) (by have:=h.2.2.2.2.2.2.2.2.2.2.2.2.2.2.2.2.1;omega) (fun _ _=>rfl)) ?_
 unfold ZeY
 refine Eq.trans (ZaD c.Also 16 _ (Zgw c c.Rels c.Pre c.Start c.Post c.Stop c.Reload c.Success c.Env c.Sockets c.Ports c.Boot c.Active c.Idle c.Calendar c.WantedBy c.RequiredBy c.Alias) _ (by have:=h.2.2.2.2.2.2.2.2.2.2.2.2.2.2.2.2.2;omega) (by have:=h.2.2.2.2.2.2.2.2.2.2.2.2.2.2.2.2.2;omega) (fun _ _=>rfl)) ?_
 rfl
end Go.AW.M

namespace Go.AW.M
open Go.RowKit Go.Proofs
set_option maxRecDepth 100000
theorem ZkU (n:Int):ZdR n=some (decide (n≥0)&&decide (n<6311433600),()):=by
 unfold ZdR
 simp only[gS,gA,gA',gB,gC,gD,gE,gF,gM,gAnd,gOr,Option.bind_some]
theorem Zny (n:Int):∃b,Zfx n=some (b,()):=by
 unfold Zfx
 simp only[gS,gA,gA',gB,gC,gD,gE,gF,gM,gAnd,gOr,Option.bind_some]
 exact⟨_,rfl⟩
theorem in_ex (x n e:Int):∃b,Zgj x n e=some (b,()):=by
 unfold Zgj
 by_cases h1:x≤n
 ·by_cases h2:e=1099511627776
  ·simp[h1,h2]
  ·simp[h1,h2]
 ·simp[h1]
noncomputable def inB (x n e:Int):Bool:=((Zgj x n e).map fun r=>r.1).getD false
theorem in_eq (x n e:Int):Zgj x n e=some (inB x n e,()):=by
 obtain⟨b,hb⟩:=in_ex x n e
 unfold inB
 rw[hb]
 rfl
theorem Znz {b:List Int}{n e:Int}(hl:b.length≤2097152):Zd1 b n e=some (b.filter (inB · n e),()):=by
 obtain⟨r,h1,h2⟩:Wp (Zd1 b n e) (fun r=>r=(b.filter (inB · n e),())):=by
  unfold Zd1
  simp only
  refine wp_loop (fun m (v:Int×List Int×Unit)=>∃i:Nat,v.1=i∧i+m=b.length∧v.2.1=(b.take i).filter (inB · n e)) b.length _ (by omega) ⟨0,rfl,by omega,by simp⟩ (fun m v ⟨i,hi,hm,ha⟩=>?_)
  obtain⟨v1,acc,u⟩:=v
  simp only at hi ha
  subst hi ha
  by_cases hlt:i<b.length
  ·simp only[dec_lt hlt,if_true]
   unfold ZhI ZhH
   refine Wp.bind (Zfp hlt ?_)
   simp only[in_eq,Option.bind_some,ZaW hlt (show b.length<4611686018427387904 by omega)]
   have hle:((b.take i).filter (inB · n e)).length≤2097152:=Nat.le_trans (List.length_filter_le _ _) (by simp;omega)
   have htk:b.take (i+1)=b.take i++[b[i]]:=by rw[List.take_add_one,gG hlt];rfl
   refine Wp.ite (fun hc=>?_) (fun hc=>?_)
   ·simp only[apN,List.length_singleton]
    rw[if_pos ⟨by omega,by omega⟩]
    exact Wp.ret (.inr ⟨m - 1,_,by omega,rfl,i+1,rfl,by omega,by rw[htk,List.filter_append];simp[hc]⟩)
   ·exact Wp.ret (.inr ⟨m - 1,_,by omega,rfl,i+1,rfl,by omega,by rw[htk,List.filter_append];simp[hc]⟩)
  ·have:i=b.length:=by omega
   subst this
   simp only[Za4,bF,if_false]
   exact Wp.ret (.inl ⟨_,rfl,by simp⟩)
 rw[h1,h2]
theorem keep_wp {b:List Int}{n e:Int}{Q:List Int×Unit→Prop}(hl:b.length≤2097152)(h:∀l:List Int,l.length≤b.length→(∀x∈l,inB x n e=true)→(∀x∈l,0≤x∧x<6311433600)→Q (l,())):Wp (Zdy b n e) Q:=by
 obtain⟨sp,hsp⟩:=Zny e
 unfold Zdy
 simp only[gS,gA,gA',gB,gC,gD,gE,gF,gM,gAnd,gOr,Option.bind_some,ZkU,hsp]
 refine Wp.ite (fun _=>?_) (fun _=>Wp.ret (h _ (by simp) (by simp) (by simp)))
 refine wp_loop (fun m (v:Int×Unit)=>∃i:Nat,v.1=i∧i+m=b.length∧∀x∈b.take i,0≤x∧x<6311433600) b.length _ (by omega) ⟨0,rfl,by omega,by simp⟩ (fun m v ⟨i,hi,hm,ha⟩=>?_)
 obtain⟨v1,u⟩:=v
 simp only at hi ha
 subst hi
 by_cases hlt:i<b.length
 ·simp only[dec_lt hlt,if_true]
  refine Wp.bind (Zfp hlt ?_)
  refine Wp.ite (fun _=>?_) (fun hc=>?_)
  ·unfold ZhJ
   have hd:decide ((i:Int)≥0)=true:=by simp
   simp only[hd,Bool.not_true,Bool.not_false,if_true,Option.bind_some]
   exact Wp.ret (.inl ⟨_,rfl,h _ (by simp) (by simp) (by simp)⟩)
  ·simp only[ZaW hlt (show b.length<4611686018427387904 by omega)]
   simp only[Bool.not_eq_false',bA,decide_eq_true_eq]at hc
   refine Wp.ret (.inr ⟨m - 1,_,by omega,rfl,i+1,rfl,by omega,fun x hx=>?_⟩)
   rw[List.take_add_one,gG hlt]at hx
   simp only[Option.toList_some,List.mem_append,List.mem_singleton]at hx
   rcases hx with hx | rfl
   ·exact ha x hx
   ·exact⟨hc.1,hc.2⟩
 ·have:i=b.length:=by omega
  subst this
  simp only[Za4,bF,if_false,Znz hl,Option.bind_some]
  refine Wp.ret (.inl ⟨_,rfl,h _ (List.length_filter_le _ _) (fun x hx=>(List.mem_filter.1 hx).2) (fun x hx=>?_)⟩)
  exact ha x (by rw[List.take_length];exact(List.mem_filter.1 hx).1)
theorem may_wp {l:List Int}{n e b:Int}{Q:Bool×Unit→Prop}(hl:l.length≤2097152)(h1:∀x∈l,inB x n e=true)(h2:∀x∈l,0≤x∧x<6311433600)(h:∀r,(r=true→((List.length l:Nat):Int)<b)→Q (r,())):Wp (ZgF l n e b) Q:=by
 obtain⟨sp,hsp⟩:=Zny e
 have hk:∀c:Bool,(decide (n≥0)&&decide (n<6311433600)&&sp)=c→c=true→Zdy l n e=some (l,()):=by
  intro c hc1 hc2
  obtain⟨r,h3,h4⟩:Wp (Zdy l n e) (fun r=>r=(l,())):=by
   have hfl:l.filter (inB · n e)=l:=List.filter_eq_self.2 h1
   unfold Zdy
   simp only[gS,gA,gA',gB,gC,gD,gE,gF,gM,gAnd,gOr,Option.bind_some,ZkU,hsp]
   rw[hc1,hc2]
   simp only[if_true]
   refine wp_loop (fun m (v:Int×Unit)=>∃i:Nat,v.1=i∧i+m=l.length) l.length _ (by omega) ⟨0,rfl,by omega⟩ (fun m v ⟨i,hi,hm⟩=>?_)
   obtain⟨v1,u⟩:=v
   simp only at hi
   subst hi
   by_cases hlt:i<l.length
   ·simp only[dec_lt hlt,if_true]
    refine Wp.bind (Zfp hlt ?_)
    have hx:=h2 _ (List.getElem_mem hlt)
    rw[if_neg (by simp only[Bool.not_eq_true',Bool.and_eq_false_iff,decide_eq_false_iff_not];omega)]
    simp only[ZaW hlt (show l.length<4611686018427387904 by omega)]
    exact Wp.ret (.inr ⟨m - 1,_,by omega,rfl,i+1,rfl,by omega⟩)
   ·have:i=l.length:=by omega
    subst this
    simp only[Za4,bF,if_false,Znz hl,Option.bind_some,hfl]
    exact Wp.ret (.inl ⟨_,rfl,rfl⟩)
  rw[h3,h4]
 unfold ZgF
 simp only[gS,gA,gA',gB,gC,gD,gE,gF,gM,gAnd,gOr,Option.bind_some,ZkU,hsp]
 refine Wp.ite (fun hc=>?_) (fun _=>Wp.ret (h _ (by simp)))
 have e1:Wp (ZfS l n e b) Q:=by
  unfold ZfS
  simp only[hk _ hc rfl,Option.bind_some]
  exact Wp.ret (h _ (by simp))
 refine wp_loop (fun m (v:Int×Unit)=>∃i:Nat,v.1=i∧i+m=l.length) l.length _ (by omega) ⟨0,rfl,by omega⟩ (fun m v ⟨i,hi,hm⟩=>?_)
 obtain⟨v1,u⟩:=v
 simp only at hi
 subst hi
 by_cases hlt:i<l.length
 ·simp only[dec_lt hlt,if_true]
  refine Wp.bind (Zfp hlt ?_)
  have hx:=h2 _ (List.getElem_mem hlt)
  rw[if_neg (by simp only[Bool.not_eq_true',Bool.and_eq_false_iff,decide_eq_false_iff_not];omega)]
  simp only[ZaW hlt (show l.length<4611686018427387904 by omega)]
  exact Wp.ret (.inr ⟨m - 1,_,by omega,rfl,i+1,rfl,by omega⟩)
 ·have:i=l.length:=by omega
  subst this
  simp only[Za4,bF,if_false]
  exact Wp.bind (e1.mono fun r hr=>Wp.ret (.inl ⟨_,rfl,hr⟩))
end Go.AW.M

namespace Go.AW.M
open Go.RowKit Go.Proofs
set_option maxRecDepth 100000
theorem Zjs (n:Int):Zbo n=some (decide (n≥0)&&decide (n<6311433600),()):=by
 unfold Zbo
 simp only[gS,gA,gA',gB,gC,gD,gE,gF,gM,gAnd,gOr,Option.bind_some]
theorem Zih (n:Int):∃b,Zbb n=some (b,()):=by
 unfold Zbb
 simp only[gS,gA,gA',gB,gC,gD,gE,gF,gM,gAnd,gOr,Option.bind_some]
 exact⟨_,rfl⟩
theorem Zoi (b:List Int)(n e:Int)(hl:b.length≤2097152):∃r,Zcf b n e=some (r,()):=by
 obtain⟨sp,hsp⟩:=Zih e
 obtain⟨_,h,r,rfl⟩:Wp (Zcf b n e) (fun x=>∃r,x=(r,())):=by
  unfold Zcf
  simp only
  refine wp_loop (fun m (v:Int×Unit)=>∃i:Nat,v.1=i∧i+m=b.length) b.length _ (by omega) ⟨0,rfl,by omega⟩ (fun m v ⟨i,hi,hm⟩=>?_)
  obtain⟨v1,u⟩:=v
  simp only at hi
  subst hi
  by_cases hlt:i<b.length
  ·simp only[dec_lt hlt,if_true,Zjs,Option.bind_some]
   refine Wp.bind (Zfp hlt (Wp.ite (fun _=>Wp.ret (.inl ⟨_,rfl,_,rfl⟩)) (fun _=>Wp.ret (.inr ⟨m - 1,(((i+1:Nat):Int),()),by omega,?_,i+1,rfl,by omega⟩))))
   rw[ZaW hlt (by omega)];rfl
  ·have:i=b.length:=by omega
   subst this
   simp only[Za4,bF,if_false]
   unfold Zfo
   simp only[Zjs,hsp,gS,gA,gA',gB,gC,gD,gE,gF,gM,gAnd,gOr,Option.bind_some]
   exact Wp.ret (.inl ⟨_,rfl,_,rfl⟩)
 exact⟨r,h⟩
theorem ZlN (b:List Int)(n e:Int)(hl:b.length≤2097152):∃l,Zb6 b n e=some (l,())∧l.length≤b.length:=by
 obtain⟨r,hr⟩:=Zoi b n e hl
 obtain⟨_,h,l,rfl,h2⟩:Wp (Zb6 b n e) (fun x=>∃l:List Int,x=(l,())∧l.length≤b.length):=by
  unfold Zb6
  simp only[hr,Option.bind_some]
  refine Wp.ite (fun _=>Wp.ret ⟨_,rfl,by simp⟩) (fun _=>?_)
  refine wp_loop (fun m (v:Int×List Int×Unit)=>∃i:Nat,v.1=i∧i+m=b.length∧v.2.1.length≤i) b.length _ (by omega) ⟨0,rfl,by omega,by simp⟩ (fun m v ⟨i,hi,hm,ha⟩=>?_)
  obtain⟨v1,acc,u⟩:=v
  simp only at hi ha
  subst hi
  by_cases hlt:i<b.length
  ·simp only[dec_lt hlt,if_true]
   refine Wp.bind (Zfp hlt ?_)
   generalize b[i]=x
   by_cases h1:x≤n
   ·by_cases h2:e=1099511627776
    ·simp only[h1,h2,decide_true,beq_self_eq_true,if_true,Option.bind_some,Bool.not_true,bF,if_false,apN,List.length_singleton,ZaW hlt (show b.length<4611686018427387904 by omega)]
     rw[if_pos ⟨by omega,by omega⟩]
     exact Wp.ret (.inr ⟨m - 1,_,by omega,rfl,i+1,rfl,by omega,by simp;omega⟩)
    ·have h2':(e==1099511627776)=false:=by simpa using h2
     simp only[h1,h2',decide_true,if_true,Option.bind_some,Bool.not_false,bF,if_false,apN,List.length_singleton,ZaW hlt (show b.length<4611686018427387904 by omega)]
     refine Wp.ite (fun _=>?_) (fun _=>Wp.ret (.inr ⟨m - 1,_,by omega,rfl,i+1,rfl,by omega,by simp;omega⟩))
     rw[if_pos ⟨by omega,by omega⟩]
     exact Wp.ret (.inr ⟨m - 1,_,by omega,rfl,i+1,rfl,by omega,by simp;omega⟩)
   ·have h1':decide (x≤n)=false:=by simpa using h1
    simp only[h1',bF,if_false,Option.bind_some,ZaW hlt (show b.length<4611686018427387904 by omega)]
    exact Wp.ret (.inr ⟨m - 1,_,by omega,rfl,i+1,rfl,by omega,by simp;omega⟩)
  ·have:i=b.length:=by omega
   subst this
   simp only[Za4,bF,if_false]
   exact Wp.ret (.inl ⟨_,rfl,acc,rfl,ha⟩)
 exact⟨l,h,h2⟩
section
variable {c0:Zac}{r0:Int}{k:Nat}{s:Zaa}{Q:Zaa×Unit→Prop}
theorem Pre.done (h:Pre c0 r0 k s){j:Nat}(hj:k≤j):Done c0 r0 j s.c:=⟨h.ci,h.sv,h.keep,by have:=h.rw.rows;omega,by have:=h.rw.rows;have:=h.rw.len;omega⟩
theorem Zqq {u:Zae}(h:Pre c0 r0 k s)(hk:k≤98)(hu:u=c0.U)(hf:u.Fit 2097152)(hst:s.c.State=0∨s.c.State=8∨s.c.State=9)(hat:s.c.Attempt≤1099511627776)(hb:s.c.Begins.length≤1048576)(hQ:∀s':Zaa,Done c0 r0 (k+2) s'.c→Q (s',())):Wp (Zb8 u s) Q:=by
 have hsv:=h.sv
 unfold Sv at hsv
 unfold Zb8
 simp only[Zd4 u hf,Option.bind_some]
 refine Wp.bind (keep_wp (by omega) fun l hl h1 h2=>?_)
 dsimp only
 refine Wp.bind (may_wp (by omega) h1 h2 fun r hr=>?_)
 dsimp only
 refine Wp.ite (fun hc=>?_) (fun hc=>?_)
 ·simp only[to_eq,Option.bind_some]
  refine Wp.bind (Fin.rowW (c0:=c0) (r0:=r0) (k:=k) ⟨⟨hu,h.ci.att,⟨show(0:Int)≤4 by decide,show(4:Int)≤4 by decide⟩,?_,h.ci.waits,h.ci.serves⟩,?_,fun _ h9=>absurd rfl h9,⟨h.rw.b,h.rw.rows,h.rw.len,h.rw.asks⟩⟩ (by omega) fun s' hs'=>Wp.ret (hQ _ (hs'.done (by omega))))
  ·simp only;omega
  ·simp only[Sv]
   refine⟨?_,?_,?_,?_,?_,?_,?_,?_,?_⟩ <;> first | omega | (simp;done) | (simp;omega)
 ·simp only[Bool.not_eq_false']at hc
  have hlt:=hr hc
  have hlen:(l++[s.now]).length=l.length+1:=by simp
  simp only[apN,List.length_singleton]
  rw[if_pos ⟨by omega,by omega⟩,Option.bind_some]
  refine Wp.bind (Zjo fun t=>?_)
  have hw:IntKind.i64.wrap (s.c.Attempt+1)=s.c.Attempt+1:=by have:=h.ci.att;exact ZaI (by omega) (by omega)
  obtain⟨l',hk1,hk2⟩:=ZlN (l++[s.now]) s.now u.Every (by omega)
  refine Wp.bind (G.rowW (c0:=c0) (r0:=r0) (k:=k) ⟨⟨hu,?_,⟨show(0:Int)≤0 by decide,show(0:Int)≤4 by decide⟩,?_,h.ci.waits,h.ci.serves⟩,fun _=>⟨s.now,l',?_,hk1,?_⟩,⟨h.rw.b,h.rw.rows,h.rw.len,h.rw.asks⟩,h.now,h.back⟩ (by omega) fun s' e1 e2 e3 e4 hs'=>?_)
  ·simp only[hw];have:=h.ci.att;omega
  ·simp only;omega
  ·simp only[hlen]
   rw[show IntKind.i64.wrap (((l.length+1:Nat):Int) - 1)=(l.length:Int)by rw[ZaI (by omega) (by omega)];omega]
   unfold ixN
   exact Zbt (by simp)
  ·simp only;omega
  ·refine Wp.bind (ZmS hs' (by omega) (by rw[e2];simp only;omega) (by rw[e3];simp only;omega) ?_ fun s2 hs2=>Wp.ret (hQ _ (hs2.done (Nat.le_refl _))))
   rw[e4]
   exact List.eq_nil_of_length_eq_zero (by simp only;omega)
theorem stop_wp (h:Pre c0 r0 k s)(hk:k≤98)(hQ:∀s':Zaa,Done c0 r0 (k+1) s'.c→Q (s',())):Wp (Zcq s) Q:=by
 have hsv:=h.sv
 unfold Sv at hsv
 have hz:(z3:Zal).Part=0:=rfl
 have hF:∀s',Fin c0 r0 (k+1) s'→Q (s',()):=fun s' hs'=>hQ s' (hs'.done (Nat.le_refl _))
 have e3:(s.c.State=4∨s.c.State=5)→Wp (Zcs s) Q:=fun he=>by
  have hg:=h.g (by omega) (by omega)
  unfold Zcs Zeb Zec
  simp only[to_eq,Zgk,Option.bind_some]
  refine Wp.ite (fun _=>?_) (fun _=>?_)
  ·exact Wp.bind (ZgH (c0:=c0) (r0:=r0) (k:=k) ⟨⟨hg.ci.U,hg.ci.att,hg.ci.res,hg.ci.beg,hg.ci.waits,hg.ci.serves⟩,hg.keep,⟨hg.rw.b,hg.rw.rows,hg.rw.len,hg.rw.asks⟩,hg.now,hg.back⟩ (by omega) (by simp only;omega) fun s' hs'=>Wp.ret (hF _ hs'))
  ·refine Wp.bind (Zjo fun t=>Wp.bind (Fin.rowW (c0:=c0) (r0:=r0) (k:=k) ⟨⟨hg.ci.U,hg.ci.att,hg.ci.res,hg.ci.beg,hg.ci.waits,hg.ci.serves⟩,?_,fun _ _=>hg.keep,⟨hg.rw.b,hg.rw.rows,hg.rw.len,hg.rw.asks⟩⟩ (by omega) fun s' hs'=>Wp.ret (hF _ hs')))
   simp only[Sv]
   refine⟨?_,?_,?_,?_,?_,?_,?_,?_,?_⟩ <;> first | omega | (simp;done) | (simp;omega)
 have ee:(s.c.State=1∨s.c.State=2∨s.c.State=3)→Wp ((ZaL { s with c:={ s.c with Wish:=true } }).bind fun r=>some (r.1,())) Q:=fun he=>by
  have hg:=h.g (by omega) (by omega)
  exact Wp.bind (ZgH (c0:=c0) (r0:=r0) (k:=k) ⟨⟨hg.ci.U,hg.ci.att,hg.ci.res,hg.ci.beg,hg.ci.waits,hg.ci.serves⟩,hg.keep,⟨hg.rw.b,hg.rw.rows,hg.rw.len,hg.rw.asks⟩,hg.now,hg.back⟩ (by omega) (by simp only;omega) fun s' hs'=>Wp.ret (hF _ hs'))
 unfold Zcq
 simp only[gS,gA,gA',gB,gC,gD,gE,gF,gM,gAnd,gOr,to_eq,Option.bind_some]
 refine Wp.ite (fun he=>Wp.ret (hQ _ (h.done (by omega)))) (fun h09=>Wp.ite (fun he=>?_) (fun _=>Wp.ite (fun he=>?_) (fun _=>Wp.ite (fun he=>?_) (fun _=>Wp.ite (fun he=>?_) (fun _=>Wp.ite (fun he=>?_) (fun _=>Wp.ite (fun he=>?_) (fun _=>?_)))))))
 ·simp only[beq_iff_eq]at he
  have hg:=h.g (by omega) (by omega)
  exact Wp.bind (Fin.rowW (Znn (c0:=c0) (r0:=r0) (k:=k) ⟨hg.ci.U,hg.ci.att,hg.ci.res,hg.ci.beg,hg.ci.waits,hg.ci.serves⟩ hg.keep ⟨hg.rw.b,hg.rw.rows,hg.rw.len,hg.rw.asks⟩ (.inl rfl) (by simp only;omega) (by simp only;omega) (List.eq_nil_of_length_eq_zero (by simp only;omega))) (by omega) fun s' hs'=>Wp.ret (hF _ hs'))
 ·simp only[beq_iff_eq]at he;exact ee (.inl he)
 ·simp only[beq_iff_eq]at he;exact ee (.inr (.inl he))
 ·simp only[beq_iff_eq]at he;exact ee (.inr (.inr he))
 ·simp only[beq_iff_eq]at he;exact e3 (.inl he)
 ·simp only[beq_iff_eq]at he;exact e3 (.inr he)
 ·exact Wp.ret (hQ _ ⟨⟨h.ci.U,h.ci.att,h.ci.res,h.ci.beg,h.ci.waits,h.ci.serves⟩,h.sv,h.keep,by have:=h.rw.rows;simp only;omega,by have:=h.rw.rows;have:=h.rw.len;simp only;omega⟩)
theorem ZoX (h:Pre c0 r0 k s)(hk:k≤98)(hs:s.c.State=4)(hQ:∀s':Zaa,Done c0 r0 (k+1) s'.c→Q (s',())):Wp (Zb0 s) Q:=by
 have hsv:=h.sv
 unfold Sv at hsv
 have hF:∀s',Fin c0 r0 (k+1) s'→Q (s',()):=fun s' hs'=>hQ s' (hs'.done (Nat.le_refl _))
 have hg:=h.g (by omega) (by omega)
 unfold Zb0
 simp only[to_eq,Zgk,Option.bind_some]
 refine Wp.ite (fun _=>Wp.ret (hQ _ ⟨⟨h.ci.U,h.ci.att,h.ci.res,h.ci.beg,h.ci.waits,h.ci.serves⟩,h.sv,h.keep,by have:=h.rw.rows;simp only;omega,by have:=h.rw.rows;have:=h.rw.len;simp only;omega⟩)) (fun _=>?_)
 refine Wp.bind (Zjo fun t=>Wp.bind (Fin.rowW (c0:=c0) (r0:=r0) (k:=k) ⟨⟨hg.ci.U,hg.ci.att,hg.ci.res,hg.ci.beg,hg.ci.waits,hg.ci.serves⟩,?_,fun _ _=>hg.keep,⟨hg.rw.b,hg.rw.rows,hg.rw.len,hg.rw.asks⟩⟩ (by omega) fun s' hs'=>Wp.ret (hF _ hs')))
 simp only[Sv]
 refine⟨?_,?_,?_,?_,?_,?_,?_,?_,?_⟩ <;> first | omega | (simp;done) | (simp;omega)
end
end Go.AW.M

namespace Go.AW.M
open Go.RowKit Go.Proofs
set_option maxRecDepth 100000
theorem ZhN {l:List Zad}{n m:Nat}(h:l.length≤n∧∀a∈l,Zad.Fit n a)(hl:n≤m):l.length≤m∧∀a∈l,Zad.Fit m a:=⟨Nat.le_trans h.1 hl,fun a ha=>Nat.le_trans (h.2 a ha) hl⟩
theorem Zii {u:Zae}{n m:Nat}(h:u.Fit n)(hl:n≤m):u.Fit m:=by
 obtain⟨h1,h2,h3,h4,h5,h6,h7,h8,h9,h10,h11,h12,h13,h14,h15,h16,h17,h18⟩:=h
 exact⟨Nat.le_trans h1 hl,ZhN h2 hl,ZhN h3 hl,ZhN h4 hl,ZhN h5 hl,ZhN h6 hl,Nat.le_trans h7 hl,Nat.le_trans h8 hl,Nat.le_trans h9 hl,Nat.le_trans h10 hl,Nat.le_trans h11 hl,Nat.le_trans h12 hl,Nat.le_trans h13 hl,Nat.le_trans h14 hl,Nat.le_trans h15 hl,Nat.le_trans h16 hl,Nat.le_trans h17 hl,Nat.le_trans h18 hl⟩
structure SI (c0:Zac)(n:Int)(c:Zac):Prop where
 ci:CI c0 c
 sv:Sv c
 keep:c.State≠0→c.State≠9→KeepOk c
 rows:0≤c.Rows∧c.Rows≤n
theorem SI.fit {c0 c:Zac}{n:Int}(h:SI c0 n c)(hu:c0.U.Fit 1048576):c.Fit 2097152:=by
 refine⟨by rw[h.ci.U];exact Zii hu (by decide),?_,?_,?_⟩
 ·have:=h.ci.beg;omega
 ·have:=h.ci.serves.1;omega
 ·rw[h.ci.waits];simp
theorem SI.pre {c0 c:Zac}{n now:Int}{w:Zaf}(h:SI c0 n c)(hn:n≤4398046511104)(ht:0≤now):Pre c0 c.Rows 0 ⟨w,c,now,⟨[],[],[],false,false⟩⟩:=
 ⟨h.ci,h.sv,h.keep,⟨⟨h.rows.1,by have:=h.rows.2;omega⟩,by simp,by simp,rfl⟩,ht,rfl⟩
theorem SI.of_done {c0 c c':Zac}{n:Int}{k:Nat}(h:SI c0 n c)(hd:Done c0 c.Rows k c'):SI c0 (n+k) c':=
 ⟨hd.ci,hd.sv,hd.keep,by have:=hd.rows;have:=h.rows;omega⟩
theorem ZoY {c0 c:Zac}{n now:Int}{w:Zaf}(h:SI c0 n c)(hn:n≤4398046511104)(ht:0≤now)(hw:w.Fit 1048576)(hu:c0.U.Fit 1048576):Wp (ZdD w c now) fun r=>SI c0 (n+1) r.1:=by
 have hsu:c.U.Success.length≤1048576:=by rw[h.ci.U];exact hu.2.2.2.2.2.2.1
 have hp:Pre c0 c.Rows 0 ⟨w,c,now,⟨[],[],[],false,false⟩⟩:=h.pre hn ht
 obtain⟨na,wa,hda⟩:=Znp (r:=c.Aux) (s:=⟨w,c,now,⟨[],[],[],false,false⟩⟩) hw
 obtain⟨nm,wm,hdm⟩:=Znp (r:=c.Main) (s:=⟨w,c,now,⟨[],[],[],false,false⟩⟩) hw
 obtain⟨nu,hun⟩:=Zqo (s:=⟨w,c,now,⟨[],[],[],false,false⟩⟩) h.ci.serves.1
 have hd:∀c',Done c0 c.Rows (0+1) c'→SI c0 (n+1) c':=fun c' hc'=>h.of_done hc'
 refine Zqp (ZbC c (h.fit hu)) (ZoQ hda) (Zof hdm) hun ?_ ?_ ?_ ?_ ?_ ?_ ?_ ?_ ?_
 ·exact⟨h.ci,h.sv,h.keep,by have:=h.rows;simp only;omega⟩
 ·intro e;subst e;exact Zog hp (by decide) hda fun s' hs'=>hd _ hs'
 ·intro e;subst e;exact ZmU hp (by decide) hdm fun s' hs'=>hd _ hs'
 ·intro e;subst e;exact ZlG hp (by decide) hdm fun s' hs'=>hd _ hs'
 ·intro e;subst e;exact ZmV hp hda fun s' hs'=>hd _ hs'
 ·intro e;subst e;exact Zoh hp (by decide) hda fun s' hs'=>hd _ hs'
 ·intro e;subst e;exact ZmW hp hsu (by decide) hdm fun s' hs'=>hd _ hs'
 ·intro e;exact ZoS hp (by decide) e fun s' hs'=>hd _ hs'
 ·exact over_wp hp (by decide) fun s' hs'=>hd _ hs'
theorem ZoZ {c0:Zac}{n typ now:Int}{w:Zaf}(h:SI c0 n c0)(hn:n≤4398046511104)(ht:0≤now)(hu:c0.U.Fit 1048576)(hat:c0.Attempt≤1099511627776)(hb:c0.Begins.length≤1048576):Wp (Zd2 w c0.U c0 typ now) fun r=>SI c0 (n+2) r.1:=by
 have hp:Pre c0 c0.Rows 0 ⟨w,c0,now,⟨[],[],[],false,false⟩⟩:=h.pre hn ht
 have ez:z6.out=⟨[],[],[],false,false⟩:=rfl
 unfold Zd2
 simp only[gS,gA,gA',gB,gC,gD,gE,gF,gM,gAnd,gOr,ZbC c0 (h.fit hu),ez,Option.bind_some]
 refine Wp.ite (fun hc=>?_) (fun _=>Wp.ite (fun _=>?_) (fun _=>Wp.ite (fun hc=>?_) (fun _=>Wp.ret ?_)))
 ·simp only[bA,Bool.or_eq_true,beq_iff_eq]at hc
  exact Wp.bind (Zqq hp (by decide) rfl (Zii hu (by decide)) (by simp only;omega) hat hb fun s' hs'=>Wp.ret (h.of_done hs'))
 ·exact Wp.bind (stop_wp hp (by decide) fun s' hs'=>Wp.ret (by have:=h.of_done hs';exact⟨this.ci,this.sv,this.keep,by have:=this.rows;simp only at *;omega⟩))
 ·simp only[bA,beq_iff_eq]at hc
  exact Wp.bind (ZoX hp (by decide) hc.2 fun s' hs'=>Wp.ret (by have:=h.of_done hs';exact⟨this.ci,this.sv,this.keep,by have:=this.rows;simp only at *;omega⟩))
 ·exact⟨h.ci,h.sv,h.keep,by have:=h.rows;simp only;omega⟩
theorem Zjt (v32:Int):∃n,Zce v32=some (n,()):=by
 unfold Zce
 try simp only
 repeat' first
  | exact⟨_,rfl⟩
  | split
theorem ZmX (v32:Int)(v18:Int):∃n,Zda v32 v18=some (n,()):=by
 unfold Zda
 try simp only
 repeat' first
  | exact⟨_,rfl⟩
  | split
theorem Zo0 (v18:Int)(v32:Int):∃n,ZdG v18 v32=some (n,()):=by
 unfold ZdG
 try simp only
 repeat' first
  | exact⟨_,rfl⟩
  | exact Zjt _ 
  | exact ZmX _ _ 
  | split
theorem sdue_e4 (v18:Int)(v9:Int)(v32:Int):∃n,Zf1 v18 v9 v32=some (n,()):=by
 unfold Zf1
 try simp only
 repeat' first
  | exact⟨_,rfl⟩
  | exact Zo0 _ _ 
  | split
theorem Zo1 (v18:Int)(v32:Int):∃n,Zew v18 v32=some (n,()):=by
 unfold Zew
 try simp only
 repeat' first
  | exact⟨_,rfl⟩
  | exact Zjt _ 
  | exact Zo0 _ _ 
  | split
theorem sdue_e6 (v9:Int)(v18:Int)(v32:Int):∃n,Zf2 v9 v18 v32=some (n,()):=by
 unfold Zf2
 try simp only
 repeat' first
  | exact⟨_,rfl⟩
  | exact sdue_e4 _ _ _ 
  | exact Zo1 _ _ 
  | split
theorem Zo2 (v18:Int)(v9:Int)(v32:Int):∃n,ZdH v18 v9 v32=some (n,()):=by
 unfold ZdH
 try simp only
 repeat' first
  | exact⟨_,rfl⟩
  | exact ZmX _ _ 
  | split
theorem ZkV (v18:Int)(v32:Int):∃n,Zdb v18 v32=some (n,()):=by
 unfold Zdb
 try simp only
 repeat' first
  | exact⟨_,rfl⟩
  | exact Zjt _ 
  | exact ZmX _ _ 
  | split
theorem ZkW (v9:Int)(v18:Int)(v32:Int):∃n,Zdc v9 v18 v32=some (n,()):=by
 unfold Zdc
 try simp only
 repeat' first
  | exact⟨_,rfl⟩
  | exact Zo2 _ _ _ 
  | exact ZkV _ _ 
  | split
theorem ZkX (v28:Bool)(v9:Int)(v18:Int)(v32:Int):∃n,Zdm v28 v9 v18 v32=some (n,()):=by
 unfold Zdm
 try simp only
 repeat' first
  | exact⟨_,rfl⟩
  | exact sdue_e6 _ _ _ 
  | exact ZkW _ _ _ 
  | split
theorem ZnA (v28:Bool)(v9:Int)(v32:Int):∃n,ZdX v28 v9 v32=some (n,()):=by
 unfold ZdX
 try simp only
 repeat' first
  | exact⟨_,rfl⟩
  | exact Zo1 _ _ 
  | exact ZkV _ _ 
  | split
theorem ZnB (v25:Bool)(v28:Bool)(v9:Int)(v18:Int)(v32:Int):∃n,Zdn v25 v28 v9 v18 v32=some (n,()):=by
 unfold Zdn
 try simp only
 repeat' first
  | exact⟨_,rfl⟩
  | exact ZkX _ _ _ _ 
  | exact ZnA _ _ _ 
  | split
theorem Zqr (v22:Bool)(v28:Bool)(v9:Int)(v18:Int)(v32:Int)(v25:Bool):∃n,Zdo v22 v28 v9 v18 v32 v25=some (n,()):=by
 unfold Zdo
 try simp only
 repeat' first
  | exact⟨_,rfl⟩
  | exact ZkX _ _ _ _ 
  | exact ZnB _ _ _ _ _ 
  | split
theorem Zqs (v18:Int)(v9:Int)(v39:Int)(v40:Int):∃n,ZfE v18 v9 v39 v40=some (n,()):=by
 unfold ZfE
 try simp only
 repeat' first
  | exact⟨_,rfl⟩
  | exact Zo2 _ _ _ 
  | split
theorem Zqt (v9:Int)(v18:Int)(v39:Int)(v40:Int):∃n,ZfF v9 v18 v39 v40=some (n,()):=by
 unfold ZfF
 try simp only
 repeat' first
  | exact⟨_,rfl⟩
  | exact ZkW _ _ _ 
  | exact Zqs _ _ _ _ 
  | split
theorem ZkY (v28:Bool)(v9:Int)(v18:Int)(v39:Int)(v40:Int):∃n,Zdp v28 v9 v18 v39 v40=some (n,()):=by
 unfold Zdp
 try simp only
 repeat' first
  | exact⟨_,rfl⟩
  | exact ZkW _ _ _ 
  | exact Zqt _ _ _ _ 
  | split
theorem ZnC (v28:Bool)(v9:Int)(v39:Int)(v40:Int):∃n,ZdY v28 v9 v39 v40=some (n,()):=by
 unfold ZdY
 try simp only
 repeat' first
  | exact⟨_,rfl⟩
  | exact ZkV _ _ 
  | exact ZkW _ _ _ 
  | split
theorem ZnD (v25:Bool)(v28:Bool)(v9:Int)(v18:Int)(v39:Int)(v40:Int):∃n,Zdq v25 v28 v9 v18 v39 v40=some (n,()):=by
 unfold Zdq
 try simp only
 repeat' first
  | exact⟨_,rfl⟩
  | exact ZkY _ _ _ _ _ 
  | exact ZnC _ _ _ _ 
  | split
theorem Zqu (v22:Bool)(v28:Bool)(v9:Int)(v18:Int)(v39:Int)(v40:Int)(v25:Bool):∃n,Zdr v22 v28 v9 v18 v39 v40 v25=some (n,()):=by
 unfold Zdr
 try simp only
 repeat' first
  | exact⟨_,rfl⟩
  | exact ZkY _ _ _ _ _ 
  | exact ZnD _ _ _ _ _ _ 
  | split
theorem Zqv (v32:List Zao)(v36:Int)(v1:Zac)(v20:Bool)(v21:Bool)(v28:Bool)(v9:Int)(v18:Int)(v22:Bool)(v25:Bool)(v23:Bool)(v24:Bool){i:Nat}(hi:v36=(i:Int))(hl:i<v32.length):∃n,ZfG v32 v36 v1 v20 v21 v28 v9 v18 v22 v25 v23 v24=some (n,()):=by
 subst hi
 unfold ZfG
 rw[show ixN v32 (i:Int)=some v32[i] from Zbt (gG hl)]
 simp only[Option.bind_some]
 repeat' first
  | exact Zjt _ 
  | exact ZkV _ _ 
  | exact ZkY _ _ _ _ _ 
  | exact ZnC _ _ _ _ 
  | exact ZnD _ _ _ _ _ _ 
  | exact Zqu _ _ _ _ _ _ _ 
  | split
theorem sDue_ex {c:Zac}{w:Zaf}(hw:w.Fit 1048576)(hs:c.Serves.length≤1048576):∃n,Zef w c=some (n,()):=by
 obtain⟨_,h,n,rfl⟩:Wp (Zef w c) (fun x=>∃n,x=(n,())):=by
  unfold Zef
  refine Wp.bind (ZmT hw fun a ha=>Wp.bind (ZoN fun na wa _ _=>Wp.bind (ZmT hw fun b hb=>Wp.bind (ZoN fun nm wm _ _=>?_))))
  simp only
  refine Wp.ite (fun _=>?_) (fun h0=>?_)
  ·have key:∀{o:Option (Int×Unit)},(∃n,o=some (n,()))→Wp o (fun x=>∃n,x=(n,())):=fun⟨n,h⟩=>⟨_,h,n,rfl⟩
   refine key ?_
   repeat' first
    | exact Zjt _ 
    | exact ZkX _ _ _ _ 
    | exact ZnA _ _ _ 
    | exact ZnB _ _ _ _ _ 
    | exact Zqr _ _ _ _ _ _ 
    | split
  ·simp only[beq_eq_false_iff_ne,ne_eq]at h0
   simp only[gS,gA,gA',gB,gC,gD,gE,gF,gM,gAnd,gOr,Option.bind_some]
   refine wp_loop (fun m (v:Int×Int×Unit)=>∃i j:Nat,v.1=i∧i+m=c.Serves.length∧v.2.1=j∧j<c.Serves.length) c.Serves.length _ (by omega) ⟨0,0,rfl,by omega,rfl,by omega⟩ (fun m v ⟨i,j,hi,hm,hj,hjl⟩=>?_)
   obtain⟨v1,v2,u⟩:=v
   simp only at hi hj
   subst hi hj
   by_cases hlt:i<c.Serves.length
   ·simp only[dec_lt hlt,if_true,ZaW hlt (show c.Serves.length<4611686018427387904 by omega)]
    refine Wp.bind (Zfp hlt ?_)
    refine Wp.bind (Zfp hjl ?_)
    exact Wp.ite (fun _=>Wp.ret (.inr ⟨m - 1,(((i+1:Nat):Int),(i:Int),()),by omega,rfl,i+1,i,rfl,by omega,rfl,hlt⟩)) (fun _=>Wp.ret (.inr ⟨m - 1,(((i+1:Nat):Int),(j:Int),()),by omega,rfl,i+1,j,rfl,by omega,rfl,hjl⟩))
   ·have:i=c.Serves.length:=by omega
    subst this
    simp only[Za4,bF,if_false]
    obtain⟨n,hn⟩:=Zqv c.Serves (j:Int) c (wa==1) (wm==1) (decide (((List.length c.Serves:Nat):Int)>0)) na nm (wm==2) (wm==3) (wa==2) (wa==3) rfl hjl
    rw[hn,Option.bind_some]
    exact Wp.ret (.inl ⟨_,rfl,_,rfl⟩)
 exact⟨n,h⟩
end Go.AW.M

namespace Go.AW.M
open Go.RowKit Go.Proofs
set_option maxRecDepth 100000
theorem Za9 {A B:Type}{f:A→Option (A⊕B)}(I:Nat→A→Prop){Q:B→Prop}(n:Nat)(v:A)(hn:n<4611686018427387904)(h0:I n v)
  (h:∀m v,I m v→Wp (f v) fun r=>(∃b,r=.inr b∧Q b)∨∃m' v',m'<m∧r=.inl v'∧I m' v'):Wp (loopS f v) Q:=
 Zj7 I n v hn h0 fun m v hI=>Zqf (h m v hI)
theorem ZgJ {α:Type}{xs:List α}{i:Nat}{Q:α→Prop}(h:i<xs.length)(hQ:Q xs[i]):Wp (ixN xs (i:Int)) Q:=by
 refine Wp.of (r:=xs[i]) ?_ hQ
 unfold ixN
 exact Zbt (gG h)
theorem half_eq {x:Nat}(h:x≤1099511627776):(if 0≤(1:Int)then some (Int.fdiv (IntKind.u64.wrap (IntKind.i64.wrap (x:Int))) (2 ^ (min ((1:Int)).toNat (IntKind.bits .u64))))else none:Option Int)=some ((x / 2:Nat):Int):=by
 have e1:IntKind.i64.wrap (x:Int)=x:=ZaI (by omega) (by omega)
 have e2:IntKind.u64.wrap (x:Int)=x:=by rw[IntKind.wrap_u64];omega
 have e3:(2:Int) ^ (min ((1:Int)).toNat (IntKind.bits .u64))=2:=by decide
 rw[if_pos (by decide),e1,e2,e3]
 congr 1
 rw[Int.fdiv_eq_ediv_of_nonneg _ (by decide)]
 omega
theorem Zi0 {n:Nat}(h:n≤1099511627776):IntKind.i64.wrap (n:Int)=n:=ZaI (by omega) (by omega)
def Srt (xs:List Zah):Prop:=∀(i j:Nat) (x y:Zah),i≤j→xs[i]?=some x→xs[j]?=some y→x.At≤y.At
theorem Srt.le {xs:List Zah}(h:Srt xs){i j:Nat}(hij:i≤j)(hi:i<xs.length)(hj:j<xs.length):xs[i].At≤xs[j].At:=h i j _ _ hij (gG hi) (gG hj)
theorem ZnE {xs:List Zah}{a b:Nat}{Q:Unit→Prop}(hs:Srt xs)(hl:xs.length≤1048576)(hb:b≤xs.length)(ha:a≤xs.length)(hQ:Q ()):Wp (ZaG xs a b) Q:=by
 unfold ZaG ZaV
 simp only
 rw[ZaI (by omega) (by omega)]
 refine Za9 (fun m (v:Int×Unit)=>∃i:Nat,v.1=i∧a+1≤i∧m=b+1 - i) (b+1 - (a+1)) _ (by omega) ⟨a+1,rfl,Nat.le_refl _,rfl⟩ (fun m v ⟨i,hi,hai,hm⟩=>?_)
 obtain⟨v1,u⟩:=v
 simp only at hi
 subst hi
 by_cases hlt:i<b
 ·simp only[dec_lt hlt,if_true]
  refine Za9 (fun m (v:Int×Unit)=>v.1=(i:Int)) 1 _ (by decide) rfl (fun m2 v hv=>?_)
  obtain⟨v2,u2⟩:=v
  simp only at hv
  subst hv
  have hd:decide ((i:Int)>(a:Int))=true:=by simp;omega
  obtain⟨j,rfl⟩:∃j,i=j+1:=⟨i - 1,by omega⟩
  have hw:IntKind.i64.wrap (((j+1:Nat):Int) - 1)=(j:Int):=by rw[ZaI (by omega) (by omega)];omega
  have h1:ixN xs ((j+1:Nat):Int)=some xs[j+1]:=by unfold ixN;exact Zbt (gG (by omega))
  have h2:ixN xs (j:Int)=some xs[j]:=by unfold ixN;exact Zbt (gG (by omega))
  have hle:=hs.le (i:=j) (j:=j+1) (by omega) (by omega) (by omega)
  have hw2:IntKind.i64.wrap (((j+1:Nat):Int)+1)=((j+1+1:Nat):Int):=by rw[ZaI (by omega) (by omega)];rfl
  simp only[hd,hw,h1,h2,if_true,Option.bind_some]
  rw[if_neg (by simp;omega)]
  have fin:∀{m':Nat},m'=b+1 - (j+1+1)→((∃b',(Sum.inr (Sum.inl (((j+1+1:Nat):Int),())):(Int×Unit)⊕((Int×Unit)⊕Unit))=.inr b'∧((∃b,b'=.inr b∧Q b)∨∃m' v',m'<m∧b'=.inl v'∧∃i:Nat,v'.1=i∧a+1≤i∧m'=b+1 - i))):=fun hm'=>
   ⟨_,rfl,.inr ⟨b+1 - (j+1+1),_,by omega,rfl,j+1+1,rfl,by omega,rfl⟩⟩
  simp only[hw2]
  exact Wp.ite (fun _=>Wp.ret (.inl (fin rfl))) (fun _=>Wp.ret (.inl (fin rfl)))
 ·rw[if_neg (by simp;omega)]
  exact Wp.ret (.inl ⟨_,rfl,hQ⟩)
theorem Zi1 {x y:Nat}(h:x+y≤1099511627776):(if 0≤(1:Int)then some (Int.fdiv (IntKind.u64.wrap (IntKind.i64.wrap ((x:Int)+(y:Int)))) (2 ^ (min ((1:Int)).toNat (IntKind.bits .u64))))else none:Option Int)=some (((x+y) / 2:Nat):Int):=half_eq h
theorem ixC {α:Type}{xs:List α}{i:Nat}(h:i<xs.length):ixN xs (i:Int)=some xs[i]:=by unfold ixN;exact Zbt (gG h)
theorem e4_wp {xs:List Zah}{st r:Nat}{p:Int}{Q:(Int×Int×Unit)⊕((Int×Int×Unit)⊕Unit)→Prop}(hs:Srt xs)(hl:xs.length≤1048576)(hlt:st<r)(hr:r≤xs.length)(hp:∀c:Nat,st≤c→c<r→∃q:Nat,p - c=q∧c≤q∧q<xs.length)
  (h:True):∃c:Nat,st≤c∧c<r∧ZaS st r p xs=some (Sum.inl (((c+1:Nat):Int),(r:Int),())):=by
 obtain⟨q,h1,h2,h3⟩:=hp ((st+r) / 2) (by omega) (by omega)
 refine⟨(st+r) / 2,by omega,by omega,?_⟩
 unfold ZaS Za5
 have hle:=hs.le h2 (by omega) h3
 have hw:IntKind.i64.wrap (p - (((st+r) / 2:Nat):Int))=(q:Int):=by rw[ZaI (by omega) (by omega)];exact h1
 have hw2:IntKind.i64.wrap ((((st+r) / 2:Nat):Int)+1)=(((st+r) / 2+1:Nat):Int):=by rw[ZaI (by omega) (by omega)];omega
 simp only[Zi1 (show st+r≤1099511627776 by omega),Option.bind_some,Zi0 (show(st+r) / 2≤1099511627776 by omega),hw,ixC h3,ixC (show(st+r) / 2<xs.length by omega),hw2]
 rw[if_neg (by simp;omega)]
 split <;> rfl
theorem ZlO {xs:List Zah}{st r:Nat}{p:Int}{K:Int→Option ((Int×Int×Unit)⊕Unit)}{Q:Unit→Prop}(hs:Srt xs)(hl:xs.length≤1048576)(hle:st≤r)(hr:r≤xs.length)(hp:∀c:Nat,st≤c→c<r→∃q:Nat,p - c=q∧c≤q∧q<xs.length)
  (hK:Wp (K r) fun x=>∃u,x=.inr u∧Q u) {f:Int×Int×Unit→Option ((Int×Int×Unit)⊕Unit)} (hf:∀s,f s=if decide (s.1<s.2.1)=true then ZaS s.1 s.2.1 p xs else K s.1):Wp (loopS f ((st:Int),(r:Int),())) Q:=by
 refine Za9 (fun m (v:Int×Int×Unit)=>∃i:Nat,v.1=i∧v.2.1=(r:Int)∧st≤i∧i≤r∧m=r - i) (r - st) _ (by omega) ⟨st,rfl,rfl,Nat.le_refl _,hle,rfl⟩ (fun m v ⟨i,hi,hv2,h1,h2,hm⟩=>?_)
 obtain⟨v1,v2,u⟩:=v
 simp only at hi hv2
 subst hi hv2
 rw[hf]
 simp only
 by_cases hlt:i<r
 ·simp only[dec_lt hlt,if_true]
  obtain⟨c,h3,h4,h5⟩:=e4_wp (Q:=fun _=>True) hs hl hlt hr (fun c hc=>hp c (by omega)) trivial
  rw[h5]
  exact Wp.ret (.inr ⟨r - (c+1),_,by omega,rfl,c+1,rfl,rfl,by omega,by omega,rfl⟩)
 ·have:i=r:=by omega
  subst this
  rw[if_neg (by simp)]
  exact hK.mono fun x ⟨u,h1,h2⟩=>.inl ⟨u,h1,h2⟩
noncomputable def symF:=(fun(self:(List Zah)×Int×Int×Int×Unit→Option (Unit)) (a:(List Zah)×Int×Int×Int×Unit)=>ZaB self a.1 a.2.1 a.2.2.1 a.2.2.2.1)
theorem Zq8 {xs:List Zah}(hs:Srt xs)(hl:xs.length≤1048576):∀(d a m b:Nat),a≤m→m≤b→b≤xs.length→b - a≤d→iterF symF (d+1) (xs,(a:Int),(m:Int),(b:Int),())=some ()
 | d,a,m,b,ham,hmb,hb,hd=>by
  have ih:∀(a' m' b':Nat),a'≤m'→m'≤b'→b'≤xs.length→b' - a'<d→iterF symF d (xs,(a':Int),(m':Int),(b':Int),())=some ():=fun a' m' b' h1 h2 h3 h4=>by
   obtain⟨e,rfl⟩:∃e,d=e+1:=⟨d - 1,by omega⟩
   exact Zq8 hs hl e a' m' b' h1 h2 h3 (by omega)
  show ZaB (iterF symF d) xs (a:Int) (m:Int) (b:Int)=some ()
  suffices h:Wp (ZaB (iterF symF d) xs (a:Int) (m:Int) (b:Int)) fun _=>True by
   obtain⟨u,h1,-⟩:=h
   rw[h1]
  generalize iterF symF d=self at ih
  have w1:IntKind.i64.wrap ((m:Int) - (a:Int))=(m:Int) - a:=ZaI (by omega) (by omega)
  have w2:IntKind.i64.wrap ((b:Int) - (m:Int))=(b:Int) - m:=ZaI (by omega) (by omega)
  unfold ZaB
  simp only[w1,w2]
  refine Wp.ite (fun h=>?_) (fun _=>Wp.ite (fun h=>?_) (fun _=>?_))
  ·simp only[beq_iff_eq]at h
   refine Za9 (fun n (v:Int×Int×Unit)=>∃j:Nat,v.1=(m:Int)∧v.2.1=j∧m≤j∧j≤b∧n=j - m) (b - m) _ (by omega) ⟨b,rfl,rfl,hmb,Nat.le_refl _,rfl⟩ (fun n v ⟨j,h1,h2,h3,h4,h5⟩=>?_)
   obtain⟨v1,v2,u⟩:=v
   simp only at h1 h2
   subst h1 h2
   by_cases hlt:m<j
   ·simp only[dec_lt hlt,if_true,Zi1 (show m+j≤1099511627776 by omega),Option.bind_some,Zi0 (show(m+j) / 2≤1099511627776 by omega),ixC (show(m+j) / 2<xs.length by omega),ixC (show a<xs.length by omega)]
    have hle:=hs.le (i:=a) (j:=(m+j) / 2) (by omega) (by omega) (by omega)
    rw[if_neg (by simp;omega)]
    exact Wp.ite (fun _=>Wp.ret (.inr ⟨(m+j) / 2 - m,_,by omega,rfl,(m+j) / 2,rfl,rfl,by omega,by omega,rfl⟩)) (fun _=>Wp.ret (.inr ⟨(m+j) / 2 - m,_,by omega,rfl,(m+j) / 2,rfl,rfl,by omega,by omega,rfl⟩))
   ·rw[if_neg (by simp;omega)]
    refine Wp.bind (Q:=fun r=>_) ?_
    unfold Zct
    refine Za9 (fun n (v:Int×Unit)=>v.1=(a:Int)) 1 _ (by decide) rfl (fun n2 v hv=>?_)
    obtain⟨v2,u2⟩:=v
    simp only at hv
    subst hv
    have w3:IntKind.i64.wrap ((m:Int) - 1)=(a:Int):=by rw[ZaI (by omega) (by omega)];omega
    simp only[w3]
    rw[if_neg (by simp)]
    exact Wp.ret (.inl ⟨_,rfl,Wp.ret (.inl ⟨_,rfl,trivial⟩)⟩)
  ·simp only[beq_iff_eq]at h
   refine Za9 (fun n (v:Int×Int×Unit)=>∃i:Nat,v.1=i∧v.2.1=(m:Int)∧a≤i∧i≤m∧n=m - i) (m - a) _ (by omega) ⟨a,rfl,rfl,Nat.le_refl _,ham,rfl⟩ (fun n v ⟨i,h1,h2,h3,h4,h5⟩=>?_)
   obtain⟨v1,v2,u⟩:=v
   simp only at h1 h2
   subst h1 h2
   by_cases hlt:i<m
   ·simp only[dec_lt hlt,if_true,Zi1 (show i+m≤1099511627776 by omega),Option.bind_some,Zi0 (show(i+m) / 2≤1099511627776 by omega),ixC (show(i+m) / 2<xs.length by omega),ixC (show m<xs.length by omega)]
    have hle:=hs.le (i:=(i+m) / 2) (j:=m) (by omega) (by omega) (by omega)
    rw[if_neg (by simp;omega)]
    unfold Za5
    have hw2:IntKind.i64.wrap ((((i+m) / 2:Nat):Int)+1)=(((i+m) / 2+1:Nat):Int):=by rw[ZaI (by omega) (by omega)];omega
    simp only[hw2]
    exact Wp.ite (fun _=>Wp.ret (.inr ⟨m - ((i+m) / 2+1),_,by omega,rfl,(i+m) / 2+1,rfl,rfl,by omega,by omega,rfl⟩)) (fun _=>Wp.ret (.inr ⟨m - ((i+m) / 2+1),_,by omega,rfl,(i+m) / 2+1,rfl,rfl,by omega,by omega,rfl⟩))
   ·have:i=m:=by omega
    subst this
    rw[if_neg (by simp)]
    refine Wp.bind (Q:=fun r=>_) ?_
    unfold Zcu
    refine Za9 (fun n (v:Int×Unit)=>v.1=(i:Int)) 1 _ (by decide) rfl (fun n2 v hv=>?_)
    obtain⟨v2,u2⟩:=v
    simp only at hv
    subst hv
    rw[if_neg (by simp)]
    exact Wp.ret (.inl ⟨_,rfl,Wp.ret (.inl ⟨_,rfl,trivial⟩)⟩)
  ·simp only[Zi1 (show a+b≤1099511627776 by omega),Option.bind_some,Zi0 (show(a+b) / 2≤1099511627776 by omega)]
   generalize hmid:(a+b) / 2=mid
   have w3:IntKind.i64.wrap ((mid:Int)+(m:Int))=((mid+m:Nat):Int):=by rw[ZaI (by omega) (by omega)];omega
   have w4:IntKind.i64.wrap (((mid+m:Nat):Int) - 1)=((mid+m:Nat):Int) - 1:=ZaI (by omega) (by omega)
   have w5:IntKind.i64.wrap (((mid+m:Nat):Int) - (b:Int))=((mid+m:Nat):Int) - b:=ZaI (by omega) (by omega)
   simp only[w3,w4,w5]
   refine Wp.ite (fun hc=>?_) (fun hc=>?_)
   ·simp only[decide_eq_true_eq]at hc
    rw[show((mid+m:Nat):Int) - b=((mid+m - b:Nat):Int)by omega]
    refine ZlO (st:=mid+m - b) (r:=mid) (p:=((mid+m:Nat):Int) - 1) (K:=fun x=>ZaH self ((mid+m:Nat):Int) x m xs a mid b) hs hl (by omega) (by omega) (fun c h1 h2=>⟨mid+m - 1 - c,by omega,by omega,by omega⟩) ?_ (fun _=>rfl)
    have w6:IntKind.i64.wrap (((mid+m:Nat):Int) - (mid:Int))=(m:Int):=by rw[ZaI (by omega) (by omega)];omega
    unfold ZaH Zby Zbx Za6
    have d1:decide ((m:Int)<(m:Int))=false:=by simp
    have d2:decide ((mid:Int)<(mid:Int))=false:=by simp
    simp only[gS,gA,gA',gB,gC,gD,gE,gF,gM,gAnd,gOr,Option.bind_some,w6,d1,d2,Bool.and_false,bF,if_false]
    refine Wp.bind (Q:=fun r=>_) (Wp.ite (fun hc2=>?_) (fun _=>Wp.ret (Wp.ret ⟨_,rfl,trivial⟩)))
    simp only[bA,decide_eq_true_eq]at hc2
    rw[ih mid m b (by omega) hmb hb (by omega),Option.bind_some]
    exact Wp.ret (Wp.ret ⟨_,rfl,trivial⟩)
   ·simp only[decide_eq_false_iff_not]at hc
    refine ZlO (st:=a) (r:=m) (p:=((mid+m:Nat):Int) - 1) (K:=fun x=>ZaH self ((mid+m:Nat):Int) x m xs a mid b) hs hl (by omega) (by omega) (fun c h1 h2=>⟨mid+m - 1 - c,by omega,by omega,by omega⟩) ?_ (fun _=>rfl)
    have w6:IntKind.i64.wrap (((mid+m:Nat):Int) - (m:Int))=(mid:Int):=by rw[ZaI (by omega) (by omega)];omega
    unfold ZaH Zby Zbx Za6 Zbw
    have d1:decide ((m:Int)<(m:Int))=false:=by simp
    have d2:decide ((mid:Int)<(mid:Int))=false:=by simp
    simp only[gS,gA,gA',gB,gC,gD,gE,gF,gM,gAnd,gOr,Option.bind_some,w6,d1,d2,Bool.false_and,bF,if_false]
    refine Wp.bind (Q:=fun r=>_) (Wp.ite (fun hc2=>?_) (fun _=>Wp.ret (Wp.ret ⟨_,rfl,trivial⟩)))
    simp only[bA,decide_eq_true_eq]at hc2
    rw[ih a m mid ham (by omega) (by omega) (by omega),Option.bind_some]
    exact Wp.ret (Wp.ret ⟨_,rfl,trivial⟩)
theorem Zq9 {xs:List Zah}{a m b:Nat}{Q:Unit→Prop}(hs:Srt xs)(hl:xs.length≤1048576)(ham:a≤m)(hmb:m≤b)(hb:b≤xs.length)(hQ:Q ()):Wp (ZbQ xs a m b) Q:=by
 obtain⟨r,hr⟩:=recF_of (Zq8 hs hl (b - a) a m b ham hmb hb (Nat.le_refl _))
 exact⟨r,hr,hQ⟩
theorem Zo3 {xs:List Zah}{Q:Unit→Prop}(hs:Srt xs)(hl:xs.length≤1048576)(hQ:Q ()):Wp (Za3 xs ((xs.length:Nat):Int)) Q:=by
 have e1:∀(x k:Nat),x≤xs.length→k≤xs.length→Wp (ZbG (x:Int) (k:Int) ((xs.length:Nat):Int) xs) fun r=>r=.inl (((k * 2:Nat):Int),()):=fun x k hx hk=>by
  have w1:IntKind.i64.wrap ((x:Int)+(k:Int))=((x+k:Nat):Int):=by rw[ZaI (by omega) (by omega)];omega
  have w2:IntKind.i64.wrap ((k:Int) * 2)=((k * 2:Nat):Int):=by rw[ZaI (by omega) (by omega)];omega
  unfold ZbG
  simp only[w1,w2]
  refine Wp.ite (fun hc=>Wp.bind (Zq9 hs hl (by omega) ?_ (Nat.le_refl _) (Wp.ret rfl))) (fun _=>Wp.ret rfl)
  simp only[decide_eq_true_eq]at hc
  omega
 have e2:∀x:Nat,x≤xs.length→Wp (ZbH xs (x:Int) ((xs.length:Nat):Int)) Q:=fun x hx=>by
  unfold ZbH
  refine Wp.bind (ZnE hs hl (Nat.le_refl _) hx ?_)
  refine Za9 (fun n (v:Int×Unit)=>∃k:Nat,v.1=k∧20≤k∧n=xs.length+1 - k) (xs.length+1 - 20) _ (by omega) ⟨20,rfl,Nat.le_refl _,rfl⟩ (fun n v ⟨k,h1,h2,h3⟩=>?_)
  obtain⟨v1,u⟩:=v
  simp only at h1
  subst h1
  by_cases hlt:k<xs.length
  ·have w1:IntKind.i64.wrap ((2:Int) * (k:Int))=((2 * k:Nat):Int):=by rw[ZaI (by omega) (by omega)];omega
   simp only[dec_lt hlt,if_true,w1]
   refine Za9 (fun n (v:Int×Int×Unit)=>∃x:Nat,v.1=((x+2 * k:Nat):Int)∧v.2.1=x∧x≤xs.length∧n=xs.length - x) xs.length _ (by omega) ⟨0,by simp,rfl,Nat.zero_le _,by omega⟩ (fun n2 v ⟨x,h4,h5,h6,h7⟩=>?_)
   obtain⟨v1,v2,u2⟩:=v
   simp only at h4 h5
   subst h4 h5
   by_cases hle:x+2 * k≤xs.length
   ·have hd:decide (((x+2 * k:Nat):Int)≤((xs.length:Nat):Int))=true:=by simp;omega
    have w2:IntKind.i64.wrap ((x:Int)+(k:Int))=((x+k:Nat):Int):=by rw[ZaI (by omega) (by omega)];omega
    have w3:IntKind.i64.wrap (((x+2 * k:Nat):Int)+((2 * k:Nat):Int))=((x+2 * k+2 * k:Nat):Int):=by rw[ZaI (by omega) (by omega)];omega
    simp only[hd,if_true,w2,w3]
    exact Wp.bind (Zq9 hs hl (by omega) (by omega) hle (Wp.ret (.inr ⟨xs.length - (x+2 * k),_,by omega,rfl,x+2 * k,rfl,rfl,hle,rfl⟩)))
   ·have hd:decide (((x+2 * k:Nat):Int)≤((xs.length:Nat):Int))=false:=by simp;omega
    simp only[hd,bF,if_false]
    refine Wp.bind ((e1 x k h6 (by omega)).mono fun r hr=>Wp.ret (.inl ⟨_,rfl,?_⟩))
    subst hr
    exact .inr ⟨xs.length+1 - k * 2,_,by omega,rfl,k * 2,rfl,by omega,rfl⟩
  ·rw[if_neg (by simp;omega)]
   exact Wp.ret (.inl ⟨_,rfl,hQ⟩)
 unfold Za3
 simp only
 refine Za9 (fun n (v:Int×Int×Unit)=>∃x:Nat,v.1=((x+20:Nat):Int)∧v.2.1=x∧x≤xs.length∧n=xs.length - x) xs.length _ (by omega) ⟨0,rfl,rfl,Nat.zero_le _,by omega⟩ (fun n2 v ⟨x,h4,h5,h6,h7⟩=>?_)
 obtain⟨v1,v2,u2⟩:=v
 simp only at h4 h5
 subst h4 h5
 by_cases hle:x+20≤xs.length
 ·have hd:decide (((x+20:Nat):Int)≤((xs.length:Nat):Int))=true:=by simp;omega
  have w3:IntKind.i64.wrap (((x+20:Nat):Int)+20)=((x+20+20:Nat):Int):=by rw[ZaI (by omega) (by omega)];omega
  simp only[hd,if_true,w3]
  exact Wp.bind (ZnE hs hl hle (by omega) (Wp.ret (.inr ⟨xs.length - (x+20),_,by omega,rfl,x+20,rfl,rfl,hle,rfl⟩)))
 ·have hd:decide (((x+20:Nat):Int)≤((xs.length:Nat):Int))=false:=by simp;omega
  simp only[hd,bF,if_false]
  exact Wp.bind ((e2 x h6).mono fun r hr=>Wp.ret (.inl ⟨_,rfl,hr⟩))
end Go.AW.M

namespace Go.AW.M
open Go.RowKit Go.Proofs
set_option maxRecDepth 100000
theorem ZlP (l:List UInt8)(c:UInt8):-1≤Lib.indexByte l c∧Lib.indexByte l c<(l.length:Int):=by
 induction l with
 | nil=>simp[Lib.indexByte]
 | cons b l ih=>
  simp only[Lib.indexByte,List.length_cons]
  split
  ·omega
  ·split <;> omega
theorem sxC {s:ByteArray}{i:Nat}(h:i<s.size):∃v,sxN s (i:Int)=some v:=by
 unfold sxN
 rw[if_pos ⟨by omega,by omega⟩]
 exact⟨_,rfl⟩
theorem scC {s:ByteArray}{l h:Int}(h0:0≤l)(h1:l≤h)(h2:h≤((ByteArray.size s:Nat):Int)):∃r:ByteArray,scN s l h=some r∧r.size≤s.size:=by
 unfold scN
 rw[if_pos ⟨h0,h1,h2⟩]
 exact⟨_,rfl,by rw[ByteArray.size_extract];omega⟩
theorem ix1_ex (s:ByteArray):∃n,ix1F (s,(⟨#[64]⟩:ByteArray),())=some (n,())∧-1≤n∧n<((ByteArray.size s:Nat):Int):=by
 have h:=ZlP s.data.toList 64
 refine⟨Lib.indexByte s.data.toList 64,rfl,h.1,?_⟩
 have hsz:s.data.toList.length=s.size:=by rw[Array.length_toList];rfl
 rw[← hsz];exact h.2
theorem Zkd (s:ByteArray)(c:Int)(hl:s.size≤2097152):∃n,Zaw s c=some (n,())∧-1≤n∧n<((ByteArray.size s:Nat):Int):=by
 obtain⟨_,h,n,rfl,h2⟩:Wp (Zaw s c) (fun x=>∃n:Int,x=(n,())∧-1≤n∧n<((ByteArray.size s:Nat):Int)):=by
  unfold Zaw
  simp only
  rw[ZaI (by omega) (by omega)]
  refine Za9 (fun m (v:Int×Unit)=>v.1=(m:Int) - 1∧m≤s.size) s.size _ (by omega) ⟨rfl,Nat.le_refl _⟩ (fun m v ⟨hi,hm⟩=>?_)
  obtain⟨v1,u⟩:=v
  simp only at hi
  subst hi
  refine Wp.ite (fun hc=>?_) (fun _=>Wp.ret (.inl ⟨_,rfl,_,rfl,by omega,by omega⟩))
  simp only[decide_eq_true_eq]at hc
  obtain⟨x,hx⟩:=sxC (s:=s) (i:=m - 1) (by omega)
  rw[show(m:Int) - 1=((m - 1:Nat):Int)by omega,hx,Option.bind_some]
  refine Wp.ite (fun _=>Wp.ret (.inl ⟨_,rfl,_,rfl,by omega,by omega⟩)) (fun _=>Wp.ret (.inr ⟨m - 1,_,by omega,rfl,?_,by omega⟩))
  rw[ZaI (by omega) (by omega)]
 exact⟨n,h,h2⟩
theorem idx_ex (s:ByteArray)(c:Int):∃n,Zdv s c=some (n,()):=⟨_,rfl⟩
theorem Zi2 (s:ByteArray)(hl:s.size≤2097152):∃b,ZcK s=some (b,()):=by
 obtain⟨_,h,b,rfl⟩:Wp (ZcK s) (fun x=>∃b,x=(b,())):=by
  unfold ZcK
  simp only
  refine Za9 (fun m (v:Int×Unit)=>∃i:Nat,v.1=i∧i+m=s.size) s.size _ (by omega) ⟨0,rfl,by omega⟩ (fun m v ⟨i,hi,hm⟩=>?_)
  obtain⟨v1,u⟩:=v
  simp only at hi
  subst hi
  by_cases hlt:i<s.size
  ·obtain⟨x,hx⟩:=sxC hlt
   obtain⟨y,hy⟩:=idx_ex (⟨#[58,45,95,46,92]⟩:ByteArray) x
   simp only[gS,gA,gA',gB,gC,gD,gE,gF,gM,gAnd,gOr,dec_lt hlt,if_true,hx,hy,Option.bind_some,ZaW hlt (show s.size<4611686018427387904 by omega)]
   repeat' first
    | exact Wp.ret (.inr ⟨m - 1,(((i+1:Nat):Int),()),by omega,rfl,i+1,rfl,by omega⟩)
    | exact Wp.ret (.inl ⟨_,rfl,_,rfl⟩)
    | refine Wp.ite (fun _=>?_) (fun _=>?_)
  ·have:i=s.size:=by omega
   subst this
   simp only[Za4,bF,if_false]
   exact Wp.ret (.inl ⟨_,rfl,_,rfl⟩)
 exact⟨b,h⟩
theorem Zqw (i:Int)(s:ByteArray):ZfQ i s=some (Sum.inr (i,()))∨ZfQ i s=some (Sum.inl (IntKind.i64.wrap (i+1),())):=by
 unfold ZfQ ZiK ZiJ ZiI ZiH ZiG ZiF ZiE ZiD
 simp only
 repeat' first
  | exact .inl rfl
  | exact .inr rfl
  | split
theorem Zo4 (s:ByteArray):∃n,ZdW s=some (n,()):=by
 obtain⟨_,h,n,rfl⟩:Wp (ZdW s) (fun x=>∃n,x=(n,())):=by
  unfold ZdW
  refine Za9 (fun m (v:Int×Unit)=>∃i:Nat,v.1=i∧i+m=5) 4 _ (by omega) ⟨1,rfl,by omega⟩ (fun m v ⟨i,hi,hm⟩=>?_)
  obtain⟨v1,u⟩:=v
  simp only at hi
  subst hi
  simp only
  refine Wp.ite (fun hc=>?_) (fun _=>Wp.ret (.inl ⟨_,rfl,_,rfl⟩))
  simp only[decide_eq_true_eq]at hc
  rcases Zqw (i:Int) s with h | h
  ·rw[h];exact Wp.ret (.inl ⟨_,rfl,_,rfl⟩)
  ·rw[h,ZaI (by omega) (by omega)]
   exact Wp.ret (.inr ⟨m - 1,(((i+1:Nat):Int),()),by omega,rfl,i+1,rfl,by omega⟩)
 exact⟨n,h⟩
theorem Zo5 (s:ByteArray)(hl:s.size≤2097152):∃n,Zdl s=some (n,()):=by
 obtain⟨k,hk,h1,h2⟩:=Zkd s 46 hl
 have hn:ix1F ((⟨#[]⟩:ByteArray),(⟨#[64]⟩:ByteArray),())=some (-1,()):=rfl
 obtain⟨_,h,n,rfl⟩:Wp (Zdl s) (fun x=>∃n,x=(n,())):=by
  unfold Zdl
  simp only[hk,hn,Option.bind_some]
  refine Wp.ite (fun hc=>?_) (fun hc=>?_)
  ·rw[if_neg (by decide)]
   exact Wp.ret ⟨_,rfl⟩
  ·simp only[decide_eq_false_iff_not]at hc
   obtain⟨a,ha,hal⟩:=scC (s:=s) (l:=0) (h:=k) (by omega) (by omega) (by omega)
   have hw:IntKind.i64.wrap (k+1)=k+1:=ZaI (by omega) (by omega)
   obtain⟨b,hb,hbl⟩:=scC (s:=s) (l:=k+1) (h:=((ByteArray.size s:Nat):Int)) (by omega) (by omega) (by omega)
   obtain⟨j,hj,h3,h4⟩:=ix1_ex a
   obtain⟨t,ht⟩:=Zo4 b
   simp only[ha,hw,hb,hj,Option.bind_some]
   refine Wp.ite (fun hc2=>?_) (fun _=>?_)
   ·simp only[decide_eq_true_eq]at hc2
    obtain⟨d,hd,hdl⟩:=scC (s:=a) (l:=0) (h:=j) (by omega) (by omega) (by omega)
    have hw2:IntKind.i64.wrap (j+1)=j+1:=ZaI (by omega) (by omega)
    obtain⟨e,he,hel⟩:=scC (s:=a) (l:=j+1) (h:=((ByteArray.size a:Nat):Int)) (by omega) (by omega) (by omega)
    obtain⟨p1,hp1⟩:=Zi2 d (by omega)
    obtain⟨p2,hp2⟩:=Zi2 e (by omega)
    simp only[gS,gA,gA',gB,gC,gD,gE,gF,gM,gAnd,gOr,hd,hw2,he,hp1,hp2,ht,Option.bind_some]
    exact Wp.ite (fun _=>Wp.ret ⟨_,rfl⟩) (fun _=>Wp.ret ⟨_,rfl⟩)
   ·obtain⟨p1,hp1⟩:=Zi2 a (by omega)
    obtain⟨p2,hp2⟩:=Zi2 (⟨#[]⟩:ByteArray) (by decide)
    simp only[gS,gA,gA',gB,gC,gD,gE,gF,gM,gAnd,gOr,hp1,hp2,ht,Option.bind_some]
    exact Wp.ite (fun _=>Wp.ret ⟨_,rfl⟩) (fun _=>Wp.ret ⟨_,rfl⟩)
 exact⟨n,h⟩
theorem cut_ex (s:ByteArray)(hl:s.size≤1048576):∃a b,ZhB s=some (a,b,())∧a.size≤1048576:=by
 obtain⟨k,hk,h1,h2⟩:=Zkd s 46 (by omega)
 unfold ZhB
 simp only[hk,Option.bind_some]
 by_cases hc:k<0
 ·simp only[hc,decide_true,if_true]
  exact⟨_,_,rfl,by decide⟩
 ·obtain⟨a,ha,hal⟩:=scC (s:=s) (l:=0) (h:=k) (by omega) (by omega) (by omega)
  have hw:IntKind.i64.wrap (k+1)=k+1:=ZaI (by omega) (by omega)
  obtain⟨b,hb,hbl⟩:=scC (s:=s) (l:=k+1) (h:=((ByteArray.size s:Nat):Int)) (by omega) (by omega) (by omega)
  simp only[hc,decide_false,bF,if_false,ha,hw,hb,Option.bind_some]
  exact⟨_,_,rfl,by omega⟩
theorem Zoj (s:ByteArray)(hl:s.size≤2097152):∃r,Zcd s=some (r,()):=by
 obtain⟨kd,hkd⟩:=Zo5 s hl
 unfold Zcd
 simp only[hkd,Option.bind_some]
 split <;> exact⟨_,rfl⟩
theorem Zo6 (s:ByteArray)(t:Int)(hl:s.size≤1048576):∃r,Zfy s t=some (r,()):=by
 obtain⟨a,b,hc,ha⟩:=cut_ex s (by omega)
 obtain⟨kd,hkd⟩:=Zo5 s (by omega)
 have e0:(⟨#[46]⟩:ByteArray).size=1:=rfl
 have c1:caN a (⟨#[46]⟩:ByteArray)=some (a++(⟨#[46]⟩:ByteArray)):=ZgI (by rw[e0];omega)
 have hs:(a++(⟨#[46]⟩:ByteArray)).size≤1048577:=by rw[ByteArray.size_append,e0];omega
 generalize a++(⟨#[46]⟩:ByteArray)=d at c1 hs
 have key:∀x:ByteArray,x.size≤10→caN d x=some (d++x)∧∃r,Zcd (d++x)=some (r,()):=fun x hx=>⟨ZgI (by omega),Zoj _ (by rw[ByteArray.size_append];omega)⟩
 obtain⟨k1,r1,k1'⟩:=key (⟨#[115,101,114,118,105,99,101]⟩:ByteArray) (by decide)
 obtain⟨k2,r2,k2'⟩:=key (⟨#[115,111,99,107,101,116]⟩:ByteArray) (by decide)
 obtain⟨k3,r3,k3'⟩:=key (⟨#[116,105,109,101,114]⟩:ByteArray) (by decide)
 obtain⟨k4,r4,k4'⟩:=key (⟨#[116,97,114,103,101,116]⟩:ByteArray) (by decide)
 obtain⟨k5,r5,k5'⟩:=key (⟨#[]⟩:ByteArray) (by decide)
 unfold Zfy
 simp only[hc,c1,k1,k2,k3,k4,k5,k1',k2',k3',k4',k5',hkd,Option.bind_some]
 repeat' first
  | exact⟨_,rfl⟩
  | split
theorem Zqx (u:Zae)(hl:u.Name.size≤1048576):∃r,Zf8 u=some (r,()):=by
 obtain⟨r,hr⟩:=Zo6 u.Name 1 hl
 unfold Zf8
 simp only[gS,gA,gA',gB,gC,gD,gE,gF,gM,gAnd,gOr,hr,Option.bind_some]
 repeat' first
  | exact⟨_,rfl⟩
  | split
structure PI (c0:Zac)(n:Int)(c:Zac):Prop where
 U:c.U=c0.U
 st:c.State=0∨c.State=4∨c.State=9
 run:c.Main.Part≤0∧c.Aux.Part≤0
 att:0≤c.Attempt
 res:0≤c.Result∧c.Result≤4
 serves:c.Serves=[]
 waits:(c0.U.Kind≠2→c.Waits=[])∧c.Waits.length≤64
 beg:c.Begins.length≤1048576
 rows:0≤c.Rows∧c.Rows≤n
theorem PI.fit {c0 c:Zac}{n:Int}(h:PI c0 n c)(hu:c0.U.Fit 1048576):c.Fit 2097152:=by
 refine⟨by rw[h.U];exact Zii hu (by decide),?_,?_,?_⟩
 ·have:=h.beg;omega
 ·rw[h.serves];simp
 ·have:=h.waits.2;omega
theorem PI.up {c0 c:Zac}{n m:Int}(h:PI c0 n c)(hm:n≤m):PI c0 m c:=⟨h.U,h.st,h.run,h.att,h.res,h.serves,h.waits,h.beg,by have:=h.rows;omega⟩
theorem ZkZ {c0 c:Zac}{n now:Int}{w:Zaf}(h:PI c0 n c)(hn:n≤4398046511104)(hu:c0.U.Fit 1048576)(hnm:c0.U.Name.size≤1048576):Wp (ZfA w c now) fun r=>PI c0 (n+1) r.1:=by
 obtain⟨wk,hwk⟩:=Zqx c.U (by rw[h.U];exact hnm)
 have hr:=h.rows
 have hw:IntKind.i64.wrap (c.Rows+1)=c.Rows+1:=ZaI (by omega) (by omega)
 unfold ZfA
 simp only[gS,gA,gA',gB,gC,gD,gE,gF,gM,gAnd,gOr,ZbC c (h.fit hu),hwk,hw,Option.bind_some]
 refine Wp.ite (fun _=>Wp.ret (h.up (by omega))) (fun _=>Wp.ite (fun _=>Wp.ret (h.up (by omega))) (fun _=>Wp.ret ⟨h.U,h.st,h.run,h.att,h.res,h.serves,h.waits,h.beg,?_⟩))
 simp only;omega
theorem Zk0 {c0:Zac}{n typ now:Int}{w:Zaf}(h:PI c0 n c0)(hn:n≤4398046511104)(hu:c0.U.Fit 1048576)(hat:c0.Attempt≤1099511627776):Wp (ZfB w c0.U c0 typ now) fun r=>PI c0 (n+1) r.1:=by
 have hr:=h.rows
 have hw:IntKind.i64.wrap (c0.Rows+1)=c0.Rows+1:=ZaI (by omega) (by omega)
 have ha:=h.att
 have hw2:IntKind.i64.wrap (c0.Attempt+1)=c0.Attempt+1:=ZaI (by omega) (by omega)
 unfold ZfB
 simp only[gS,gA,gA',gB,gC,gD,gE,gF,gM,gAnd,gOr,ZbC c0 (h.fit hu),Zd4 c0.U (Zii hu (by decide)),hw,hw2,Option.bind_some]
 repeat' first
  | refine Wp.ite (fun _=>?_) (fun _=>?_)
  | exact Wp.ret (h.up (by omega))
  | exact Wp.ret ⟨rfl,.inr (.inl rfl),h.run,by simp only;omega,h.res,h.serves,h.waits,h.beg,by simp only;omega⟩
  | exact Wp.ret ⟨rfl,.inl rfl,h.run,h.att,h.res,h.serves,h.waits,h.beg,by simp only;omega⟩
theorem Zo7 {c0:Zac}{n typ now:Int}(h:PI c0 n c0)(hn:n≤4398046511104)(hu:c0.U.Fit 1048576)(hat:c0.Attempt≤1099511627776):Wp (Zfz c0.U c0 typ now) fun r=>PI c0 (n+1) r.1:=by
 have hr:=h.rows
 have hw:IntKind.i64.wrap (c0.Rows+1)=c0.Rows+1:=ZaI (by omega) (by omega)
 have ha:=h.att
 have hw2:IntKind.i64.wrap (c0.Attempt+1)=c0.Attempt+1:=ZaI (by omega) (by omega)
 unfold Zfz Zha Zhb
 simp only[gS,gA,gA',gB,gC,gD,gE,gF,gM,gAnd,gOr,ZbC c0 (h.fit hu),Zd4 c0.U (Zii hu (by decide)),hw,hw2,Option.bind_some]
 refine Wp.ite (fun _=>?_) (fun _=>Wp.ite (fun _=>?_) (fun _=>Wp.ret (h.up (by omega))))
 ·refine Za9 (fun m (v:Int×Unit)=>∃i:Nat,v.1=i∧i+m=2) 2 _ (by decide) ⟨0,rfl,rfl⟩ (fun m v ⟨i,hi,hm⟩=>?_)
  obtain⟨v1,u⟩:=v
  simp only at hi
  subst hi
  refine Wp.ite (fun hc=>?_) (fun _=>Wp.ret (.inl ⟨_,rfl,h.up (by omega)⟩))
  simp only[decide_eq_true_eq]at hc
  refine Wp.bind (ZgJ (xs:=[(0:Int),(9:Int)]) (i:=i) (by simp;omega) ?_)
  refine Wp.ite (fun _=>Wp.ret (.inl ⟨_,rfl,⟨rfl,.inr (.inl rfl),h.run,by simp only;omega,h.res,h.serves,h.waits,h.beg,by simp only;omega⟩⟩)) (fun _=>Wp.ret (.inr ⟨m - 1,(((i+1:Nat):Int),()),by omega,?_,i+1,rfl,by omega⟩))
  rw[ZaI (by omega) (by omega)];rfl
 ·exact Wp.ret ⟨rfl,.inl rfl,h.run,h.att,h.res,h.serves,h.waits,h.beg,by simp only;omega⟩
end Go.AW.M

namespace Go.AW.M
open Go.RowKit Go.Proofs
set_option maxRecDepth 100000
def Ord1 (l:List Zah):Prop:=l.Pairwise fun x y=>x.At≤y.At
theorem Ord1.srt {l:List Zah}(h:Ord1 l):Srt l:=by
 intro i j x y hij hx hy
 obtain⟨hi,rfl⟩:=List.getElem?_eq_some_iff.1 hx
 obtain⟨hj,rfl⟩:=List.getElem?_eq_some_iff.1 hy
 rcases Nat.lt_or_ge i j with h1 | h1
 ·exact List.pairwise_iff_getElem.1 h i j hi hj h1
 ·have:i=j:=by omega
  subst this
  exact Int.le_refl _
theorem Zk1 {w:Zaf}{ports:List Int}{Q:List Zah×Unit→Prop}(hl:w.Calls.length≤1048576)(ho:Ord1 w.Calls)(hp:ports.length≤1048576)(hQ:∀l:List Zah,l.length≤1048576→Q (l,())):Wp (ZdP w ports) Q:=by
 unfold ZdP
 simp only
 refine Za9 (fun m (v:Int×List Zah×Unit)=>∃i:Nat,v.1=i∧i+m=w.Calls.length∧List.Sublist v.2.1 (w.Calls.take i)) w.Calls.length _ (by omega) ⟨0,rfl,by omega,by simp⟩ (fun m v ⟨i,hi,hm,hs⟩=>?_)
 obtain⟨v1,acc,u⟩:=v
 simp only at hi hs
 subst hi
 by_cases hlt:i<w.Calls.length
 ·have hacc:acc.length≤i:=Nat.le_trans hs.length_le (by simp;omega)
  have htk:w.Calls.take (i+1)=w.Calls.take i++[w.Calls[i]]:=by rw[List.take_add_one,gG hlt];rfl
  simp only[dec_lt hlt,if_true]
  refine Wp.bind (ZgJ hlt ?_)
  refine Za9 (fun m (v:Int×Unit)=>∃j:Nat,v.1=j∧j+m=ports.length) ports.length _ (by omega) ⟨0,rfl,by omega⟩ (fun m2 v ⟨j,hj,hm2⟩=>?_)
  obtain⟨v1,u2⟩:=v
  simp only at hj
  subst hj
  unfold Zhc Zhd
  by_cases hlt2:j<ports.length
  ·have hd:decide ((j:Int)≥0)=true:=by simp
   simp only[dec_lt hlt2,if_true,hd,ZaW hlt (show w.Calls.length<4611686018427387904 by omega),ZaW hlt2 (show ports.length<4611686018427387904 by omega),apN,List.length_singleton]
   rw[if_pos ⟨by omega,by omega⟩]
   refine Wp.bind (ZgJ hlt2 ?_)
   refine Wp.ite (fun _=>?_) (fun _=>Wp.ret (.inr ⟨m2 - 1,(((j+1:Nat):Int),()),by omega,rfl,j+1,rfl,by omega⟩))
   exact Wp.ret (.inl ⟨_,rfl,.inr ⟨m - 1,_,by omega,rfl,i+1,rfl,by omega,by rw[htk];exact hs.append (List.Sublist.refl _)⟩⟩)
  ·rw[if_neg (by simp;omega)]
   simp only[ZaW hlt (show w.Calls.length<4611686018427387904 by omega)]
   exact Wp.ret (.inl ⟨_,rfl,.inr ⟨m - 1,_,by omega,rfl,i+1,rfl,by omega,by rw[htk];exact hs.trans (List.sublist_append_left _ _)⟩⟩)
 ·have:i=w.Calls.length:=by omega
  subst this
  have hacc:acc.length≤1048576:=Nat.le_trans hs.length_le (by simp;omega)
  have hsrt:Srt acc:=Ord1.srt (List.Pairwise.sublist (hs.trans (List.take_sublist _ _)) ho)
  simp only[Za4,bF,if_false]
  unfold Zhe
  exact Wp.bind (Wp.bind (Zo3 hsrt hacc (Wp.ret (Wp.ret (.inl ⟨_,rfl,hQ _ hacc⟩)))))
theorem Zok {w:Zaf}{c:Zac}(hl:w.Calls.length≤1048576)(ho:Ord1 w.Calls)(hp:c.U.Ports.length≤1048576):∃n,ZgZ w c=some (n,()):=by
 obtain⟨_,h,n,rfl⟩:Wp (ZgZ w c) (fun x=>∃n,x=(n,())):=by
  unfold ZgZ
  refine Wp.bind (Zk1 hl ho hp fun l hll=>?_)
  simp only[gS,gA,gA',gB,gC,gD,gE,gF,gM,gAnd,gOr,Option.bind_some]
  refine Wp.ite (fun _=>Wp.ret ⟨_,rfl⟩) (fun hc=>?_)
  simp only[Bool.or_eq_false_iff,decide_eq_false_iff_not]at hc
  obtain⟨i,hi⟩:=Int.eq_ofNat_of_zero_le (show 0≤c.Seen by omega)
  rw[hi]at hc ⊢
  exact Wp.bind (ZgJ (by omega) (Wp.ret ⟨_,rfl⟩))
 exact⟨n,h⟩
theorem wrapI64 (n:Int):I64 (IntKind.i64.wrap n):=by
 rw[IntKind.wrap_i64]
 exact⟨by omega,by omega⟩
theorem ZlQ {c0 c:Zac}{n now:Int}{w:Zaf}(h:PI c0 n c)(hk:c0.U.Kind=2)(hn:n≤4398046511104)(hu:c0.U.Fit 1048576)(hl:w.Calls.length≤1048576)(ho:Ord1 w.Calls):Wp (Zf9 w c now) fun r=>PI c0 (n+1) r.1:=by
 have hr:=h.rows
 have hw:IntKind.i64.wrap (c.Rows+1)=c.Rows+1:=ZaI (by omega) (by omega)
 have hwt:=h.waits.2
 have hi:=wrapI64 (c.Num+1)
 have hsz:=Zjq _ hi
 have e1:(⟨#[114,101,102,117,115,101,100,32]⟩:ByteArray).size=8:=rfl
 have e2:(⟨#[99,97,109,101,32]⟩:ByteArray).size=5:=rfl
 unfold Zf9
 simp only[ZbC c (h.fit hu),Option.bind_some]
 refine Wp.bind (Zk1 hl ho (by rw[h.U];exact hu.2.2.2.2.2.2.2.2.2.1) fun l hll=>?_)
 simp only[gS,gA,gA',gB,gC,gD,gE,gF,gM,gAnd,gOr,itoaF,if_pos hi,Option.bind_some,hw]
 rw[ZgI (show(⟨#[114,101,102,117,115,101,100,32]⟩:ByteArray).size+(itoaB (IntKind.i64.wrap (c.Num+1))).size≤9223372036854775807 by rw[e1];omega),ZgI (show(⟨#[99,97,109,101,32]⟩:ByteArray).size+(itoaB (IntKind.i64.wrap (c.Num+1))).size≤9223372036854775807 by rw[e2];omega)]
 simp only[Option.bind_some,apN,List.length_singleton,List.length_nil]
 rw[if_pos (show 0+1≤9223372036854775807∧(0+1) * 56≤140737488355328 from⟨by omega,by omega⟩)]
 refine Wp.ite (fun _=>Wp.ret (h.up (by omega))) (fun hc=>?_)
 simp only[Bool.or_eq_false_iff,decide_eq_false_iff_not]at hc
 obtain⟨i,hi⟩:=Int.eq_ofNat_of_zero_le (show 0≤c.Seen by omega)
 rw[hi]at hc
 rw[show ixN l c.Seen=some l[i] by rw[hi];exact ixC (by omega)]
 simp only[Option.bind_some]
 refine Wp.ite (fun _=>Wp.ret (h.up (by omega))) (fun _=>Wp.ite (fun _=>?_) (fun hc2=>?_))
 ·exact Wp.ret ⟨h.U,h.st,h.run,h.att,h.res,h.serves,h.waits,h.beg,by simp only;omega⟩
 ·simp only[Bool.or_eq_false_iff,decide_eq_false_iff_not]at hc2
  rw[if_pos ⟨by omega,by omega⟩]
  exact Wp.ret ⟨h.U,h.st,h.run,h.att,h.res,h.serves,⟨fun e=>absurd hk e,by simp;omega⟩,h.beg,by simp only;omega⟩
theorem ZlR {c0:Zac}{n typ now:Int}{w:Zaf}(h:PI c0 n c0)(hn:n≤1099511627777)(hu:c0.U.Fit 1048576)(hat:c0.Attempt≤1099511627776)(hnum:∀x∈c0.Waits,I64 x.Num)(hl:w.Calls.length≤1048576)(ho:Ord1 w.Calls):Wp (Zga w c0.U c0 typ now) fun r=>PI c0 (n+65) r.1:=by
 have hr:=h.rows
 have hw:IntKind.i64.wrap (c0.Rows+1)=c0.Rows+1:=ZaI (by omega) (by omega)
 have ha:=h.att
 have hw2:IntKind.i64.wrap (c0.Attempt+1)=c0.Attempt+1:=ZaI (by omega) (by omega)
 have hwt:=h.waits.2
 have ez:z2.out=⟨[],[],[],false,false⟩:=rfl
 unfold Zga
 simp only[gS,gA,gA',gB,gC,gD,gE,gF,gM,gAnd,gOr,ZbC c0 (h.fit hu),Zd4 c0.U (Zii hu (by decide)),hw2,Option.bind_some]
 refine Wp.ite (fun _=>?_) (fun _=>Wp.ite (fun _=>?_) (fun _=>Wp.ret (h.up (by omega))))
 ·refine Wp.bind (Zk1 hl ho hu.2.2.2.2.2.2.2.2.2.1 fun l hll=>?_)
  dsimp only
  refine Za9 (fun m (v:Int×Zas×Unit)=>∃i:Nat,v.1=i∧i+m=l.length∧(∃sn:Int,v.2.1.c={ c0 with Attempt:=c0.Attempt+1,Seen:=sn })∧v.2.1.out.Rows=[]) l.length _ (by omega) ⟨0,rfl,by omega,⟨0,rfl⟩,rfl⟩ (fun m v ⟨i,hi,hm,⟨sn,hc⟩,ho⟩=>?_)
  obtain⟨v1,s,u⟩:=v
  simp only at hi hc ho
  subst hi
  by_cases hlt:i<l.length
  ·simp only[dec_lt hlt,if_true,ZaW hlt (show l.length<4611686018427387904 by omega)]
   refine Wp.bind (ZgJ hlt ?_)
   exact Wp.ite (fun _=>Wp.ret (.inr ⟨m - 1,_,by omega,rfl,i+1,rfl,by omega,⟨IntKind.i64.wrap (s.c.Seen+1),by simp only[hc]⟩,ho⟩)) (fun _=>Wp.ret (.inr ⟨m - 1,_,by omega,rfl,i+1,rfl,by omega,⟨sn,hc⟩,ho⟩))
  ·have:i=l.length:=by omega
   subst this
   simp only[Za4,bF,if_false]
   unfold ZhC
   simp only[apN,List.length_singleton,ho,List.length_nil]
   rw[if_pos ⟨by omega,by omega⟩]
   simp only[Option.bind_some,hc,hw]
   exact Wp.ret (.inl ⟨_,rfl,⟨rfl,.inr (.inl rfl),h.run,by simp only;omega,h.res,h.serves,h.waits,h.beg,by simp only;omega⟩⟩)
 ·refine Za9 (fun m (v:Int×Zas×Unit)=>∃i:Nat,v.1=i∧i+m=c0.Waits.length∧v.2.1.c={ c0 with Rows:=c0.Rows+i }∧v.2.1.out.Rows.length≤i) c0.Waits.length _ (by omega) ⟨0,rfl,by omega,by simp,by simp[ez]⟩ (fun m v ⟨i,hi,hm,hc,ho⟩=>?_)
  obtain⟨v1,s,u⟩:=v
  simp only at hi hc ho
  subst hi
  have hw3:IntKind.i64.wrap (c0.Rows+(i:Int)+1)=c0.Rows+((i+1:Nat):Int):=by rw[ZaI (by omega) (by omega)];omega
  by_cases hlt:i<c0.Waits.length
  ·simp only[dec_lt hlt,if_true,ZaW hlt (show c0.Waits.length<4611686018427387904 by omega)]
   refine Wp.bind (ZgJ hlt ?_)
   have hi:=hnum _ (List.getElem_mem hlt)
   have hsz:=Zjq _ hi
   have e1:(⟨#[100,114,111,112,112,101,100,32]⟩:ByteArray).size=8:=rfl
   simp only[itoaF,if_pos hi,Option.bind_some]
   rw[ZgI (by rw[e1];omega),Option.bind_some]
   simp only[apN,List.length_singleton]
   rw[if_pos ⟨by omega,by omega⟩]
   simp only[Option.bind_some,hc,hw3]
   exact Wp.ret (.inr ⟨m - 1,_,by omega,rfl,i+1,rfl,by omega,rfl,by simp;omega⟩)
  ·have:i=c0.Waits.length:=by omega
   subst this
   simp only[Za4,bF,if_false]
   unfold ZhD
   simp only[apN,List.length_singleton]
   rw[if_pos ⟨by omega,by omega⟩]
   simp only[Option.bind_some,hc,hw3]
   exact Wp.ret (.inl ⟨_,rfl,⟨rfl,.inl rfl,h.run,h.att,h.res,h.serves,⟨fun _=>rfl,by simp⟩,h.beg,by simp only;omega⟩⟩)
end Go.AW.M

namespace Go.AW.M
open Go.RowKit Go.Proofs
set_option maxRecDepth 100000
theorem Zo8 (r:Zal):Zbp r=some (decide (r.Part>0),()):=rfl
theorem Zo9 (c:Zac):Zc6 c=some (c.State==0 || c.State==9,()):=by
 unfold Zc6
 simp only[gS,gA,gA',gB,gC,gD,gE,gF,gM,gAnd,gOr,Option.bind_some]
theorem ZmY (a b:Int):(a==b)=decide (a=b):=by
 by_cases h:a=b
 ·simp[h]
 ·simp[h]
theorem Zpa (a b:Int):(a != b)=!decide (a=b):=by rw[bne,ZmY]
theorem Zqy (p q:Prop) [Decidable p] [Decidable q]:(!(decide p==decide q))=decide (¬ (p↔q)):=by
 by_cases hp:p <;> by_cases hq:q <;> simp[hp,hq]
theorem ZlS (c:Zac)(hl:c.Begins.length≤2097152):∃b,Zcp c=some (b,())∧(0≤c.State∧c.State≤9→(b=true↔Sv c∧(c.State≠0→c.State≠9→KeepOk c))):=by
 unfold Zcp
 simp only[gS,gA,gA',gB,gC,gD,gE,gF,gM,gAnd,gOr,Option.bind_some,Zo8,Zo9]
 obtain⟨p,hp⟩:∃p:Int,p=(if (c.State==1)=true then(1:Int)else if (c.State==3)=true then 3 else if (c.State==5)=true then 5 else if (c.State==6)=true then 4 else 0):=⟨_,rfl⟩
 rw[← hp]
 have hpart:(c.State=1∧p=1)∨(c.State=3∧p=3)∨(c.State=5∧p=5)∨(c.State=6∧p=4)∨(c.State≠1∧c.State≠3∧c.State≠5∧c.State≠6∧p=0):=by
  simp only[beq_iff_eq]at hp
  split at hp
  ·omega
  split at hp
  ·omega
  split at hp
  ·omega
  split at hp <;> omega
 clear hp
 simp only[ZmY,Zpa,Zqy]
 split
 ·rename_i h1
  refine⟨_,rfl,fun hst=>⟨fun h=>(by cases h),fun h=>?_⟩⟩
  have hsv:=h.1
  unfold Sv at hsv
  simp only[bA,Bool.or_eq_true,Bool.not_eq_true',decide_eq_true_eq,decide_eq_false_iff_not,Bool.or_eq_false_iff]at h1
  omega
 rename_i h1
 split
 ·rename_i h2
  refine⟨_,rfl,fun hst=>⟨fun h=>(by cases h),fun h=>?_⟩⟩
  have hsv:=h.1
  unfold Sv at hsv
  simp only[bA,Bool.or_eq_true,Bool.not_eq_true',decide_eq_true_eq,decide_eq_false_iff_not,Bool.or_eq_false_iff]at h2
  omega
 rename_i h2
 split
 ·rename_i h3
  refine⟨_,rfl,fun hst=>⟨fun h=>(by cases h),fun h=>?_⟩⟩
  have hsv:=h.1
  unfold Sv at hsv
  simp only[bA,Bool.or_eq_true,Bool.not_eq_true',decide_eq_true_eq,decide_eq_false_iff_not,Bool.or_eq_false_iff]at h3
  omega
 rename_i h3
 have hsv:0≤c.State∧c.State≤9→Sv c:=fun hst=>by
  simp only[bA,Bool.or_eq_true,Bool.not_eq_true',decide_eq_true_eq,decide_eq_false_iff_not,Bool.or_eq_false_iff]at h1 h2 h3
  unfold Sv
  omega
 split
 ·rename_i hc
  simp only[bA,Bool.not_eq_true',decide_eq_true_eq,decide_eq_false_iff_not,Bool.or_eq_false_iff]at hc
  have hp:0<c.Begins.length:=by omega
  have hw:IntKind.i64.wrap (((c.Begins.length:Nat):Int) - 1)=((c.Begins.length - 1:Nat):Int):=by rw[ZaI (by omega) (by omega)];omega
  have hx:ixN c.Begins ((c.Begins.length - 1:Nat):Int)=some c.Begins[c.Begins.length - 1]:=ixC (by omega)
  obtain⟨r,hr,-⟩:=ZlN c.Begins (c.Begins[c.Begins.length - 1]) c.U.Every hl
  simp only[hw,hx,hr,Option.bind_some]
  refine⟨_,rfl,fun hst=>⟨fun h=>⟨hsv hst,fun _ _ _=>⟨_,r,by rw[hw];exact hx,hr,of_decide_eq_true h⟩⟩,fun h=>?_⟩⟩
  have hne:c.Begins≠[]:=fun e=>by rw[e]at hp;exact absurd hp (by decide)
  obtain⟨x,l,q1,q2,q3⟩:=h.2 (by omega) (by omega) hne
  rw[hw,hx]at q1
  cases q1
  rw[hr]at q2
  cases q2
  exact decide_eq_true q3
 ·rename_i hc
  refine⟨_,rfl,fun hst=>⟨fun _=>⟨hsv hst,fun h0 h9 hne=>?_⟩,fun _=>rfl⟩⟩
  have hp:0<c.Begins.length:=by
   rcases hb:c.Begins with - | ⟨x,l⟩
   ·exact absurd hb hne
   ·simp
  simp only[bA,Bool.not_eq_true',decide_eq_true_eq,decide_eq_false_iff_not,Bool.or_eq_false_iff]at hc
  omega
def CellP (c:Zac):Prop:=(0≤c.State∧c.State≤9)∧(0≤c.Result∧c.Result≤4)∧0≤c.Attempt∧0≤c.Rows∧(c.U.Kind=1→(Sv c∧(c.State≠0→c.State≠9→KeepOk c))∧c.Waits.length=0) ∧
 (c.U.Kind≠1→(c.State=0∨c.State=4∨c.State=9)∧c.Main.Part≤0∧c.Aux.Part≤0∧c.Serves.length=0∧(c.U.Kind=2∨c.Waits.length=0))
theorem ZlT (c:Zac)(hl:c.Begins.length≤2097152):∃b,ZbF c=some (b,())∧(b=true↔CellP c):=by
 obtain⟨x,hx,hx2⟩:=ZlS c hl
 unfold ZbF
 simp only[gS,gA,gA',gB,gC,gD,gE,gF,gM,gAnd,gOr,Option.bind_some,Zo8,hx,ZmY,Zpa]
 split
 ·rename_i h1
  simp only[Bool.or_eq_true,decide_eq_true_eq]at h1
  refine⟨_,rfl,fun h=>(by cases h),fun h=>?_⟩
  obtain⟨q1,q2,q3,q4,-⟩:=h
  omega
 rename_i h1
 simp only[Bool.or_eq_true,decide_eq_true_eq]at h1
 split
 ·rename_i hk
  simp only[decide_eq_true_eq]at hk
  refine⟨_,rfl,?_⟩
  have hx2:=hx2 (by omega)
  simp only[bA,decide_eq_true_eq,hx2,CellP]
  constructor
  ·rintro⟨h,h2⟩
   exact⟨by omega,by omega,by omega,by omega,fun _=>⟨h,by omega⟩,fun h=>absurd hk h⟩
  ·rintro⟨-,-,-,-,h,-⟩
   obtain⟨h,h2⟩:=h hk
   exact⟨h,by omega⟩
 ·rename_i hk
  simp only[decide_eq_true_eq]at hk
  refine⟨_,rfl,?_⟩
  simp only[bA,Bool.or_eq_true,Bool.not_eq_true',decide_eq_true_eq,decide_eq_false_iff_not,CellP]
  constructor
  ·intro h
   refine⟨by omega,by omega,by omega,by omega,fun h=>absurd h hk,fun _=>?_⟩
   omega
  ·rintro⟨-,-,-,-,-,h⟩
   have:=h hk
   omega
theorem SI.cell {c0 c:Zac}{n:Int}(h:SI c0 n c)(hk:c0.U.Kind=1):CellP c:=
 ⟨h.sv.1,h.ci.res,h.ci.att,h.rows.1,fun _=>⟨⟨h.sv,h.keep⟩,by rw[h.ci.waits];rfl⟩,fun hn=>absurd (by rw[h.ci.U];exact hk) hn⟩
theorem PI.cell {c0 c:Zac}{n:Int}(h:PI c0 n c)(hk:c0.U.Kind≠1):CellP c:=by
 have hst:=h.st
 refine⟨by omega,h.res,h.att,h.rows.1,fun e=>absurd (by rw[← h.U];exact e) hk,fun _=>⟨h.st,h.run.1,h.run.2,by rw[h.serves];rfl,?_⟩⟩
 by_cases e:c0.U.Kind=2
 ·left;rw[h.U];exact e
 ·right;rw[h.waits.1 e];rfl
end Go.AW.M

namespace Go.AW.M
open Go.RowKit Go.Proofs
set_option maxRecDepth 100000
theorem Zpb (n:Int):∃b,ZcL n=some (b,()):=by
 unfold ZcL
 simp only[gS,gA,gA',gB,gC,gD,gE,gF,gM,gAnd,gOr,Option.bind_some]
 exact⟨_,rfl⟩
theorem Zqz (n:Int):∃b,Zc7 n=some (b,()):=by
 unfold Zc7
 simp only[gS,gA,gA',gB,gC,gD,gE,gF,gM,gAnd,gOr,Option.bind_some]
 exact⟨_,rfl⟩
theorem ZmZ (n:Int):∃b,Zco n=some (b,()):=by
 obtain⟨a,ha⟩:=Zpb n
 obtain⟨b,hb⟩:=Zqz n
 unfold Zco
 simp only[gS,gA,gA',gB,gC,gD,gE,gF,gM,gAnd,gOr,Option.bind_some,ha,hb]
 exact⟨_,rfl⟩
theorem Zpc (n:Int):∃x:ByteArray,ZcM n=some (x,())∧x.size≤7:=by
 unfold ZcM
 simp only
 repeat' first
  | exact⟨_,rfl,by decide⟩
  | split
theorem Zju {s:ByteArray}{fin:Option (Zai×Unit)}(hs:s.size≤2097152)(hfin:Wp fin fun _=>True){f:Int×Unit→Option ((Int×Unit)⊕(Zai×Unit))}
  (hf:∀v,f v=if decide (v.1<((ByteArray.size s:Nat):Int))=true then ZdN s v.1 else fin.bind fun r=>some (Sum.inr r)):Wp (loopS f ((0:Int),())) fun _=>True:=by
 refine Za9 (fun m (v:Int×Unit)=>∃i:Nat,v.1=i∧i+m=s.size) s.size _ (by omega) ⟨0,rfl,by omega⟩ (fun m v ⟨i,hi,hm⟩=>?_)
 obtain⟨v1,u⟩:=v
 simp only at hi
 subst hi
 rw[hf]
 by_cases hlt:i<s.size
 ·obtain⟨x,hx⟩:=sxC hlt
  obtain⟨b,hb⟩:=ZmZ x
  simp only[dec_lt hlt,if_true]
  unfold ZdN
  simp only[hx,hb,Option.bind_some,ZaW hlt (show s.size<4611686018427387904 by omega)]
  exact Wp.ite (fun _=>Wp.ret (.inl ⟨_,rfl,trivial⟩)) (fun _=>Wp.ret (.inr ⟨m - 1,(((i+1:Nat):Int),()),by omega,rfl,i+1,rfl,by omega⟩))
 ·have:i=s.size:=by omega
  subst this
  simp only[Za4,bF,if_false]
  exact Wp.bind (hfin.mono fun _ _=>Wp.ret (.inl ⟨_,rfl,trivial⟩))
theorem of3_wp {a b:ByteArray}{c:Zai}(ha:a.size≤1048576)(hb:b.size≤1048576):Wp (Zff a b c) fun _=>True:=by
 unfold Zff
 simp only[ZgI (show a.size+b.size≤9223372036854775807 by omega),Option.bind_some]
 exact Wp.ite (fun _=>Wp.ret trivial) (fun _=>Zju (fin:=Zgx c a b) (by rw[ByteArray.size_append];omega) ⟨_,rfl,trivial⟩ fun _=>rfl)
theorem of5_wp {b:ByteArray}{c:Zai}(hb:b.size≤1048576)(hc:c.Instance.size≤1048576):Wp (Zfg b c) fun _=>True:=by
 unfold Zfg
 simp only[ZgI (show b.size+c.Instance.size≤9223372036854775807 by omega),Option.bind_some]
 exact Wp.ite (fun _=>Wp.ret trivial) (fun _=>Zju (fin:=Zgy c b) (by rw[ByteArray.size_append];omega) ⟨_,rfl,trivial⟩ fun _=>rfl)
theorem of6_wp {b:ByteArray}{c:Zai}(hb:b.size≤1048576)(hc:c.Instance.size≤1048576):Wp (Zfh c b) fun _=>True:=by
 unfold Zfh
 simp only
 refine Wp.ite (fun _=>Wp.ret trivial) (fun _=>?_)
 refine Za9 (fun m (v:Int×Unit)=>∃i:Nat,v.1=i∧i+m=b.size) b.size _ (by omega) ⟨0,rfl,by omega⟩ (fun m v ⟨i,hi,hm⟩=>?_)
 obtain⟨v1,u⟩:=v
 simp only at hi
 subst hi
 by_cases hlt:i<b.size
 ·obtain⟨x,hx⟩:=sxC hlt
  obtain⟨d,hd,hdl⟩:=scC (s:=b) (l:=0) (h:=(i:Int)) (by omega) (by omega) (by omega)
  obtain⟨e,he,hel⟩:=scC (s:=b) (l:=((i+1:Nat):Int)) (h:=((ByteArray.size b:Nat):Int)) (by omega) (by omega) (by omega)
  have hw:IntKind.i64.wrap ((i:Int)+1)=((i+1:Nat):Int):=by rw[ZaI (by omega) (by omega)];omega
  simp only[dec_lt hlt,if_true,hx,hd,hw,he,Option.bind_some]
  refine Wp.ite (fun _=>?_) (fun _=>Wp.ret (.inr ⟨m - 1,_,by omega,rfl,i+1,rfl,by omega⟩))
  exact Wp.bind ((of3_wp (by omega) (by omega)).mono fun _ _=>Wp.ret (.inl ⟨_,rfl,trivial⟩))
 ·have:i=b.size:=by omega
  subst this
  simp only[Za4,bF,if_false]
  exact Wp.bind ((of5_wp hb hc).mono fun _ _=>Wp.ret (.inl ⟨_,rfl,trivial⟩))
theorem of_ex (s:ByteArray):∃r,Zc0 s=some (r,()):=by
 obtain⟨⟨r,u⟩,h,-⟩:Wp (Zc0 s) fun _=>True:=by
  unfold Zc0
  simp only
  refine Wp.ite (fun _=>Wp.ret trivial) (fun hs=>?_)
  simp only[decide_eq_false_iff_not]at hs
  refine Za9 (fun m (v:Int×ByteArray×Zai×Unit)=>∃i:Nat,v.1=i∧i+m=5∧v.2.1.size≤60∧v.2.2.1.Instance.size≤60) 4 _ (by omega) ⟨1,rfl,by omega,by decide,by decide⟩ (fun m v ⟨i,hi,hm,hb,hc⟩=>?_)
  obtain⟨v1,b,a,u⟩:=v
  simp only at hi hb hc
  subst hi
  obtain⟨x,hx,hx7⟩:=Zpc ((i:Nat):Int)
  have h1:(⟨#[46]⟩:ByteArray).size=1:=rfl
  have hw:IntKind.i64.wrap ((i:Int)+1)=((i+1:Nat):Int):=by rw[ZaI (by omega) (by omega)];omega
  simp only[gS,gA,gA',gB,gC,gD,gE,gF,gM,gAnd,gOr,Option.bind_some,hx,ZgI (show(⟨#[46]⟩:ByteArray).size+x.size≤9223372036854775807 by rw[h1];omega),hw]
  have hsz:(⟨#[46]⟩++x:ByteArray).size=1+x.size:=by rw[ByteArray.size_append,h1]
  generalize (⟨#[46]⟩++x:ByteArray)=d at hsz
  refine Wp.ite (fun hle=>?_) (fun _=>Wp.bind ((of6_wp (by omega) (by omega)).mono fun _ _=>Wp.ret (.inl ⟨_,rfl,trivial⟩)))
  simp only[decide_eq_true_eq]at hle
  by_cases hgt:s.size>d.size
  ·have hd:decide (((s.size:Nat):Int)>((d.size:Nat):Int))=true:=by simp;omega
   have hwr:IntKind.i64.wrap (((s.size:Nat):Int) - ((d.size:Nat):Int))=((s.size:Nat):Int) - ((d.size:Nat):Int):=ZaI (by omega) (by omega)
   obtain⟨e,he,hel⟩:=scC (s:=s) (l:=((s.size:Nat):Int) - ((d.size:Nat):Int)) (h:=((s.size:Nat):Int)) (by omega) (by omega) (by omega)
   obtain⟨g,hg,hgl⟩:=scC (s:=s) (l:=0) (h:=((s.size:Nat):Int) - ((d.size:Nat):Int)) (by omega) (by omega) (by omega)
   simp only[hd,hwr,he,hg,if_true,Bool.true_and,Option.bind_some]
   exact Wp.ite (fun _=>Wp.ret (.inr ⟨m - 1,_,by omega,rfl,i+1,rfl,by omega,by simp only;omega,hc⟩)) (fun _=>Wp.ret (.inr ⟨m - 1,_,by omega,rfl,i+1,rfl,by omega,hb,hc⟩))
  ·have hd:decide (((s.size:Nat):Int)>((d.size:Nat):Int))=false:=by simp;omega
   simp only[hd,bF,if_false,Bool.false_and,Option.bind_some]
   exact Wp.ret (.inr ⟨m - 1,_,by omega,rfl,i+1,rfl,by omega,hb,hc⟩)
 exact⟨r,h⟩
theorem may1_ex (s:ByteArray):∃b,ZdJ s=some (b,()):=by
 obtain⟨r,hr⟩:=of_ex s
 unfold ZdJ
 simp only[hr,Option.bind_some]
 exact⟨_,rfl⟩
theorem act1_wp {a:Zam}{i:Nat}{s:Zca}(hi:i<a.Says.length)(hl:a.Says.length≤4):Wp (Zds (i:Int) s a) fun r=>(∃b,r=.inr (b,()))∨r=.inl (((i+1:Nat):Int),()):=by
 have hw:IntKind.i64.wrap ((i:Int)+1)=((i+1:Nat):Int):=by rw[ZaI (by omega) (by omega)];omega
 unfold Zds
 by_cases h0:0<i
 ·have hd:decide ((i:Int)>0)=true:=by simp;omega
  have hw2:IntKind.i64.wrap ((i:Int) - 1)=((i - 1:Nat):Int):=by rw[ZaI (by omega) (by omega)];omega
  have hx:ixN a.Says ((i - 1:Nat):Int)=some a.Says[i - 1]:=ixC (by omega)
  simp only[hd,hw,hw2,hx,if_true,Option.bind_some]
  exact Wp.ite (fun _=>Wp.ret (.inl ⟨_,rfl⟩)) (fun _=>Wp.ret (.inr rfl))
 ·have hd:decide ((i:Int)>0)=false:=by simp;omega
  simp only[hd,hw,bF,if_false,Option.bind_some]
  exact Wp.ret (.inr rfl)
theorem act_ex (a:Zam):∃b,Zb2 a=some (b,()):=by
 obtain⟨⟨b,u⟩,h,-⟩:Wp (Zb2 a) fun _=>True:=by
  obtain⟨r,hr⟩:=of_ex a.Unit_
  obtain⟨s1,hs1⟩:=Zih a.Lasts
  obtain⟨s2,hs2⟩:=Zih a.Ready
  obtain⟨s3,hs3⟩:=Zih a.Dies
  unfold Zb2
  simp only[gS,gA,gA',gB,gC,gD,gE,gF,gM,gAnd,gOr,Option.bind_some,hr,hs1,hs2,hs3]
  refine Wp.ite (fun _=>Wp.ret trivial) (fun _=>Wp.ite (fun _=>Wp.ret trivial) (fun hc=>?_))
  have hl:a.Says.length≤4:=by
   simp only[Bool.or_eq_false_iff,decide_eq_false_iff_not]at hc
   have:=hc.2;omega
  refine Za9 (fun m (v:Int×Unit)=>∃i:Nat,v.1=i∧i+m=a.Says.length) a.Says.length _ (by omega) ⟨0,rfl,by omega⟩ (fun m v ⟨i,hi,hm⟩=>?_)
  obtain⟨v1,u⟩:=v
  simp only at hi
  subst hi
  by_cases hlt:i<a.Says.length
  ·simp only[dec_lt hlt,if_true]
   refine Wp.bind (ZgJ hlt ?_)
   generalize a.Says[i]=s
   obtain⟨s4,hs4⟩:=Zih s.After
   simp only[hs4,Option.bind_some]
   have hcond:∀x y:Bool,(if (!x)=true then(if (!x)=true then some (some s.After)else some none).bind fun v65=>(if (!x)=true then(v65.bind fun v65o15=>some (v65o15==(1099511627776:Int)):Option Bool).bind fun v=>some (some v)else some none)else some none)=(if (!x)=true then some (some (s.After==1099511627776))else some none):=fun x y=>by cases x <;> rfl
   cases s4 with
   | false=>
    simp only[Bool.not_false,Bool.not_true,bF,if_false,if_true,Option.bind_some]
    exact Wp.ret (.inl ⟨_,rfl,trivial⟩)
   | true=>
    simp only[Bool.not_true,Bool.not_false,bF,if_false,if_true,Option.bind_some]
    generalize (s.After==1099511627776)=y
    cases y with
    | true=>
     simp only[Bool.false_or,Bool.or_false,Bool.not_true,bF,if_false,if_true,Option.bind_some]
     exact Wp.ret (.inl ⟨_,rfl,trivial⟩)
    | false=>
     simp only[Bool.false_or,Bool.or_false,Bool.not_false,bF,if_false,if_true,Option.bind_some]
     refine Wp.ite (fun _=>Wp.ret (.inl ⟨_,rfl,trivial⟩)) (fun hs=>?_)
     simp only[decide_eq_false_iff_not]at hs
     refine Za9 (fun m (v:Int×Unit)=>∃j:Nat,v.1=j∧j+m=s.Text.size) s.Text.size _ (by omega) ⟨0,rfl,by omega⟩ (fun m2 v ⟨j,hj,hm2⟩=>?_)
     obtain⟨v2,u2⟩:=v
     simp only at hj
     subst hj
     by_cases hlt2:j<s.Text.size
     ·obtain⟨x,hx⟩:=sxC hlt2
      simp only[dec_lt hlt2,if_true,hx,Option.bind_some,ZaW hlt2 (show s.Text.size<4611686018427387904 by omega),gS,gA,gA',gB,gC,gD,gE,gF,gM,gAnd,gOr]
      exact Wp.ite (fun _=>Wp.ret (.inl ⟨_,rfl,.inl ⟨_,rfl,trivial⟩⟩)) (fun _=>Wp.ret (.inr ⟨m2 - 1,(((j+1:Nat):Int),()),by omega,rfl,j+1,rfl,by omega⟩))
     ·have:j=s.Text.size:=by omega
      subst this
      simp only[Za4,bF,if_false]
      refine Wp.bind ((act1_wp hlt hl).mono fun r hr=>?_)
      rcases hr with⟨b,rfl⟩ | rfl
      ·exact Wp.ret (.inl ⟨_,rfl,.inl ⟨_,rfl,trivial⟩⟩)
      ·exact Wp.ret (.inl ⟨_,rfl,.inr ⟨m - 1,_,by omega,rfl,i+1,rfl,by omega⟩⟩)
  ·have:i=a.Says.length:=by omega
   subst this
   simp only[Za4,bF,if_false]
   exact Wp.ret (.inl ⟨_,rfl,trivial⟩)
 exact⟨b,h⟩
theorem may2_wp {w:Zaf}(hl:w.Asks.length≤1048576):Wp (ZdZ w) fun _=>True:=by
 unfold ZdZ
 simp only
 refine Za9 (fun m (v:Int×Unit)=>∃i:Nat,v.1=i∧i+m=w.Asks.length) w.Asks.length _ (by omega) ⟨0,rfl,by omega⟩ (fun m v ⟨i,hi,hm⟩=>?_)
 obtain⟨v1,u⟩:=v
 simp only at hi
 subst hi
 by_cases hlt:i<w.Asks.length
 ·simp only[dec_lt hlt,if_true]
  refine Wp.bind (ZgJ hlt ?_)
  generalize w.Asks[i]=s
  obtain⟨r,hr⟩:=may1_ex s.Unit_
  simp only[gS,gA,gA',gB,gC,gD,gE,gF,gM,gAnd,gOr,Option.bind_some,Zjs,hr,ZaW hlt (show w.Asks.length<4611686018427387904 by omega)]
  generalize (!(decide (s.At≥0)&&decide (s.At<6311433600)) || !r || decide (s.Type_<1) || decide (s.Type_>4))=b
  cases b with
  | true=>
   simp only[Bool.not_true,bF,if_false,if_true,Option.bind_some]
   first
    | exact Wp.ret (.inl ⟨_,rfl,trivial⟩)
    | (simp;exact Wp.ret (.inl ⟨_,rfl,trivial⟩))
  | false=>
   by_cases h0:0<i
   ·have hd:decide ((i:Int)>0)=true:=by simp;omega
    have hw2:IntKind.i64.wrap ((i:Int) - 1)=((i - 1:Nat):Int):=by rw[ZaI (by omega) (by omega)];omega
    have hx:ixN w.Asks ((i - 1:Nat):Int)=some w.Asks[i - 1]:=ixC (by omega)
    simp only[hd,hw2,hx,Bool.not_false,Bool.and_self,bF,if_true,if_false,Option.bind_some]
    exact Wp.ite (fun _=>Wp.ret (.inl ⟨_,rfl,trivial⟩)) (fun _=>Wp.ret (.inr ⟨m - 1,(((i+1:Nat):Int),()),by omega,rfl,i+1,rfl,by omega⟩))
   ·have hd:decide ((i:Int)>0)=false:=by simp;omega
    simp only[hd,Bool.and_false,Bool.not_false,bF,if_true,if_false,Option.bind_some]
    exact Wp.ret (.inr ⟨m - 1,(((i+1:Nat):Int),()),by omega,rfl,i+1,rfl,by omega⟩)
 ·have:i=w.Asks.length:=by omega
  subst this
  simp only[Za4,bF,if_false]
  exact Wp.ret (.inl ⟨_,rfl,trivial⟩)
theorem may3_wp {w:Zaf}(hl:w.Calls.length≤1048576)(ha:w.Asks.length≤1048576):Wp (Zd0 w) fun r=>r.1=true→Ord1 w.Calls:=by
 unfold Zd0
 simp only
 refine Za9 (fun m (v:Int×Unit)=>∃i:Nat,v.1=i∧i+m=w.Calls.length∧Ord1 (w.Calls.take i)∧∀x∈w.Calls.take i,∀y,w.Calls[i - 1]?=some y→x.At≤y.At) w.Calls.length _ (by omega) ⟨0,rfl,by omega,by simp[Ord1],by simp⟩ (fun m v ⟨i,hi,hm,ho,hx⟩=>?_)
 obtain⟨v1,u⟩:=v
 simp only at hi
 subst hi
 by_cases hlt:i<w.Calls.length
 ·have htk:w.Calls.take (i+1)=w.Calls.take i++[w.Calls[i]]:=by rw[List.take_add_one,gG hlt];rfl
  have step:(∀x∈w.Calls.take i,x.At≤w.Calls[i].At)→Ord1 (w.Calls.take (i+1))∧∀x∈w.Calls.take (i+1),∀y,w.Calls[i+1 - 1]?=some y→x.At≤y.At:=fun hall=>by
   refine⟨?_,fun x hx y hy=>?_⟩
   ·rw[htk]
    exact List.pairwise_append.2 ⟨ho,List.pairwise_singleton _ _,fun x hx y hy=>by rw[List.mem_singleton]at hy;rw[hy];exact hall x hx⟩
   ·rw[show i+1 - 1=i by omega,gG hlt]at hy
    cases hy
    rw[htk,List.mem_append,List.mem_singleton]at hx
    rcases hx with hx | rfl
    ·exact hall x hx
    ·exact Int.le_refl _
  simp only[dec_lt hlt,if_true]
  refine Wp.bind (ZgJ hlt ?_)
  generalize hs:w.Calls[i]=s at step
  obtain⟨sp,hsp⟩:=Zih s.Takes
  simp only[gS,gA,gA',gB,gC,gD,gE,gF,gM,gAnd,gOr,Option.bind_some,Zjs,hsp,ZaW hlt (show w.Calls.length<4611686018427387904 by omega)]
  generalize (!(decide (s.At≥0)&&decide (s.At<6311433600)) || decide (s.Port<1) || decide (s.Port>65535) || !sp || s.Takes==1099511627776)=b
  cases b with
  | true=>
   simp only[Bool.not_true,bF,if_false,if_true,Option.bind_some]
   first
    | exact Wp.ret (.inl ⟨_,rfl,fun h=>by cases h⟩)
    | (simp;exact Wp.ret (.inl ⟨_,rfl,fun h=>by cases h⟩))
  | false=>
   by_cases h0:0<i
   ·have hd:decide ((i:Int)>0)=true:=by simp;omega
    have hw2:IntKind.i64.wrap ((i:Int) - 1)=((i - 1:Nat):Int):=by rw[ZaI (by omega) (by omega)];omega
    have hx2:ixN w.Calls ((i - 1:Nat):Int)=some w.Calls[i - 1]:=ixC (by omega)
    simp only[hd,hw2,hx2,Bool.not_false,Bool.and_self,bF,if_true,if_false,Option.bind_some]
    refine Wp.ite (fun _=>Wp.ret (.inl ⟨_,rfl,fun h=>by cases h⟩)) (fun hc=>?_)
    simp only[decide_eq_false_iff_not]at hc
    have:=step fun x hxm=>by
     have:=hx x hxm _ (gG (show i - 1<w.Calls.length by omega))
     omega
    exact Wp.ret (.inr ⟨m - 1,(((i+1:Nat):Int),()),by omega,rfl,i+1,rfl,by omega,this⟩)
   ·have hd:decide ((i:Int)>0)=false:=by simp;omega
    have hi0:i=0:=by omega
    simp only[hd,Bool.and_false,Bool.not_false,bF,if_true,if_false,Option.bind_some]
    have:=step fun x hxm=>by rw[hi0]at hxm;simp at hxm
    exact Wp.ret (.inr ⟨m - 1,(((i+1:Nat):Int),()),by omega,rfl,i+1,rfl,by omega,this⟩)
 ·have:i=w.Calls.length:=by omega
  subst this
  simp only[Za4,bF,if_false]
  refine Wp.bind ((may2_wp ha).mono fun r _=>Wp.ret (.inl ⟨_,rfl,fun _=>?_⟩))
  rw[List.take_length]at ho
  exact ho
theorem ZqA {w:Zaf}(hc:w.Calls.length≤1048576)(hk:w.Asks.length≤1048576)(hl:w.Acts.length≤1048576):Wp (Zdt w) fun r=>r.1=true→Ord1 w.Calls:=by
 unfold Zdt
 simp only[gS,gA,gA',gB,gC,gD,gE,gF,gM,gAnd,gOr,Option.bind_some]
 refine Wp.ite (fun _=>Wp.ret fun h=>by cases h) (fun _=>?_)
 refine Za9 (fun m (v:Int×Unit)=>∃i:Nat,v.1=i∧i+m=w.Acts.length) w.Acts.length _ (by omega) ⟨0,rfl,by omega⟩ (fun m v ⟨i,hi,hm⟩=>?_)
 obtain⟨v1,u⟩:=v
 simp only at hi
 subst hi
 by_cases hlt:i<w.Acts.length
 ·simp only[dec_lt hlt,if_true]
  refine Wp.bind (ZgJ hlt ?_)
  generalize w.Acts[i]=s
  obtain⟨r,hr⟩:=act_ex s
  simp only[hr,Option.bind_some]
  refine Wp.ite (fun _=>Wp.ret (.inl ⟨_,rfl,fun h=>by cases h⟩)) (fun _=>?_)
  rw[show ctN w.Acts 0 (i:Int)=some ((w.Acts.take i).drop 0)from ZoR (Nat.zero_le _) (by omega),Option.bind_some]
  have hd:((w.Acts.take i).drop 0).length≤1048576:=by simp;omega
  generalize (w.Acts.take i).drop 0=l at hd
  refine Za9 (fun m (v:Int×Unit)=>∃j:Nat,v.1=j∧j+m=l.length) l.length _ (by omega) ⟨0,rfl,by omega⟩ (fun m2 v ⟨j,hj,hm2⟩=>?_)
  obtain⟨v2,u2⟩:=v
  simp only at hj
  subst hj
  by_cases hlt2:j<l.length
  ·simp only[dec_lt hlt2,if_true]
   refine Wp.bind (ZgJ hlt2 ?_)
   simp only[gS,gA,gA',gB,gC,gD,gE,gF,gM,gAnd,gOr,Option.bind_some,ZaW hlt2 (show l.length<4611686018427387904 by omega)]
   exact Wp.ite (fun _=>Wp.ret (.inl ⟨_,rfl,.inl ⟨_,rfl,fun h=>by cases h⟩⟩)) (fun _=>Wp.ret (.inr ⟨m2 - 1,(((j+1:Nat):Int),()),by omega,rfl,j+1,rfl,by omega⟩))
  ·have:j=l.length:=by omega
   subst this
   simp only[Za4,bF,if_false]
   unfold ZfR
   simp only[Option.bind_some,ZaW hlt (show w.Acts.length<4611686018427387904 by omega)]
   exact Wp.ret (.inl ⟨_,rfl,.inr ⟨m - 1,(((i+1:Nat):Int),()),by omega,rfl,i+1,rfl,by omega⟩⟩)
 ·have:i=w.Acts.length:=by omega
  subst this
  simp only[Za4,bF,if_false]
  exact Wp.bind ((may3_wp hc hk).mono fun r hr=>Wp.ret (.inl ⟨_,rfl,hr⟩))
end Go.AW.M

namespace Go.AW.M
open Go.RowKit Go.Proofs
set_option maxRecDepth 100000
theorem sane_eq (c:Zac):Zc8 c=some (decide (c.Attempt≤1099511627776)&&decide (c.Rows≥0)&&decide (c.Rows≤1099511627776)&&decide (c.Num≥0)&&decide (c.Num≤1099511627776)&&decide (c.Seen≤1099511627776),()):=by
 unfold Zc8
 simp only[gS,gA,gA',gB,gC,gD,gE,gF,gM,gAnd,gOr,Option.bind_some]
structure MayP (w:Zaf)(c:Zac)(now:Int):Prop where
 ord:Ord1 w.Calls
 now:0≤now
 cell:CellP c
 att:c.Attempt≤1099511627776
 rows:c.Rows≤1099511627776
 waits:c.Waits.length≤64
theorem may_ex {w:Zaf}{c:Zac}{now:Int}(hw:w.Fit 1048576)(hc:c.Fit 1048576):∃b,Zdu w c now=some (b,())∧(b=true→MayP w c now):=by
 obtain⟨⟨a,u⟩,ha,ha2⟩:=ZqA hw.2.1 hw.2.2 hw.1.1
 obtain⟨b,hb,hb2⟩:=ZlT c (by have:=hc.2.1;omega)
 unfold Zdu
 simp only[gS,gA,gA',gB,gC,gD,gE,gF,gM,gAnd,gOr,Option.bind_some,Zjs,ha,hb,sane_eq]
 refine⟨_,rfl,fun hh=>?_⟩
 simp only[bA,decide_eq_true_eq]at hh
 obtain⟨⟨⟨⟨⟨⟨⟨h1,h2⟩,h3⟩,h4⟩,_⟩,_⟩,_⟩,h5⟩:=hh
 exact⟨ha2 h1,h2.1,hb2.1 h3,h4.1.1.1.1.1,h4.1.1.1.2,by omega⟩
theorem CellP.si {c:Zac}(h:CellP c)(hk:c.U.Kind=1)(hr:c.Rows≤1099511627776)(hb:c.Begins.length≤1048576)(hs:c.Serves.length≤1048576)(hsv:∀x∈c.Serves,x.Socket.size≤1048576∧I64 x.Num):SI c 1099511627776 c:=by
 obtain⟨h1,h2,h3,h4,h5,-⟩:=h
 obtain⟨⟨h5,h6⟩,h7⟩:=h5 hk
 exact⟨⟨rfl,h3,h2,by omega,List.eq_nil_of_length_eq_zero h7,hs,hsv⟩,h5,h6,h4,hr⟩
theorem CellP.pi {c:Zac}(h:CellP c)(hk:c.U.Kind≠1)(hr:c.Rows≤1099511627776)(hb:c.Begins.length≤1048576)(hw:c.Waits.length≤64):PI c 1099511627776 c:=by
 obtain⟨h1,h2,h3,h4,-,h5⟩:=h
 obtain⟨h5,h6,h7,h8,h9⟩:=h5 hk
 refine⟨rfl,h5,⟨h6,h7⟩,h3,h2,List.eq_nil_of_length_eq_zero h8,⟨fun hn=>?_,hw⟩,hb,h4,hr⟩
 rcases h9 with h9 | h9
 ·exact absurd h9 hn
 ·exact List.eq_nil_of_length_eq_zero h9
def RI (c0:Zac)(n:Int)(c:Zac):Prop:=(c0.U.Kind=1→SI c0 n c)∧(c0.U.Kind≠1→PI c0 n c)
theorem RI.cell {c0 c:Zac}{n:Int}(h:RI c0 n c):CellP c:=by
 by_cases hk:c0.U.Kind=1
 ·exact(h.1 hk).cell hk
 ·exact(h.2 hk).cell hk
theorem RI.beg {c0 c:Zac}{n:Int}(h:RI c0 n c):c.Begins.length≤2097152:=by
 by_cases hk:c0.U.Kind=1
 ·have:=(h.1 hk).ci.beg;omega
 ·have:=(h.2 hk).beg;omega
theorem RI.U {c0 c:Zac}{n:Int}(h:RI c0 n c):c.U=c0.U:=by
 by_cases hk:c0.U.Kind=1
 ·exact(h.1 hk).ci.U
 ·exact(h.2 hk).U
section
variable {w:Zaf}{c0 c:Zac}{n now typ:Int}
theorem Zpd (h:RI c0 n c)(hn:n≤4398046511104)(ht:0≤now)(hw:w.Fit 1048576)(hu:c0.U.Fit 1048576)(hnm:c0.U.Name.size≤1048576)(ho:Ord1 w.Calls):Wp (Zgd w c now) fun r=>RI c0 (n+1) r.1:=by
 have hU:=h.U
 unfold Zgd
 simp only[hU]
 refine Wp.ite (fun hk=>?_) (fun hk=>?_)
 ·simp only[beq_iff_eq]at hk
  exact Wp.bind ((ZoY (h.1 hk) hn ht hw hu).mono fun r hr=>Wp.ret ⟨fun _=>hr,fun e=>absurd hk e⟩)
 simp only[beq_eq_false_iff_ne,ne_eq]at hk
 have hp:=h.2 hk
 have fin:∀{x:Zac},PI c0 (n+1) x→RI c0 (n+1) x:=fun hx=>⟨fun e=>absurd e hk,fun _=>hx⟩
 refine Wp.ite (fun hk2=>?_) (fun _=>Wp.ite (fun _=>?_) (fun _=>?_))
 ·simp only[beq_iff_eq]at hk2
  exact Wp.bind ((ZlQ hp hk2 hn hu hw.2.1 ho).mono fun r hr=>Wp.ret (fin hr))
 ·exact Wp.bind ((ZkZ hp hn hu hnm).mono fun r hr=>Wp.ret (fin hr))
 ·rw[ZbC c (hp.fit hu),Option.bind_some]
  exact Wp.ret (fin (hp.up (by omega)))
theorem Zpe (h:RI c0 1099511627776 c0)(ht:0≤now)(hw:w.Fit 1048576)(hu:c0.U.Fit 1048576)(hat:c0.Attempt≤1099511627776)(hb:c0.Begins.length≤1048576)(hnum:∀x∈c0.Waits,I64 x.Num)(ho:Ord1 w.Calls):Wp (Zgc w c0.U c0 typ now) fun r=>RI c0 (1099511627776+65) r.1:=by
 unfold Zgc
 simp only
 refine Wp.ite (fun hk=>?_) (fun hk=>?_)
 ·simp only[beq_iff_eq]at hk
  refine Wp.bind ((ZoZ (w:=w) (typ:=typ) (h.1 hk) (by decide) ht hu hat hb).mono fun r hr=>Wp.ret ⟨fun _=>⟨hr.ci,hr.sv,hr.keep,by have:=hr.rows;simp only;omega⟩,fun e=>absurd hk e⟩)
 simp only[beq_eq_false_iff_ne,ne_eq]at hk
 have hp:=h.2 hk
 have fin:∀{x:Zac},PI c0 (1099511627776+65) x→RI c0 (1099511627776+65) x:=fun hx=>⟨fun e=>absurd e hk,fun _=>hx⟩
 refine Wp.ite (fun hk2=>?_) (fun _=>Wp.ite (fun _=>?_) (fun _=>Wp.ite (fun _=>?_) (fun _=>?_)))
 ·exact Wp.bind ((ZlR hp (by decide) hu hat hnum hw.2.1 ho).mono fun r hr=>Wp.ret (fin hr))
 ·exact Wp.bind ((Zk0 hp (by decide) hu hat).mono fun r hr=>Wp.ret (fin (hr.up (by decide))))
 ·exact Wp.bind ((Zo7 hp (by decide) hu hat).mono fun r hr=>Wp.ret (fin (hr.up (by decide))))
 ·rw[ZbC c0 (hp.fit hu),Option.bind_some]
  exact Wp.ret (fin (hp.up (by decide)))
theorem rDue_ex (h:RI c0 n c)(hw:w.Fit 1048576)(hu:c0.U.Fit 1048576)(ho:Ord1 w.Calls):∃t,Zg0 w c=some (t,()):=by
 have hU:=h.U
 obtain⟨_,hd,t,rfl⟩:Wp (Zg0 w c) (fun x=>∃t,x=(t,())):=by
  unfold Zg0
  simp only[hU]
  refine Wp.ite (fun hk=>?_) (fun _=>Wp.ite (fun _=>?_) (fun _=>Wp.ite (fun _=>?_) (fun _=>Wp.ret ⟨_,rfl⟩)))
  ·simp only[beq_iff_eq]at hk
   obtain⟨t,ht⟩:=sDue_ex (c:=c) hw (h.1 hk).ci.serves.1
   rw[ht,Option.bind_some]
   exact Wp.ret ⟨_,rfl⟩
  ·obtain⟨t,ht⟩:=Zok (c:=c) hw.2.1 ho (by rw[hU];exact hu.2.2.2.2.2.2.2.2.2.1)
   rw[ht,Option.bind_some]
   exact Wp.ret ⟨_,rfl⟩
  ·unfold ZhF
   simp only
   refine Wp.bind (Wp.ite (fun _=>Wp.ret (Wp.ret ⟨_,rfl⟩)) (fun _=>Wp.ret (Wp.ret ⟨_,rfl⟩)))
 exact⟨t,hd⟩
theorem r39 (h:RI c0 n c):ZbF c=some (true,()):=by
 obtain⟨b,hb,hb2⟩:=ZlT c h.beg
 rw[hb,hb2.2 h.cell]
end
theorem law (w:Zaf)(c:Zac)(typ now many:Int)(hw:w.Ok 1048576)(hc:c.Ok 1048576):Zb1 w c typ now many=some (true,()):=by
 have hwf:=hw.fit
 have hcf:=hc.fit
 obtain⟨b,hb,hb2⟩:=may_ex (now:=now) hwf hcf
 have hsh:Zdw=some (true,()):=rfl
 suffices h:Wp (Zb1 w c typ now many) fun r=>r=(true,())by
  obtain⟨r,h1,h2⟩:=h
  rw[h1,h2]
 unfold Zb1
 simp only[gS,gA,gA3,gA',gB,gC,gD,gE,gF,gM,gAnd,gOr,Option.bind_some,hsh,hb,Bool.not_true,bF,if_false]
 refine Wp.ite (fun _=>Wp.ret rfl) (fun h=>?_)
 simp only[Bool.or_eq_false_iff,Bool.not_eq_false',decide_eq_false_iff_not]at h
 obtain⟨⟨h1,-⟩,hm⟩:=h
 obtain⟨ho,ht,hcell,hat,hrows,hwt⟩:=hb2 h1
 obtain⟨hUok,_,_,_,hbeg,_,_,_,_,_,_,hsv,hwa,_⟩:=hc
 have hu:c.U.Fit 1048576:=hUok.fit
 have hnm:c.U.Name.size≤1048576:=hUok.1
 have hri:RI c 1099511627776 c:=⟨fun hk=>hcell.si hk hrows hbeg.1 hsv.1 fun x hx=>⟨(hsv.2 x hx).1,(hsv.2 x hx).2.1⟩,fun hk=>hcell.pi hk hrows hbeg.1 hwt⟩
 refine Wp.bind ((Zpe hri ht hwf hu hat hbeg.1 (fun x hx=>(hwa.2 x hx).2.1) ho).mono fun r hr=>?_)
 try simp only
 have fin:∀{n:Int} {x:Zac},RI c n x→Zb3 x=some (true,()):=fun hx=>by
  unfold Zb3
  rw[r39 hx]
  rfl
 refine Za9 (fun m (v:Int×Zac×Unit)=>∃i:Nat,v.1=i∧m=61 - i∧i≤61∧RI c (1099511627776+65+i) v.2.1) 61 _ (by decide) ⟨0,rfl,rfl,by decide,by simpa using hr⟩ (fun m v ⟨i,hi,hmi,hi61,hx⟩=>?_)
 obtain⟨v1,x,u⟩:=v
 simp only at hi hx
 subst hi
 refine Wp.ite (fun hlt=>?_) (fun _=>?_)
 ·simp only[decide_eq_true_eq]at hlt
  obtain⟨t,htd⟩:=rDue_ex hx hwf hu ho
  simp only[r39 hx,htd,Option.bind_some,Bool.not_true,bF,if_false]
  refine Wp.ite (fun _=>?_) (fun _=>?_)
  ·rw[fin hx,Option.bind_some]
   exact Wp.ret (.inl ⟨_,rfl,rfl⟩)
  ·refine Wp.bind ((Zpd hx (by omega) (by omega) hwf hu hnm ho).mono fun r hr=>?_)
   have hw2:IntKind.i64.wrap ((i:Int)+1)=((i+1:Nat):Int):=by rw[ZaI (by omega) (by omega)];omega
   simp only[hw2]
   refine Wp.ret (.inr ⟨61 - (i+1),_,by omega,rfl,i+1,rfl,rfl,by omega,?_⟩)
   rw[show(1099511627776:Int)+65+((i+1:Nat):Int)=1099511627776+65+i+1 by omega]
   exact hr
 ·rw[fin hx,Option.bind_some]
  exact Wp.ret (.inl ⟨_,rfl,rfl⟩)
end Go.AW.M
