/- Loops: the state at a head. · Loops: a head can be reached. · Loops; code. · Code; results; a function's body. · Contracts: binding of arguments. · Contracts: calls. · Contracts: a call by its contract. · Contracts: a function's tree gives its contract. · Facts of a program, computed: types. · Facts of a program, computed: types are as they are told. · Methods of a type that is no pointer, by its table; functions; the tables that the executor reads. -/
import Derived.Test.YtibiooglhpjojaaGreatDoorPc
import Derived.ChangeKeysEq
set_option linter.unusedSimpArgs false
set_option linter.unusedVariables false
namespace Go.AW
open Go.RowKit
structure Open (E:En)(S:SS):Prop where
 nv:E.ρ.length=S.nv
 wn:∀n,S.nw≤n→E.ω n=none
 bn:∀n,S.nb≤n→E.β n=none
theorem Open.name {E:En}{S:SS}(h:Open E S){row:Row}{av:AV}{org:List (GK×Nat×Nat)}:∃E',E.le E'∧E'.ρ=E.ρ++[row]∧E'.ι=E.ι∧E'.ω S.nw=some av∧Open E' { S with nv:=S.nv+1,nw:=S.nw+1,org:=org }∧∀g a,gav E' g=some a→gav E g=some a∨(g=.w S.nw∧a=av):=by
 refine⟨⟨E.ρ++[row],E.ι,fun n=>if n=S.nw then some av else E.ω n,E.β⟩,⟨⟨_,rfl⟩,fun _ _ h=>h,fun n x hx=>?_,fun _ _ h=>h⟩,rfl,rfl,by simp,⟨by simp[h.nv],fun n hn=>?_,h.bn⟩,fun g a hg=>?_⟩
 ·show(if n=S.nw then some av else E.ω n)=some x
  rw[if_neg]
  ·exact hx
  ·rintro rfl
   rw[h.wn _ (Nat.le_refl _)]at hx
   cases hx
 ·have hn:S.nw+1≤n:=hn
  show(if n=S.nw then some av else E.ω n)=none
  rw[if_neg (by omega)]
  exact h.wn n (by omega)
 ·cases g with
  | b b i=>exact .inl hg
  | w n=>
   simp only[gav]at hg
   split at hg
   ·rename_i e;cases hg;exact .inr ⟨by rw[e],rfl⟩
   ·exact .inl hg
theorem Open.block {E:En}{S:SS}(h:Open E S){row:Row}{cs:List AV}{org:List (GK×Nat×Nat)}{ob:List Ob}:∃E',E.le E'∧E'.ρ=E.ρ++[row]∧E'.ι=E.ι∧E'.β S.nb=some cs∧Open E' { S with nv:=S.nv+1,nb:=S.nb+1,ob:=ob,org:=org }∧∀g a,gav E' g=some a→gav E g=some a∨∃c:Nat,g=.b S.nb c∧cs[c]?=some a:=by
 refine⟨⟨E.ρ++[row],E.ι,E.ω,fun n=>if n=S.nb then some cs else E.β n⟩,⟨⟨_,rfl⟩,fun _ _ h=>h,fun _ _ h=>h,fun n x hx=>?_⟩,rfl,rfl,by simp,⟨by simp[h.nv],h.wn,fun n hn=>?_⟩,fun g a hg=>?_⟩
 ·show(if n=S.nb then some cs else E.β n)=some x
  rw[if_neg]
  ·exact hx
  ·rintro rfl
   rw[h.bn _ (Nat.le_refl _)]at hx
   cases hx
 ·have hn:S.nb+1≤n:=hn
  show(if n=S.nb then some cs else E.β n)=none
  rw[if_neg (by omega)]
  exact h.bn n (by omega)
 ·cases g with
  | w n=>exact .inl hg
  | b b i=>
   simp only[gav]at hg
   by_cases e:b=S.nb
   ·rw[if_pos e]at hg
    exact .inr ⟨i,by rw[e],by simpa using hg⟩
   ·rw[if_neg e]at hg
    exact .inl hg
theorem At.ev_last {ρ:List Row}{row:Row}{n:Nat}(h:ρ.length=n):(At.v n).ev (ρ++[row])=some row:=by
 subst h
 simp[At.ev]
theorem RB.whole {E:En}{k nb n:Nat}{row:Row}{cs:List AV}(h1:(At.v k).ev E.ρ=some row)(h2:dvos row=true)(h3:toDs cs=some row)(h4:row.length=n)(h5:E.β nb=some cs):RB E (.v k) n (.g nb 0) [] cs:=by
 have hl:=Zdd h3
 have h6:cs=(cs.drop 0).take n:=by rw[List.drop_zero,List.take_of_length_le (by omega)]
 have h7:RB0 E (.v k) n (.g nb 0) ((cs.drop 0).take n):=.g h1 h4 h2 h5 (by rw[← h6];exact h3)
 rw[← h6]at h7
 exact⟨cs,[],h7,AccR.nil E,rfl⟩
def HV (v:SV)(av:AV)(row:Row):Prop:=match v with
 | .one _ _=>∃x,row=[x]∧dvo x=true∧toD av=some x
 | .agg _ n _ _=>∃cs,av=.agg cs∧toDs cs=some row∧dvos row=true∧row.length=n
 | _=>True
structure Same (S S':SS):Prop where
 eq:S'.eq=S.eq
 xn:S'.xn=S.xn
 gr:S'.gr=S.gr
 kn:S'.kn=S.kn
 ac:S'.ac=S.ac
def NewSl (sl:List (Nat×SE))(tm:Tm)(i:Nat)(g:GK)(av:AV):Prop:=∃e,lk i sl=some e∧((∃a,e.v=.one a (some g)∧av=tm i)∨∃a n b c cs,e.v=.agg a n (.g b 0) []∧g=.b b c∧tm i=.agg cs∧cs[c]?=some av)
def NewOb (E:En)(obs:List Ob)(st:St)(j:Nat)(g:GK)(av:AV):Prop:=∃o b c id,obs[j]?=some o∧o.m=.g b 0∧o.ov=[]∧g=.b b c∧E.ι j=some id∧(st.obj id).2[c]?=some av
theorem ZjT {key:Nat}{tm:Tm}:∀(l:List Nat) {S S':SS} {sl sl':List (Nat×SE)} {E:En} {rs:List Row},ZdL key l S sl=some (S',sl')→Open E S→All2 (fun i row=>∀e,lk i sl=some e→HV e.v (tm i) row) l rs →
  ∃E',E.le E'∧E'.ρ=E.ρ++rs∧E'.ι=E.ι∧Open E' S'∧Same S S'∧S'.ob=S.ob∧(∀i e,lk i sl'=some e→(i∈l∧e.g=none∧RV E' e.v (tm i))∨(i ∉ l∧lk i sl=some e)) ∧
   (∀i,i ∉ l→lk i sl'=lk i sl)∧(l.Nodup→∀g av,gav E' g=some av→gav E g=some av∨∃i∈l,NewSl sl' tm i g av)
 | [],S,S',sl,sl',E,rs,h,ho,ha=>by
  cases rs with
  | cons _ _=>exact ha.elim
  | nil=>
   simp only[ZdL,oI,Prod.mk.injEq]at h
   obtain⟨rfl,rfl⟩:=h
   exact⟨E,.refl E,by simp,rfl,ho,⟨rfl,rfl,rfl,rfl,rfl⟩,rfl,fun i e he=>.inr ⟨by simp,he⟩,fun _ _=>rfl,fun _ g av h=>.inl h⟩
 | i::l,S,S',sl,sl',E,rs,h,ho,ha=>by
  cases rs with
  | nil=>exact ha.elim
  | cons row rs=>
   simp only[ZdL]at h
   cases hl:lk i sl with
   | none=>rw[hl]at h;cases h
   | some e=>
    rw[hl]at h
    simp only at h
    have hv:=ha.1 e hl
    have lkput:∀(e':SE) j,lk j (putE sl (some i) e')=if j=i then some e' else lk j sl:=by
     intro e' j
     simp only[putE,lk]
     by_cases hj:j=i
     ·rw[if_pos (by simp[hj,Nat.beq_eq]),if_pos hj]
     ·rw[if_neg (fun q=>hj (nbeq q)),if_neg hj,Zgi hj]
    have fin:∀{E1:En} {S1:SS} {e':SE},E.le E1→E1.ρ=E.ρ++[row]→E1.ι=E.ι→Open E1 S1→Same S S1→S1.ob=S.ob→e'.g=none→RV E1 e'.v (tm i)→(∀av row,HV e.v av row→HV e'.v av row)→ZdL key l S1 (putE sl (some i) e')=some (S',sl') →
      (∀g av,gav E1 g=some av→gav E g=some av∨((∃a,e'.v=.one a (some g)∧av=tm i)∨∃a n b c cs,e'.v=.agg a n (.g b 0) []∧g=.b b c∧tm i=.agg cs∧cs[c]?=some av)) →
      ∃E',E.le E'∧E'.ρ=E.ρ++row::rs∧E'.ι=E.ι∧Open E' S'∧Same S S'∧S'.ob=S.ob∧(∀j e,lk j sl'=some e→(j∈i::l∧e.g=none∧RV E' e.v (tm j))∨(j ∉ i::l∧lk j sl=some e)) ∧
       (∀j,j ∉ i::l→lk j sl'=lk j sl)∧((i::l).Nodup→∀g av,gav E' g=some av→gav E g=some av∨∃j∈i::l,NewSl sl' tm j g av):=by
     intro E1 S1 e' k1 k2 k3 k4 k5 k6 k7 k8 k9 k10 k11
     obtain⟨E2,j1,j2,j3,j4,j5,j6,j7,j8,j9⟩:=ZjT l k10 k4 (ha.2.imp fun j row' hj f hf=>by
      rw[lkput]at hf
      split at hf
      ·rename_i e
       cases hf
       subst e
       exact k9 _ _ (hj e hl)
      ·exact hj f hf)
     refine⟨E2,k1.trans j1,by rw[j2,k2];simp,j3.trans k3,j4,⟨j5.eq.trans k5.eq,j5.xn.trans k5.xn,j5.gr.trans k5.gr,j5.kn.trans k5.kn,j5.ac.trans k5.ac⟩,j6.trans k6,fun j f hf=>?_,fun j hj=>?_,fun hnd g av hg=>?_⟩
     rotate_left
     ·simp only[List.mem_cons,not_or]at hj
      rw[j8 j hj.2,lkput,if_neg hj.1]
     ·simp only[List.nodup_cons]at hnd
      rcases j9 hnd.2 g av hg with hg | ⟨j,hj,hg⟩
      ·rcases k11 g av hg with hg | hg
       ·exact .inl hg
       ·refine .inr ⟨i,List.mem_cons_self ..,e',?_,hg⟩
        rw[j8 i hnd.1,lkput,if_pos rfl]
      ·exact .inr ⟨j,List.mem_cons_of_mem _ hj,hg⟩
     rcases j7 j f hf with⟨q1,q2,q3⟩ | ⟨q1,q2⟩
     ·exact .inl ⟨List.mem_cons_of_mem _ q1,q2,q3⟩
     ·rw[lkput]at q2
      split at q2
      ·rename_i e
       cases q2
       subst e
       exact .inl ⟨List.mem_cons_self ..,k7,k8.mono j1⟩
      ·rename_i e
       exact .inr ⟨by simp[e,q1],q2⟩
    cases hev:e.v <;> simp only[hev]at h <;> first | (cases h;done) | skip
    ·rename_i a o
     rw[hev]at hv
     obtain⟨x,rfl,hx,hd⟩:=hv
     obtain⟨E1,k1,k2,k3,k4,k5,k6⟩:=ho.name (row:=[x]) (av:=tm i) (org:=(GK.w S.nw,key,i)::S.org)
     refine fin (e':=⟨none,.one (.v S.nv) (some (.w S.nw))⟩) k1 k2 k3 k5 ⟨rfl,rfl,rfl,rfl,rfl⟩ rfl rfl (.one1 (g:=.w S.nw) (by rw[k2];exact At.ev_last ho.nv) hx k4 hd) (fun av row hh=>?_) h (fun g av hg=>?_)
     ·rw[hev]at hh;exact hh
     ·rcases k6 g av hg with hg | ⟨rfl,rfl⟩
      ·exact .inl hg
      ·exact .inr (.inl ⟨_,rfl,rfl⟩)
    ·rename_i a n m ov
     rw[hev]at hv
     obtain⟨cs,hcs,hd,hx,hn⟩:=hv
     obtain⟨E1,k1,k2,k3,k4,k5,k6⟩:=ho.block (row:=row) (cs:=cs) (org:=S.org) (ob:=S.ob)
     refine fin (e':=⟨none,.agg (.v S.nv) n (.g S.nb 0) []⟩) k1 k2 k3 k5 ⟨rfl,rfl,rfl,rfl,rfl⟩ rfl rfl ?_ (fun av row hh=>?_) h (fun g av hg=>?_)
     ·rw[hcs]
      exact(RB.whole (by rw[k2];exact At.ev_last ho.nv) hx hd hn k4).agg
     ·rw[hev]at hh;exact hh
     ·rcases k6 g av hg with hq | ⟨c,rfl,hq⟩
      ·exact .inl hq
      ·exact .inr (.inr ⟨_,_,_,c,cs,rfl,rfl,hcs,hq⟩)
theorem ZjU {key:Nat}{st:St}:∀(l:List Nat) {S S':SS} {E:En} {rs:List Row},Zed key l S=some S'→Open E S→All2 (fun j row=>∀ob,S.ob[j]?=some ob→∃id,E.ι j=some id∧toDs (st.obj id).2=some row∧dvos row=true∧row.length=ob.n) l rs →
  ∃E',E.le E'∧E'.ρ=E.ρ++rs∧E'.ι=E.ι∧Open E' S'∧Same S S'∧S'.ob.length=S.ob.length∧(∀j o,S'.ob[j]?=some o→(j∈l∧∃x id,S.ob[j]?=some x∧o.t=x.t∧o.n=x.n∧E.ι j=some id∧RB E' o.a o.n o.m o.ov (st.obj id).2)∨(j ∉ l∧S.ob[j]?=some o)) ∧
   (∀j,j ∉ l→S'.ob[j]?=S.ob[j]?)∧(l.Nodup→∀g av,gav E' g=some av→gav E g=some av∨∃j∈l,NewOb E S'.ob st j g av)
 | [],S,S',E,rs,h,ho,ha=>by
  cases rs with
  | cons _ _=>exact ha.elim
  | nil=>
   simp only[Zed,oI]at h
   subst h
   exact⟨E,.refl E,by simp,rfl,ho,⟨rfl,rfl,rfl,rfl,rfl⟩,rfl,fun i e he=>.inr ⟨by simp,he⟩,fun _ _=>rfl,fun _ g av h=>.inl h⟩
 | j::l,S,S',E,rs,h,ho,ha=>by
  cases rs with
  | nil=>exact ha.elim
  | cons row rs=>
   simp only[Zed,objAt]at h
   cases hl:S.ob[j]? with
   | none=>rw[hl]at h;cases h
   | some ob=>
    rw[hl]at h
    simp only at h
    have hjl:j<S.ob.length:=(List.getElem?_eq_some_iff.1 hl).1
    obtain⟨id,h1,h2,h3,h4⟩:=ha.1 ob hl
    obtain⟨E1,k1,k2,k3,k4,k5,k6⟩:=ho.block (row:=row) (cs:=(st.obj id).2) (org:=(GK.b S.nb 0,key,j)::S.org) (ob:=setAt S.ob j ⟨ob.t,.v S.nv,ob.n,.g S.nb 0,[]⟩)
    have hrb:RB E1 (.v S.nv) ob.n (.g S.nb 0) [] (st.obj id).2:=RB.whole (by rw[k2];exact At.ev_last ho.nv) h3 h2 h4 k4
    obtain⟨E2,j1,j2,j3,j4,j5,j6,j7,j8,j9⟩:=ZjU l h k5 (ha.2.imp fun i row' hi f hf=>by
     simp only[Zc9]at hf
     split at hf
     ·rename_i c
      cases hf
      obtain⟨rfl,-⟩:=c
      obtain⟨id',q1,q2⟩:=hi ob hl
      exact⟨id',by rw[k3];exact q1,q2⟩
     ·obtain⟨id',q1,q2⟩:=hi f hf
      exact⟨id',by rw[k3];exact q1,q2⟩)
    refine⟨E2,k1.trans j1,by rw[j2,k2];simp,j3.trans k3,j4,⟨j5.eq,j5.xn,j5.gr,j5.kn,j5.ac⟩,by rw[j6];exact Zh8 ..,fun i f hf=>?_,fun i hi=>?_,fun hnd g av hg=>?_⟩
    rotate_left
    ·simp only[List.mem_cons,not_or]at hi
     rw[j8 i hi.2]
     simp only[Zc9]
     rw[if_neg (fun c=>hi.1 c.1)]
    ·simp only[List.nodup_cons]at hnd
     rcases j9 hnd.2 g av hg with hg | ⟨i,hi,o,b,c,id',q1,q2,q3,q4,q5,q6⟩
     ·rcases k6 g av hg with hq | ⟨c,rfl,hq⟩
      ·exact .inl hq
      ·refine .inr ⟨j,List.mem_cons_self ..,⟨ob.t,.v S.nv,ob.n,.g S.nb 0,[]⟩,S.nb,c,id,?_,rfl,rfl,rfl,h1,hq⟩
       rw[j8 j hnd.1]
       simp only[Zc9]
       rw[if_pos ⟨trivial,hjl⟩]
     ·exact .inr ⟨i,List.mem_cons_of_mem _ hi,o,b,c,id',q1,q2,q3,q4,by rw[← k3];exact q5,q6⟩
    rcases j7 i f hf with⟨q1,x,id',q2,q3,q4,q5,q6⟩ | ⟨q1,q2⟩
    ·simp only[Zc9]at q2
     rw[k3]at q5
     split at q2
     ·rename_i c
      cases q2
      obtain⟨rfl,-⟩:=c
      exact .inl ⟨List.mem_cons_self ..,ob,id',hl,q3,q4,q5,q6⟩
     ·exact .inl ⟨List.mem_cons_of_mem _ q1,x,id',q2,q3,q4,q5,q6⟩
    ·simp only[Zc9]at q2
     split at q2
     ·rename_i c
      cases q2
      obtain⟨rfl,-⟩:=c
      exact .inl ⟨List.mem_cons_self ..,ob,id,hl,rfl,rfl,h1,hrb.mono j1⟩
     ·rename_i c
      refine .inr ⟨?_,q2⟩
      simp only[List.mem_cons,not_or]
      refine⟨fun e=>c ⟨e,hjl⟩,q1⟩
end Go.AW

namespace Go.AW
open Go.RowKit
theorem ZjV {key:Nat}{ws:List Nat}{h:Hint}{i:Nat}{e:SE}:∀{sl:List (Nat×SE)},lk i (Zhj key ws h sl)=some e→(i∈h.sl∧lk i sl=some e)∨(i ∉ h.sl∧e.g=none∧((∃k,e.v=.dead k)∨lk i sl=some ⟨none,e.v⟩))
 | [],hh=>by simp[Zhj,lk]at hh
 | (j,f)::l,hh=>by
  simp only[Zhj,lk]at hh ⊢
  by_cases hj:Nat.beq i j=true
  ·rw[if_pos hj]at hh
   simp only[if_pos hj]
   obtain rfl:=nbeq hj
   by_cases hc:h.sl.contains i=true
   ·rw[if_pos hc]at hh
    exact .inl ⟨by simpa using hc,hh⟩
   ·rw[if_neg hc]at hh
    refine .inr ⟨by simpa using hc,?_⟩
    obtain⟨g,v⟩:=f
    cases g with
    | some a=>simp only[oI]at hh;subst hh;exact⟨rfl,.inl ⟨_,rfl⟩⟩
    | none=>
     simp only at hh
     split at hh
     ·cases hh;exact⟨rfl,.inl ⟨_,rfl⟩⟩
     ·split at hh
      ·cases hh;exact⟨rfl,.inl ⟨_,rfl⟩⟩
      ·cases hh;exact⟨rfl,.inr rfl⟩
  ·rw[if_neg hj]at hh
   simp only[if_neg hj]
   exact ZjV hh
theorem All2.mem {R R':Nat→Row→Prop}:∀{l:List Nat} {rs:List Row},(∀i,i∈l→∀r,R i r→R' i r)→All2 R l rs→All2 R' l rs
 | [],[],_,_=>trivial
 | i::l,r::rs,h,hh=>⟨h i (List.mem_cons_self ..) r hh.1,All2.mem (fun j hj=>h j (List.mem_cons_of_mem _ hj)) hh.2⟩
 | [],_::_,_,hh=>hh.elim
 | _::_,[],_,hh=>hh.elim
theorem All2.ex {R:Nat→Row→Prop}{i:Nat}:∀{l:List Nat} {rs:List Row},All2 R l rs→i∈l→∃r,R i r
 | [],[],_,h=>by simp at h
 | j::l,r::rs,hh,h=>by
  rcases List.mem_cons.1 h with rfl | h
  ·exact⟨r,hh.1⟩
  ·exact All2.ex hh.2 h
 | [],_::_,hh,_=>hh.elim
 | _::_,[],hh,_=>hh.elim
def AllZ {α β:Type}(R:α→β→Prop):List α→List β→Prop
 | [],[]=>True
 | x::l,y::m=>R x y∧AllZ R l m
 | _,_=>False
theorem AllZ.append {α β:Type}{R:α→β→Prop}:∀{a:List α} {b:List β} {c:List α} {d:List β},AllZ R a b→AllZ R c d→AllZ R (a++c) (b++d)
 | [],[],_,_,_,h=>h
 | x::a,y::b,_,_,h,h'=>⟨h.1,AllZ.append h.2 h'⟩
 | [],_::_,_,_,h,_=>h.elim
 | _::_,[],_,_,h,_=>h.elim
theorem AllZ.mem {α β:Type}{R:α→β→Prop}{x:α}:∀{a:List α} {b:List β},AllZ R a b→x∈a→∃y∈b,R x y
 | [],[],_,h=>by simp at h
 | z::a,y::b,hh,h=>by
  rcases List.mem_cons.1 h with rfl | h
  ·exact⟨y,List.mem_cons_self ..,hh.1⟩
  ·obtain⟨w,h1,h2⟩:=AllZ.mem hh.2 h
   exact⟨w,List.mem_cons_of_mem _ h1,h2⟩
 | [],_::_,hh,_=>hh.elim
 | _::_,[],hh,_=>hh.elim
abbrev Nm:=Option GK×TypeId
def NmR (E E1:En)(x y:Nm):Prop:=x.2=y.2∧∀g,x.1=some g→∃av,gav E g=some av∧∀g1,y.1=some g1→gav E1 g1=some av
theorem Znj {E E1:En}{sl sl1:List (Nat×SE)}{tm:Tm}(h:∀(i:Nat) (ge:Option At) (a:At) (o:Option GK),lk i sl=some ⟨ge,.one a o⟩→RV E (.one a o) (tm i)∧∃e1,lk i sl1=some e1∧RV E1 e1.v (tm i)) :
  ∀{l:List (Nat×TypeId)} {xs ys:List Nm},nowS sl l=some xs→nowS sl1 l=some ys→AllZ (NmR E E1) xs ys
 | [],xs,ys,h1,h2=>by simp only[nowS,oI]at h1 h2;subst h1;subst h2;trivial
 | (i,e)::l,xs,ys,h1,h2=>by
  simp only[nowS]at h1 h2
  split at h1
  ·rename_i ge a o r hl hr
   cases h1
   split at h2
   ·rename_i ge1 a1 o1 r1 hl1 hr1
    cases h2
    refine⟨⟨rfl,fun g hg=>?_⟩,Znj h hr hr1⟩
    obtain⟨k1,e1,k2,k3⟩:=h i ge a o hl
    rw[hl1]at k2
    cases k2
    simp only at hg k3
    subst hg
    refine⟨tm i,?_,fun g1 hg1=>?_⟩
    ·cases k1 with | one1 _ _ j1 _=>exact j1
    ·simp only at hg1
     subst hg1
     cases k3 with | one1 _ _ j1 _=>exact j1
   ·cases h2
  ·cases h1
theorem Zp2 {E E1:En}{obs obs1:List Ob}(h0:E.ω 0=some .nil)(h01:E1.ω 0=some .nil)(h:∀(j:Nat) (y y1:Ob),obs[j]?=some y→obs1[j]?=some y1→∃cs,RB E y.a y.n y.m y.ov cs∧RB E1 y1.a y1.n y1.m y1.ov cs) :
  ∀{l:List (Nat×Nat×TypeId)} {xs ys:List Nm},nowC obs l=some xs→nowC obs1 l=some ys→AllZ (NmR E E1) xs ys
 | [],xs,ys,h1,h2=>by simp only[nowC,oI]at h1 h2;subst h1;subst h2;trivial
 | (i,c,e)::l,xs,ys,h1,h2=>by
  simp only[nowC]at h1 h2
  split at h1
  ·rename_i y r hl hr
   cases h1
   split at h2
   ·rename_i y1 r1 hl1 hr1
    cases h2
    refine⟨⟨rfl,fun g hg=>?_⟩,Zp2 h0 h01 h hr hr1⟩
    obtain⟨cs,k1,k2⟩:=h i y y1 hl hl1
    obtain⟨av,j1,j2⟩:=ZdU h0 k1 hg
    refine⟨av,j2,fun g1 hg1=>?_⟩
    obtain⟨av1,j3,j4⟩:=ZdU h01 k2 hg1
    rw[j1]at j3
    cases j3
    exact j4
   ·cases h2
  ·cases h1
theorem Znk {E E1:En}{sl sl1:List (Nat×SE)}(h0:E.ω 0=some .nil)(h01:E1.ω 0=some .nil)(h:∀(i:Nat) (ge ge1:Option At) (a a1:At) (n n1:Nat) (m m1:BM) (ov ov1:List (Nat×Nat×SV)),lk i sl=some ⟨ge,.agg a n m ov⟩→lk i sl1=some ⟨ge1,.agg a1 n1 m1 ov1⟩→∃cs,RB E a n m ov cs∧RB E1 a1 n1 m1 ov1 cs) :
  ∀{l:List (Nat×Nat×TypeId)} {xs ys:List Nm},nowA sl l=some xs→nowA sl1 l=some ys→AllZ (NmR E E1) xs ys
 | [],xs,ys,h1,h2=>by simp only[nowA,oI]at h1 h2;subst h1;subst h2;trivial
 | (i,c,e)::l,xs,ys,h1,h2=>by
  simp only[nowA]at h1 h2
  split at h1
  ·rename_i ge a n m ov r hl hr
   cases h1
   split at h2
   ·rename_i ge1 a1 n1 m1 ov1 r1 hl1 hr1
    cases h2
    refine⟨⟨rfl,fun g hg=>?_⟩,Znk h0 h01 h hr hr1⟩
    obtain⟨cs,k1,k2⟩:=h i _ _ _ _ _ _ _ _ _ _ hl hl1
    obtain⟨av,j1,j2⟩:=ZdU (ob:=⟨0,a,n,m,ov⟩) h0 k1 hg
    refine⟨av,j2,fun g1 hg1=>?_⟩
    obtain⟨av1,j3,j4⟩:=ZdU (ob:=⟨0,a1,n1,m1,ov1⟩) h01 k2 hg1
    rw[j1]at j3
    cases j3
    exact j4
   ·cases h2
  ·cases h1
theorem Zgr {h:Hint}{q:Sq}{nms:List Nm}(hn:nowNm h q=some nms):∃a c b,nowS q.sl h.gs=some a∧nowA q.sl h.ga=some c∧nowC q.s.ob h.gc=some b∧nms=a++(c++b):=by
 unfold nowNm at hn
 split at hn
 ·rename_i a c b h1 h2 h3
  cases hn
  exact⟨a,c,b,h1,h2,h3,rfl⟩
 ·cases hn
theorem Zlp {sl:List (Nat×SE)}{i:Nat}{e:TypeId}:∀{l:List (Nat×TypeId)} {xs:List Nm},nowS sl l=some xs→(i,e)∈l→∃ge a o,lk i sl=some ⟨ge,.one a o⟩∧(o,e)∈xs
 | [],_,_,h=>by simp at h
 | (j,e')::l,xs,h1,h2=>by
  simp only[nowS]at h1
  split at h1
  ·rename_i ge a o r hl hr
   cases h1
   rcases List.mem_cons.1 h2 with h2 | h2
   ·cases h2
    exact⟨ge,a,o,hl,List.mem_cons_self ..⟩
   ·obtain⟨ge',a',o',q1,q2⟩:=Zlp hr h2
    exact⟨ge',a',o',q1,List.mem_cons_of_mem _ q2⟩
  ·cases h1
theorem Zlq {sl:List (Nat×SE)}{i c:Nat}{e:TypeId}:∀{l:List (Nat×Nat×TypeId)} {xs:List Nm},nowA sl l=some xs→(i,c,e)∈l→∃ge a n m ov,lk i sl=some ⟨ge,.agg a n m ov⟩∧(ZcF ⟨0,a,n,m,ov⟩ c,e)∈xs
 | [],_,_,h=>by simp at h
 | (j,c',e')::l,xs,h1,h2=>by
  simp only[nowA]at h1
  split at h1
  ·rename_i ge a n m ov r hl hr
   cases h1
   rcases List.mem_cons.1 h2 with h2 | h2
   ·cases h2
    exact⟨ge,a,n,m,ov,hl,List.mem_cons_self ..⟩
   ·obtain⟨ge',a',n',m',ov',q1,q2⟩:=Zlq hr h2
    exact⟨ge',a',n',m',ov',q1,List.mem_cons_of_mem _ q2⟩
  ·cases h1
theorem Zlr {obs:List Ob}{j c:Nat}{e:TypeId}:∀{l:List (Nat×Nat×TypeId)} {xs:List Nm},nowC obs l=some xs→(j,c,e)∈l→∃y,obs[j]?=some y∧(ZcF y c,e)∈xs
 | [],_,_,h=>by simp at h
 | (j',c',e')::l,xs,h1,h2=>by
  simp only[nowC]at h1
  split at h1
  ·rename_i y r hl hr
   cases h1
   rcases List.mem_cons.1 h2 with h2 | h2
   ·cases h2
    exact⟨y,hl,List.mem_cons_self ..⟩
   ·obtain⟨y',q1,q2⟩:=Zlr hr h2
    exact⟨y',q1,List.mem_cons_of_mem _ q2⟩
  ·cases h1
theorem Zgs {h:Hint}{i c:Nat}(hc:c∈Zfn h i):(∃e,(i,e)∈h.gs)∨∃e,(i,c,e)∈h.ga:=by
 unfold Zfn at hc
 rcases List.mem_append.1 hc with hc | hc
 ·obtain⟨⟨j,e⟩,h1,h2⟩:=List.mem_filterMap.1 hc
  split at h2
  ·rename_i q
   obtain rfl:=nbeq q
   exact .inl ⟨e,h1⟩
  ·cases h2
 ·obtain⟨⟨j,c',e⟩,h1,h2⟩:=List.mem_filterMap.1 hc
  split at h2
  ·rename_i q
   obtain rfl:=nbeq q
   cases h2
   exact .inr ⟨e,h1⟩
  ·cases h2
theorem ZjW {h:Hint}{j c:Nat}(hc:c∈ZgQ h j):(∃e,(j,c,e)∈h.gc)∨(j,c)∈h.dc:=by
 unfold ZgQ at hc
 rcases List.mem_append.1 hc with hc | hc
 ·obtain⟨⟨j,c',e⟩,h1,h2⟩:=List.mem_filterMap.1 hc
  split at h2
  ·rename_i q
   obtain rfl:=nbeq q
   cases h2
   exact .inl ⟨e,h1⟩
  ·cases h2
 ·obtain⟨⟨j,c'⟩,h1,h2⟩:=List.mem_filterMap.1 hc
  split at h2
  ·rename_i q
   obtain rfl:=nbeq q
   cases h2
   exact .inr h1
  ·cases h2
theorem ZkB {obs:List Ob}{j c b:Nat}{o:Ob}(ho:obs[j]?=some o)(hm:o.m=.g b 0):∀{l:List (Nat×Nat)},(j,c)∈l→GK.b b c∈Zh1 obs l
 | [],h=>by simp at h
 | (j',c')::l,h=>by
  simp only[Zh1]
  rcases List.mem_cons.1 h with h | h
  ·cases h
   obtain⟨t,a,n,m,ov⟩:=o
   simp only at hm
   subst hm
   rw[ho]
   exact List.mem_cons_self ..
  ·have:=ZkB ho hm h
   split
   ·exact List.mem_cons_of_mem _ this
   ·exact this
theorem ZjX:∀{l:List Nat},Zmh l=true→l.Nodup
 | [],_=>List.nodup_nil
 | x::l,h=>by
  simp only[Zmh,bA,Bool.not_eq_true']at h
  rw[List.nodup_cons]
  refine⟨fun hx=>?_,ZjX h.2⟩
  have:=List.any_eq_false.1 h.1 x hx
  simp at this
theorem Zls {g:GK}{l:List GK}(h:distinct (g::l)=true):(g=.w 0∨∀x∈l,x≠g)∧distinct l=true:=by
 by_cases hg:g=.w 0
 ·subst hg
  exact⟨.inl rfl,by simpa[distinct] using h⟩
 ·have e:distinct (g::l)=(!(l.any (eqG g))&&distinct l):=by
   cases g with
   | w n=>cases n with
    | zero=>exact absurd rfl hg
    | succ n=>rfl
   | b i j=>rfl
  rw[e]at h
  simp only[bA,Bool.not_eq_true']at h
  refine⟨.inr fun x hx hxe=>?_,h.2⟩
  have:=List.any_eq_false.1 h.1 x hx
  rw[hxe]at this
  exact this (Zh4 g)
theorem Za2 {hn:List Nm}{g:GK}{e:TypeId}:(g,e)∈ZeC hn↔(some g,e)∈hn:=by
 simp only[ZeC,List.mem_filterMap]
 constructor
 ·rintro⟨⟨o,e'⟩,h1,h2⟩
  cases o with
  | none=>cases h2
  | some g'=>simp only[oI,Prod.mk.injEq]at h2;obtain⟨rfl,rfl⟩:=h2;exact h1
 ·intro h;exact⟨_,h,rfl⟩
theorem ZfP {E E1:En}:∀{hn nms:List Nm},AllZ (NmR E E1) hn nms→distinct (nms.filterMap (·.1))=true→(∀y∈nms,∃g1,y.1=some g1)→∀{g e g' e'},(some g,e)∈hn→(some g',e')∈hn→g≠g' →
   ∃g1 g1' av av',(some g1,e)∈nms∧(some g1',e')∈nms∧(g1=.w 0∨g1'=.w 0∨g1≠g1')∧gav E g=some av∧gav E1 g1=some av∧gav E g'=some av'∧gav E1 g1'=some av'
 | [],[],_,_,_,g,e,g',e',h1,_,_=>by simp at h1
 | [],_::_,h,_,_,_,_,_,_,_,_,_=>h.elim
 | _::_,[],h,_,_,_,_,_,_,_,_,_=>h.elim
 | x::hn,y::nms,hz,hd,hg,g,e,g',e',h1,h2,hne=>by
  obtain⟨gy,hgy⟩:=hg y (List.mem_cons_self ..)
  obtain⟨oy,ey⟩:=y
  simp only at hgy
  subst hgy
  simp only[List.filterMap_cons]at hd
  obtain⟨hd1,hd2⟩:=Zls hd
  have pick:∀{g e g' e'},(some g,e)=x→(some g',e')∈hn→∃g1' av av',ey=e∧(some g1',e')∈nms∧(gy=.w 0∨g1'≠gy)∧gav E g=some av∧gav E1 gy=some av∧gav E g'=some av'∧gav E1 g1'=some av':=by
   intro g e g' e' hx hm
   subst hx
   obtain⟨k1,k2⟩:=hz.1
   obtain⟨av,k3,k4⟩:=k2 g rfl
   obtain⟨y',k5,k6,k7⟩:=hz.2.mem hm
   obtain⟨g1',hg1'⟩:=hg y' (List.mem_cons_of_mem _ k5)
   obtain⟨oy',ey'⟩:=y'
   simp only at hg1' k6
   subst hg1'
   subst k6
   obtain⟨av',k8,k9⟩:=k7 g' rfl
   refine⟨g1',av,av',k1.symm,k5,?_,k3,k4 gy rfl,k8,k9 g1' rfl⟩
   rcases hd1 with hd1 | hd1
   ·exact .inl hd1
   ·exact .inr (hd1 g1' (List.mem_filterMap.2 ⟨_,k5,rfl⟩))
  rcases List.mem_cons.1 h1 with h1 | h1 <;> rcases List.mem_cons.1 h2 with h2 | h2
  ·rw[← h1]at h2
   cases h2
   exact absurd rfl hne
  ·obtain⟨g1',av,av',rfl,q2,q3,q4,q5,q6,q7⟩:=pick h1 h2
   exact⟨gy,g1',av,av',List.mem_cons_self ..,List.mem_cons_of_mem _ q2,by rcases q3 with q | q;exact .inl q;exact .inr (.inr fun e=>q e.symm),q4,q5,q6,q7⟩
  ·obtain⟨g1',av,av',rfl,q2,q3,q4,q5,q6,q7⟩:=pick h2 h1
   exact⟨g1',gy,av',av,List.mem_cons_of_mem _ q2,List.mem_cons_self ..,by rcases q3 with q | q;exact .inr (.inl q);exact .inr (.inr q),q6,q7,q4,q5⟩
  ·obtain⟨g1,g1',av,av',q1,q2,q3⟩:=ZfP hz.2 hd2 (fun y hy=>hg y (List.mem_cons_of_mem _ hy)) h1 h2 hne
   exact⟨g1,g1',av,av',List.mem_cons_of_mem _ q1,List.mem_cons_of_mem _ q2,q3⟩
section
variable {P:Program}{C:Ctx}
theorem ZjY {key:Nat}{ws:List Nat}{h:Hint}{E0 E1:En}{q q1:Sq}{S0 S1 S2:SS}{sl2:List (Nat×SE)}{st0 st1:St}{tm0 tm1:Tm}{gr:List (GK×TypeId)}{rs rs':List Row}{hn nms:List Nm}
  (hm0:RM P C E0 S0 st0) (hs0:∀i e,i ∉ h.sl→lk i q.sl=some e→RSE E0 e (tm0 i)) (hle:E0.le E1) (hm1:RM P C E1 q1.s st1)
  (hsl:∀i e,lk i (Zhj key ws h q.sl)=some e→(∃k,e.v=.dead k)∨∃e1,lk i q1.sl=some e1∧RV E1 e1.v (tm1 i)∧(i∈h.sl→isAgg e.v=isAgg e1.v∧szV e.v=szV e1.v)∧(i ∉ h.sl→e1.v=e.v))
  (hob:∀j x,S0.ob[j]?=some x→∃y,q1.s.ob[j]?=some y∧(j∈h.ob→x.t=y.t∧x.n=y.n)∧(j ∉ h.ob→x=y))
  (hr1:All2 (SlRow h E1 q1.sl tm1) h.sl rs) (hr2:All2 (ObRow h E1 q1.s st1) h.ob rs') {xn0:List GK} (hbd:∀g∈bads S0,g∈flX gr++xn0) (hnd1:h.sl.Nodup) (hnd2:h.ob.Nodup) (hgr:∀x∈gr,x∈S0.gr)
  (hn1:nowNm h q1=some nms) (hgw:∀x∈nms,grows q1.s x.1 x.2=true) (hds:distinct (nms.filterMap (·.1))=true) (hgg:∀x∈gr,grows q1.s (some x.1) x.2=true∧∀y∈nms,y.1≠some x.1)
  (h1:ZdL key h.sl { S0 with gr:=[],xn:=xn0 } (Zhj key ws h q.sl)=some (S1,sl2)) (h2:Zed key h.ob S1=some S2) (h3:nowNm h ⟨S2,sl2⟩=some hn) :
  ∃EH,E0.le EH∧EH.ρ=E0.ρ++(rs++rs')∧RM P C EH { S2 with gr:=ZeC hn++gr,xn:=Zh1 S2.ob h.dc++S2.xn } st1∧RTS EH sl2 tm1:=by
 obtain⟨E2,a1,a2,a3,a4,a5,a6,a7,a8,a9⟩:=ZjT (tm:=tm1) (E:=E0) (rs:=rs) h.sl h1 ⟨hm0.nv,hm0.wn,hm0.bn⟩ (hr1.mem fun i hi row hrow e he=>by
  obtain⟨e1',k1,k2,k3,k4,-⟩:=hrow
  rcases hsl i e he with⟨k,hk⟩ | ⟨e1,j1,j2,j3,-⟩
  ·rw[hk];trivial
  ·rw[k1]at j1
   cases j1
   obtain⟨j4,j5⟩:=j3 hi
   cases hev:e.v <;> first | trivial | skip
   ·rw[hev]at j4
    rw[k2.one_cell (by rw[← j4];rfl)]at k4
    simp only[toDs]at k4
    cases hx:toD (tm1 i)with
    | none=>rw[hx]at k4;cases k4
    | some x=>
     rw[hx]at k4
     cases k4
     simp only[dvos,Bool.and_true]at k3
     exact⟨x,rfl,k3,hx⟩
   ·rw[hev]at j4 j5
    obtain⟨a1,n1,m1,ov1,e5⟩:∃a n m ov,e1'.v=.agg a n m ov:=by cases hq:e1'.v <;> first | exact⟨_,_,_,_,rfl⟩ | (rw[hq]at j4;cases j4)
    rw[e5]at k2 j5
    obtain⟨cs,hcs,hrb⟩:=k2.agg_inv
    rw[hcs]at k4 ⊢
    simp only[szV]at j5
    exact⟨cs,rfl,k4,k3,by rw[← Zdd k4,Zb4,hrb.len,j5]⟩)
 have hid:∀j x,S0.ob[j]?=some x→∃id y,E0.ι j=some id∧q1.s.ob[j]?=some y∧(id<st1.n∧st1.fz id=false)∧(st1.obj id).1=y.t∧RB E1 y.a y.n y.m y.ov (st1.obj id).2∧RB E0 x.a x.n x.m x.ov (st0.obj id).2∧(j∈h.ob→x.t=y.t∧x.n=y.n)∧(j ∉ h.ob→x=y):=by
  intro j x hx
  obtain⟨id,k1,k2,-,k3,k4⟩:=hm0.ob j x hx
  obtain⟨y,k5,k6,k7⟩:=hob j x hx
  obtain⟨id',k8,k9,k9',k10,k11⟩:=hm1.ob j y k5
  rw[hle.ι _ _ k1]at k8
  cases k8
  exact⟨id,y,k1,k5,⟨k9,k9'⟩,k10,k11,k4,k6,k7⟩
 obtain⟨E3,b1,b2,b3,b4,b5,b6,b7,b8,b9⟩:=ZjU (st:=st1) (E:=E2) (rs:=rs') h.ob h2 a4 (hr2.mem fun j hj row hrow ob hob'=>by
  obtain⟨ob1,id,k1,k2,k3,k4,-⟩:=hrow
  rw[a6]at hob'
  obtain⟨id',y,j1,j2,j3,j4,j5,j6,j7,-⟩:=hid j ob hob'
  rw[hle.ι _ _ j1]at k2
  cases k2
  refine⟨id,by rw[a3];exact j1,k4,k3,?_⟩
  rw[← Zdd k4,j5.len,(j7 hj).2])
 have hι:E3.ι=E0.ι:=b3.trans a3
 have hle3:=a1.trans b1
 have hone:∀i e,lk i sl2=some e→e.g=none∧RVd E3 e.v (tm1 i)∧((∃k,e.v=.dead k)∨∃e1,lk i q1.sl=some e1∧RV E1 e1.v (tm1 i)):=by
  intro i e he
  rcases a7 i e he with⟨k1,k2,k3⟩ | ⟨k1,k2⟩
  ·obtain⟨row,e1,j1,j2,-⟩:=hr1.ex k1
   exact⟨k2,.inr (k3.mono b1),.inr ⟨e1,j1,j2⟩⟩
  ·rcases ZjV k2 with⟨k3,-⟩ | ⟨-,k3,k4⟩
   ·exact absurd k3 k1
   ·refine⟨k3,?_⟩
    rcases k4 with k4 | k4
    ·exact⟨.inl k4,.inl k4⟩
    ·rcases hsl i e k2 with j1 | ⟨e1,j1,j2,-,j3⟩
     ·exact⟨.inl j1,.inl j1⟩
     ·have j4:=hs0 i _ k1 k4
      rcases j4 with j4 | j4
      ·exact⟨.inl j4,.inl j4⟩
      ·have j5:=j3 k1
       rw[j5]at j2
       obtain hq:=(j4.mono hle).uniq j2
       rw[hq]at j4
       exact⟨.inr (j4.mono hle3),.inr ⟨e1,j1,by rw[j5];exact j2⟩⟩
 have hobs:∀j o,S2.ob[j]?=some o→∃id y,E0.ι j=some id∧q1.s.ob[j]?=some y∧(id<st1.n∧st1.fz id=false)∧(st1.obj id).1=o.t∧RB E3 o.a o.n o.m o.ov (st1.obj id).2∧RB E1 y.a y.n y.m y.ov (st1.obj id).2:=by
  intro j o ho
  rcases b7 j o ho with⟨k1,x,id,k2,k3,k4,k5,k6⟩ | ⟨k1,k2⟩
  ·rw[a6]at k2
   obtain⟨id',y,j1,j2,j3,j4,j5,j6,j7,-⟩:=hid j x k2
   rw[a3,j1]at k5
   cases k5
   exact⟨id,y,j1,j2,j3,by rw[j4,k3,(j7 k1).1],k6,j5⟩
  ·rw[a6]at k2
   obtain⟨id',y,j1,j2,j3,j4,j5,j6,-,j7⟩:=hid j o k2
   obtain rfl:=j7 k1
   refine⟨id',o,j1,j2,j3,j4,?_,j5⟩
   rw[← (j6.mono hle).uniq j5]
   exact j6.mono hle3
 have w03:E3.ω 0=some .nil:=hle3.ω _ _ hm0.w0
 have h3':=h3
 obtain⟨xa,xc,xb,x1,x3,x2,rfl⟩:=Zgr h3
 obtain⟨ya,yc,yb,y1,y3,y2,rfl⟩:=Zgr hn1
 have hz:AllZ (NmR E3 E1) (xa++(xc++xb)) (ya++(yc++yb)):=by
  refine(Znj (tm:=tm1) (fun i ge a o hi=>?_) x1 y1).append ((Znk w03 hm1.w0 (fun i ge ge1 a a1 n n1 m m1 ov ov1 hi hi1=>?_) x3 y3).append (Zp2 w03 hm1.w0 (fun j y y1 hj hj1=>?_) x2 y2))
  ·obtain⟨k1,k2,k3⟩:=hone i _ hi
   refine⟨?_,?_⟩
   ·rcases k2 with⟨k,k2⟩ | k2
    ·cases k2
    ·exact k2
   ·rcases k3 with⟨k,k3⟩ | k3
    ·cases k3
    ·exact k3
  ·obtain⟨k1,k2,k3⟩:=hone i _ hi
   have k4:RV E3 (.agg a n m ov) (tm1 i):=by
    rcases k2 with⟨k,k2⟩ | k2
    ·cases k2
    ·exact k2
   have k5:RV E1 (.agg a1 n1 m1 ov1) (tm1 i):=by
    rcases k3 with⟨k,k3⟩ | ⟨e1,k3,k6⟩
    ·cases k3
    ·rw[hi1]at k3
     cases k3
     exact k6
   obtain⟨cs,k6,k7⟩:=k4.agg_inv
   obtain⟨cs',k8,k9⟩:=k5.agg_inv
   rw[k6]at k8
   cases k8
   exact⟨cs,k7,k9⟩
  ·obtain⟨id,y',k1,k2,k3,k4,k5,k6⟩:=hobs j y hj
   rw[hj1]at k2
   cases k2
   exact⟨_,k5,k6⟩
 have hnm1:∀i e,(i,e)∈h.gs→∃ge a o,lk i sl2=some ⟨ge,.one a o⟩∧(o,e)∈xa++(xc++xb):=fun i e hi=>by
  obtain⟨ge,a,o,q1,q2⟩:=Zlp x1 hi
  exact⟨ge,a,o,q1,List.mem_append.2 (.inl q2)⟩
 have hnm2:∀i c e,(i,c,e)∈h.ga→∃ge a n m ov,lk i sl2=some ⟨ge,.agg a n m ov⟩∧(ZcF ⟨0,a,n,m,ov⟩ c,e)∈xa++(xc++xb):=fun i c e hi=>by
  obtain⟨ge,a,n,m,ov,q1,q2⟩:=Zlq x3 hi
  exact⟨ge,a,n,m,ov,q1,List.mem_append.2 (.inr (List.mem_append.2 (.inl q2)))⟩
 have hnm3:∀j c e,(j,c,e)∈h.gc→∃y,S2.ob[j]?=some y∧(ZcF y c,e)∈xa++(xc++xb):=fun j c e hi=>by
  obtain⟨y,q1,q2⟩:=Zlr x2 hi
  exact⟨y,q1,List.mem_append.2 (.inr (List.mem_append.2 (.inr q2)))⟩
 generalize xa++(xc++xb)=hn at hz h3 hnm1 hnm2 hnm3 h3'
 generalize ya++(yc++yb)=nms at hz hn1 hgw hds hgg
 have hsome:∀y∈nms,∃g1,y.1=some g1∧(g1=.w 0∨(g1,y.2)∈q1.s.gr):=fun y hy=>Zex hm1 (hgw y hy)
 have hw0:∀{t s xs},gav E1 (.w 0)=some (.own t s xs)→False:=by
  intro t s xs hh
  have:=Zh2 hm1.w0
  rw[this]at hh
  cases hh
 have hw0x:∀{id o s cap xs},gav E1 (.w 0)=some (.xs id o s cap xs)→False:=by
  intro id o s cap xs hh
  have:=Zh2 hm1.w0
  rw[this]at hh
  cases hh
 have track:∀g e,(g,e)∈ZeC hn++gr→∃g1 av,gav E3 g=some av∧gav E1 g1=some av∧(g1=.w 0∨(g1,e)∈q1.s.gr):=by
  intro g e hge
  rcases List.mem_append.1 hge with hge | hge
  ·obtain⟨y,k1,k2,k3⟩:=hz.mem (Za2.1 hge)
   obtain⟨g1,k4,k5⟩:=hsome y k1
   obtain⟨av,k6,k7⟩:=k3 g rfl
   simp only at k2
   rw[← k2]at k5
   exact⟨g1,av,k6,k7 g1 k4,k5⟩
  ·obtain⟨av,k1,-⟩:=hm0.gr g e (hgr _ hge)
   obtain⟨g1,k2,k3⟩:=Zex hm1 (hgg _ hge).1
   cases k2
   exact⟨g,av,Zcv hle3 k1,Zcv hle k1,k3⟩
 refine⟨E3,hle3,by rw[b2,a2,List.append_assoc],?_,fun i e he=>?_⟩
 ·refine { nv:=b4.nv,w0:=w03,wn:=b4.wn,bn:=b4.bn,on:=?_,ob:=?_,inj:=by rw[hι];exact hm0.inj,gr:=?gr,gd:=?gd,gx:=?gx,ix:=?ix,hn:=?hn,wf:=hm1.wf,wf0:=hm1.wf0,kn:=?kn,ac:=?ac,eqc:=?eqc,fr:=hm1.fr,oA:=by rw[hι];exact hm0.oA,gT:=?gT,gA:=?gA }
  ·intro j hj
   rw[hι]
   refine hm0.on j ?_
   rw[← a6,← b6]
   exact hj
  ·intro j o ho
   obtain⟨id,y,k1,k2,k3,k4,k5,k6⟩:=hobs j o ho
   exact⟨id,by rw[hι];exact k1,k3.1,k3.2,k4,k5⟩
  case gr=>
   intro g e hge
   obtain⟨g1,av,k1,k2,k3⟩:=track g e hge
   refine⟨av,k1,?_⟩
   rcases k3 with rfl | k3
   ·rw[Zh2 hm1.w0]at k2
    cases k2
    exact .inl rfl
   ·obtain⟨av',k4,k5⟩:=hm1.gr g1 e k3
    rw[k2]at k4
    cases k4
    exact k5
  case gd=>
   intro g e g' e' hg1 hg2 hne t s xs s' xs' ho1 ho2
   rcases List.mem_append.1 hg1 with hg1 | hg1 <;> rcases List.mem_append.1 hg2 with hg2 | hg2
   ·obtain⟨g1,g1',av,av',k1,k2,k3,k4,k5,k6,k7⟩:=ZfP hz hds (fun y hy=>(hsome y hy).imp fun _ q=>q.1) (Za2.1 hg1) (Za2.1 hg2) hne
    rw[ho1]at k4
    rw[ho2]at k6
    cases k4;cases k6
    obtain⟨u,q1,q2⟩:=hsome _ k1
    obtain⟨u',q1',q2'⟩:=hsome _ k2
    cases q1;cases q1'
    rcases q2 with rfl | q2
    ·exact hw0 k5
    ·rcases q2' with rfl | q2'
     ·exact hw0 k7
     ·rcases k3 with rfl | rfl | k3
      ·exact hw0 k5
      ·exact hw0 k7
      ·exact hm1.gd _ _ _ _ q2 q2' k3 _ _ _ _ _ k5 k7
   ·obtain⟨y,k1,k2,k3⟩:=hz.mem (Za2.1 hg1)
    obtain⟨g1,k4,k5⟩:=hsome y k1
    obtain⟨av,k6,k7⟩:=k3 g rfl
    rw[ho1]at k6
    cases k6
    have k8:=k7 g1 k4
    obtain⟨j1,j2⟩:=hgg _ hg2
    obtain⟨g2,j3,j4⟩:=Zex hm1 j1
    cases j3
    obtain⟨av2,j5,-⟩:=hm0.gr _ _ (hgr _ hg2)
    rw[Zcv hle3 j5]at ho2
    cases ho2
    have j6:=Zcv hle j5
    rcases k5 with rfl | k5
    ·exact hw0 k8
    ·rcases j4 with e4 | j4
     ·simp only at e4;subst e4;exact hw0 j6
     ·exact hm1.gd _ _ _ _ k5 j4 (fun e=>j2 y k1 (by rw[k4,e])) _ _ _ _ _ k8 j6
   ·obtain⟨y,k1,k2,k3⟩:=hz.mem (Za2.1 hg2)
    obtain⟨g1,k4,k5⟩:=hsome y k1
    obtain⟨av,k6,k7⟩:=k3 g' rfl
    rw[ho2]at k6
    cases k6
    have k8:=k7 g1 k4
    obtain⟨j1,j2⟩:=hgg _ hg1
    obtain⟨g2,j3,j4⟩:=Zex hm1 j1
    cases j3
    obtain⟨av2,j5,-⟩:=hm0.gr _ _ (hgr _ hg1)
    rw[Zcv hle3 j5]at ho1
    cases ho1
    have j6:=Zcv hle j5
    rcases k5 with rfl | k5
    ·exact hw0 k8
    ·rcases j4 with e4 | j4
     ·simp only at e4;subst e4;exact hw0 j6
     ·exact hm1.gd _ _ _ _ k5 j4 (fun e=>j2 y k1 (by rw[k4,e])) _ _ _ _ _ k8 j6
   ·obtain⟨av1,j5,-⟩:=hm0.gr _ _ (hgr _ hg1)
    obtain⟨av2,j6,-⟩:=hm0.gr _ _ (hgr _ hg2)
    rw[Zcv hle3 j5]at ho1
    rw[Zcv hle3 j6]at ho2
    cases ho1;cases ho2
    exact hm0.gd _ _ _ _ (hgr _ hg1) (hgr _ hg2) hne _ _ _ _ _ j5 j6
  case gx=>
   intro g e g' e' hg1 hg2 hne id o s cap xs o' s' cap' xs' ho1 ho2
   rcases List.mem_append.1 hg1 with hg1 | hg1 <;> rcases List.mem_append.1 hg2 with hg2 | hg2
   ·obtain⟨g1,g1',av,av',k1,k2,k3,k4,k5,k6,k7⟩:=ZfP hz hds (fun y hy=>(hsome y hy).imp fun _ q=>q.1) (Za2.1 hg1) (Za2.1 hg2) hne
    rw[ho1]at k4
    rw[ho2]at k6
    cases k4;cases k6
    obtain⟨u,q1,q2⟩:=hsome _ k1
    obtain⟨u',q1',q2'⟩:=hsome _ k2
    cases q1;cases q1'
    rcases q2 with rfl | q2
    ·exact hw0x k5
    ·rcases q2' with rfl | q2'
     ·exact hw0x k7
     ·rcases k3 with rfl | rfl | k3
      ·exact hw0x k5
      ·exact hw0x k7
      ·exact hm1.gx _ _ _ _ q2 q2' k3 _ _ _ _ _ _ _ _ _ k5 k7
   ·obtain⟨y,k1,k2,k3⟩:=hz.mem (Za2.1 hg1)
    obtain⟨g1,k4,k5⟩:=hsome y k1
    obtain⟨av,k6,k7⟩:=k3 g rfl
    rw[ho1]at k6
    cases k6
    have k8:=k7 g1 k4
    obtain⟨j1,j2⟩:=hgg _ hg2
    obtain⟨g2,j3,j4⟩:=Zex hm1 j1
    cases j3
    obtain⟨av2,j5,-⟩:=hm0.gr _ _ (hgr _ hg2)
    rw[Zcv hle3 j5]at ho2
    cases ho2
    have j6:=Zcv hle j5
    rcases k5 with rfl | k5
    ·exact hw0x k8
    ·rcases j4 with e4 | j4
     ·simp only at e4;subst e4;exact hw0x j6
     ·exact hm1.gx _ _ _ _ k5 j4 (fun e=>j2 y k1 (by rw[k4,e])) _ _ _ _ _ _ _ _ _ k8 j6
   ·obtain⟨y,k1,k2,k3⟩:=hz.mem (Za2.1 hg2)
    obtain⟨g1,k4,k5⟩:=hsome y k1
    obtain⟨av,k6,k7⟩:=k3 g' rfl
    rw[ho2]at k6
    cases k6
    have k8:=k7 g1 k4
    obtain⟨j1,j2⟩:=hgg _ hg1
    obtain⟨g2,j3,j4⟩:=Zex hm1 j1
    cases j3
    obtain⟨av2,j5,-⟩:=hm0.gr _ _ (hgr _ hg1)
    rw[Zcv hle3 j5]at ho1
    cases ho1
    have j6:=Zcv hle j5
    rcases k5 with rfl | k5
    ·exact hw0x k8
    ·rcases j4 with e4 | j4
     ·simp only at e4;subst e4;exact hw0x j6
     ·exact hm1.gx _ _ _ _ k5 j4 (fun e=>j2 y k1 (by rw[k4,e])) _ _ _ _ _ _ _ _ _ k8 j6
   ·obtain⟨av1,j5,-⟩:=hm0.gr _ _ (hgr _ hg1)
    obtain⟨av2,j6,-⟩:=hm0.gr _ _ (hgr _ hg2)
    rw[Zcv hle3 j5]at ho1
    rw[Zcv hle3 j6]at ho2
    cases ho1;cases ho2
    exact hm0.gx _ _ _ _ (hgr _ hg1) (hgr _ hg2) hne _ _ _ _ _ _ _ _ _ j5 j6
  case ix=>
   intro g e id o s cap xs j hge ho hj
   obtain⟨g1,av,k1,k2,k3⟩:=track g e hge
   rw[ho]at k1
   cases k1
   rw[hι]at hj
   rcases k3 with rfl | k3
   ·exact hw0x k2
   ·exact hm1.ix g1 e _ _ _ _ _ j k3 k2 (hle.ι _ _ hj)
  case gA=>
   intro g e id o s cap xs hge ho
   obtain⟨g1,av,k1,k2,k3⟩:=track g e hge
   rw[ho]at k1
   cases k1
   rcases k3 with rfl | k3
   ·exact(hw0x k2).elim
   ·exact hm1.gA g1 e _ _ _ _ _ k3 k2
  case hn=>
   intro g av hg hb
   rw[Zcn]at hb
   have exn:S2.xn=xn0:=b5.xn.trans a5.xn
   have grown:∀e,(some g,e)∈hn→noX av=true:=by
    intro e he
    have hge:(g,e)∈ZeC hn++gr:=List.mem_append.2 (.inl (Za2.2 he))
    obtain⟨g1,av',k1,k2,k3⟩:=track g e hge
    rw[hg]at k1
    cases k1
    rcases k3 with rfl | k3
    ·rw[Zh2 hm1.w0]at k2
     cases k2;rfl
    ·obtain⟨av',k4,k5⟩:=hm1.gr g1 e k3
     rw[k2]at k4
     cases k4
     rcases k5 with rfl | ⟨-,t,s,xs,rfl,-⟩ | ⟨k5,-⟩
     ·rfl
     ·rfl
     ·exact absurd (List.mem_append.2 (.inl (ZcT.2 ⟨e,hge,k5⟩))) hb
   rcases b9 hnd2 g av hg with hg | ⟨j,hj,o,b,c,id,k1,k2,k3,rfl,k5,k6⟩
   ·rcases a9 hnd1 g av hg with hg | ⟨i,hi,e,k1,k2⟩
    ·refine hm0.hn g av hg (Zcn.2 fun hmem=>hb ?_)
     rcases List.mem_append.1 (hbd g hmem)with q | q
     ·refine List.mem_append.2 (.inl ?_)
      obtain⟨e,q1,q2⟩:=ZcT.1 q
      exact ZcT.2 ⟨e,List.mem_append.2 (.inr q1),q2⟩
     ·refine List.mem_append.2 (.inr (List.mem_append.2 (.inr ?_)))
      rw[exn];exact q
    ·obtain⟨row,e1',q1,q2,q3,q4,q5⟩:=hr1.ex hi
     obtain⟨-,w2,-⟩:=hone i e k1
     rcases k2 with⟨a,k2,rfl⟩ | ⟨a,n,b,c,cs,k2,rfl,k4,k5⟩
     ·by_cases hc:0∈Zfn h i
      ·obtain⟨ge,v⟩:=e
       simp only at k2
       subst k2
       rcases Zgs hc with⟨e',q6⟩ | ⟨e',q6⟩
       ·obtain⟨ge,a',o,q7,q8⟩:=hnm1 i e' q6
        rw[k1]at q7
        cases q7
        exact grown _ q8
       ·obtain⟨ge,a',n,m,ov,q7,-⟩:=hnm2 i 0 e' q6
        rw[k1]at q7
        cases q7
      ·have w3:RV E3 e.v (tm1 i):=by
        rcases w2 with⟨k,w2⟩ | w2
        ·rw[k2]at w2;cases w2
        ·exact w2
       rw[k2]at w3
       refine q5 0 _ ?_ hc
       rw[w3.one_cell rfl];rfl
     ·rw[k4,Zb4]at q5
      by_cases hc:c∈Zfn h i
      ·obtain⟨ge,v⟩:=e
       simp only at k2
       subst k2
       rcases Zgs hc with⟨e',q6⟩ | ⟨e',q6⟩
       ·obtain⟨ge,a',o,q7,-⟩:=hnm1 i e' q6
        rw[k1]at q7
        cases q7
       ·obtain⟨ge,a',n',m,ov,q7,q8⟩:=hnm2 i c e' q6
        rw[k1]at q7
        cases q7
        have w3:RV E3 (.agg a n (.g b 0) []) (tm1 i):=by
         rcases w2 with⟨k,w2⟩ | w2
         ·cases w2
         ·exact w2
        obtain⟨cs',w4,w5⟩:=w3.agg_inv
        rw[k4]at w4
        cases w4
        have hlt:c<n:=by rw[← w5.len];exact(List.getElem?_eq_some_iff.1 k5).1
        have hnmc:ZcF ⟨0,a,n,.g b 0,[]⟩ c=some (.b b c):=by
         unfold ZcF
         rw[if_neg (by simp only[Nat.ble_eq];omega)]
         simp[ZhW,nmOf]
        rw[hnmc]at q8
        exact grown _ q8
      ·exact q5 c av k5 hc
   ·obtain⟨row,ob1,id1,q1,q2,q3,q4,q5⟩:=hr2.ex hj
    have hid':id1=id:=by
     rw[a3]at k5
     rw[hle.ι _ _ k5]at q2
     exact(Option.some.inj q2).symm
    subst hid'
    by_cases hc:c∈ZgQ h j
    ·rcases ZjW hc with⟨e',q6⟩ | q6
     ·obtain⟨y,q7,q8⟩:=hnm3 j c e' q6
      rw[k1]at q7
      cases q7
      obtain⟨id',y',w1,w2,w3,w4,w5,w6⟩:=hobs j o k1
      have hlt:c<o.n:=by
       rw[← w5.len]
       rw[a3,w1]at k5
       cases k5
       exact(List.getElem?_eq_some_iff.1 k6).1
      have hnmc:ZcF o c=some (.b b c):=by
       unfold ZcF
       rw[if_neg (by simp only[Nat.ble_eq];omega),k3]
       simp[ZhW,nmOf,k2]
      rw[hnmc]at q8
      exact grown _ q8
     ·exact absurd (List.mem_append.2 (.inr (List.mem_append.2 (.inl (ZkB k1 k2 q6))))) hb
    ·exact q5 c av k6 hc
  case kn=>
   intro i b hi
   have e1:S2.kn=S0.kn:=b5.kn.trans a5.kn
   have hi':(i,b)∈S2.kn:=hi
   rw[e1]at hi'
   exact At.ev_le (a:=.v i) hle3 (hm0.kn i b hi')
  case ac=>
   intro x hx
   have e1:S2.ac=S0.ac:=b5.ac.trans a5.ac
   have hx':x∈S2.ac:=hx
   rw[e1]at hx'
   obtain⟨l,hl⟩:=hle3.ρ
   rw[hl]
   exact(hm0.ac x hx').mono l
  case eqc=>
   intro x hx
   have e1:S2.eq=S0.eq:=b5.eq.trans a5.eq
   have hx':x∈S2.eq:=hx
   rw[e1]at hx'
   obtain⟨l,hl⟩:=hle3.ρ
   rw[hl]
   exact(hm0.eqc x hx').mono l
  case gT=>
   intro g e t s xs hge ho
   obtain⟨g1,av,k1,k2,k3⟩:=track g e hge
   rw[ho]at k1
   cases k1
   rcases k3 with rfl | k3
   ·exact(hw0 k2).elim
   ·exact hm1.gT g1 e t s xs k3 k2
 ·obtain⟨k1,k2,-⟩:=hone i e he
  obtain⟨ge,v⟩:=e
  simp only at k1
  subst k1
  exact k2
end
end Go.AW

namespace Go.AW
open Go.RowKit
theorem Ziz {i j:Nat}{sl:List (Nat×SE)}{e:SE}:lk j (putE sl (some i) e)=if j=i then some e else lk j sl:=by
 simp only[putE,lk]
 by_cases hj:j=i
 ·rw[if_pos (by simp[hj,Nat.beq_eq]),if_pos hj]
 ·rw[if_neg (fun q=>hj (nbeq q)),if_neg hj,Zgi hj]
theorem ZgT {key:Nat}:∀{l:List Nat} {S S':SS} {sl sl':List (Nat×SE)},ZdL key l S sl=some (S',sl')→S'.ob=S.ob∧∀i e,lk i sl=some e→∃e',lk i sl'=some e'∧(i ∉ l→e'=e)∧isAgg e'.v=isAgg e.v∧szV e'.v=szV e.v∧(i∈l→∀k,e'.v≠.dead k)
 | [],S,S',sl,sl',h=>by
  simp only[ZdL,oI,Prod.mk.injEq]at h
  obtain⟨rfl,rfl⟩:=h
  exact⟨rfl,fun i e he=>⟨e,he,fun _=>rfl,rfl,rfl,fun h=>by simp at h⟩⟩
 | j::l,S,S',sl,sl',h=>by
  simp only[ZdL]at h
  cases hl:lk j sl with
  | none=>rw[hl]at h;cases h
  | some f=>
   rw[hl]at h
   simp only at h
   have fin:∀{S1:SS} {f':SE},S1.ob=S.ob→isAgg f'.v=isAgg f.v→szV f'.v=szV f.v→(∀k,f'.v≠.dead k)→ZdL key l S1 (putE sl (some j) f')=some (S',sl') →
     S'.ob=S.ob∧∀i e,lk i sl=some e→∃e',lk i sl'=some e'∧(i ∉ j::l→e'=e)∧isAgg e'.v=isAgg e.v∧szV e'.v=szV e.v∧(i∈j::l→∀k,e'.v≠.dead k):=by
    intro S1 f' k1 k2 k3 k4 k5
    obtain⟨j1,j2⟩:=ZgT k5
    refine⟨j1.trans k1,fun i e he=>?_⟩
    by_cases hij:i=j
    ·subst hij
     rw[hl]at he
     cases he
     obtain⟨e',q1,q2,q3,q4,q5⟩:=j2 i f' (by rw[Ziz,if_pos rfl])
     refine⟨e',q1,fun q=>absurd (List.mem_cons_self ..) q,q3.trans k2,q4.trans k3,fun _=>?_⟩
     by_cases hm:i∈l
     ·exact q5 hm
     ·rw[q2 hm];exact k4
    ·obtain⟨e',q1,q2,q3,q4,q5⟩:=j2 i e (by rw[Ziz,if_neg hij];exact he)
     exact⟨e',q1,fun q=>q2 fun w=>q (List.mem_cons_of_mem _ w),q3,q4,fun q=>q5 (by rcases List.mem_cons.1 q with q | q;exact absurd q hij;exact q)⟩
   cases hev:f.v <;> simp only[hev]at h <;> first | (cases h;done) | skip
   ·refine fin (f':=⟨none,.one (.v S.nv) (some (.w S.nw))⟩) ?_ ?_ ?_ (fun k e=>by cases e) h
    ·rfl
    ·rw[hev];rfl
    ·rw[hev];rfl
   ·refine fin (f':=⟨none,.agg (.v S.nv) _ (.g S.nb 0) []⟩) ?_ ?_ ?_ (fun k e=>by cases e) h
    ·rfl
    ·rw[hev];rfl
    ·rw[hev];rfl
theorem ZfZ {key:Nat}:∀{l:List Nat} {S S':SS},Zed key l S=some S'→∀(j:Nat) (x:Ob),S.ob[j]?=some x→∃o,S'.ob[j]?=some o∧o.t=x.t∧o.n=x.n∧(j ∉ l→o=x)
 | [],S,S',h,j,x,hx=>by
  simp only[Zed,oI]at h
  subst h
  exact⟨x,hx,rfl,rfl,fun _=>rfl⟩
 | i::l,S,S',h,j,x,hx=>by
  simp only[Zed,objAt]at h
  cases hl:S.ob[i]? with
  | none=>rw[hl]at h;cases h
  | some ob=>
   rw[hl]at h
   simp only at h
   by_cases hij:j=i
   ·subst hij
    rw[hl]at hx
    cases hx
    obtain⟨o,k1,k2,k3,k4⟩:=ZfZ h j ⟨x.t,.v S.nv,x.n,.g S.nb 0,[]⟩ (by
     simp only[Zc9];rw[if_pos (by simp[(List.getElem?_eq_some_iff.1 hl).1])])
    exact⟨o,k1,k2,k3,fun q=>absurd (List.mem_cons_self ..) q⟩
   ·obtain⟨o,k1,k2,k3,k4⟩:=ZfZ h j x (by
     simp only[Zc9];rw[if_neg (fun q=>hij q.1)];exact hx)
    exact⟨o,k1,k2,k3,fun q=>k4 fun w=>q (List.mem_cons_of_mem _ w)⟩
section
variable {P:Program}{cf:Cf}{C:Ctx}{Γ:Den}
def CRun (P:Program)(C:Ctx)(Γ:Den)(W:Tm→St→(Exit→Tm→St→Prop)→Prop)(B:Sq→(Exit→Sq→Tr)→Tr):Prop:=
 ∀(E:En) (q:Sq) (st:St) (tm:Tm) (K:Exit→Sq→Tr) (r:Rs) (Q:Exit→Tm→St→Prop),run Γ (B q K) E.ρ=some r→RM P C E q.s st→RTS E q.sl tm →
  (∀e E' q' tm' st',E.le E'→RM P C E' q'.s st'→RTS E' q'.sl tm'→run Γ (K e q') E'.ρ=some r→Q e tm' st')→W tm st Q
theorem ZoD {W:Tm→St→(Exit→Tm→St→Prop)→Prop}{B:Sq→(Exit→Sq→Tr)→Tr}(hB:CRun P C Γ W B){key n:Nat}{E:En}{q:Sq}{st:St}{tm:Tm}{K:Exit→Sq→Tr}{r:Rs}{Q:Exit→Tm→St→Prop}
  (hr:run Γ (Zks key B K n q) E.ρ=some r) (hm:RM P C E q.s st) (hs:RTS E q.sl tm) (hK:∀e E' q' tm' st',E.le E'→RM P C E' q'.s st'→RTS E' q'.sl tm'→run Γ (K e q') E'.ρ=some r→Q e tm' st'):loopA W tm st Q:=by
 refine⟨fun m tm st=>∃E' q',E.le E'∧RM P C E' q'.s st∧RTS E' q'.sl tm∧run Γ (Zks key B K m q') E'.ρ=some r,⟨n,E,q,.refl E,hm,hs,hr⟩,?_⟩
 rintro m tm1 st1 ⟨E1,q1,h1,h2,h3,h4⟩
 cases m with
 | zero=>simp[Zks,run]at h4
 | succ m=>
  simp only[Zks]at h4
  refine hB E1 q1 st1 tm1 _ r _ h4 h2 h3 fun e E' q' tm' st' k1 k2 k3 k4=>?_
  cases e with
  | normal=>exact⟨m,Nat.lt_succ_self m,E',q',h1.trans k1,k2,k3,k4⟩
  | _=>exact hK _ E' q' tm' st' (h1.trans k1) k2 k3 k4
theorem ZkC {h:Hint}{a b:List Ob}(hs:Znc h a b=none){j:Nat}{x:Ob}(hx:a[j]?=some x):∃y,b[j]?=some y∧(j∈h.ob→x.t=y.t∧x.n=y.n)∧(j ∉ h.ob→x=y):=by
 unfold Znc at hs
 have:=List.find?_eq_none.1 hs j (List.mem_range.2 (List.getElem?_eq_some_iff.1 hx).1)
 simp only[hx,Bool.not_eq_true',Bool.not_eq_false]at this
 cases hy:b[j]? with
 | none=>rw[hy]at this;cases this
 | some y=>
  rw[hy]at this
  simp only at this
  refine⟨y,rfl,fun hj=>?_,fun hj=>?_⟩
  ·rw[if_pos (by simpa using hj)]at this
   simp only[bA]at this
   exact⟨nbeq this.1,nbeq this.2⟩
  ·rw[if_neg (by simpa using hj)]at this
   exact ZpG this
theorem Zmy {h:Hint}{a b:List (Nat×SE)}(hs:ZpC h a b=none){i:Nat}{e:SE}(he:lk i a=some e):(∃k,e.v=.dead k)∨∃e1,lk i b=some e1∧e1.g=none∧(i∈h.sl→isAgg e.v=isAgg e1.v∧szV e.v=szV e1.v)∧(i ∉ h.sl→e.v=e1.v):=by
 unfold ZpC at hs
 have:=List.find?_eq_none.1 hs (i,e) (ZiV he)
 simp only[Bool.not_eq_true',Bool.not_eq_false]at this
 have key:(match lk i b with
   | some e1=>e1.g.isNone&&(if h.sl.contains i then isAgg e.v==isAgg e1.v&&Nat.beq (szV e.v) (szV e1.v)else eqS 100 e.v e1.v)
   | none=>false)=true→∃e1,lk i b=some e1∧e1.g=none∧(i∈h.sl→isAgg e.v=isAgg e1.v∧szV e.v=szV e1.v)∧(i ∉ h.sl→e.v=e1.v):=by
  intro hk
  cases hb:lk i b with
  | none=>rw[hb]at hk;cases hk
  | some e1=>
   rw[hb]at hk
   simp only[bA,Option.isNone_iff_eq_none]at hk
   refine⟨e1,rfl,hk.1,fun hi=>?_,fun hi=>?_⟩
   ·have:=hk.2
    rw[if_pos (by simpa using hi)]at this
    simp only[bA,beq_iff_eq]at this
    exact⟨this.1,nbeq this.2⟩
   ·have:=hk.2
    rw[if_neg (by simpa using hi)]at this
    exact Zrg this
 cases hv:e.v <;> rw[hv]at this key <;> first | exact .inl ⟨_,rfl⟩ | exact .inr (key this)
theorem ZoE {W:Tm→St→(Exit→Tm→St→Prop)→Prop}{B:Sq→(Exit→Sq→Tr)→Tr}(hB:CRun P C Γ W B){key:Nat}{ws:List Nat}:CRun P C Γ (loopA W) (ZpD cf key ws B):=by
 intro E q st tm K r Q hr hm hs hK
 unfold ZpD at hr
 simp only at hr
 split at hr
 ·exact ZoD hB hr hm hs hK
 split at hr
 ·simp[run]at hr
 rename_i hnd
 simp only[Bool.not_eq_false,bA]at hnd
 have hnd1:=ZjX hnd.1
 have hnd2:=ZjX hnd.2
 split at hr
 ·simp[run]at hr
 rename_i nms0 hn0
 generalize hgr:ZpB nms0 (q.s.gr.filter fun x=>!((cf.hint key).ung.any (eqG x.1)))=gr at hr
 have hgs:∀x∈gr,x∈q.s.gr:=by
  intro x hx
  rw[← hgr,ZpB]at hx
  exact(List.mem_filter.1 (List.mem_filter.1 hx).1).1
 obtain⟨hr,nms,hn1,hgw,hds,hgg⟩:=Zg6 hr
 obtain⟨l',as,rs,rs',hr,hev,hr1,hr2⟩:=Zi8 hm hs hr
 have hle0:=En.le_push E l'
 have hm0:=hm.push l'
 have hs0:=hs.mono hle0
 split at hr
 ·simp[run]at hr
 rename_i S1 sl2 h1
 split at hr
 ·simp[run]at hr
 rename_i S2 h2
 split at hr
 ·simp[run]at hr
 rename_i hn h3
 simp only[run,hev,Option.bind_some]at hr
 obtain⟨p1,p2⟩:=ZgT h1
 have p3:=ZfZ h2
 generalize hh:cf.hint key=h at *
 obtain⟨EH,e1,e2,e3,e4⟩:=ZjY (P:=P) (C:=C) (key:=key) (ws:=ws) (h:=h) (E0:=E.push l') (E1:=E.push l') (q:=q) (q1:=⟨bump q.s l'.length,q.sl⟩) (gr:=gr) (nms:=nms) hm0 (fun i e _ he=>hs0 i e he) (.refl _) hm0
  (fun i e he=>by
   rcases ZjV he with⟨k1,k2⟩ | ⟨k1,k2,k3⟩
   ·obtain⟨row,f,j1,j2,-⟩:=hr1.ex k1
    rw[k2]at j1
    cases j1
    exact .inr ⟨e,k2,j2,fun _=>⟨rfl,rfl⟩,fun _=>rfl⟩
   ·rcases k3 with k3 | k3
    ·exact .inl k3
    ·rcases hs0 i _ k3 with j | j
     ·exact .inl j
     ·exact .inr ⟨_,k3,j,fun _=>⟨rfl,rfl⟩,fun _=>rfl⟩)
  (fun j x hx=>⟨x,hx,fun _=>⟨rfl,rfl⟩,fun _=>rfl⟩)
  hr1 hr2 (fun g hg=>List.mem_append.2 (.inr hg)) hnd1 hnd2 hgs hn1 hgw hds hgg h1 h2 h3
 refine⟨fun n tm1 st1=>∃vs EH,loopN n (fun vs=>run Γ (B ⟨{ S2 with gr:=ZeC hn++gr,xn:=Zh1 S2.ob h.dc++S2.xn },sl2⟩ fun e q'=>match e with
      | .normal=>close key h gr ⟨{ S2 with gr:=ZeC hn++gr,xn:=Zh1 S2.ob h.dc++S2.xn },sl2⟩ q'
      | e=>.esc (K e q')) ((E.push l').ρ++vs)) vs=some r∧(E.push l').le EH∧EH.ρ=(E.push l').ρ++vs∧RM P C EH { S2 with gr:=ZeC hn++gr,xn:=Zh1 S2.ob h.dc++S2.xn } st1∧RTS EH sl2 tm1,
  ⟨FUEL',_,EH,hr,e1,e2,e3,e4⟩,?_⟩
 rintro n tm1 st1 ⟨vs,E1,i1,i2,i3,i4,i5⟩
 cases n with
 | zero=>simp[loopN]at i1
 | succ n=>
  simp only[loopN]at i1
  rw[← i3]at i1
  split at i1
  ·rename_i vs' hf
   refine hB E1 ⟨_,sl2⟩ st1 tm1 _ _ _ hf i4 i5 fun e E' q' tm' st' k1 k2 k3 k4=>?_
   cases e with
   | normal=>
    refine⟨n,Nat.lt_succ_self n,vs',?_⟩
    simp only[close,ZjK]at k4
    split at k4
    ·simp[run]at k4
    rename_i hso
    split at k4
    ·simp[run]at k4
    rename_i hss
    obtain⟨k4,nms',hn1',hgw',hds',hgg'⟩:=Zg6 k4
    obtain⟨l2,as2,rs2,rs2',k4,hev2,hr12,hr22⟩:=Zi8 k2 k3 k4
    simp only[run,hev2,Option.map_some,oI,Rs.nxt.injEq]at k4
    obtain⟨EH2,f1,f2,f3,f4⟩:=ZjY (P:=P) (C:=C) (key:=key) (ws:=ws) (h:=h) (E0:=E.push l') (E1:=E'.push l2) (q:=q) (q1:=⟨bump q'.s l2.length,q'.sl⟩) (gr:=gr) (nms:=nms') hm0 (fun i e _ he=>hs0 i e he) ((i2.trans k1).trans (En.le_push E' l2)) (k2.push l2)
     (fun i e he=>by
      obtain⟨e',j1,j2,j3,j4,j5⟩:=p2 i e he
      rcases Zmy hss j1 with⟨k,j6⟩ | ⟨e1,j6,j7,j8,j9⟩
      ·by_cases hi:i∈h.sl
       ·exact absurd j6 (j5 hi k)
       ·rw[j2 hi]at j6;exact .inl ⟨k,j6⟩
      ·by_cases hi:i∈h.sl
       ·obtain⟨row,f,g1,g2,-⟩:=hr12.ex hi
        rw[j6]at g1
        cases g1
        exact .inr ⟨e1,j6,g2,fun _=>⟨by rw[← j3];exact(j8 hi).1,by rw[← j4];exact(j8 hi).2⟩,fun q=>absurd hi q⟩
       ·have g1:=k3 i e1 j6
        obtain⟨ge,v⟩:=e1
        simp only at j7
        subst j7
        have g2:=j9 hi
        simp only at g2
        rcases g1 with⟨k,g1⟩ | g1
        ·exact .inl ⟨k,by rw[← j2 hi,g2];exact g1⟩
        ·exact .inr ⟨_,j6,g1.mono (En.le_push E' l2),fun q=>absurd q hi,fun _=>by rw[← j2 hi,g2]⟩)
     (fun j x hx=>by
      obtain⟨o,j1,j2,j3,j4⟩:=p3 j x (by rw[p1];exact hx)
      obtain⟨y,j5,j6,j7⟩:=ZkC hso j1
      exact⟨y,j5,fun hj=>⟨j2.symm.trans (j6 hj).1,j3.symm.trans (j6 hj).2⟩,fun hj=>by rw[← j4 hj];exact j7 hj⟩)
     hr12 (hr22.imp (ObRow.mono (.refl _) rfl)) (fun g hg=>List.mem_append.2 (.inr hg)) hnd1 hnd2 hgs hn1' hgw' hds' hgg' h1 h2 h3
    rw[k4]at f2
    exact⟨EH2,i1,f1,f2,f3,f4⟩
   | _=>
    simp only[run]at k4
    rw[Option.map_eq_some_iff]at k4
    obtain⟨a,-,k5⟩:=k4
    cases k5
  ·rename_i r' hf
   simp only[oI]at i1
   subst i1
   refine hB E1 ⟨_,sl2⟩ st1 tm1 _ _ _ hf i4 i5 fun e E' q' tm' st' k1 k2 k3 k4=>?_
   cases e with
   | normal=>
    exfalso
    simp only[close,ZjK]at k4
    split at k4
    ·simp[run]at k4
    split at k4
    ·simp[run]at k4
    obtain⟨k4,-⟩:=Zg6 k4
    obtain⟨l2,as2,rs2,rs2',k4,hev2,-⟩:=Zi8 k2 k3 k4
    simp only[run,hev2,Option.map_some,oI]at k4
    cases k4
   | _=>
    simp only[run]at k4
    rw[Option.map_eq_some_iff]at k4
    obtain⟨a,k4,k5⟩:=k4
    cases k5
    exact hK _ E' q' tm' st' ((hle0.trans i2).trans k1) k2 k3 k4
  ·cases i1
end
end Go.AW

namespace Go.AW
open Go.RowKit
section
variable {P:Program}{cf:Cf}{C:Ctx}{Γ:Den}{cal:Cal}
theorem ev_c' {ρ:List Row}{x:Row}:(At.c x).ev ρ=some x:=rfl
theorem ZoF {ρ:List Row}{a:At}{rs:List Row}{x:Row}(h:evs ρ [a,.c [.lit (.int .i64 0)]]=some rs)(hx:evF (.bin .add) rs=some x):∃s,a.ev ρ=some [.lit (.int .i64 s)]:=by
 simp only[evs]at h
 cases ha:a.ev ρ with
 | none=>rw[ha]at h;simp at h
 | some row=>
  rw[ha]at h
  simp only[At.ev,oI]at h
  subst h
  rcases row with - | ⟨d,- | ⟨d',row⟩⟩
  ·simp[evF]at hx
  ·cases d with
   | sl n xs=>simp[evF]at hx
   | lit v=>
    cases v with
    | int k n=>
     simp only[evF,binO]at hx
     split at hx
     ·rename_i hk;subst hk;exact⟨n,rfl⟩
     ·cases hx
    | _=>simp[evF,binO]at hx
  ·simp[evF]at hx
theorem ZnZ {a:At}{s:Int}{st:St}{r:Rs}:∀(l:List (Int×Int)) {S:SS} {K:KA} {E:En},a.ev E.ρ=some [.lit (.int .i64 s)]→RM P C E S st→run Γ (fndS a l S K) E.ρ=some r →
  ∃(rows:List Row) (x:At),run Γ (K (bump S rows.length) x) (E.ρ++rows)=some r∧x.ev (E.ρ++rows)=some [.lit (.int .i64 (ZfJ s l))]
 | [],S,K,E,ha,hm,hr=>⟨[],.c [.lit (.int .i64 0)],by simpa[bump,fndS] using hr,rfl⟩
 | (k,v)::l,S,K,E,ha,hm,hr=>by
  simp only[fndS]at hr
  obtain⟨l1,x1,h1,h2⟩:=ZnZ l ha hm hr
  have hm1:=hm.push l1
  obtain⟨l2,c,h3,h4⟩:=Zbr (on:=true) (ρ:=(E.push l1).ρ) h1 hm1.nv rfl
  obtain⟨rs,y,h5,h6,h7⟩:=h4 rfl
  have ha1:a.ev (E.push l1).ρ=some [.lit (.int .i64 s)]:=At.ev_mono ha l1
  simp only[evs,ha1,ev_c',oI]at h5
  subst h5
  simp only[evF,binO,if_true,intO,oI]at h6
  subst h6
  have hm2:=hm1.push l2
  obtain⟨l3,p,h8,h9⟩:=Zbr (on:=true) (ρ:=((E.push l1).push l2).ρ) h3 hm2.nv rfl
  obtain⟨rs,z,h10,h11,h12⟩:=h9 rfl
  have hx1:x1.ev ((E.push l1).push l2).ρ=some [.lit (.int .i64 (ZfJ s l))]:=At.ev_mono h2 l2
  have h7':c.ev ((E.push l1).push l2).ρ=some [.lit (.bool (s==k))]:=h7
  simp only[evs,h7',hx1,ev_c',oI]at h10
  subst h10
  refine⟨l1++(l2++l3),p,?_,?_⟩
  ·have e1:bump (bump (bump S l1.length) l2.length) l3.length=bump S (l1++(l2++l3)).length:=by simp only[Zd5,List.length_append];rw[Nat.add_assoc]
   rw[← e1]
   have e2:((E.push l1).push l2).ρ++l3=E.ρ++(l1++(l2++l3)):=by simp[En.push,List.append_assoc]
   rw[← e2]
   exact h8
  ·have e2:((E.push l1).push l2).ρ++l3=E.ρ++(l1++(l2++l3)):=by simp[En.push,List.append_assoc]
   rw[e2]at h12
   rw[h12,← h11]
   simp only[evF,ZfJ]
   cases s==k <;> rfl
theorem Zp3 {m:MapR}{q:Sq}{K:Sq→Tr}{E:En}{st:St}{tm:Tm}{r:Rs}{Q:Tm→St→Prop}(hm:RM P C E q.s st)(hs:RTS E q.sl tm)(hr:run Γ (sxMap m q K) E.ρ=some r)
  (hK:∀E' q' tm' st',E.le E'→RM P C E' q'.s st'→RTS E' q'.sl tm'→run Γ (K q') E'.ρ=some r→Q tm' st'):MapX m tm st Q:=by
 unfold sxMap at hr
 obtain⟨a,o,hr,ha⟩:=Zde (on:=true) hm (ZbA hm hs (x:=.tmp m.ds) rfl) rfl hr
 have ha:=ha rfl
 obtain⟨l1,x1,h1,h2⟩:=Zbr (on:=true) hr hm.nv rfl
 obtain⟨rs,y,h3,h4,-⟩:=h2 rfl
 obtain⟨s,hs1⟩:=ZoF h3 h4
 have hm1:=hm.push l1
 obtain⟨l2,x2,h5,h6⟩:=ZnZ m.es (E:=E.push l1) (At.ev_mono hs1 l1) hm1 h1
 have hm2:=hm1.push l2
 have hle:E.le ((E.push l1).push l2):=(En.le_push E l1).trans (En.le_push _ l2)
 refine⟨s,ha.lit hs1,fun b=>?_⟩
 have hv:RSE ((E.push l1).push l2) ⟨none,.one x2 none⟩ (.d (.lit (.int .i64 (ZfJ s m.es)))):=.inr (.one0 h6 rfl)
 have hun:∀av,RSE ((E.push l1).push l2) ⟨none,.dead 0⟩ av:=fun av=>.inl ⟨0,rfl⟩
 exact hK ((E.push l1).push l2) _ _ st hle hm2 ((((((hs.mono hle).putE (dst:=some m.d1) (hun _)).putE (dst:=some m.d2) (hun _)).putE (dst:=some m.d3) (hun _)).putE (dst:=some m.d4) hv).putE (dst:=some m.d5) hv) h5
theorem Zgt (hc:CfOk P cf)(hcal:∀r,CalOk P C Γ r cal)(hko:∀r,KOk P cf C Γ r){fk nt:Nat}{ct:Ctb}:∀(c:Code),wfC P nt c=true→CRun P C Γ (fun tm st Q=>wpC P nt ct c tm st Q) (sxC cf fk ct cal c)
 | .skip,_,E,q,st,tm,K,r,Q,hr,hm,hs,hK=>hK _ E q tm st (.refl E) hm hs hr
 | .exit id,_,E,q,st,tm,K,r,Q,hr,hm,hs,hK=>hK _ E q tm st (.refl E) hm hs hr
 | .ret,_,E,q,st,tm,K,r,Q,hr,hm,hs,hK=>hK _ E q tm st (.refl E) hm hs hr
 | .region id ops draw,hw,E,q,st,tm,K,r,Q,hr,hm,hs,hK=>by
  simp only[wfC,bA]at hw
  obtain⟨hw,hmo⟩:=hw
  simp only[sxC,sxReg]at hr
  simp only[wpC]
  cases hmr:Zkm ops.toList with
  | some m=>
   rw[hmr]at hr
   simp only at hr
   cases draw with
   | true=>simp[run]at hr
   | false=>
    simp only[bF,if_false]at hr
    simp only[mapOk,hmr,bA]at hmo
    exact .inl ⟨m,rfl,rfl,hmo.1,hmo.2,Zp3 hm hs hr fun E' q' tm' st' k1 k2 k3 k4=>hK _ E' q' tm' st' k1 k2 k3 k4⟩
  | none=>
  rw[hmr]at hr
  refine .inr ?_
  cases hl:ct.lookup id with
  | none=>
   rw[hl]at hr
   exact ZpX hc (hcal r) (hko r) ops.toList hw hm hs hr fun E' q' tm' st' k1 k2 k3 k4=>hK _ E' q' tm' st' k1 k2 k3 k4
  | some crit=>
   rw[hl]at hr
   have hop:∀o∈ops.toList,dstOk nt o.dst=true∧o.op.operands.toList.all opOk=true:=fun o ho=>Zmu hw ho
   have hI:∀L,∀x∈opsI ops L,dstOk nt x.2.dst=true∧x.2.op.operands.toList.all opOk=true:=fun L x hx=>by
    have:=(Zle hx).2
    exact hop _ (by simpa using Array.mem_of_getElem? this)
   have hg0:∀E:En,GsOk E ⟨crit,[],[]⟩ ⟨crit,[],[]⟩:=fun E=>⟨rfl,fun p hp=>by simp at hp,fun p hp=>by simp at hp⟩
   cases hor:ordOf crit with
   | none=>
    simp only[hor]at hr ⊢
    exact Zg4 hc (hcal r) (hko r) _ (hg0 E) (fun x hx=>hI (List.range ops.size) x (by rw[Zkp];exact hx)) hm hs hr fun E' q' tm' st' k1 k2 k3 k4=>hK _ E' q' tm' st' k1 k2 k3 k4
   | some O=>
    simp only[hor]at hr ⊢
    intro om hom
    simp only[hom]at hr
    exact Zlo hc (hcal r) (hko r) (hop om (by simpa using Array.mem_of_getElem? hom)) (hI O.T) _ (hg0 E) (hI O.L) hm hs hr fun E' q' tm' st' k1 k2 k3 k4=>hK _ E' q' tm' st' k1 k2 k3 k4
 | .seq a b,hw,E,q,st,tm,K,r,Q,hr,hm,hs,hK=>by
  simp only[wfC,bA]at hw
  simp only[sxC]at hr
  refine Zgt hc hcal hko a hw.1 E q st tm _ r _ hr hm hs fun e E' q' tm' st' k1 k2 k3 k4=>?_
  cases e with
  | normal=>exact Zgt hc hcal hko b hw.2 E' q' st' tm' _ r _ k4 k2 k3 fun e2 E2 q2 tm2 st2 j1 j2 j3 j4=>hK _ E2 q2 tm2 st2 (k1.trans j1) j2 j3 j4
  | _=>exact hK _ E' q' tm' st' k1 k2 k3 k4
 | .block id a,hw,E,q,st,tm,K,r,Q,hr,hm,hs,hK=>by
  simp only[wfC]at hw
  simp only[sxC]at hr
  refine Zgt hc hcal hko a hw E q st tm _ r _ hr hm hs fun e E' q' tm' st' k1 k2 k3 k4=>?_
  cases e with
  | exit id'=>
   simp only[Zpz]
   simp only at k4
   by_cases e:id'=id
   ·rw[if_pos e]at k4 ⊢
    exact hK _ E' q' tm' st' k1 k2 k3 k4
   ·rw[if_neg e]at k4 ⊢
    exact hK _ E' q' tm' st' k1 k2 k3 k4
  | _=>exact hK _ E' q' tm' st' k1 k2 k3 k4
 | .cond c x y,hw,E,q,st,tm,K,r,Q,hr,hm,hs,hK=>by
  simp only[wfC,bA]at hw
  obtain⟨⟨hco,hwx⟩,hwy⟩:=hw
  simp only[sxC]at hr
  obtain⟨a,o,hr,ha⟩:=Zde (on:=true) hm (ZbA hm hs hco) rfl hr
  have ha:=ha rfl
  show condA tm c _ _
  have goal:∀b,a.ev E.ρ=some [.lit (.bool b)]→(b=true→wpC P nt ct x tm st Q)→(b=false→wpC P nt ct y tm st Q)→condA tm c (wpC P nt ct x tm st Q) (wpC P nt ct y tm st Q):=by
   intro b hb h1 h2
   unfold condA
   rw[ha.lit hb]
   exact⟨hco,h1,h2⟩
  split at hr
  ·exact goal true rfl (fun _=>Zgt hc hcal hko x hwx E q st tm _ r _ hr hm hs hK) (fun e=>by cases e)
  ·exact goal false rfl (fun e=>by cases e) (fun _=>Zgt hc hcal hko y hwy E q st tm _ r _ hr hm hs hK)
  ·obtain⟨b,h1,h2,h3⟩:=Zng hr
   refine goal b h1 (fun e=>?_) (fun e=>?_)
   ·subst e
    exact Zgt hc hcal hko x hwx E { q with s:=learn 20 q.s _ true } st tm _ r _ (h2 rfl) (Zd7 20 hm h1).1 hs hK
   ·subst e
    exact Zgt hc hcal hko y hwy E { q with s:=learn 20 q.s _ false } st tm _ r _ (h3 rfl) (Zd7 20 hm h1).1 hs hK
  ·simp[run]at hr
 | .loop a,hw,E,q,st,tm,K,r,Q,hr,hm,hs,hK=>by
  simp only[wfC]at hw
  simp only[sxC]at hr
  exact ZoE (Zgt hc hcal hko a hw) E ⟨q.s,nubE q.sl⟩ st tm K r Q hr hm hs.nub hK
 | .rangeFunc ..,_,_,_,_,_,_,_,_,hr,_,_,_=>by simp[sxC,run]at hr
 | .scope _,_,_,_,_,_,_,_,_,hr,_,_,_=>by simp[sxC,run]at hr
 | .label _,_,_,_,_,_,_,_,_,hr,_,_,_=>by simp[sxC,run]at hr
 | .goto _,_,_,_,_,_,_,_,_,hr,_,_,_=>by simp[sxC,run]at hr
 | .refuse _,_,_,_,_,_,_,_,_,hr,_,_,_=>by simp[sxC,run]at hr
theorem Zn0 (hc:CfOk P cf){E:En}{q:Sq}{st:St}{tm:Tm}{rv:ResultVar}{K:KV}{r:Rs}(hm:RM P C E q.s st)(hs:RTS E q.sl tm)(hr:run Γ (resV cf q rv K) E.ρ=some r) :
  ∃(l:List Row) (S':SS) (v:SV),run Γ (K S' v) (E.push l).ρ=some r∧RM P C (E.push l) S' st∧(ZfK P tm st rv).ok∧RV (E.push l) v (ZfK P tm st rv).v:=by
 cases rv with
 | tmp t=>
  simp only[resV]at hr
  obtain⟨v,h1,h2⟩:=Zbs (on:=true) hm (ZbA hm hs (x:=.tmp t) rfl) rfl hr
  exact⟨[],q.s,v,by rw[Zey];exact h1,by rw[Zey];exact hm,trivial,(h2 rfl).mono (En.le_push E [])⟩
 | cell a t=>
  simp only[resV]at hr
  split at hr
  ·rename_i o off hv
   obtain⟨l,S',v,h1,hrm,h2⟩:=(Zrk (on:=true) hc hm hs rfl (x:=.tmp a) rfl hr).rm hm
   obtain⟨h3,h4⟩:=h2 rfl
   refine⟨l,S',v,h1,hrm,?_⟩
   have hso:=ZbA hm hs (x:=.tmp a) rfl
   have hp:∃id,tm a=.ptr id off:=by
    rcases hso with hso | hso
    ·rw[hso]at hv;cases hv
    ·generalize opd q.sl (.tmp a)=e at hv hso
     obtain⟨g,w⟩:=e
     simp only at hv
     subst hv
     have fin:RVd E (.ptr o off) (tm a)→∃id,tm a=.ptr id off:=by
      rintro(⟨k,e⟩ | h)
      ·cases e
      ·generalize tm a=av at h
       cases h with | ptr h=>exact⟨_,rfl⟩
     cases g with
     | none=>exact fin hso
     | some c=>
      obtain⟨b,j1,j2,j3⟩:=hso
      cases b with
      | true=>exact fin (j2 rfl)
      | false=>
       have:tm a=Zc3:=j3 rfl
       simp only[kv,opnd,this,Zc3]at h3
       exact h3.elim
   obtain⟨id,hp⟩:=hp
   simp only[kv,opnd,hp]at h3 h4
   simp only[ZfK,hp]
   cases htz:tsz P t with
   | none=>rw[htz]at h3;exact h3.elim
   | some z=>
    obtain⟨n,ag⟩:=z
    rw[htz]at h3 h4
    exact⟨h3.2,h4⟩
  ·simp[run]at hr
theorem Zmz (hc:CfOk P cf){st:St}{tm:Tm}{K:KV}{r:Rs}:∀(l:List ResultVar) {E:En} {q:Sq} {acc:List SV},RM P C E q.s st→RTS E q.sl tm→run Γ (resVs cf q l acc K) E.ρ=some r →
  ∃(l':List Row) (S':SS) (vs:List SV),run Γ (K S' (.tup (acc.reverse++vs))) (E.push l').ρ=some r∧RM P C (E.push l') S' st∧okAll (l.map (ZfK P tm st))∧vs.length=l.length∧∀(i:Nat) v rv,vs[i]?=some v→l[i]?=some rv→RV (E.push l') v (ZfK P tm st rv).v
 | [],E,q,acc,hm,hs,hr=>⟨[],q.s,[],by rw[Zey];simpa[resVs] using hr,by rw[Zey];exact hm,trivial,rfl,fun i v rv h=>by simp at h⟩
 | x::l,E,q,acc,hm,hs,hr=>by
  simp only[resVs]at hr
  obtain⟨l1,S1,v,h1,hrm,h2,h3⟩:=Zn0 hc hm hs hr
  obtain⟨l2,S2,vs,h4,hrm2,h5,h6,h7⟩:=Zmz hc l (E:=E.push l1) (q:={ q with s:=S1 }) hrm (hs.mono (En.le_push E l1)) h1
  refine⟨l1++l2,S2,v::vs,?_,by rw[← ZaZ];exact hrm2,⟨h2,h5⟩,by simp[h6],fun i u rv hu hv=>?_⟩
  ·rw[List.reverse_cons,List.append_assoc]at h4
   rw[← ZaZ]
   exact h4
  ·rw[← ZaZ]
   cases i with
   | zero=>simp only[List.getElem?_cons_zero,oI]at hu hv;subst hu;subst hv;exact h3.mono (En.le_push _ l2)
   | succ i=>exact h7 i u rv (by simpa using hu) (by simpa using hv)
theorem ZmA (hc:CfOk P cf){E:En}{q:Sq}{st:St}{tm:Tm}{rs:List ResultVar}{K:KV}{r:Rs}{J:AV→St→Prop}(hm:RM P C E q.s st)(hs:RTS E q.sl tm)(hr:run Γ (sxRes cf q rs K) E.ρ=some r)(hK:Next P C Γ r E K J) :
  (resA P tm st rs).ok∧J (resA P tm st rs).v st:=by
 have many:∀rs,run Γ (resVs cf q rs [] K) E.ρ=some r→okAll (rs.map (ZfK P tm st))∧J (.tup ((rs.map (ZfK P tm st)).map (·.v))) st:=by
  intro rs hr
  obtain⟨l,S',vs,h1,hrm,h2,h3,h4⟩:=Zmz hc rs hm hs hr
  refine⟨h2,hK (E.push l) S' _ _ _ (En.le_push E l) hrm (.tup (vs:=vs) (by simp[h3]) fun i v a hv ha=>?_) h1⟩
  simp only[List.map_map,List.getElem?_map,Option.map_eq_some_iff,Function.comp_apply]at ha
  obtain⟨rv,hrv,rfl⟩:=ha
  exact h4 i v rv hv hrv
 unfold sxRes at hr
 split at hr
 ·obtain⟨l,S',v,h1,hrm,h2,h3⟩:=Zn0 hc hm hs hr
  exact⟨h2,hK (E.push l) S' v _ _ (En.le_push E l) hrm h3 h1⟩
 ·rename_i hne
  have:=many rs hr
  unfold resA
  split
  ·exact absurd rfl (hne _)
  ·exact this
theorem ZjZ:∀{args:List SV} {n i:Nat} {e:SE},lk i (ZgA n args)=some e→∃v,args[i - n]?=some v∧e=⟨none,v⟩∧n≤i
 | [],n,i,e,h=>by simp[ZgA,lk]at h
 | v::vs,n,i,e,h=>by
  simp only[ZgA,lk]at h
  split at h
  ·rename_i hj
   obtain rfl:=nbeq hj
   cases h
   exact⟨v,by simp,rfl,Nat.le_refl _⟩
  ·rename_i hj
   obtain⟨u,h1,h2,h3⟩:=ZjZ h
   refine⟨u,?_,h2,by omega⟩
   rw[show i - n=(i - (n+1))+1 by omega]
   simpa using h1
theorem Zn1 (hc:CfOk P cf)(hcal:∀r,CalOk P C Γ r cal)(hko:∀r,KOk P cf C Γ r){k:Nat}{args:List SV}{as:List AV}{S:SS}{K:KV}{E:En}{st:St}{J:AV→St→Prop}{r:Rs}
  (hr:run Γ (sxF.sxB cf cal k args S K) E.ρ=some r) (hm:RM P C E S st) (hl:args.length=as.length) (ha:∀(i:Nat) (v:SV) (a:AV),args[i]?=some v→as[i]?=some a→RV E v a) (hK:Next P C Γ r E K J):Ct P k as st J:=by
 unfold sxF.sxB at hr
 cases hf:cf.fn k with
 | none=>rw[hf]at hr;simp[run]at hr
 | some fi=>
  rw[hf]at hr
  simp only at hr
  split at hr
  ·rename_i hlen
   obtain⟨fn,ho,hw⟩:=hc.fn k fi hf
   rw[Nat.ble_eq]at hlen
   refine Ct.of_body hc.mo ho.fun_ ho.body ho.draw ho.ent (by rw[← hl,← ho.nt];exact hlen) fun _=>?_
   have hc':CfOk P { cf with ex:=cf.exf k }:=⟨hc.mo,hc.ti,hc.fn,hc.meth,hc.nilok,hc.xf⟩
   have hko':∀r,KOk P { cf with ex:=cf.exf k } C Γ r:=hko
   refine Zgt hc' hcal hko' fi.body hw E ⟨S,ZgA 0 args⟩ st (ZcR as) _ r _ hr hm (fun i e he=>?_) fun e E' q' tm' st' k1 k2 k3 k4=>?_
   ·obtain⟨v,h1,rfl,-⟩:=ZjZ he
    rw[Nat.sub_zero]at h1
    have hi:i<as.length:=by rw[← hl];exact(List.getElem?_eq_some_iff.1 h1).1
    refine .inr ?_
    have:=ha i v _ h1 (gG hi)
    simp only[ZcR,gG hi,Option.getD_some]
    exact this
   ·rw[← ho.res]  at *
    have hK':Next P C Γ r E' K J:=fun E2 S2 v av st2 j1 j2 j3 j4=>hK E2 S2 v av st2 (k1.trans j1) j2 j3 j4
    cases e with
    | normal=>exact ZmA hc k2 k3 k4 hK'
    | ret=>exact ZmA hc k2 k3 k4 hK'
    | _=>simp[run]at k4
  ·simp[run]at hr
end
end Go.AW

namespace Go.AW
open Go.RowKit
structure BdOk (E:En)(B:Bd)(Ec:En):Prop where
 row:evs E.ρ B.row=some Ec.ρ
 w0:Ec.ω 0=some .nil
 nw:B.nw=B.nm.length+1
 wn:∀n,B.nw≤n→Ec.ω n=none
 bn:∀n,B.nb≤n→Ec.β n=none
 nm:∀(n:Nat) (o:Option GK),B.nm[n]?=some o→∃av,Ec.ω (n+1)=some av∧∀g,o=some g→gav E g=some av
 ob:∀j:Nat,Ec.ι j=(B.ob[j]?).bind E.ι
 os:∀(j o:Nat),B.ob[j]?=some o→∃id,E.ι o=some id
 nd:B.ob.Nodup
theorem BdOk.mono {E E':En}(hle:E.le E'){B:Bd}{Ec:En}(h:BdOk E B Ec):BdOk E' B Ec where
 row:=by obtain⟨l,hl⟩:=hle.ρ;rw[hl];exact Zlh h.row l
 w0:=h.w0
 nw:=h.nw
 wn:=h.wn
 bn:=h.bn
 nm:=fun n o ho=>by
  obtain⟨av,h1,h2⟩:=h.nm n o ho
  exact⟨av,h1,fun g hg=>Zcv hle (h2 g hg)⟩
 ob:=fun j=>by
  rw[h.ob j]
  cases hj:B.ob[j]? with
  | none=>rfl
  | some o=>
   obtain⟨id,h1⟩:=h.os j o hj
   simp only[Option.bind_some,h1,hle.ι _ _ h1]
 os:=fun j o hj=>by
  obtain⟨id,h1⟩:=h.os j o hj
  exact⟨id,hle.ι _ _ h1⟩
 nd:=h.nd
theorem BdOk.len {E:En}{B:Bd}{Ec:En}(h:BdOk E B Ec):B.row.length=Ec.ρ.length:=(Zni h.row).1
theorem BdOk.start (E:En):BdOk E ⟨[],1,0,[],[]⟩ ⟨[],fun _=>none,fun n=>if n=0 then some .nil else none,fun _=>none⟩ where
 row:=rfl
 w0:=rfl
 nw:=rfl
 wn:=fun n hn=>by have hn:1≤n:=hn;show(if n=0 then some AV.nil else none)=none;rw[if_neg (by omega)]
 bn:=fun n _=>rfl
 nm:=fun n o h=>by simp at h
 ob:=fun j=>rfl
 os:=fun j o h=>by simp at h
 nd:=List.nodup_nil
def Cln (pg:List GK)(E:En):Prop:=∀g av,gav E g=some av→g ∉ pg→noX av=true
def HN (E:En)(S:SS):Prop:=∀g av,gav E g=some av→memG g (bads S)=false→noX av=true
theorem HN.push {E:En}{S:SS}(h:HN E S)(l:List Row)(k:Nat):HN (E.push l) (bump S k):=h
theorem BdOk.name {E:En}{B:Bd}{Ec:En}(h:BdOk E B Ec){a:At}{o:Option GK}{x:DV}{av:AV}(ha:a.ev E.ρ=some [x])(ho:∀g,o=some g→gav E g=some av) :
  ∃Ec',Ec.le Ec'∧BdOk E { B with row:=B.row++[a],nw:=B.nw+1,nm:=B.nm++[o] } Ec'∧Ec'.ρ=Ec.ρ++[[x]]∧Ec'.ω B.nw=some av∧∀g a,gav Ec' g=some a→gav Ec g=some a∨(g=.w B.nw∧a=av):=by
 refine⟨⟨Ec.ρ++[[x]],Ec.ι,fun n=>if n=B.nw then some av else Ec.ω n,Ec.β⟩,⟨⟨_,rfl⟩,fun _ _ h=>h,fun n y hy=>?_,fun _ _ h=>h⟩,?_,rfl,by simp,fun g a hg=>?_⟩
 rotate_left 2
 ·cases g with
  | b b i=>exact .inl hg
  | w n=>
   simp only[gav]at hg
   split at hg
   ·rename_i e;cases hg;exact .inr ⟨by rw[e],rfl⟩
   ·exact .inl hg
 ·show(if n=B.nw then some av else Ec.ω n)=some y
  rw[if_neg]
  ·exact hy
  ·rintro rfl
   rw[h.wn _ (Nat.le_refl _)]at hy
   cases hy
 ·refine { row:=Zg5 h.row (Zia ha rfl),w0:=?_,nw:=by simp[h.nw],wn:=fun n hn=>?_,bn:=h.bn,nm:=fun n o' ho'=>?_,ob:=h.ob,os:=h.os,nd:=h.nd }
  ·show(if 0=B.nw then some av else Ec.ω 0)=_
   rw[if_neg (by rw[h.nw];omega)]
   exact h.w0
  ·have hn:B.nw+1≤n:=hn
   show(if n=B.nw then some av else Ec.ω n)=none
   rw[if_neg (by omega)]
   exact h.wn n (by omega)
  ·show ∃av',(if n+1=B.nw then some av else Ec.ω (n+1))=some av'∧_
   have ho':(B.nm++[o])[n]?=some o':=ho'
   by_cases hn:n<B.nm.length
   ·rw[if_neg (by rw[h.nw];omega)]
    rw[List.getElem?_append_left hn]at ho'
    exact h.nm n o' ho'
   ·have hl:=(List.getElem?_eq_some_iff.1 ho').1
    simp only[List.length_append,List.length_cons,List.length_nil]at hl
    have e:n=B.nm.length:=by omega
    subst e
    rw[List.getElem?_append_right (Nat.le_refl _)]at ho'
    simp only[Nat.sub_self,List.getElem?_cons_zero,oI]at ho'
    subst ho'
    exact⟨av,by rw[if_pos h.nw.symm],ho⟩
theorem BdOk.block {E:En}{B:Bd}{Ec:En}(h:BdOk E B Ec){a:At}{row:Row}{cs:List AV}(ha:a.ev E.ρ=some row) :
  ∃Ec',Ec.le Ec'∧BdOk E { B with row:=B.row++[a],nb:=B.nb+1 } Ec'∧Ec'.ρ=Ec.ρ++[row]∧Ec'.β B.nb=some cs∧Ec'.ι=Ec.ι∧∀g a,gav Ec' g=some a→gav Ec g=some a∨∃c:Nat,g=.b B.nb c∧cs[c]?=some a:=by
 refine⟨⟨Ec.ρ++[row],Ec.ι,Ec.ω,fun n=>if n=B.nb then some cs else Ec.β n⟩,⟨⟨_,rfl⟩,fun _ _ h=>h,fun _ _ h=>h,fun n y hy=>?_⟩,?_,rfl,by simp,rfl,fun g a hg=>?_⟩
 rotate_left 2
 ·cases g with
  | w n=>exact .inl hg
  | b b i=>
   simp only[gav]at hg
   by_cases e:b=B.nb
   ·rw[if_pos e]at hg
    exact .inr ⟨i,by rw[e],by simpa using hg⟩
   ·rw[if_neg e]at hg
    exact .inl hg
 ·show(if n=B.nb then some cs else Ec.β n)=some y
  rw[if_neg]
  ·exact hy
  ·rintro rfl
   rw[h.bn _ (Nat.le_refl _)]at hy
   cases hy
 ·refine { row:=Zg5 h.row (Zia ha rfl),w0:=h.w0,nw:=h.nw,wn:=h.wn,bn:=fun n hn=>?_,nm:=h.nm,ob:=h.ob,os:=h.os,nd:=h.nd }
  have hn:B.nb+1≤n:=hn
  show(if n=B.nb then some cs else Ec.β n)=none
  rw[if_neg (by omega)]
  exact h.bn n (by omega)
theorem BdOk.obj {E:En}{B:Bd}{Ec:En}(h:BdOk E B Ec){o id:Nat}(hi:E.ι o=some id)(hn:o ∉ B.ob) :
  ∃Ec',Ec.le Ec'∧BdOk E { B with ob:=B.ob++[o] } Ec'∧Ec'.ι B.ob.length=some id∧∀g a,gav Ec' g=some a→gav Ec g=some a:=by
 have hnone:Ec.ι B.ob.length=none:=by rw[h.ob];simp
 refine⟨⟨Ec.ρ,fun n=>if n=B.ob.length then some id else Ec.ι n,Ec.ω,Ec.β⟩,⟨⟨[],by simp⟩,fun n y hy=>?_,fun _ _ h=>h,fun _ _ h=>h⟩,?_,by simp,fun g a hg=>by cases g <;> exact hg⟩
 ·show(if n=B.ob.length then some id else Ec.ι n)=some y
  rw[if_neg]
  ·exact hy
  ·rintro rfl
   rw[hnone]at hy
   cases hy
 ·refine { row:=h.row,w0:=h.w0,nw:=h.nw,wn:=h.wn,bn:=h.bn,nm:=h.nm,ob:=fun j=>?_,os:=fun j p hp=>?_,nd:=?_ }
  ·show(if j=B.ob.length then some id else Ec.ι j)=((B.ob++[o])[j]?).bind E.ι
   by_cases hj:j=B.ob.length
   ·subst hj;rw[if_pos rfl];simp[hi]
   ·rw[if_neg hj,h.ob]
    by_cases hl:j<B.ob.length
    ·rw[List.getElem?_append_left hl]
    ·rw[List.getElem?_eq_none (by omega),List.getElem?_eq_none (by simp;omega)]
  ·have hp:(B.ob++[o])[j]?=some p:=hp
   by_cases hl:j<B.ob.length
   ·rw[List.getElem?_append_left hl]at hp
    exact h.os j p hp
   ·have hm:=List.mem_of_getElem? hp
    rcases List.mem_append.1 hm with hm | hm
    ·obtain⟨i,hi'⟩:=List.getElem?_of_mem hm
     exact h.os i p hi'
    ·simp only[List.mem_singleton]at hm
     subst hm
     exact⟨id,hi⟩
  ·show(B.ob++[o]).Nodup
   rw[List.nodup_append]
   exact⟨h.nd,by simp,fun a ha b hb=>by simp only[List.mem_singleton]at hb;subst hb;rintro rfl;exact hn ha⟩
section
variable {Γ:Den}{r:Rs}{g:Option At}{on:Bool}{pg:List GK}
theorem ZmB:∀(fu:Nat),(∀{E:En} {S:SS} {p v:SV} {B:Bd} {K:SS→Bd→Tr},HN E S→run Γ (bindV pg g fu S p v B K) E.ρ=some r→E.ρ.length=S.nv→gate E.ρ g=some on →
   ∃(l:List Row) (B':Bd),run Γ (K (bump S l.length) B') (E.ρ++l)=some r∧(on=true→∀Ec av,RV E v av→BdOk E B Ec→∃Ec',Ec.le Ec'∧BdOk (E.push l) B' Ec'∧RV Ec' p av∧(Cln pg Ec→Cln pg Ec'))) ∧
  (∀{E:En} {S:SS} {ps vs:List SV} {B:Bd} {K:SS→Bd→Tr},HN E S→run Γ (bindV.bindL pg g fu S ps vs B K) E.ρ=some r→E.ρ.length=S.nv→gate E.ρ g=some on →
   ∃(l:List Row) (B':Bd),run Γ (K (bump S l.length) B') (E.ρ++l)=some r∧ps.length=vs.length∧(on=true→∀Ec (avs:List AV),(∀(i:Nat) (v:SV) (a:AV),vs[i]?=some v→avs[i]?=some a→RV E v a)→vs.length=avs.length→BdOk E B Ec →
    ∃Ec',Ec.le Ec'∧BdOk (E.push l) B' Ec'∧(Cln pg Ec→Cln pg Ec')∧∀(i:Nat) (v:SV) (a:AV),ps[i]?=some v→avs[i]?=some a→RV Ec' v a))
 | 0=>⟨fun _ hr _ _=>by simp[bindV,run]at hr,fun _ hr _ _=>by simp[bindV.bindL,run]at hr⟩
 | fu+1=>by
  obtain⟨ih1,ih2⟩:=ZmB fu
  refine⟨fun {E S p v B K} hH hr hn hg=>?_,fun {E S ps vs B K} hH hr hn hg=>?_⟩
  ·unfold bindV at hr
   split at hr
   ·
    split at hr
    ·rename_i hc
     simp only[bA]at hc
     obtain⟨hc1,hc2⟩:=hc
     obtain rfl:=nbeq hc1
     obtain rfl:=nbeq hc2
     split at hr
     rotate_left
     ·simp[run]at hr
     rename_i hcl
     refine⟨[],_,by rw[List.append_nil];exact hr,fun _ Ec av hv hb=>?_⟩
     rename_i a o _
     obtain⟨x,h1,h2,h3⟩:=hv.one_toD
     obtain⟨Ec',k1,k2,k3,k4,k5⟩:=hb.name (av:=av) (o:=o) h1 (fun g hg=>by
      subst hg
      cases hv with | one1 _ _ h6 _=>exact h6)
     refine⟨Ec',k1,by rw[Zey];exact k2,.one1 (g:=.w B.nw) ?_ h2 k4 h3,fun hcln gg aa hgg hpg=>?_⟩
     ·rw[k3,hb.len]
      exact At.ev_last rfl
     ·rcases k5 gg aa hgg with hq | ⟨rfl,rfl⟩
      ·exact hcln gg aa hq hpg
      ·rw[Bool.or_eq_true]at hcl
       rcases hcl with hcl | hcl
       ·cases hv with
        | one0=>rfl
        | one1 _ _ q1 _=>exact hH _ _ q1 (by simpa[cln1] using hcl)
       ·exact absurd (Zfw.1 hcl) hpg
    ·simp[run]at hr
   ·split at hr
    ·rename_i hc
     refine⟨[],_,by rw[List.append_nil];exact hr,fun _ Ec av hv hb=>⟨Ec,.refl Ec,by rw[Zey];exact hb,?_,fun h=>h⟩⟩
     obtain rfl:=Zlj hc
     cases hv with | one0 h1 h2=>exact .one0 h1 h2
    ·simp[run]at hr
   ·split at hr
    ·rename_i hc
     simp only[bA]at hc
     obtain⟨⟨⟨hc1,hc2⟩,hc3⟩,hc4⟩:=hc
     obtain rfl:=nbeq hc1
     obtain rfl:=nbeq hc2
     obtain rfl:=nbeq hc3
     obtain⟨l,a',h1,h2⟩:=Zfv hr hn hg
     refine⟨l,_,h1,fun ho Ec av hv hb=>?_⟩
     obtain⟨x,h3,h4,h5⟩:=h2 ho av hv
     obtain⟨cs,rfl,hrb⟩:=hv.agg_inv
     rw[Zb4]at h5
     obtain⟨Ec',k1,k2,k3,k4,-,k5⟩:=(hb.mono (En.le_push E l)).block (cs:=cs) h3
     refine⟨Ec',k1,k2,(RB.whole ?_ h4 h5 (by rw[← Zdd h5,hrb.len]) k4).agg,fun hcln gg aa hgg hpg=>?_⟩
     ·rw[k3,hb.len]
      exact At.ev_last rfl
     ·rcases k5 gg aa hgg with hq | ⟨c,rfl,hq⟩
      ·exact hcln gg aa hq hpg
      ·refine ZgS hH 20 hv c aa (by rw[Zb4];exact hq) ?_
       unfold clnV at hc4
       rw[List.isEmpty_iff]at hc4
       rw[hc4];simp
    ·simp[run]at hr
   ·split at hr
    ·rename_i hc
     obtain rfl:=nbeq hc
     split at hr
     ·rename_i o' ho'
      split at hr
      ·rename_i he
       obtain rfl:=nbeq he
       refine⟨[],_,by rw[List.append_nil];exact hr,fun _ Ec av hv hb=>⟨Ec,.refl Ec,by rw[Zey];exact hb,?_,fun h=>h⟩⟩
       cases hv with
       | ptr h1=>exact .ptr (by rw[hb.ob,ho'];exact h1)
      ·simp[run]at hr
     ·split at hr
      ·rename_i he
       simp only[bA,Bool.not_eq_true']at he
       obtain⟨he1,he2⟩:=he
       obtain rfl:=nbeq he1
       refine⟨[],_,by rw[List.append_nil];exact hr,fun _ Ec av hv hb=>?_⟩
       cases hv with
       | ptr h1=>
        obtain⟨Ec',k1,k2,k3,k4⟩:=hb.obj h1 (by simpa using he2)
        exact⟨Ec',k1,by rw[Zey];exact k2,.ptr k3,fun hcln gg aa hgg hpg=>hcln gg aa (k4 gg aa hgg) hpg⟩
      ·simp[run]at hr
    ·simp[run]at hr
   ·split at hr
    ·rename_i hc
     obtain rfl:=nbeq hc
     obtain⟨l,B',h1,h2⟩:=ih1 hH hr hn hg
     refine⟨l,B',h1,fun ho Ec av hv hb=>?_⟩
     cases hv with
     | ifc hv'=>
      obtain⟨Ec',k1,k2,k3,k4⟩:=h2 ho Ec _ hv' hb
      exact⟨Ec',k1,k2,.ifc k3,k4⟩
    ·simp[run]at hr
   ·split at hr
    ·rename_i hc
     simp only[decide_eq_true_eq]at hc
     subst hc
     obtain⟨l,B',h1,h0,h2⟩:=ih2 hH hr hn hg
     obtain⟨l2,B2,h3,h00,h4⟩:=ih2 (E:=E.push l) (hH.push l _) h1 (by simp[En.push,bump,hn]) (ZcS hg)
     refine⟨l++l2,B2,by rw[List.length_append,← List.append_assoc,← Zd5];exact h3,fun ho Ec av hv hb=>?_⟩
     cases hv with
     | fn q1 q2 q3 q4=>
      obtain⟨E1,k1,k2,k7,k3⟩:=h2 ho Ec _ q2 q1 hb
      obtain⟨E2,k4,k5,k8,k6⟩:=h4 ho E1 _ (fun i v a hv ha=>(q4 i v a hv ha).mono (En.le_push E l)) q3 k2
      refine⟨E2,k1.trans k4,by rw[← ZaZ];exact k5,.fn (h0.trans q1) (fun i v a hv ha=>(k3 i v a hv ha).mono k4) (h00.trans q3) k6,fun h=>k8 (k7 h)⟩
    ·simp[run]at hr
   ·simp[run]at hr
  ·cases ps with
   | nil=>
    cases vs with
    | cons _ _=>simp[bindV.bindL,run]at hr
    | nil=>
     simp only[bindV.bindL]at hr
     exact⟨[],B,by rw[List.append_nil];exact hr,rfl,fun _ Ec avs _ _ hb=>⟨Ec,.refl Ec,by rw[Zey];exact hb,fun h=>h,fun i v a h=>by simp at h⟩⟩
   | cons p ps=>
    cases vs with
    | nil=>simp[bindV.bindL,run]at hr
    | cons v vs=>
     simp only[bindV.bindL]at hr
     obtain⟨l,B',h1,h2⟩:=ih1 hH hr hn hg
     obtain⟨l2,B2,h3,h0,h4⟩:=ih2 (E:=E.push l) (hH.push l _) h1 (by simp[En.push,bump,hn]) (ZcS hg)
     refine⟨l++l2,B2,by rw[List.length_append,← List.append_assoc,← Zd5];exact h3,by simp[h0],fun ho Ec avs hvs hlen hb=>?_⟩
     cases avs with
     | nil=>simp at hlen
     | cons av avs=>
      obtain⟨E1,k1,k2,k3,k7⟩:=h2 ho Ec av (hvs 0 v av rfl rfl) hb
      obtain⟨E2,k4,k5,k8,k6⟩:=h4 ho E1 avs (fun i u a hu ha=>(hvs (i+1) u a (by simpa using hu) (by simpa using ha)).mono (En.le_push E l)) (by simpa using hlen) k2
      refine⟨E2,k1.trans k4,by rw[← ZaZ];exact k5,fun h=>k8 (k7 h),fun i u a hu ha=>?_⟩
      cases i with
      | zero=>simp only[List.getElem?_cons_zero,oI]at hu ha;subst hu;subst ha;exact k3.mono k4
      | succ i=>exact k6 i u a (by simpa using hu) (by simpa using ha)
end
section
variable {P:Program}{C:Ctx}{Γ:Den}{r:Rs}{st:St}
theorem Zg7 {b c:Nat}:∀{l:List GK},c∈ZhY b l→GK.b b c∈l
 | [],h=>by simp[ZhY]at h
 | .w n::l,h=>by
  simp only[ZhY]at h
  exact List.mem_cons_of_mem _ (Zg7 h)
 | .b b' c'::l,h=>by
  simp only[ZhY]at h
  split at h
  ·rename_i e
   obtain rfl:=nbeq e
   rcases List.mem_cons.1 h with h | h
   ·rw[h];exact List.mem_cons_self ..
   ·exact List.mem_cons_of_mem _ (Zg7 h)
  ·exact List.mem_cons_of_mem _ (Zg7 h)
theorem Zj0 {pg:List GK}{K:SS→Bd→Tr}:∀(ps:List Ob) {E:En} {S:SS} {B:Bd} {j:Nat},run Γ (Zlf pg S j ps B K) E.ρ=some r→RM P C E S st →
  ∃(l:List Row) (B':Bd),run Γ (K (bump S l.length) B') (E.ρ++l)=some r∧B'.ob=B.ob∧B'.nm=B.nm∧∀Ec,BdOk E B Ec→∃Ec',Ec.le Ec'∧BdOk (E.push l) B' Ec'∧(Cln pg Ec→Cln pg Ec')∧Ec'.ι=Ec.ι ∧
   ∀(i:Nat) (p:Ob),ps[i]?=some p→∃o id ob b,B.ob[j+i]?=some o∧S.ob[o]?=some ob∧E.ι o=some id∧(id<st.n∧st.fz id=false)∧(st.obj id).1=p.t∧ob.t=p.t∧ob.n=p.n∧RB Ec' p.a p.n p.m p.ov (st.obj id).2∧p.m=.g b 0∧Ec'.β b=some (st.obj id).2
 | [],E,S,B,j,hr,hm=>⟨[],B,by rw[List.append_nil];exact hr,rfl,rfl,fun Ec hb=>⟨Ec,.refl Ec,by rw[Zey];exact hb,fun h=>h,rfl,fun i p h=>by simp at h⟩⟩
 | p::ps,E,S,B,j,hr,hm=>by
  simp only[Zlf]at hr
  cases ho:B.ob[j]? with
  | none=>rw[ho]at hr;simp[run]at hr
  | some o=>
   rw[ho]at hr
   simp only[objAt]at hr
   split at hr
   ·rename_i ob t i n b hob
    split at hr
    ·rename_i hc
     simp only[bA]at hc
     obtain⟨⟨⟨hc1,hc2⟩,hc3⟩,hc4⟩:=hc
     have hc1:=nbeq hc1
     have hc2:=nbeq hc2
     obtain rfl:=nbeq hc3
     obtain rfl:=nbeq hc4
     obtain⟨id,q1,q2,q2',q3,q4⟩:=hm.ob o ob hob
     split at hr
     rotate_left
     ·exact(ZjR hr).elim
     rename_i hcb
     obtain⟨l,a,h1,h2⟩:=Zfv (on:=true) hr hm.nv rfl
     obtain⟨x,h3,h4,h5⟩:=h2 rfl _ q4.agg
     rw[Zb4]at h5
     obtain⟨l2,B',h6,h7,h8,h9⟩:=Zj0 ps (E:=E.push l) h1 (hm.push l)
     refine⟨l++l2,B',by rw[List.length_append,← List.append_assoc,← Zd5];exact h6,h7,h8,fun Ec hb=>?_⟩
     obtain⟨E1,k1,k2,k3,k4,k5,k6⟩:=(hb.mono (En.le_push E l)).block (cs:=(st.obj id).2) h3
     obtain⟨E2,j1,j2,j5,j3,j4⟩:=h9 E1 k2
     refine⟨E2,k1.trans j1,by rw[← ZaZ];exact j2,fun hcln=>j5 fun gg aa hgg hpg=>?_,j3.trans k5,fun m p hp=>?_⟩
     ·rcases k6 gg aa hgg with hq | ⟨c,rfl,hq⟩
      ·exact hcln gg aa hq hpg
      ·exact q4.agg.ZhV hm hcb (by rw[Zb4];exact hq) (fun hc=>hpg (Zg7 hc))
     cases m with
     | zero=>
      simp only[List.getElem?_cons_zero,oI]at hp
      subst hp
      refine⟨o,id,ob,_,ho,hob,q1,⟨q2,q2'⟩,by rw[q3];exact hc1,hc1,hc2,(RB.whole ?_ h4 h5 (by rw[← Zdd h5,q4.len];exact hc2) k4).mono j1,rfl,j1.β _ _ k4⟩
      rw[k3,hb.len]
      exact At.ev_last rfl
     | succ m=>
      obtain⟨o',id',ob',b',i1,i2,i3,i4⟩:=j4 m p (by simpa using hp)
      have i3':E.ι o'=some id':=i3
      exact⟨o',id',ob',b',by rw[← i1,show j+(m+1)=j+1+m by omega],i2,i3',i4⟩
    ·simp[run]at hr
   ·simp[run]at hr
theorem ZkD {S pre:SS}{B:Bd}{K:List GK→Tr}{ρ:List Row}:∀(gr:List (GK×TypeId)) {acc:List GK},run Γ (Zmd S pre B gr acc K) ρ=some r →
  ∃used,run Γ (K used) ρ=some r∧(∀x∈gr,∃h,nmAt S pre B x.1=some h∧grows S (some h) x.2=true∧(h=.w 0∨h∈used)∧h ∉ acc)∧(∀x∈gr,∀y∈gr,x.1≠y.1→∀h,nmAt S pre B x.1=some h→nmAt S pre B y.1=some h→h=.w 0) ∧
   (∀h∈acc,h∈used)∧(∀h∈used,h∈acc∨∃x∈gr,nmAt S pre B x.1=some h)
 | [],acc,hr=>⟨acc,hr,fun x h=>by simp at h,fun x h=>by simp at h,fun h hh=>hh,fun h hh=>.inl hh⟩
 | (g,e)::l,acc,hr=>by
  simp only[Zmd]at hr
  split at hr
  ·rename_i hgr
   split at hr
   ·rename_i h hh
    split at hr
    ·simp[run]at hr
    ·rename_i hac
     have hna:h ∉ acc:=fun hm=>hac (List.any_eq_true.2 ⟨h,hm,Zh4 h⟩)
     rw[hh]at hgr
     have key:∀acc',(∀x∈acc,x∈acc')→(h=.w 0∨h∈acc')→(∀x∈acc',x∈acc∨x=h)→run Γ (Zmd S pre B l acc' K) ρ=some r →
       ∃used,run Γ (K used) ρ=some r∧(∀x∈(g,e)::l,∃h,nmAt S pre B x.1=some h∧grows S (some h) x.2=true∧(h=.w 0∨h∈used)∧h ∉ acc)∧(∀x∈(g,e)::l,∀y∈(g,e)::l,x.1≠y.1→∀h,nmAt S pre B x.1=some h→nmAt S pre B y.1=some h→h=.w 0) ∧
        (∀h∈acc,h∈used)∧(∀h∈used,h∈acc∨∃x∈(g,e)::l,nmAt S pre B x.1=some h):=by
      intro acc' k1 k2 k3 k4
      obtain⟨used,h1,h2,h3,h4,h5⟩:=ZkD l k4
      have hmix:∀y∈l,∀h',nmAt S pre B g=some h'→nmAt S pre B y.1=some h'→h'=.w 0:=by
       intro y hy h' e1 e2
       rw[hh]at e1
       cases e1
       obtain⟨h'',q1,q2,q3,q4⟩:=h2 y hy
       rw[e2]at q1
       cases q1
       rcases k2 with k2 | k2
       ·exact k2
       ·exact absurd k2 q4
      refine⟨used,h1,fun x hx=>?_,fun x hx y hy hne h' e1 e2=>?_,fun x hx=>h4 x (k1 x hx),fun x hx=>?_⟩
      ·rcases List.mem_cons.1 hx with rfl | hx
       ·refine⟨h,hh,hgr,k2.imp id (h4 h),hna⟩
       ·obtain⟨h',q1,q2,q3,q4⟩:=h2 x hx
        exact⟨h',q1,q2,q3,fun q=>q4 (k1 _ q)⟩
      ·rcases List.mem_cons.1 hx with rfl | hx <;> rcases List.mem_cons.1 hy with rfl | hy
       ·exact absurd rfl hne
       ·exact hmix y hy h' e1 e2
       ·exact hmix x hx h' e2 e1
       ·exact h3 x hx y hy hne h' e1 e2
      ·rcases h5 x hx with q | ⟨y,q1,q2⟩
       ·rcases k3 x q with q | rfl
        ·exact .inl q
        ·exact .inr ⟨_,List.mem_cons_self ..,hh⟩
       ·exact .inr ⟨y,List.mem_cons_of_mem _ q1,q2⟩
     split at hr
     ·exact key acc (fun _ h=>h) (.inl rfl) (fun x hx=>.inl hx) hr
     ·exact key (h::acc) (fun x hx=>List.mem_cons_of_mem _ hx) (.inr (List.mem_cons_self ..)) (fun x hx=>by rcases List.mem_cons.1 hx with q | q;exact .inr q;exact .inl q) hr
   ·simp[run]at hr
  ·rw[ZjQ]at hr;cases hr
theorem Zn2 {b:Nat}:∀{l:List Ob} {j0 j:Nat},findB b j0 l=some j→∃x,l[j - j0]?=some x∧x.m=.g b 0∧j0≤j
 | [],j0,j,h=>by simp[findB]at h
 | x::l,j0,j,h=>by
  simp only[findB]at h
  have next:findB b (j0+1) l=some j→∃y,(x::l)[j - j0]?=some y∧y.m=.g b 0∧j0≤j:=by
   intro h
   obtain⟨y,h1,h2,h3⟩:=Zn2 h
   refine⟨y,?_,h2,by omega⟩
   rw[show j - j0=(j - (j0+1))+1 by omega]
   simpa using h1
  split at h
  ·rename_i hm
   split at h
   ·rename_i e
    obtain rfl:=nbeq e
    cases h
    exact⟨x,by simp,hm,Nat.le_refl _⟩
   ·exact next h
  ·exact next h
end
end Go.AW

namespace Go.AW
open Go.RowKit
theorem Zj1 {α:Type}{x:α}:∀{l:List α} {i j:Nat},l.Nodup→l[i]?=some x→l[j]?=some x→i=j
 | [],i,j,_,h,_=>by simp at h
 | y::l,i,j,hn,h1,h2=>by
  obtain⟨hn1,hn2⟩:=List.nodup_cons.1 hn
  cases i with
  | zero=>
   cases j with
   | zero=>rfl
   | succ j=>
    simp only[List.getElem?_cons_zero,oI]at h1
    simp only[List.getElem?_cons_succ]at h2
    subst h1
    exact absurd (List.mem_of_getElem? h2) hn1
  | succ i=>
   cases j with
   | zero=>
    simp only[List.getElem?_cons_zero,oI]at h2
    simp only[List.getElem?_cons_succ]at h1
    subst h2
    exact absurd (List.mem_of_getElem? h1) hn1
   | succ j=>
    simp only[List.getElem?_cons_succ]at h1 h2
    rw[Zj1 hn2 h1 h2]
theorem All2.of_get {R:Nat→Row→Prop}:∀{l:List Nat} {rs:List Row},l.length=rs.length→(∀(i j:Nat) row,l[i]?=some j→rs[i]?=some row→R j row)→All2 R l rs
 | [],[],_,_=>trivial
 | j::l,r::rs,hl,h=>⟨h 0 j r rfl rfl,All2.of_get (by simpa using hl) fun i k row h1 h2=>h (i+1) k row (by simpa using h1) (by simpa using h2)⟩
 | [],_::_,hl,_=>by simp at hl
 | _::_,[],hl,_=>by simp at hl
def HdSl (nv:Nat)(e e':SE):Prop:=(∃a o w,e.v=.one a o∧e'=⟨none,.one (.v nv) (some (.w w))⟩)∨(∃a n m ov b,e.v=.agg a n m ov∧e'=⟨none,.agg (.v nv) n (.g b 0) []⟩)
theorem Zf0 {key:Nat}:∀{l:List Nat} {S S':SS} {sl sl':List (Nat×SE)},ZdL key l S sl=some (S',sl')→∀i,i ∉ l→lk i sl'=lk i sl
 | [],S,S',sl,sl',h,i,_=>by
  simp only[ZdL,oI,Prod.mk.injEq]at h
  rw[h.2]
 | j::l,S,S',sl,sl',h,i,hi=>by
  simp only[List.mem_cons,not_or]at hi
  simp only[ZdL]at h
  cases hl:lk j sl with
  | none=>rw[hl]at h;cases h
  | some f=>
   rw[hl]at h
   simp only at h
   cases hev:f.v <;> simp only[hev]at h <;> first | (cases h;done) | skip
   ·rw[Zf0 h i hi.2,Ziz,if_neg hi.1]
   ·rw[Zf0 h i hi.2,Ziz,if_neg hi.1]
theorem Zhy {key:Nat}:∀{l:List Nat} {S S':SS} {sl sl':List (Nat×SE)},l.Nodup→ZdL key l S sl=some (S',sl')→(S'.nv=S.nv+l.length∧S.nw≤S'.nw∧S.nb≤S'.nb∧Same S S'∧S'.ob=S.ob) ∧
  ∀(x i:Nat),l[x]?=some i→∃e e',lk i sl=some e∧lk i sl'=some e'∧HdSl (S.nv+x) e e'
 | [],S,S',sl,sl',hn,h=>by
  simp only[ZdL,oI,Prod.mk.injEq]at h
  obtain⟨rfl,rfl⟩:=h
  exact⟨⟨rfl,Nat.le_refl _,Nat.le_refl _,⟨rfl,rfl,rfl,rfl,rfl⟩,rfl⟩,fun x i hx=>by simp at hx⟩
 | j::l,S,S',sl,sl',hn,h=>by
  obtain⟨hn1,hn2⟩:=List.nodup_cons.1 hn
  simp only[ZdL]at h
  cases hl:lk j sl with
  | none=>rw[hl]at h;cases h
  | some f=>
   rw[hl]at h
   simp only at h
   have fin:∀{S1:SS} {f':SE},S1.nv=S.nv+1→S.nw≤S1.nw→S.nb≤S1.nb→Same S S1→S1.ob=S.ob→HdSl S.nv f f'→ZdL key l S1 (putE sl (some j) f')=some (S',sl') →
     (S'.nv=S.nv+(j::l).length∧S.nw≤S'.nw∧S.nb≤S'.nb∧Same S S'∧S'.ob=S.ob)∧∀(x i:Nat),(j::l)[x]?=some i→∃e e',lk i sl=some e∧lk i sl'=some e'∧HdSl (S.nv+x) e e':=by
    intro S1 f' k1 k2 k3 k4 k5 k6 k7
    obtain⟨⟨q1,q2,q3,q4,q5⟩,q6⟩:=Zhy hn2 k7
    refine⟨⟨by rw[q1,k1,List.length_cons];omega,Nat.le_trans k2 q2,Nat.le_trans k3 q3,⟨q4.eq.trans k4.eq,q4.xn.trans k4.xn,q4.gr.trans k4.gr,q4.kn.trans k4.kn,q4.ac.trans k4.ac⟩,q5.trans k5⟩,fun x i hx=>?_⟩
    cases x with
    | zero=>
     simp only[List.getElem?_cons_zero,oI]at hx
     subst hx
     exact⟨f,f',hl,by rw[Zf0 k7 j hn1,Ziz,if_pos rfl],k6⟩
    | succ x=>
     simp only[List.getElem?_cons_succ]at hx
     obtain⟨e,e',w1,w2,w3⟩:=q6 x i hx
     have hne:i≠j:=by rintro rfl;exact hn1 (List.mem_of_getElem? hx)
     rw[Ziz,if_neg hne]at w1
     refine⟨e,e',w1,w2,?_⟩
     rw[k1,show S.nv+1+x=S.nv+(x+1)by omega]at w3
     exact w3
   cases hev:f.v <;> simp only[hev]at h <;> first | (cases h;done) | skip
   ·rename_i a o
    exact fin (S1:={ S with nv:=S.nv+1,nw:=S.nw+1,org:=(GK.w S.nw,key,j)::S.org }) rfl (Nat.le_succ _) (Nat.le_refl _) ⟨rfl,rfl,rfl,rfl,rfl⟩ rfl (.inl ⟨a,o,_,hev,rfl⟩) h
   ·rename_i a n m ov
    exact fin (S1:={ S with nv:=S.nv+1,nb:=S.nb+1 }) rfl (Nat.le_refl _) (Nat.le_succ _) ⟨rfl,rfl,rfl,rfl,rfl⟩ rfl (.inr ⟨a,n,m,ov,_,hev,rfl⟩) h
theorem ZgU {key:Nat}:∀{l:List Nat} {S S':SS},Zed key l S=some S'→∀i,i ∉ l→S'.ob[i]?=S.ob[i]?
 | [],S,S',h,i,_=>by
  simp only[Zed,oI]at h
  rw[h]
 | j::l,S,S',h,i,hi=>by
  simp only[List.mem_cons,not_or]at hi
  simp only[Zed,objAt]at h
  cases hl:S.ob[j]? with
  | none=>rw[hl]at h;cases h
  | some ob=>
   rw[hl]at h
   simp only at h
   rw[ZgU h i hi.2]
   simp only[Zc9]
   rw[if_neg (fun q=>hi.1 q.1)]
theorem Zhz {key:Nat}:∀{l:List Nat} {S S':SS},l.Nodup→Zed key l S=some S'→(S'.nv=S.nv+l.length∧S'.ob.length=S.ob.length) ∧
  ∀(x i:Nat),l[x]?=some i→∃o b,S.ob[i]?=some o∧S'.ob[i]?=some ⟨o.t,.v (S.nv+x),o.n,.g b 0,[]⟩
 | [],S,S',hn,h=>by
  simp only[Zed,oI]at h
  subst h
  exact⟨⟨rfl,rfl⟩,fun x i hx=>by simp at hx⟩
 | j::l,S,S',hn,h=>by
  obtain⟨hn1,hn2⟩:=List.nodup_cons.1 hn
  simp only[Zed,objAt]at h
  cases hl:S.ob[j]? with
  | none=>rw[hl]at h;cases h
  | some ob=>
   rw[hl]at h
   simp only at h
   obtain⟨⟨q1,q2⟩,q3⟩:=Zhz hn2 h
   refine⟨⟨by rw[q1,List.length_cons];simp only[];omega,by rw[q2];exact Zh8 ..⟩,fun x i hx=>?_⟩
   cases x with
   | zero=>
    simp only[List.getElem?_cons_zero,oI]at hx
    subst hx
    refine⟨ob,S.nb,hl,?_⟩
    rw[ZgU h j hn1]
    simp only[Zc9]
    rw[if_pos (by simp[(List.getElem?_eq_some_iff.1 hl).1])]
    rfl
   | succ x=>
    simp only[List.getElem?_cons_succ]at hx
    obtain⟨o,b,w1,w2⟩:=q3 x i hx
    have hne:i≠j:=by rintro rfl;exact hn1 (List.mem_of_getElem? hx)
    simp only[Zc9]at w1
    rw[if_neg (fun q=>hne q.1)]at w1
    refine⟨o,b,w1,?_⟩
    rw[w2]
    simp only[show S.nv+1+x=S.nv+(x+1)by omega]
theorem ZgV {h:Hint}{sh:List (Nat×SE)}{S:SS}{q:Sq}{hn:List Nm}(hh:ZhX h sh S=some (q,hn)):∃S1 S2 sl,ZdL 0 h.sl { S with gr:=[] } sh=some (S1,sl)∧Zed 0 h.ob S1=some S2∧nowNm h ⟨S2,sl⟩=some hn∧q=⟨S2,sl⟩:=by
 unfold ZhX at hh
 split at hh
 ·cases hh
 rename_i S1 sl h1
 split at hh
 ·cases hh
 rename_i S2 h2
 split at hh
 ·cases hh
 rename_i hn' h3
 simp only[oI,Prod.mk.injEq]at hh
 obtain⟨rfl,rfl⟩:=hh
 exact⟨S1,S2,sl,h1,h2,h3,rfl⟩
theorem Zj2 {ob:List Nat}:∀{l r:List Nat},mapOb ob l=some r→l.length=r.length∧∀x o:Nat,r[x]?=some o→∃j,l[x]?=some j∧ob[j]?=some o
 | [],r,h=>by simp only[mapOb,oI]at h;subst h;exact⟨rfl,fun x o h=>by simp at h⟩
 | j::l,r,h=>by
  simp only[mapOb]at h
  split at h
  ·rename_i o r' h1 h2
   cases h
   obtain⟨k1,k2⟩:=Zj2 h2
   refine⟨by simp[k1],fun x o' hx=>?_⟩
   cases x with
   | zero=>simp only[List.getElem?_cons_zero,oI]at hx;subst hx;exact⟨j,rfl,h1⟩
   | succ x=>simp only[List.getElem?_cons_succ]at hx ⊢;exact k2 x o' hx
  ·cases h
theorem Zn3 {E E1:En}{obs obs1:List Ob}{ob:List Nat}(h0:E.ω 0=some .nil)(h01:E1.ω 0=some .nil)(h:∀(j o:Nat) (y y1:Ob),ob[j]?=some o→obs[o]?=some y→obs1[j]?=some y1→∃cs,RB E y.a y.n y.m y.ov cs∧RB E1 y1.a y1.n y1.m y1.ov cs) :
  ∀{l l':List (Nat×Nat×TypeId)} {xs ys:List Nm},mapGc ob l=some l'→nowC obs l'=some xs→nowC obs1 l=some ys→AllZ (NmR E E1) xs ys
 | [],l',xs,ys,h3,h1,h2=>by
  simp only[mapGc,oI]at h3
  subst h3
  simp only[nowC,oI]at h1 h2;subst h1;subst h2;trivial
 | (i,c,e)::l,l',xs,ys,h3,h1,h2=>by
  simp only[mapGc]at h3
  split at h3
  ·rename_i o lr ho hlr
   cases h3
   simp only[nowC]at h1 h2
   split at h1
   ·rename_i y r hl hr
    cases h1
    split at h2
    ·rename_i y1 r1 hl1 hr1
     cases h2
     refine⟨⟨rfl,fun g hg=>?_⟩,Zn3 h0 h01 h hlr hr hr1⟩
     obtain⟨cs,k1,k2⟩:=h i o y y1 ho hl hl1
     obtain⟨av,j1,j2⟩:=ZdU h0 k1 hg
     refine⟨av,j2,fun g1 hg1=>?_⟩
     obtain⟨av1,j3,j4⟩:=ZdU h01 k2 hg1
     rw[j1]at j3
     cases j3
     exact j4
    ·cases h2
   ·cases h1
  ·cases h3
theorem ZkE {sl:List (Nat×SE)}:∀{l:List Nat} {vs:List SV},Zme sl l=some vs→vs.length=l.length∧∀(x:Nat) v,vs[x]?=some v→∃i e,l[x]?=some i∧lk i sl=some e∧e.v=v
 | [],vs,h=>by simp only[Zme,oI]at h;subst h;exact⟨rfl,fun x v h=>by simp at h⟩
 | i::l,vs,h=>by
  simp only[Zme]at h
  split at h
  ·rename_i e r h1 h2
   cases h
   obtain⟨k1,k2⟩:=ZkE h2
   refine⟨by simp[k1],fun x v hx=>?_⟩
   cases x with
   | zero=>simp only[List.getElem?_cons_zero,oI]at hx;subst hx;exact⟨i,e,rfl,h1,rfl⟩
   | succ x=>simp only[List.getElem?_cons_succ]at hx ⊢;exact k2 x v hx
  ·cases h
theorem ZmC {used:List GK}:∀{gr:List (GK×TypeId)} {x:GK×TypeId},x∈used.foldl (fun l h=>grm h l) gr→x∈gr∧x.1 ∉ used:=by
 induction used with
 | nil=>intro gr x h;exact⟨h,by simp⟩
 | cons u us ih=>
  intro gr x h
  simp only[List.foldl_cons]at h
  obtain⟨h1,h2⟩:=ih h
  obtain⟨h3,h4⟩:=Zf6 h1
  exact⟨h3,by simp only[List.mem_cons,not_or];exact⟨h4,h2⟩⟩
theorem ZoG {used:List GK}:∀{gr:List (GK×TypeId)} {g:GK} {e:TypeId},(g,e)∈gr→g ∉ used→(g,e)∈used.foldl (fun l h=>grm h l) gr:=by
 induction used with
 | nil=>intro gr g e h _;exact h
 | cons u us ih=>
  intro gr g e h hn
  simp only[List.mem_cons,not_or]at hn
  simp only[List.foldl_cons]
  exact ih (Zg3 hn.1 h) hn.2
theorem ZmD {ob:List Nat}{j c:Nat}{e:TypeId}:∀{l l':List (Nat×Nat×TypeId)},mapGc ob l=some l'→(j,c,e)∈l→∃o,ob[j]?=some o∧(o,c,e)∈l'
 | [],l',_,h=>by simp at h
 | (i,c',e')::l,l',h3,h=>by
  simp only[mapGc]at h3
  split at h3
  ·rename_i o lr ho hlr
   cases h3
   rcases List.mem_cons.1 h with h | h
   ·cases h
    exact⟨o,ho,List.mem_cons_self ..⟩
   ·obtain⟨o',q1,q2⟩:=ZmD hlr h
    exact⟨o',q1,List.mem_cons_of_mem _ q2⟩
  ·cases h3
theorem Zj3 {ob:List Nat}(hob:ob.Nodup):∀{l r:List Nat},l.Nodup→mapOb ob l=some r→r.Nodup
 | [],r,_,h=>by simp only[mapOb,oI]at h;subst h;exact List.nodup_nil
 | j::l,r,hn,h=>by
  simp only[mapOb]at h
  split at h
  ·rename_i o r' h1 h2
   cases h
   obtain⟨hn1,hn2⟩:=List.nodup_cons.1 hn
   rw[List.nodup_cons]
   refine⟨fun hm=>?_,Zj3 hob hn2 h2⟩
   obtain⟨x,hx⟩:=List.getElem?_of_mem hm
   obtain⟨-,k2⟩:=Zj2 h2
   obtain⟨j',k3,k4⟩:=k2 x o hx
   have:=Zj1 hob h1 k4
   subst this
   exact hn1 (List.mem_of_getElem? k3)
  ·cases h
theorem RB.low {E:En}{a:At}{n:Nat}{m:BM}{cs:List AV}(h:RB E a n m [] cs):∃r,a.ev E.ρ=some r∧r.length=n∧dvos r=true∧toDs cs=some r:=by
 obtain⟨cs0,avs,h1,h2,h3⟩:=h
 have:=h2.1
 cases avs with
 | cons _ _=>simp at this
 | nil=>
  simp only[Zbi,oI]at h3
  subst h3
  exact h1.low
end Go.AW

namespace Go.AW
open Go.RowKit
def ctxOf (sp:Spec)(E:En)(st:St):Ctx:=⟨st,fun i=>(∃j,E.ι j=some i)∨∃g e o s cap xs,(g,e)∈sp.pre.gr∧gav E g=some (.xs i o s cap xs),fun t=>∃g e s xs,(g,e)∈sp.pre.gr∧gav E g=some (.own t s xs)⟩
def resAV (tup:Bool)(avs:List AV):AV:=if tup=true then .tup avs else ZcR avs 0
def PostC (sp:Spec)(E:En)(st:St)(avs:List AV):Prop:=(∀i∈sp.h.sl,∀(c:Nat) (x:AV),(Zak (ZcR avs i))[c]?=some x→c ∉ Zfn sp.h i→noX x=true) ∧
 ∀j∈sp.h.ob,∀id,E.ι j=some id→∀(c:Nat) (x:AV),(st.obj id).2[c]?=some x→c ∉ ZgQ sp.h j→noX x=true
def ZdM (P:Program)(Γ:Den)(k:Nat)(sp:Spec):Prop:=∃hq hn,ZhX sp.h sp.sh (preX sp.pre)=some (hq,hn)∧ZjL sp hn=true ∧
 ∀(E:En) (st:St) (as:List AV) (outs:List Row) (J:AV→St→Prop),RM P (ctxOf sp E st) E sp.pre st→sp.args.length=as.length→(∀(i:Nat) (v:SV) (a:AV),sp.args[i]?=some v→as[i]?=some a→RV E v a)→Γ k E.ρ=some outs→outs.length=sp.h.sl.length+sp.h.ob.length →
  (∀(E':En) (st':St) (avs:List AV),E.le E'→E'.ρ=E.ρ++outs→RM P (ctxOf sp E st) E' { hq.s with gr:=ZeC hn } st'→avs.length=sp.sh.length→RTS E' hq.sl (ZcR avs)→PostC sp E' st' avs→J (resAV sp.tup avs) st')→Ct P k as st J
section
variable {P:Program}{C:Ctx}{Γ:Den}{r:Rs}
theorem nmAt_ok {E Ec:En}{S:SS}{st:St}{B:Bd}{pre:SS}(hm:RM P C E S st)(hb:BdOk E B Ec)(hobs:∀(i:Nat) (p:Ob),pre.ob[i]?=some p→∃o id ob b,B.ob[i]?=some o∧S.ob[o]?=some ob∧E.ι o=some id∧(id<st.n∧st.fz id=false)∧(st.obj id).1=p.t∧ob.t=p.t∧ob.n=p.n∧RB Ec p.a p.n p.m p.ov (st.obj id).2∧p.m=.g b 0∧Ec.β b=some (st.obj id).2)
  {g h:GK} (hh:nmAt S pre B g=some h):∃av,gav Ec g=some av∧gav E h=some av:=by
 unfold nmAt at hh
 split at hh
 ·cases hh
 ·rename_i n
  rw[Option.bind_eq_some_iff]at hh
  obtain⟨o,h1,h2⟩:=hh
  obtain⟨av,h3,h4⟩:=hb.nm n o h1
  exact⟨av,h3,h4 h h2⟩
 ·rename_i b c
  split at hh
  ·rename_i j hj
   obtain⟨x,h1,h2,-⟩:=Zn2 hj
   rw[Nat.sub_zero]at h1
   obtain⟨o,id,ob,b',k1,k2,k3,k4,k5,k6,k7,k8,k9,k10⟩:=hobs j x h1
   rw[h2]at k9
   cases k9
   rw[k1]at hh
   simp only[objAt,k2]at hh
   obtain⟨id',q1,q2,-,q3,q4⟩:=hm.ob o ob k2
   rw[k3]at q1
   cases q1
   obtain⟨av,w1,w2⟩:=ZdU hm.w0 q4 hh
   exact⟨av,by simp only[gav,k10,Option.bind_some];exact w1,w2⟩
  ·cases hh
theorem keepB (S:SS)(used:List GK):∀g∈bads S,g∈flX (used.foldl (fun l h=>grm h l) S.gr)++(used.filter (liveX S)++S.xn):=by
 intro g hg
 rcases List.mem_append.1 hg with hq | hq
 ·by_cases hu:g∈used
  ·refine List.mem_append.2 (.inr (List.mem_append.2 (.inl (List.mem_filter.2 ⟨hu,?_⟩))))
   exact Zfw.2 hq
  ·obtain⟨e,q1,q2⟩:=ZcT.1 hq
   exact List.mem_append.2 (.inl (ZcT.2 ⟨e,ZoG q1 hu,q2⟩))
 ·exact List.mem_append.2 (.inr (List.mem_append.2 (.inr hq)))
theorem Zp4 {k:Nat}{sp:Spec}(hsp:ZdM P Γ k sp){S:SS}{g:Option At}{on:Bool}{args:List SV}{K:KV}{E:En}{st:St}(hr:run Γ (sxCon sp k S g args K) E.ρ=some r)(hm:RM P C E S st)(hg:gate E.ρ g=some on) :
  (on=true→∀(as:List AV) (J:AV→St→Prop),args.length=as.length→(∀(i:Nat) (v:SV) (a:AV),args[i]?=some v→as[i]?=some a→RV E v a)→Next P C Γ r E K J→Ct P k as st J) ∧
  (on=false→ZhZ sp=true→∃(l:List Row) (S':SS) (v:SV),run Γ (K S' v) (E.ρ++l)=some r∧RM P C (E.push l) S' st):=by
 obtain⟨hq,hn,hh,hso,hct⟩:=hsp
 unfold sxCon at hr
 obtain⟨l1,B1,hr,hlen1,sem1⟩:=(ZmB 400).2 hm.hn hr hm.nv hg
 have hm1:=hm.push l1
 obtain⟨l2,B2,hr,hob2,hnm2,sem2⟩:=Zj0 sp.pre.ob (E:=E.push l1) hr hm1
 have hm2:=hm1.push l2
 rw[ZaZ,Zd5]at hm2
 rw[Zd5]at hr
 generalize hS:bump S (l1.length+l2.length)=S2 at hm2 hr
 have eρ:(E.push l1).ρ++l2=(E.push (l1++l2)).ρ:=by simp[En.push]
 rw[eρ]at hr
 obtain⟨used,hr,hu1,hu2,-,hu4⟩:=ZkD sp.pre.gr hr
 split at hr
 ·simp[run]at hr
 rename_i hcnt
 simp only[Bool.not_eq_false,bA]at hcnt
 obtain⟨⟨⟨hc1,hc2⟩,hc3⟩,hc4⟩:=hcnt
 have hc1:=nbeq hc1
 have hc2:=nbeq hc2
 have hc3:=nbeq hc3
 have hc4:=nbeq hc4
 split at hr
 rotate_left
 ·simp[run]at hr
 rename_i ob' gc' hmo hmg
 split at hr
 rotate_left
 ·simp[run]at hr
 rename_i q hn' hh'
 split at hr
 rotate_left
 ·simp[run]at hr
 rename_i v hv
 obtain⟨S1h,S2h,slh,h1,h2,h3,rfl⟩:=ZgV hh'
 obtain⟨T1,T2,slT,t1,t2,t3,rfl⟩:=ZgV hh
 simp only at h1 h2 h3
 simp only[ZjL,bA,decide_eq_true_eq,List.isEmpty_iff]at hso
 obtain⟨⟨⟨⟨⟨⟨⟨⟨⟨heq,hdc⟩,hxn⟩,hkn⟩,hac⟩,hdist⟩,hsome⟩,hnd⟩,hrange⟩,hsh⟩:=hso
 simp only[preX]at t1 t2 t3
 have hslnd:sp.h.sl.Nodup:=by rw[hrange];exact List.nodup_range
 obtain⟨⟨a1,a2,a3,a4,a5⟩,a6⟩:=Zhy hslnd h1
 obtain⟨⟨b1,b2,b3,b4,b5⟩,b6⟩:=Zhy hslnd t1
 obtain⟨⟨c1,c2⟩,c3⟩:=Zhz hnd t2
 obtain⟨m1,m2⟩:=Zj2 hmo
 have hgate:gate (E.push (l1++l2)).ρ g=some on:=ZcS hg
 simp only[run,hgate]at hr
 have hle:=En.le_push E (l1++l2)
 cases on with
 | false=>
  refine⟨fun e=>(by cases e),fun _ hpl=>?_⟩
  simp only at hr
  simp only[ZhZ,bA,List.isEmpty_iff]at hpl
  obtain⟨⟨⟨⟨⟨p1,p2⟩,p3⟩,p6⟩,p4⟩,p5⟩:=hpl
  rw[p5]at hmo m1 hr
  simp only[mapOb,oI]at hmo
  subst hmo
  simp only[Zed,oI]at h2
  subst h2
  rw[p4]at hmg
  simp only[mapGc,oI]at hmg
  subst hmg
  have hhn:hn'=[]:=by
   simp only[nowNm,p3,p6,nowS,nowA,nowC,oI,List.append_nil]at h3
   exact h3.symm
  subst hhn
  refine⟨l1++l2++List.replicate (sp.h.sl.length+0) [],_,_,by rw[← List.append_assoc];exact hr,?_⟩
  have hm3:=hm2.push (List.replicate (sp.h.sl.length+0) [])
  rw[ZaZ]at hm3
  have hm4:=hm3.lessGr (gr:=used.foldl (fun l h=>grm h l) S2.gr) (xn:=used.filter (liveX S2)++S2.xn) (fun x hx=>(ZmC hx).1) (keepB S2 used)
  refine { nv:=?_,w0:=hm4.w0,wn:=fun n hn=>hm4.wn n (Nat.le_trans a2 hn),bn:=fun n hn=>hm4.bn n (Nat.le_trans a3 hn),on:=fun j hj=>hm4.on j (by
   have hj':S1h.ob.length≤j:=hj
   rw[a5]at hj';exact hj'),ob:=fun j o ho=>hm4.ob j o (by
   have ho':S1h.ob[j]?=some o:=ho
   rw[a5]at ho';exact ho'),inj:=hm4.inj,gr:=hm4.gr,gd:=hm4.gd,gx:=hm4.gx,ix:=hm4.ix,hn:=fun g av hg hb=>hm4.hn g av hg (by
   rw[Zcn]at hb ⊢
   intro hmem
   refine hb ?_
   simp only[bads,List.mem_append]at hmem ⊢
   rw[a4.xn]
   rcases hmem with q | q
   ·exact .inl q
   ·exact .inr (List.mem_append.2 q)),gA:=hm4.gA,wf:=hm4.wf,wf0:=hm4.wf0,kn:=fun i b hi=>hm4.kn i b (by
   have hi':(i,b)∈S1h.kn:=hi
   rw[a4.kn]at hi';exact hi'),ac:=fun x hx=>hm4.ac x (by
   have hx':x∈S1h.ac:=hx
   rw[a4.ac]at hx';exact hx'),eqc:=fun x hx=>hm4.eqc x (by
   have hx':x∈S1h.eq:=hx
   rw[a4.eq]at hx';exact hx'),fr:=hm4.fr,oA:=hm4.oA,gT:=hm4.gT }
  have:=hm4.nv
  simp only[bump,List.length_replicate]at this
  rw[this]
  show _=S1h.nv
  rw[a1]
  simp
 | true=>
  refine⟨fun _ as J hlen hrv hK=>?_,fun e=>by cases e⟩
  simp only at hr
  obtain⟨Ec1,d1,d2,dcl1,d3⟩:=sem1 rfl _ as hrv hlen (BdOk.start E)
  obtain⟨Ec,d4,d5,dcl2,d6,d7⟩:=sem2 Ec1 d2
  have hcln:=dcl2 (dcl1 (fun g av hg _=>by
   cases g with
   | w n=>
    simp only[gav]at hg
    split at hg
    ·cases hg;rfl
    ·cases hg
   | b b i=>simp[gav]at hg))
  rw[ZaZ]at d5
  have hobs:∀(i:Nat) (p:Ob),sp.pre.ob[i]?=some p→∃o id ob b,B2.ob[i]?=some o∧S2.ob[o]?=some ob∧(E.push (l1++l2)).ι o=some id∧(id<st.n∧st.fz id=false)∧(st.obj id).1=p.t∧ob.t=p.t∧ob.n=p.n∧RB Ec p.a p.n p.m p.ov (st.obj id).2∧p.m=.g b 0∧Ec.β b=some (st.obj id).2:=by
   intro i p hp
   obtain⟨o,id,ob,b,k1,k2,k3,k4⟩:=d7 i p hp
   refine⟨o,id,ob,b,by rw[hob2,← k1,Nat.zero_add],?_,k3,k4⟩
   rw[← hS];exact k2
  have hw0:∀{t s xs},gav (E.push (l1++l2)) (.w 0)=some (.own t s xs)→False:=by
   intro t s xs hh
   rw[Zh2 hm2.w0]at hh
   cases hh
  have hw0x:∀{id o s cap xs},gav (E.push (l1++l2)) (.w 0)=some (.xs id o s cap xs)→False:=by
   intro id o s cap xs hh
   rw[Zh2 hm2.w0]at hh
   cases hh
  have given:∀g e,(g,e)∈sp.pre.gr→∃h av,nmAt S2 sp.pre B2 g=some h∧gav Ec g=some av∧gav (E.push (l1++l2)) h=some av∧(h=.w 0∨(h∈used∧(h,e)∈S2.gr)):=by
   intro g e hge
   obtain⟨h,k1,k2,k3,-⟩:=hu1 _ hge
   obtain⟨av,k4,k5⟩:=nmAt_ok hm2 d5 hobs k1
   refine⟨h,av,k1,k4,k5,?_⟩
   obtain⟨g',q1,q2⟩:=Zex hm2 k2
   cases q1
   rcases q2 with q2 | q2
   ·exact .inl q2
   ·rcases k3 with k3 | k3
    ·exact .inl k3
    ·exact .inr ⟨k3,q2⟩
  have hmc:RM P (ctxOf sp Ec st) Ec sp.pre st:=by
   have hιE:∀j id,Ec.ι j=some id→∃o,(E.push (l1++l2)).ι o=some id:=fun j id hj=>by
    rw[d5.ob,Option.bind_eq_some_iff]at hj
    obtain⟨o,-,q⟩:=hj
    exact⟨o,q⟩
   refine { nv:=by rw[← d5.len];exact hc1,w0:=d5.w0,wn:=fun n hn=>d5.wn n (by omega),bn:=fun n hn=>d5.bn n (by omega),on:=fun j hj=>?_,ob:=fun j p hp=>?_,inj:=fun i j id hi hj=>?_,gr:=fun g e hge=>?_,gd:=fun g e g' e' hge hge' hne t s xs s' xs' ho ho'=>?_,gx:=fun g e g' e' hge hge' hne id o s cap xs o' s' cap' xs' ho ho'=>?gx,ix:=fun g e id o s cap xs j hge ho hj=>?ix,hn:=fun g av hg hb=>hcln g av hg (fun hp=>Zcn.1 hb (List.mem_append.2 (.inl hp))),gA:=fun g e id o s cap xs hge ho=>.inl (.inr ⟨g,e,o,s,cap,xs,hge,ho⟩),wf:=hm2.wf,wf0:=hm2.wf,kn:=fun i b hi=>by rw[hkn]at hi;simp at hi,ac:=fun x hx=>by rw[hac]at hx;simp at hx,eqc:=fun x hx=>by rw[heq]at hx;simp at hx,fr:=⟨Nat.le_refl _,Nat.le_refl _,fun _ _ _=>rfl,fun _ _ _=>rfl,fun _ _ h _=>h⟩,oA:=fun j id h=>.inl (.inl ⟨j,h⟩),gT:=fun g e t s xs hge ho=>.inl ⟨g,e,s,xs,hge,ho⟩ }
   ·rw[d5.ob,List.getElem?_eq_none (by omega)]
    rfl
   ·obtain⟨o,id,ob,b,k1,k2,k3,k4,k5,k6,k7,k8,-⟩:=hobs j p hp
    exact⟨id,by rw[d5.ob,k1];exact k3,k4.1,k4.2,k5,k8⟩
   ·rw[d5.ob,Option.bind_eq_some_iff]at hi hj
    obtain⟨oi,i1,i2⟩:=hi
    obtain⟨oj,j1,j2⟩:=hj
    obtain rfl:=hm2.inj _ _ _ i2 j2
    exact Zj1 d5.nd i1 j1
   ·obtain⟨h,av,k1,k2,k3,k4⟩:=given g e hge
    refine⟨av,k2,?_⟩
    rcases k4 with rfl | ⟨-,k4⟩
    ·rw[Zh2 hm2.w0]at k3;cases k3;exact .inl rfl
    ·obtain⟨av',q1,q2⟩:=hm2.gr h e k4
     rw[k3]at q1
     cases q1
     exact q2
   ·obtain⟨h,av,k1,k2,k3,k4⟩:=given g e hge
    obtain⟨h',av',k1',k2',k3',k4'⟩:=given g' e' hge'
    rw[ho]at k2
    rw[ho']at k2'
    cases k2;cases k2'
    rcases k4 with rfl | ⟨-,k4⟩
    ·exact hw0 k3
    rcases k4' with rfl | ⟨-,k4'⟩
    ·exact hw0 k3'
    by_cases he:h=h'
    ·subst he
     have:=hu2 _ hge _ hge' hne h k1 k1'
     subst this
     exact hw0 k3
    ·exact hm2.gd h e h' e' k4 k4' he _ _ _ _ _ k3 k3'
   ·obtain⟨h,av,k1,k2,k3,k4⟩:=given g e hge
    obtain⟨h',av',k1',k2',k3',k4'⟩:=given g' e' hge'
    rw[ho]at k2
    rw[ho']at k2'
    cases k2;cases k2'
    rcases k4 with rfl | ⟨-,k4⟩
    ·exact hw0x k3
    rcases k4' with rfl | ⟨-,k4'⟩
    ·exact hw0x k3'
    by_cases he:h=h'
    ·subst he
     have:=hu2 _ hge _ hge' hne h k1 k1'
     subst this
     exact hw0x k3
    ·exact hm2.gx h e h' e' k4 k4' he _ _ _ _ _ _ _ _ _ k3 k3'
   ·obtain⟨h,av,k1,k2,k3,k4⟩:=given g e hge
    rw[ho]at k2
    cases k2
    rcases k4 with rfl | ⟨-,k4⟩
    ·exact hw0x k3
    obtain⟨o',q⟩:=hιE j id hj
    exact hm2.ix h e _ _ _ _ _ o' k4 k3 q
  rw[d5.row]at hr
  simp only[Option.bind_some]at hr
  rw[Option.bind_eq_some_iff]at hr
  obtain⟨os,hos,hr⟩:=hr
  split at hr
  rotate_left
  ·cases hr
  rename_i hosl
  refine hct Ec st as os J hmc (hlen1.trans hlen) (fun i w a hw ha=>(d3 i w a hw ha).mono d4) hos hosl fun E3 st' avs e1 e2 hm3 hav hts hpc=>?_
  have hρ3:∀x row,os[x]?=some row→E3.ρ[sp.pre.nv+x]?=some row:=by
   intro x row hx
   rw[e2,List.getElem?_append_right (by rw[hmc.nv];omega),hmc.nv,Nat.add_sub_cancel_left]
   exact hx
  have hl1:(os.take sp.h.sl.length).length=sp.h.sl.length:=by simp;omega
  have hrow1:All2 (fun i row=>∀e,lk i sp.sh=some e→HV e.v (ZcR avs i) row) sp.h.sl (os.take sp.h.sl.length):=by
   refine All2.of_get hl1.symm fun x i row hx hrow e he=>?_
   have hxl:x<sp.h.sl.length:=(List.getElem?_eq_some_iff.1 hx).1
   rw[List.getElem?_take,if_pos hxl]at hrow
   obtain⟨f,f',k1,k2,k3⟩:=b6 x i hx
   rw[he]at k1
   cases k1
   have k4:=hρ3 x row hrow
   have k5:=hts i f' k2
   rcases k3 with⟨a,o,w,k6,rfl⟩ | ⟨a,n,m,ov,b,k6,rfl⟩
   ·rw[k6]
    rcases k5 with⟨z,k5⟩ | k5
    ·cases k5
    ·obtain⟨y,w1,w2,w3⟩:=k5.one_toD
     simp only[At.ev]at w1
     rw[show({ sp.pre with gr:=[],xn:=flX sp.pre.gr++sp.pre.xn }:SS).nv=sp.pre.nv from rfl,k4]at w1
     cases w1
     exact⟨y,rfl,w2,w3⟩
   ·rw[k6]
    rcases k5 with⟨z,k5⟩ | k5
    ·cases k5
    ·obtain⟨cs,w1,w2⟩:=k5.agg_inv
     obtain⟨y,w3,w4,w5,w6⟩:=w2.low
     simp only[At.ev]at w3
     rw[show({ sp.pre with gr:=[],xn:=flX sp.pre.gr++sp.pre.xn }:SS).nv=sp.pre.nv from rfl,k4]at w3
     cases w3
     exact⟨cs,w1,w6,w5,w4⟩
  have hTo:T1.ob=sp.pre.ob:=b5
  have hpost:∀j o,B2.ob[j]?=some o→∃id,(E.push (l1++l2)).ι o=some id∧Ec.ι j=some id∧E3.ι j=some id:=by
   intro j o hj
   obtain⟨id,k1⟩:=d5.os j o hj
   have k2:Ec.ι j=some id:=by rw[d5.ob,hj];exact k1
   exact⟨id,k1,k2,e1.ι _ _ k2⟩
  obtain⟨E4,f1,f2,f3,f4,f5,f6,f7,f8,f9⟩:=ZjT (tm:=ZcR avs) (E:=E.push (l1++l2)) (rs:=os.take sp.h.sl.length) sp.h.sl h1 ⟨hm2.nv,hm2.wn,hm2.bn⟩ hrow1
  have hrow2:All2 (fun o row=>∀ob,S1h.ob[o]?=some ob→∃id,E4.ι o=some id∧toDs (st'.obj id).2=some row∧dvos row=true∧row.length=ob.n) ob' (os.drop sp.h.sl.length):=by
   refine All2.of_get (by simp;omega) fun x o row hx hrow ob hob=>?_
   obtain⟨j,k1,k2⟩:=m2 x o hx
   obtain⟨id,k3,k4,k5⟩:=hpost j o k2
   obtain⟨p,b,k6,k7⟩:=c3 x j k1
   rw[hTo]at k6
   obtain⟨id',w1,w2,-,w3,w4⟩:=hm3.ob j _ k7
   rw[k5]at w1
   cases w1
   obtain⟨y,w5,w6,w7,w8⟩:=w4.low
   simp only[At.ev]at w5
   rw[b1,List.getElem?_drop]at *
   have hr3:=hρ3 (sp.h.sl.length+x) row hrow
   rw[show({ sp.pre with gr:=[],xn:=flX sp.pre.gr++sp.pre.xn }:SS).nv+sp.h.sl.length+x=sp.pre.nv+(sp.h.sl.length+x)by show sp.pre.nv+_+_=_;omega,hr3]at w5
   cases w5
   rw[f6]at hob
   obtain⟨o2,id2,ob2,b2',i1,i2,i3,i4,i5,i6,i7,-⟩:=hobs j p k6
   rw[k2]at i1
   cases i1
   rw[show({ S2 with gr:=[],xn:=used.filter (liveX S2)++S2.xn }:SS).ob=S2.ob from rfl,i2]at hob
   cases hob
   exact⟨id,by rw[f3];exact k3,w8,w7,by rw[w6,i7]⟩
  obtain⟨E5,g1,g2,g3,g4,g5,g6,g7,g8,g9⟩:=ZjU (st:=st') (E:=E4) (rs:=os.drop sp.h.sl.length) ob' h2 f4 hrow2
  have hle5:=f1.trans g1
  have hρ5:E5.ρ=(E.push (l1++l2)).ρ++os:=by rw[g2,f2,List.append_assoc,List.take_append_drop]
  have hι5:E5.ι=(E.push (l1++l2)).ι:=g3.trans f3
  have w05:E5.ω 0=some .nil:=hle5.ω _ _ hm2.w0
  have hobs5:∀o x,S2h.ob[o]?=some x→∃id,E5.ι o=some id∧(id<st'.n∧st'.fz id=false)∧(st'.obj id).1=x.t∧RB E5 x.a x.n x.m x.ov (st'.obj id).2:=by
   intro o x hx
   rcases g7 o x hx with⟨k1,y,id,k2,k3,k4,k5,k6⟩ | ⟨k1,k2⟩
   ·obtain⟨z,hz⟩:=List.getElem?_of_mem k1
    obtain⟨j,j1,j2⟩:=m2 z o hz
    obtain⟨id',j3,j4,j5⟩:=hpost j o j2
    rw[f3,j3]at k5
    cases k5
    obtain⟨p,b,j6,j7⟩:=c3 z j j1
    rw[hTo]at j6
    obtain⟨id2,w1,w2,w2',w3,w4⟩:=hm3.ob j _ j7
    rw[j5]at w1
    cases w1
    rw[f6]at k2
    obtain⟨o2,id2,ob2,b2',i1,i2,i3,i4,i5,i6,i7,-⟩:=hobs j p j6
    rw[j2]at i1
    cases i1
    rw[show({ S2 with gr:=[],xn:=used.filter (liveX S2)++S2.xn }:SS).ob=S2.ob from rfl,i2]at k2
    cases k2
    exact⟨_,by rw[hι5];exact j3,⟨w2,w2'⟩,by rw[w3,k3,i6],k6⟩
   ·rw[f6]at k2
    have k2:S2.ob[o]?=some x:=k2
    obtain⟨id,i1,i2,i2',i3,i4⟩:=hm2.ob o x k2
    refine⟨id,by rw[hι5];exact i1,?_⟩
    by_cases hin:o∈B2.ob
    ·obtain⟨j,hj⟩:=List.getElem?_of_mem hin
     have hjl:j<sp.pre.ob.length:=by rw[← hc4];exact(List.getElem?_eq_some_iff.1 hj).1
     obtain⟨p,hp⟩:∃p,sp.pre.ob[j]?=some p:=⟨_,gG hjl⟩
     obtain⟨id',j3,j4,j5⟩:=hpost j o hj
     rw[i1]at j3
     cases j3
     have hnj:j ∉ sp.h.ob:=by
      intro hjm
      obtain⟨z,hz⟩:=List.getElem?_of_mem hjm
      have hzl:z<ob'.length:=by rw[← m1];exact(List.getElem?_eq_some_iff.1 hz).1
      obtain⟨j',q1,q2⟩:=m2 z _ (gG hzl)
      rw[hz]at q1
      cases q1
      rw[hj]at q2
      cases q2
      exact k1 (List.getElem_mem hzl)
     have hp3:T2.ob[j]?=some p:=by rw[ZgU t2 j hnj,hTo];exact hp
     obtain⟨id2,w1,w2,w2',w3,w4⟩:=hm3.ob j p hp3
     rw[j5]at w1
     cases w1
     obtain⟨id2,u1,u2,-,u3,u4⟩:=hmc.ob j p hp
     rw[j4]at u1
     cases u1
     have hcs:=(u4.mono e1).uniq w4
     refine⟨⟨w2,w2'⟩,by rw[w3,← u3];exact i3,?_⟩
     rw[← hcs]
     exact i4.mono hle5
    ·have hnA:¬ (ctxOf sp Ec st).A id:=by
      rintro(⟨j,hj⟩ | ⟨g',e',o',s',cap',xs',w1,w2⟩)
      ·rw[d5.ob,Option.bind_eq_some_iff]at hj
       obtain⟨o',q1,q2⟩:=hj
       obtain rfl:=hm2.inj _ _ _ i1 q2
       exact hin (List.mem_of_getElem? q1)
      ·obtain⟨h,av',q3,q4,q5,q6⟩:=given g' e' w1
       rw[w2]at q4
       cases q4
       rcases q6 with rfl | ⟨-,q7⟩
       ·exact hw0x q5
       ·exact hm2.ix h e' _ _ _ _ _ o q7 q5 i1
     have hno:st'.obj id=st.obj id:=hm3.fr.obj id i2 hnA
     rw[hno]
     exact⟨⟨Nat.lt_of_lt_of_le i2 hm3.fr.n,(hm3.fr.fz id i2 hnA).trans i2'⟩,i3,i4.mono hle5⟩
  obtain⟨xa,xc,xb,x1,x3,x2,rfl⟩:=Zgr h3
  obtain⟨ya,yc,yb,y1,y3,y2,rfl⟩:=Zgr t3
  simp only at x1 x2 x3 y1 y2 y3
  have hmem:∀i e,lk i slh=some e→i∈sp.h.sl:=by
   intro i e he
   refine Classical.byContradiction fun hni=>?_
   have:=Zf0 h1 i hni
   rw[he]at this
   have hm:=ZiV this.symm
   have:=List.all_eq_true.1 hsh _ hm
   exact hni (by simpa using this)
  have hval:∀i e,lk i slh=some e→e.g=none∧RV E5 e.v (ZcR avs i):=by
   intro i e he
   rcases f7 i e he with⟨k1,k2,k3⟩ | ⟨k1,-⟩
   ·exact⟨k2,k3.mono g1⟩
   ·exact absurd (hmem i e he) k1
  have hz:AllZ (NmR E5 E3) (xa++(xc++xb)) (ya++(yc++yb)):=by
   refine(Znj (tm:=ZcR avs) (fun i ge a o hi=>?_) x1 y1).append ((Znk w05 hm3.w0 (fun i ge ge1 a a1 n n1 m m1 ov ov1 hi hi1=>?_) x3 y3).append (Zn3 (ob:=B2.ob) w05 hm3.w0 (fun j o y yy hj hy hyy=>?_) hmg x2 y2))
   ·refine⟨(hval i _ hi).2,?_⟩
    obtain⟨x,hx⟩:=List.getElem?_of_mem (hmem i _ hi)
    obtain⟨f,f',k1,k2,k3⟩:=b6 x i hx
    refine⟨f',k2,?_⟩
    have k5:=hts i f' k2
    rcases k3 with⟨a,o,w,k6,rfl⟩ | ⟨a,n,m,ov,b,k6,rfl⟩
    ·rcases k5 with⟨z,k5⟩ | k5
     ·cases k5
     ·exact k5
    ·rcases k5 with⟨z,k5⟩ | k5
     ·cases k5
     ·exact k5
   ·have k4:=(hval i _ hi).2
    have k5:RV E3 (.agg a1 n1 m1 ov1) (ZcR avs i):=by
     obtain⟨x,hx⟩:=List.getElem?_of_mem (hmem i _ hi)
     obtain⟨f,f',w1,w2,w3⟩:=b6 x i hx
     rw[hi1]at w2
     have k5:=hts i _ hi1
     rcases w3 with⟨a,o,w,w4,w5⟩ | ⟨a,n,m,ov,b,w4,w5⟩
     ·rw[w5]at w2;cases w2
     ·rw[w5]at w2
      cases w2
      rcases k5 with⟨z,k5⟩ | k5
      ·cases k5
      ·exact k5
    obtain⟨cs,k6,k7⟩:=k4.agg_inv
    obtain⟨cs',k8,k9⟩:=k5.agg_inv
    rw[k6]at k8
    cases k8
    exact⟨cs,k7,k9⟩
   ·obtain⟨id,k1,k2,k3,k4⟩:=hobs5 o y hy
    obtain⟨id',k5,k6,k7⟩:=hpost j o hj
    rw[hι5,k5]at k1
    cases k1
    obtain⟨id2,w1,w2,-,w3,w4⟩:=hm3.ob j yy hyy
    rw[k7]at w1
    cases w1
    exact⟨_,k4,w4⟩
  have hnm1:∀i e,(i,e)∈sp.h.gs→∃ge a o,lk i slh=some ⟨ge,.one a o⟩∧(o,e)∈xa++(xc++xb):=fun i e hi=>by
   obtain⟨ge,a,o,q1,q2⟩:=Zlp x1 hi
   exact⟨ge,a,o,q1,List.mem_append.2 (.inl q2)⟩
  have hnm2:∀i c e,(i,c,e)∈sp.h.ga→∃ge a n m ov,lk i slh=some ⟨ge,.agg a n m ov⟩∧(ZcF ⟨0,a,n,m,ov⟩ c,e)∈xa++(xc++xb):=fun i c e hi=>by
   obtain⟨ge,a,n,m,ov,q1,q2⟩:=Zlq x3 hi
   exact⟨ge,a,n,m,ov,q1,List.mem_append.2 (.inr (List.mem_append.2 (.inl q2)))⟩
  have hnm3:∀j c e,(j,c,e)∈sp.h.gc→∃o y,B2.ob[j]?=some o∧S2h.ob[o]?=some y∧(ZcF y c,e)∈xa++(xc++xb):=fun j c e hi=>by
   obtain⟨o,q1,q2⟩:=ZmD hmg hi
   obtain⟨y,q3,q4⟩:=Zlr x2 q2
   exact⟨o,y,q1,q3,List.mem_append.2 (.inr (List.mem_append.2 (.inr q4)))⟩
  generalize xa++(xc++xb)=hn' at hz hr hnm1 hnm2 hnm3
  generalize ya++(yc++yb)=hn at hz hdist hsome hm3
  have hsome':∀y∈hn,∃g1,y.1=some g1:=fun y hy=>Option.isSome_iff_exists.1 (List.all_eq_true.1 hsome y hy)
  have headN:∀g e,(g,e)∈ZeC hn'→∃g1 av,(g1,e)∈ZeC hn∧gav E5 g=some av∧gav E3 g1=some av:=by
   intro g e hge
   obtain⟨y,k1,k2,k3⟩:=hz.mem (Za2.1 hge)
   obtain⟨g1,k4⟩:=hsome' y k1
   obtain⟨av,k5,k6⟩:=k3 g rfl
   refine⟨g1,av,Za2.2 ?_,k5,k6 g1 k4⟩
   simp only at k2
   rw[k2,← k4]
   exact k1
  have rest:∀g e,(g,e)∈used.foldl (fun l h=>grm h l) S2.gr→(g,e)∈S2.gr∧∃av,gav (E.push (l1++l2)) g=some av∧gav E5 g=some av∧GOk P st e av∧(∀t s xs,av=.own t s xs→¬ (ctxOf sp Ec st).Tk t)∧∀id o s cap xs,av=.xs id o s cap xs→id<st.n∧¬ (ctxOf sp Ec st).A id:=by
   intro g e hge
   obtain⟨k1,k2⟩:=ZmC hge
   obtain⟨av,k3,k4⟩:=hm2.gr g e k1
   refine⟨k1,av,k3,Zcv hle5 k3,k4,?_,?_⟩
   rotate_left
   ·rintro id o s cap xs rfl
    refine⟨?_,?_⟩
    ·rcases k4 with k4 | ⟨-,t',s',xs',k4,-⟩ | ⟨-,id',s',cap',rows,k4,k5,-⟩
     ·cases k4
     ·cases k4
     ·cases k4;exact k5
    rintro(⟨j,hj⟩ | ⟨g',e',o',s',cap',xs',q1,q2⟩)
    ·rw[d5.ob,Option.bind_eq_some_iff]at hj
     obtain⟨oo,-,q⟩:=hj
     exact hm2.ix g e _ _ _ _ _ oo k1 k3 q
    ·obtain⟨h,av',q3,q4,q5,q6⟩:=given g' e' q1
     rw[q2]at q4
     cases q4
     rcases q6 with rfl | ⟨q6,q7⟩
     ·exact hw0x q5
     ·exact hm2.gx g e h e' k1 q7 (fun e=>k2 (by rw[show((g,_):GK×TypeId).1=g from rfl,e];exact q6)) _ _ _ _ _ _ _ _ _ k3 q5
   rintro t s xs rfl ⟨g',e',s',xs',q1,q2⟩
   obtain⟨h,av',q3,q4,q5,q6⟩:=given g' e' q1
   rw[q2]at q4
   cases q4
   rcases q6 with rfl | ⟨q6,q7⟩
   ·exact hw0 q5
   ·exact hm2.gd g e h e' k1 q7 (fun e=>k2 (by rw[show((g,_):GK×TypeId).1=g from rfl,e];exact q6)) _ _ _ _ _ k3 q5
  have tkC:∀t,(ctxOf sp Ec st).Tk t→C.Tk t∨C.st0.k≤t:=by
   rintro t ⟨g',e',s',xs',q1,q2⟩
   obtain⟨h,av',q3,q4,q5,q6⟩:=given g' e' q1
   rw[q2]at q4
   cases q4
   rcases q6 with rfl | ⟨q6,q7⟩
   ·exact(hw0 q5).elim
   ·exact hm2.gT h e' t s' xs' q7 q5
  have hmix:∀g e g' e' t s xs s' xs',(g,e)∈ZeC hn'→(g',e')∈used.foldl (fun l h=>grm h l) S2.gr→gav E5 g=some (.own t s xs)→gav E5 g'=some (.own t s' xs')→False:=by
   intro g e g' e' t s xs s' xs' h1 h2 ho ho'
   obtain⟨g1,av,k1,k2,k3⟩:=headN g e h1
   obtain⟨k4,av',k5,k6,k7,k8,-⟩:=rest g' e' h2
   rw[ho]at k2
   rw[ho']at k6
   cases k2;cases k6
   rcases hm3.gT g1 e t s xs k1 k3 with q | q
   ·exact k8 t s' xs' rfl q
   ·rcases k7 with k7 | ⟨-,t',s2,xs2,w1,w2,w3⟩ | ⟨-,id',s2,cap2,rows,w1,-⟩
    ·cases k7
    ·cases w1
     have:=hm2.wf _ _ w2
     have q:st.k≤t:=q
     omega
    ·cases w1
  have idC:∀id,(ctxOf sp Ec st).A id→C.A id∨C.st0.n≤id:=by
   rintro id (⟨j,hj⟩ | ⟨g',e',o',s',cap',xs',q1,q2⟩)
   ·rw[d5.ob,Option.bind_eq_some_iff]at hj
    obtain⟨oo,-,q⟩:=hj
    exact hm2.oA oo id q
   ·obtain⟨h,av',q3,q4,q5,q6⟩:=given g' e' q1
    rw[q2]at q4
    cases q4
    rcases q6 with rfl | ⟨q6,q7⟩
    ·exact(hw0x q5).elim
    ·exact hm2.gA h e' _ _ _ _ _ q7 q5
  have hmixX:∀g e g' e' id o s cap xs o' s' cap' xs',(g,e)∈ZeC hn'→(g',e')∈used.foldl (fun l h=>grm h l) S2.gr→gav E5 g=some (.xs id o s cap xs)→gav E5 g'=some (.xs id o' s' cap' xs')→False:=by
   intro g e g' e' id o s cap xs o' s' cap' xs' h1 h2 ho ho'
   obtain⟨g1,av,k1,k2,k3⟩:=headN g e h1
   obtain⟨k4,av',k5,k6,k7,-,k8⟩:=rest g' e' h2
   rw[ho]at k2
   rw[ho']at k6
   cases k2;cases k6
   obtain⟨k9,k10⟩:=k8 _ _ _ _ _ rfl
   rcases hm3.gA g1 e _ _ _ _ _ k1 k3 with q | q
   ·exact k10 q
   ·have q:st.n≤id:=q
    omega
  refine hK E5 _ v (resAV sp.tup avs) st' (hle.trans hle5) ?_ ?_ (by rw[hρ5];exact hr)
  ·refine { nv:=g4.nv,w0:=w05,wn:=g4.wn,bn:=g4.bn,on:=fun j hj=>?_,ob:=fun o x hx=>?_,inj:=by rw[hι5];exact hm2.inj,gr:=fun g e hge=>?_,gd:=fun g e g' e' hge hge' hne t s xs s' xs' ho ho'=>?_,gx:=fun g e g' e' hge hge' hne id o s cap xs o' s' cap' xs' ho ho'=>?gx2,ix:=fun g e id o s cap xs j hge ho hj=>?ix2,hn:=fun g av hg hb=>?hn,gA:=fun g e id o s cap xs hge ho=>?gA,wf:=hm3.wf,wf0:=hm2.wf0,kn:=fun i b hi=>?kn,ac:=fun x hx=>?ac,eqc:=fun x hx=>?eqc,fr:=?fr,oA:=by rw[hι5];exact hm2.oA,gT:=fun g e t s xs hge ho=>?gT }
   ·rw[hι5]
    refine hm2.on j ?_
    have hj:S2h.ob.length≤j:=hj
    rw[g6,f6]at hj
    exact hj
   ·obtain⟨id,k1,k2,k3,k4⟩:=hobs5 o x hx
    exact⟨id,k1,k2.1,k2.2,k3,k4⟩
   ·rcases List.mem_append.1 hge with hge | hge
    ·obtain⟨g1,av,k1,k2,k3⟩:=headN g e hge
     obtain⟨av',k4,k5⟩:=hm3.gr g1 e k1
     rw[k3]at k4
     cases k4
     exact⟨av,k2,k5⟩
    ·obtain⟨-,av,-,k2,k3,k4,k5⟩:=rest g e hge
     refine⟨av,k2,?_⟩
     rcases k3 with k3 | ⟨w0,t,s,xs,rfl,w2,w3⟩ | ⟨w0,id,s,cap,rows,rfl,w2,w3,w4⟩
     ·exact .inl k3
     ·exact .inr (.inl ⟨w0,t,s,xs,rfl,hm3.fr.live t e w2 (k4 t s xs rfl),w3⟩)
     ·obtain⟨-,k6⟩:=k5 _ _ _ _ _ rfl
      refine .inr (.inr ⟨w0,id,s,cap,rows,rfl,Nat.lt_of_lt_of_le w2 hm3.fr.n,(hm3.fr.fz id w2 k6).trans w3,?_⟩)
      rw[hm3.fr.obj id w2 k6]
      exact w4
   ·rcases List.mem_append.1 hge with hge | hge <;> rcases List.mem_append.1 hge' with hge' | hge'
    ·obtain⟨g1,g1',av,av',k1,k2,k3,k4,k5,k6,k7⟩:=ZfP hz hdist hsome' (Za2.1 hge) (Za2.1 hge') hne
     rw[ho]at k4
     rw[ho']at k6
     cases k4;cases k6
     have h30:∀{t s xs},gav E3 (.w 0)=some (.own t s xs)→False:=by
      intro t s xs hh
      rw[Zh2 hm3.w0]at hh
      cases hh
     rcases k3 with rfl | rfl | k3
     ·exact h30 k5
     ·exact h30 k7
     ·exact hm3.gd _ _ _ _ (Za2.2 k1) (Za2.2 k2) k3 _ _ _ _ _ k5 k7
    ·exact hmix _ _ _ _ _ _ _ _ _ hge hge' ho ho'
    ·exact hmix _ _ _ _ _ _ _ _ _ hge' hge ho' ho
    ·obtain⟨k1,av,k2,k3,-,-⟩:=rest g e hge
     obtain⟨j1,av',j2,j3,-,-⟩:=rest g' e' hge'
     rw[ho]at k3
     rw[ho']at j3
     cases k3;cases j3
     exact hm2.gd _ _ _ _ k1 j1 hne _ _ _ _ _ k2 j2
   case gx2=>
    rcases List.mem_append.1 hge with hge | hge <;> rcases List.mem_append.1 hge' with hge' | hge'
    ·obtain⟨g1,g1',av,av',k1,k2,k3,k4,k5,k6,k7⟩:=ZfP hz hdist hsome' (Za2.1 hge) (Za2.1 hge') hne
     rw[ho]at k4
     rw[ho']at k6
     cases k4;cases k6
     have h30:∀{id o s cap xs},gav E3 (.w 0)=some (.xs id o s cap xs)→False:=by
      intro id o s cap xs hh
      rw[Zh2 hm3.w0]at hh
      cases hh
     rcases k3 with rfl | rfl | k3
     ·exact h30 k5
     ·exact h30 k7
     ·exact hm3.gx _ _ _ _ (Za2.2 k1) (Za2.2 k2) k3 _ _ _ _ _ _ _ _ _ k5 k7
    ·exact hmixX _ _ _ _ _ _ _ _ _ _ _ _ _ hge hge' ho ho'
    ·exact hmixX _ _ _ _ _ _ _ _ _ _ _ _ _ hge' hge ho' ho
    ·obtain⟨k1,av,k2,k3,-,-⟩:=rest g e hge
     obtain⟨j1,av',j2,j3,-,-⟩:=rest g' e' hge'
     rw[ho]at k3
     rw[ho']at j3
     cases k3;cases j3
     exact hm2.gx _ _ _ _ k1 j1 hne _ _ _ _ _ _ _ _ _ k2 j2
   case ix2=>
    rw[hι5]at hj
    rcases List.mem_append.1 hge with hge | hge
    ·obtain⟨g1,av,k1,k2,k3⟩:=headN g e hge
     rw[ho]at k2
     cases k2
     by_cases hin:j∈B2.ob
     ·obtain⟨z,hz'⟩:=List.getElem?_of_mem hin
      obtain⟨id',q1,q2,q3⟩:=hpost z j hz'
      rw[hj]at q1
      cases q1
      exact hm3.ix g1 e _ _ _ _ _ z k1 k3 q3
     ·have hjl:id<st.n:=by
       have hj2:j<S2.ob.length:=by
        refine Classical.byContradiction fun hge=>?_
        rw[hm2.on j (by omega)]at hj;cases hj
       obtain⟨id',q1,q2,-,-,-⟩:=hm2.ob j _ (gG hj2)
       rw[hj]at q1;cases q1
       exact q2
      rcases hm3.gA g1 e _ _ _ _ _ k1 k3 with(⟨z,hz'⟩ | ⟨g',e',o',s',cap',xs',q1,q2⟩) | q
      ·rw[d5.ob,Option.bind_eq_some_iff]at hz'
       obtain⟨o',q1,q2⟩:=hz'
       obtain rfl:=hm2.inj _ _ _ hj q2
       exact hin (List.mem_of_getElem? q1)
      ·obtain⟨h,av',q3,q4,q5,q6⟩:=given g' e' q1
       rw[q2]at q4
       cases q4
       rcases q6 with rfl | ⟨-,q7⟩
       ·exact hw0x q5
       ·exact hm2.ix h e' _ _ _ _ _ j q7 q5 hj
      ·have q:st.n≤id:=q
       omega
    ·obtain⟨k1,av,k2,k3,-,-⟩:=rest g e hge
     rw[ho]at k3
     cases k3
     exact hm2.ix g e _ _ _ _ _ j k1 k2 hj
   case gA=>
    rcases List.mem_append.1 hge with hge | hge
    ·obtain⟨g1,av,k1,k2,k3⟩:=headN g e hge
     rw[ho]at k2
     cases k2
     rcases hm3.gA g1 e _ _ _ _ _ k1 k3 with q | q
     ·exact idC _ q
     ·exact .inr (Nat.le_trans hm2.fr.n q)
    ·obtain⟨k1,av,k2,k3,-,-⟩:=rest g e hge
     rw[ho]at k3
     cases k3
     exact hm2.gA g e _ _ _ _ _ k1 k2
   case hn=>
    rw[Zcn]at hb
    have exn:S2h.xn=used.filter (liveX S2)++S2.xn:=g5.xn.trans f5.xn
    have grown:∀e,(some g,e)∈hn'→noX av=true:=by
     intro e he
     obtain⟨g1,av',k1,k2,k3⟩:=headN g e (Za2.2 he)
     rw[hg]at k2
     cases k2
     obtain⟨av',k4,k5⟩:=hm3.gr g1 e k1
     rw[k3]at k4
     cases k4
     rcases k5 with rfl | ⟨-,t,s,xs,rfl,-⟩ | ⟨k5,-⟩
     ·rfl
     ·rfl
     ·exact absurd (List.mem_append.2 (.inl (ZcT.2 ⟨e,List.mem_append.2 (.inl (Za2.2 he)),k5⟩))) hb
    have hobn:ob'.Nodup:=Zj3 d5.nd hnd hmo
    rcases g9 hobn g av hg with hg | ⟨o,ho,y,b,c,id,k1,k2,k3,rfl,k5,k6⟩
    ·rcases f9 hslnd g av hg with hg | ⟨i,hi,e,k1,k2⟩
     ·refine hm2.hn g av hg (Zcn.2 fun hmem=>hb ?_)
      rcases List.mem_append.1 (keepB S2 used g hmem)with q | q
      ·obtain⟨e,q1,q2⟩:=ZcT.1 q
       exact List.mem_append.2 (.inl (ZcT.2 ⟨e,List.mem_append.2 (.inr q1),q2⟩))
      ·refine List.mem_append.2 (.inr ?_)
       show g∈S2h.xn
       rw[exn];exact q
     ·have q5:=hpc.1 i hi
      have w3:=(hval i e k1).2
      rcases k2 with⟨a,k2,rfl⟩ | ⟨a,n,b,c,cs,k2,rfl,k4,k5⟩
      ·by_cases hc:0∈Zfn sp.h i
       ·obtain⟨ge,v⟩:=e
        simp only at k2
        subst k2
        rcases Zgs hc with⟨e',q6⟩ | ⟨e',q6⟩
        ·obtain⟨ge,a',o,q7,q8⟩:=hnm1 i e' q6
         rw[k1]at q7
         cases q7
         exact grown _ q8
        ·obtain⟨ge,a',n,m,ov,q7,-⟩:=hnm2 i 0 e' q6
         rw[k1]at q7
         cases q7
       ·rw[k2]at w3
        refine q5 0 _ ?_ hc
        rw[w3.one_cell rfl];rfl
      ·rw[k4,Zb4]at q5
       by_cases hc:c∈Zfn sp.h i
       ·obtain⟨ge,v⟩:=e
        simp only at k2
        subst k2
        rcases Zgs hc with⟨e',q6⟩ | ⟨e',q6⟩
        ·obtain⟨ge,a',o,q7,-⟩:=hnm1 i e' q6
         rw[k1]at q7
         cases q7
        ·obtain⟨ge,a',n',m,ov,q7,q8⟩:=hnm2 i c e' q6
         rw[k1]at q7
         cases q7
         obtain⟨cs',w4,w5⟩:=w3.agg_inv
         rw[k4]at w4
         cases w4
         have hlt:c<n:=by rw[← w5.len];exact(List.getElem?_eq_some_iff.1 k5).1
         have hnmc:ZcF ⟨0,a,n,.g b 0,[]⟩ c=some (.b b c):=by
          unfold ZcF
          rw[if_neg (by simp only[Nat.ble_eq];omega)]
          simp[ZhW,nmOf]
         rw[hnmc]at q8
         exact grown _ q8
       ·exact q5 c av k5 hc
    ·obtain⟨z,hz'⟩:=List.getElem?_of_mem ho
     obtain⟨j,j1,j2⟩:=m2 z o hz'
     obtain⟨id',j3,j4,j5⟩:=hpost j o j2
     rw[f3,j3]at k5
     cases k5
     have q5:=hpc.2 j (List.mem_of_getElem? j1) _ j5
     by_cases hc:c∈ZgQ sp.h j
     ·rcases ZjW hc with⟨e',q6⟩ | q6
      ·obtain⟨o2,y2,q7,q8,q9⟩:=hnm3 j c e' q6
       rw[j2]at q7
       cases q7
       rw[k1]at q8
       cases q8
       obtain⟨id2,w1,w2,w3,w4⟩:=hobs5 o y k1
       rw[hι5,j3]at w1
       cases w1
       have hlt:c<y.n:=by
        rw[← w4.len]
        exact(List.getElem?_eq_some_iff.1 k6).1
       have hnmc:ZcF y c=some (.b b c):=by
        unfold ZcF
        rw[if_neg (by simp only[Nat.ble_eq];omega),k3]
        simp[ZhW,nmOf,k2]
       rw[hnmc]at q9
       exact grown _ q9
      ·rw[hdc]at q6;simp at q6
     ·exact q5 c av k6 hc
   case kn=>
    have hi':(i,b)∈S2h.kn:=hi
    rw[g5.kn,f5.kn]at hi'
    exact At.ev_le (a:=.v i) hle5 (hm2.kn i b hi')
   case ac=>
    have hx':x∈S2h.ac:=hx
    rw[g5.ac,f5.ac]at hx'
    obtain⟨l,hl⟩:=hle5.ρ
    rw[hl]
    exact(hm2.ac x hx').mono l
   case eqc=>
    have hx':x∈S2h.eq:=hx
    rw[g5.eq,f5.eq]at hx'
    obtain⟨l,hl⟩:=hle5.ρ
    rw[hl]
    exact(hm2.eqc x hx').mono l
   case fr=>
    refine⟨Nat.le_trans hm2.fr.n hm3.fr.n,Nat.le_trans hm2.fr.k hm3.fr.k,fun i hi hA=>?_,fun i hi hA=>?_,fun t e ht hT=>?_⟩
    ·rw[← hm2.fr.obj i hi hA]
     refine hm3.fr.obj i (Nat.lt_of_lt_of_le hi hm2.fr.n) fun hk=>?_
     rcases idC i hk with q | q
     ·exact hA q
     ·omega
    ·rw[← hm2.fr.fz i hi hA]
     refine hm3.fr.fz i (Nat.lt_of_lt_of_le hi hm2.fr.n) fun hk=>?_
     rcases idC i hk with q | q
     ·exact hA q
     ·omega
    ·refine hm3.fr.live t e (hm2.fr.live t e ht hT) fun hk=>?_
     rcases tkC t hk with q | q
     ·exact hT q
     ·have:=hm2.wf0 t e ht
      omega
   case gT=>
    rcases List.mem_append.1 hge with hge | hge
    ·obtain⟨g1,av,k1,k2,k3⟩:=headN g e hge
     rw[ho]at k2
     cases k2
     rcases hm3.gT g1 e t s xs k1 k3 with q | q
     ·exact tkC t q
     ·exact .inr (Nat.le_trans hm2.fr.k q)
    ·obtain⟨k1,av,k2,k3,-,-⟩:=rest g e hge
     rw[ho]at k3
     cases k3
     exact hm2.gT g e t s xs k1 k2
  ·rw[Option.bind_eq_some_iff]at hv
   obtain⟨vs,hv1,hv2⟩:=hv
   obtain⟨k1,k2⟩:=ZkE hv1
   have hlv:vs.length=avs.length:=by rw[k1,hav,hrange,List.length_range]
   have helt:∀(x:Nat) (u:SV),vs[x]?=some u→RV E5 u (ZcR avs x):=by
    intro x u hu
    obtain⟨i,e,w1,w2,rfl⟩:=k2 x u hu
    rw[hrange]at w1
    have hxl:x<sp.sh.length:=by
     have:=(List.getElem?_eq_some_iff.1 w1).1
     simpa using this
    rw[List.getElem?_range hxl]at w1
    cases w1
    exact(hval _ e w2).2
   unfold resOf at hv2
   unfold resAV
   split at hv2
   ·rename_i heq
    cases hv2
    rw[if_pos heq]
    refine .tup hlv fun i u a hu ha=>?_
    have:=helt i u hu
    simp only[ZcR,ha,Option.getD_some]at this
    exact this
   ·rename_i heq
    cases hv2
    rw[if_neg (by rw[heq];decide)]
    exact helt 0 _ rfl
   ·cases hv2
end
end Go.AW

namespace Go.AW
open Go.RowKit
def Zn4 (P:Program)(cf:Cf)(Γ:Den):Prop:=∀k sp,cf.con k=some sp→ZdM P Γ k sp
def isErr:Tr→Bool
 | .err _ _=>true
 | _=>false
theorem ZmE {key:Nat}{ws:List Nat}{h:Hint}:∀{sl:List (Nat×SE)},sl.all (fun x=>h.sl.contains x.1)=true→Zhj key ws h sl=sl
 | [],_=>rfl
 | (i,e)::l,hh=>by
  simp only[List.all_cons,bA]at hh
  simp only[Zhj,ZmE hh.2]
  rw[if_pos hh.1]
def Fixes (av:AV)(st:St)(av':AV)(st':St):Prop:=∀w g v,R w g st→Rep g av v→∃g',R w g' st'∧Rep g' av' v∧g.le g'
def FixL (avs:List AV)(st:St)(avs':List AV)(st':St):Prop:=∀w g vs,R w g st→RepL g avs vs→∃g',R w g' st'∧RepL g' avs' vs∧g.le g'
theorem Fixes.refl (av:AV)(st:St):Fixes av st av st:=fun _ g _ h1 h2=>⟨g,h1,h2,Gh.le.refl g⟩
theorem Fixes.trans {a b c:AV}{s t u:St}(h:Fixes a s b t)(h':Fixes b t c u):Fixes a s c u:=fun w g v h1 h2=>by
 obtain⟨g1,k1,k2,k3⟩:=h w g v h1 h2
 obtain⟨g2,k4,k5,k6⟩:=h' w g1 v k1 k2
 exact⟨g2,k4,k5,k3.trans k6⟩
theorem FixL.refl (avs:List AV)(st:St):FixL avs st avs st:=fun _ g _ h1 h2=>⟨g,h1,h2,Gh.le.refl g⟩
theorem FixL.trans {a b c:List AV}{s t u:St}(h:FixL a s b t)(h':FixL b t c u):FixL a s c u:=fun w g v h1 h2=>by
 obtain⟨g1,k1,k2,k3⟩:=h w g v h1 h2
 obtain⟨g2,k4,k5,k6⟩:=h' w g1 v k1 k2
 exact⟨g2,k4,k5,k3.trans k6⟩
theorem Fixes.inL {a b:AV}{s t:St}(h:Fixes a s b t)(pre post:List AV):FixL (pre++a::post) s (pre++b::post) t:=fun w g vs h1 h2=>by
 have hlt:pre.length<vs.size:=by rw[← h2.1];simp
 obtain⟨g1,k1,k2,k3⟩:=h w g _ h1 (h2.2 pre.length a vs[pre.length] (by simp) (Array.getElem?_eq_getElem hlt))
 refine⟨g1,k1,⟨by rw[← h2.1];simp,fun i x v hx hv=>?_⟩,k3⟩
 by_cases hi:i=pre.length
 ·subst hi
  simp at hx
  subst hx
  rw[Array.getElem?_eq_getElem hlt]at hv
  cases hv
  exact k2
 ·refine(h2.2 i x v ?_ hv).mono k3
  rw[← hx]
  by_cases hl:i<pre.length
  ·rw[List.getElem?_append_left hl,List.getElem?_append_left hl]
  ·rw[List.getElem?_append_right (by omega),List.getElem?_append_right (by omega)]
   obtain⟨m,hm⟩:∃m,i - pre.length=m+1:=⟨i - pre.length - 1,by omega⟩
   rw[hm]
   simp
theorem Fixes.tup {as bs:List AV}{s t:St}(h:FixL as s bs t):Fixes (.tup as) s (.tup bs) t:=fun w g v h1 h2=>by
 cases h2 with
 | tup _ vs hl hr=>
  obtain⟨g1,k1,k2,k3⟩:=h w g vs h1 ⟨hl,hr⟩
  exact⟨g1,k1,.tup _ _ k2.1 k2.2,k3⟩
theorem Fixes.agg {as bs:List AV}{s t:St}(h:FixL as s bs t):Fixes (.agg as) s (.agg bs) t:=fun w g v h1 h2=>by
 cases h2 with
 | agg _ vs hl hr=>
  obtain⟨g1,k1,k2,k3⟩:=h w g vs h1 ⟨hl,hr⟩
  exact⟨g1,k1,.agg _ _ k2.1 k2.2,k3⟩
theorem Ct.fix {P:Program}{k:FuncId}{args:List AV}{st:St}{Q:AV→St→Prop}(h:Ct P k args st fun r s=>∃r' s',Fixes r s r' s'∧Q r' s'):Ct P k args st Q:=
 ⟨h.1,fun w g vals hR hv=>(h.2 w g vals hR hv).mono fun _ _ ⟨r,st',g',v,he,⟨r',s',hf,hQ⟩,hR',hv',hle,hb⟩=>by
  obtain⟨g2,k1,k2,k3⟩:=hf _ g' v hR' hv'
  exact⟨r',s',g2,v,he,hQ,k1,k2,hle.trans k3,hb⟩⟩
theorem R.fixed {w:World}{g:Gh}{st:St}(h:R w g st){id:Nat}(hid:id<st.n)(hz:st.fz id=false){arr:Array Value}{t:TypeId}(ha:w.heap[g.σ id]?=some (.cells arr t (0,0))) :
  R w (g.publish (g.σ id) (fun o=>arr[o]?)) (st.fix id)∧g.le (g.publish (g.σ id) (fun o=>arr[o]?)):=by
 have hle:=g.le_publish (b:=g.σ id) (f:=fun o=>arr[o]?) (fun o v hp=>by rw[h.sep id hid hz o]at hp;cases hp)
 refine⟨⟨h.hn,h.hk,?_,?_,h.inj,?_,h.base,h.baseO,?_,h.tinj,h.liv⟩,hle⟩
 ·intro b o v hp
  simp only[Gh.publish]at hp
  by_cases e:b=g.σ id
  ·subst e
   rw[if_pos rfl]at hp
   rw[cell_of_row _ _ o arr t (0,0) ha]
   exact hp
  ·rw[if_neg e]at hp
   exact h.pub b o v hp
 ·intro i hi
  obtain⟨arr',ha',hr'⟩:=h.obj i hi
  exact⟨arr',ha',hr'.mono hle⟩
 ·intro i hi hzi o
  simp only[St.fix,upd]at hzi
  by_cases e:i=id
  ·rw[if_pos e]at hzi;cases hzi
  ·rw[if_neg e]at hzi
   simp only[Gh.publish]
   rw[if_neg (fun q=>e (h.inj i id hi hid q))]
   exact h.sep i hi hzi o
 ·intro t' e s v m ht
  obtain⟨h1,h2,h3,h4⟩:=h.tok t' e s v m ht
  refine⟨h1,h2,h3,fun b hb=>⟨fun o ho=>?_,(h4 b hb).2⟩⟩
  simp only[Gh.publish]
  rw[if_neg (fun q=>(h4 b hb).2 id hid q.symm)]
  exact(h4 b hb).1 o ho
theorem Zrm {P:Program}{st:St}{e:TypeId}{id s cap:Nat}{rows:List (List AV)}{d:DV}(hx:XOk P st e (.xs id 0 s cap rows))(hd:toD (.xs id 0 s cap rows)=some d)(ho:dvo d=true):Fixes (.xs id 0 s cap rows) st (.d d) (st.fix id):=by
 obtain⟨id',s',cap',rows',h0,h1,h2,h3,h4,h5,h6,h7,h8⟩:=hx
 simp only[AV.xs.injEq,true_and]at h0
 obtain⟨rfl,rfl,rfl,rfl⟩:=h0
 intro w g v hR hv
 obtain⟨arr,ha,hr⟩:=hR.obj id h1
 obtain⟨k1,k2⟩:=hR.fixed h1 h2 ha
 refine⟨_,k1,.d ?_,k2⟩
 obtain⟨q1,q2,rfl⟩:=hv.xs_inv
 simp only[toD]at hd
 split at hd
 rotate_left
 ·cases hd
 rename_i r hrr
 cases hd
 obtain rfl:=Zm4 hrr
 cases r with
 | nil=>exact .sl0 0 _ _
 | cons y l=>
  have ho:dvoss (y::l)=true:=ho
  rw[ZcD]at ho
  generalize hrg:y::l=r at *
  have hslv:slv s r=.sl s r:=by rw[← hrg];rfl
  rw[hslv]
  have hcell:∀(i j:Nat) (x:List DV) (z:DV),r[i]?=some x→x[j]?=some z→j<s∧(st.obj id).2[i * s+j]?=some (.d z):=by
   intro i j x z hi hj
   have g1:(r.map (·.map AV.d))[i]?=some (x.map .d):=by rw[List.getElem?_map,hi];rfl
   have hxl:x.length=s:=by
    have:=h7 _ (List.mem_of_getElem? g1)
    simpa using this
   have hjs:j<s:=by rw[← hxl];exact(List.getElem?_eq_some_iff.1 hj).1
   refine⟨hjs,?_⟩
   have f1:=Zh6 h7 g1 hjs
   rw[← h6]at f1
   have hil:=(List.getElem?_eq_some_iff.1 hi).1
   have hlt:i * s+j<(r.map (·.map AV.d)).length * s:=by
    rw[List.length_map]
    have:=Nat.mul_le_mul_right s (show i+1≤r.length from hil)
    rw[Nat.add_mul]at this
    omega
   rw[List.getElem?_take_of_lt hlt]at f1
   rw[f1,List.getElem?_map,hj];rfl
  have harr:∀(i j:Nat) (x:List DV) (z:DV),r[i]?=some x→x[j]?=some z→∃u,arr[i * s+j]?=some u∧RepD g.pub z u:=by
   intro i j x z hi hj
   obtain⟨-,f1⟩:=hcell i j x z hi hj
   have hlt:i * s+j<arr.size:=by rw[← hr.1];exact(List.getElem?_eq_some_iff.1 f1).1
   refine⟨_,Array.getElem?_eq_getElem hlt,?_⟩
   have hz:=hr.2 _ _ _ f1 (Array.getElem?_eq_getElem hlt)
   have hzo:dvo z=true:=(ZdO x).1 (ho x (List.mem_of_getElem? hi)) z (List.mem_of_getElem? hj)
   exact Zk2 (a:=.d z) rfl hz (Zet rfl hzo) rfl
  have hlen:(r.map (·.map AV.d)).length=r.length:=by simp
  rw[hlen]
  refine .sl s r (g.σ id) 0 cap (fun k=>arr.getD k undef) (by rw[← hrg];simp) (fun i x hi=>?_) (by rw[← hlen];exact h8) (fun i j x z hi hj=>?_) (fun i j x z hi hj=>?_)
  ·have g1:(r.map (·.map AV.d))[i]?=some (x.map .d):=by rw[List.getElem?_map,hi];rfl
   have:=h7 _ (List.mem_of_getElem? g1)
   simpa using this
  ·obtain⟨u,k3,-⟩:=harr i j x z hi hj
   simp only[Gh.publish,if_true,Nat.zero_add]
   rw[k3]
   simp[Array.getD_eq_getD_getElem?,k3]
  ·obtain⟨u,k3,k4⟩:=harr i j x z hi hj
   have:arr.getD (i * s+j) undef=u:=by simp[Array.getD_eq_getD_getElem?,k3]
   rw[this]
   exact k4.mono k2.pub
theorem Zp5 (st:St):Fixes .nil st (.d (.sl 0 [])) st:=fun w g v h1 h2=>by
 obtain rfl:=h2.nil_inv
 exact⟨g,h1,.d (.sl0 0 none 0),Gh.le.refl g⟩
section
variable {P:Program}{cf:Cf}{C:Ctx}{Γ:Den}{r:Rs}
theorem ko_ok (hcons:Zn4 P cf Γ):KOk P cf C Γ r:=by
 intro op S a b sl tm K E st J hr hm hs hx ha
 have hg:gate E.ρ (some a)=some b:=by simp[gate,ha]
 unfold sxK at hr
 split at hr
 rotate_left
 ·simp[run]at hr
 rename_i c
 split at hr
 rotate_left
 ·simp[run]at hr
 rename_i f hce
 have hx':∀x∈(Op.call c).operands.toList,opOk x=true:=fun x h=>List.all_eq_true.1 hx x h
 have hargs:c.args.toList.all opOk=true:=List.all_eq_true.2 fun x h=>hx' x (ZfX h)
 have hf:opOk f=true:=hx' f (by simp[Op.operands,Call.operands,hce])
 obtain⟨fv,hr1,hfv⟩:=Zbs (on:=b) hm (ZbA hm hs hf) hg hr
 obtain⟨vs,hr2,hl,hvs⟩:=Zeu (on:=b) hm hs hg hargs hr1
 split at hr2
 rotate_left
 ·simp[run]at hr2
 rename_i k fs cs
 split at hr2
 rotate_left
 ·simp[run]at hr2
 rename_i sp hsp
 split at hr2
 rotate_left
 ·simp[run]at hr2
 rename_i hpl
 obtain⟨r1,r2⟩:=Zp4 (hcons k sp hsp) hr2 hm hg
 refine⟨fun hb hK=>?_,fun hb=>r2 hb hpl⟩
 have hfv:=hfv hb
 have hvs:∀(i:Nat) (v:SV) (a:AV),vs[i]?=some v→(argsA tm c.args)[i]?=some a→RV E v a:=hvs hb
 have hl:vs.length=(argsA tm c.args).length:=by rw[hl];simp[argsA]
 simp only[eff,hce]
 refine⟨hf,hargs,?_⟩
 generalize opnd tm f=av at hfv
 cases hfv with
 | @fn _ _ _ as bs h1 h2 h3 h4=>
  simp only[callA]
  obtain⟨q1,q2⟩:=Zgh h1 h2 hl hvs
  obtain⟨q3,q4⟩:=Zgh q1 q2 h3 h4
  exact r1 hb _ J q3 q4 hK
theorem Zrn (hc:CfOk P cf)(hcons:Zn4 P cf Γ):∀(fu:Nat) (r:Rs),CalOk P C Γ r (sxF cf fu)
 | 0,r=>fun k args as S K E st J hr=>by simp[sxF,run]at hr
 | fu+1,r=>fun k args as S K E st J hr hm hl ha hK=>by
  simp only[sxF]at hr
  cases hk:cf.con k with
  | some sp=>
   rw[hk]at hr
   exact(Zp4 (hcons k sp hk) (g:=none) (on:=true) hr hm rfl).1 rfl as J hl ha hK
  | none=>
   rw[hk]at hr
   exact Zn1 hc (Zrn hc hcons fu) (fun r=>ko_ok hcons) hr hm hl ha hK
theorem RM.dropG {E:En}{S:SS}{st:St}(hm:RM P C E S st)(g:GK):RM P C E { S with gr:=grm g S.gr,xn:=g::S.xn } st:=hm.lessGr (fun x hx=>(Zf6 hx).1) fun h hb=>by
 rcases List.mem_append.1 hb with hb | hb
 ·obtain⟨e,h1,h2⟩:=ZcT.1 hb
  by_cases hh:h=g
  ·exact List.mem_append.2 (.inr (by rw[hh];exact List.mem_cons_self ..))
  ·exact List.mem_append.2 (.inl (ZcT.2 ⟨e,Zg3 hh h1,h2⟩))
 ·exact List.mem_append.2 (.inr (List.mem_cons_of_mem _ hb))
theorem RM.fixSt {E:En}{S:SS}{st:St}(h:RM P C E S st){id:Nat}(hA:C.A id∨C.st0.n≤id)(hι:∀j,E.ι j=some id→False)(hg:∀g e o s cap xs,(g,e)∈S.gr→gav E g=some (.xs id o s cap xs)→False):RM P C E S (st.fix id):=by
 have hfz:∀i,i≠id→(st.fix id).fz i=st.fz i:=fun i hi=>by simp only[St.fix,upd,if_neg hi]
 refine { h with ob:=?_,gr:=?_,wf:=h.wf,fr:=?_ }
 ·intro j q hj
  obtain⟨idj,q1,q2,q2',q3,q4⟩:=h.ob j q hj
  have hne:idj≠id:=by rintro rfl;exact hι j q1
  exact⟨idj,q1,q2,by rw[hfz _ hne];exact q2',q3,q4⟩
 ·intro g e hge
  obtain⟨av,q1,q2⟩:=h.gr g e hge
  refine⟨av,q1,q2.imp (fun x=>x) (Or.imp (fun x=>x) fun⟨q3,idx,s,cap,rows,q4,q5,q6,q7⟩=>⟨q3,idx,s,cap,rows,q4,q5,?_,q7⟩)⟩
  have hne:idx≠id:=by
   rintro rfl
   rw[q4]at q1
   exact hg g e _ _ _ _ hge q1
  rw[hfz _ hne]
  exact q6
 ·refine { n:=h.fr.n,k:=h.fr.k,obj:=h.fr.obj,fz:=?_,live:=h.fr.live }
  intro i hi0 hA'
  have hne:i≠id:=by
   rintro rfl
   rcases hA with q | q
   ·exact hA' q
   ·omega
  rw[hfz _ hne]
  exact h.fr.fz i hi0 hA'
theorem Zp6 {E:En}{S:SS}{st:St}(hm:RM P C E S st){x:At}{g:GK}{av:AV}(hv:RV E (.one x (some g)) av)(hl:liveX S g=true) :
  ∃d st',Fixes av st (.d d) st'∧RV E (.one x none) (.d d)∧RM P C E { S with gr:=grm g S.gr,xn:=g::S.xn } st':=by
 obtain⟨e,av',h1,h2,h3,h4⟩:=hm.live hl
 cases hv with
 | @one1 _ _ d _ k1 k2 k3 k4=>
  rw[h3]at k3
  cases k3
  have hm1:=hm.dropG g
  rcases h4 with rfl | h4
  ·cases k4
   exact⟨_,st,Zp5 st,.one0 k1 k2,hm1⟩
  ·have h4':=h4
   obtain⟨id,s,cap,rows,rfl,-⟩:=h4
   refine⟨d,st.fix id,Zrm h4' k4 k2,.one0 k1 k2,hm1.fixSt (hm.gA g e _ _ _ _ _ h1 h3) (fun j hj=>hm.ix g e _ _ _ _ _ j h1 h3 hj) fun g' e' o s' cap' xs' hg' ho'=>?_⟩
   obtain⟨q1,q2⟩:=Zf6 hg'
   exact hm.gx g' e' g e q1 h1 q2 _ _ _ _ _ _ _ _ _ ho' h3
theorem Zg8:∀(cs:List Nat) {E:En} {S:SS} {st:St} {v:SV} {av:AV} {K:KV},RM P C E S st→RV E v av→run Γ (fixV S cs v K) E.ρ=some r →
  ∃E' S' v' av' st',E.le E'∧RM P C E' S' st'∧RV E' v' av'∧Fixes av st av' st'∧run Γ (K S' v') E'.ρ=some r
 | [],E,S,st,v,av,K,hm,hv,hr=>⟨E,S,v,av,st,.refl E,hm,hv,Fixes.refl _ _,by simpa only[fixV] using hr⟩
 | c::l,E,S,st,v,av,K,hm,hv,hr=>by
  have other:run Γ (fixV S l v K) E.ρ=some r→∃E' S' v' av' st',E.le E'∧RM P C E' S' st'∧RV E' v' av'∧Fixes av st av' st'∧run Γ (K S' v') E'.ρ=some r:=fun hr=>Zg8 l hm hv hr
  unfold fixV at hr
  split at hr
  ·rename_i a n m ov
   obtain⟨l1,u,h1,h2⟩:=Zkv (on:=true) 100 hr hm.nv rfl
   obtain⟨cs,rfl,hb⟩:=hv.agg_inv
   obtain⟨hlt,hp⟩:=h2 rfl hm.w0 (fun _=>rfl) cs [] _ hb (AccR.nil E) rfl
   obtain⟨x',e,hu⟩:∃c',(cs.drop c).take 1=[c']∧RV (E.push l1) u c':=hp
   have hm1:=hm.push l1
   have hb1:=hb.mono (En.le_push E l1)
   have stay:run Γ (fixV (bump S l1.length) l (.agg a n m ov) K) (E.push l1).ρ=some r→∃E' S' v' av' st',E.le E'∧RM P C E' S' st'∧RV E' v' av'∧Fixes (.agg cs) st av' st'∧run Γ (K S' v') E'.ρ=some r:=fun hr=>by
    obtain⟨E',S',v',av',st',k1,k2⟩:=Zg8 l hm1 hb1.agg hr
    exact⟨E',S',v',av',st',(En.le_push E l1).trans k1,k2⟩
   split at h1
   ·rename_i x g
    split at h1
    ·rename_i hl
     obtain⟨d,st1,f1,f2,f3⟩:=Zp6 hm1 hu hl
     have hb2:RB (E.push l1) a n m (wr ov c 1 (.one x none)) (ZaO cs c [.d d]):=hb1.wr (off:=c) (k:=1) f2 rfl (f2.ZaQ rfl) (by omega)
     obtain⟨E',S',v',av',st',k1,k2,k3,k4,k5⟩:=Zg8 l f3 hb2.agg h1
     refine⟨E',S',v',av',st',(En.le_push E l1).trans k1,k2,k3,Fixes.trans (b:=.agg (ZaO cs c [.d d])) (t:=st1) (Fixes.agg ?_) k4,k5⟩
     have e1:cs=cs.take c++x'::cs.drop (c+1):=by
      have q:=List.take_append_drop c cs
      have q2:cs.drop c=x'::cs.drop (c+1):=by
       have:=List.take_append_drop 1 (cs.drop c)
       rw[e,List.drop_drop]at this
       exact this.symm
      rw[q2]at q
      exact q.symm
     have e2:ZaO cs c [.d d]=cs.take c++.d d::cs.drop (c+1):=by simp[ZaO]
     rw[e2]
     have:=f1.inL (cs.take c) (cs.drop (c+1))
     rw[← e1]at this
     exact this
    ·split at h1
     ·exact stay h1
     ·simp[run]at h1
   ·exact stay h1
   ·simp[run]at h1
  ·rename_i x g
   split at hr
   ·rename_i hl
    obtain⟨d,st1,f1,f2,f3⟩:=Zp6 hm hv hl
    obtain⟨E',S',v',av',st',k1,k2,k3,k4,k5⟩:=Zg8 l f3 f2 hr
    exact⟨E',S',v',av',st',k1,k2,k3,f1.trans k4,k5⟩
   ·split at hr
    ·exact other hr
    ·simp[run]at hr
  ·exact other hr
theorem Zlt {ob:Ob}:∀(l:List Nat) {S S':SS},fixNm ob l S=some S'→S'.nv=S.nv
 | [],S,S',h=>by simp only[fixNm,oI]at h;rw[h]
 | c::l,S,S',h=>by
  simp only[fixNm]at h
  split at h
  ·exact Zlt l h
  split at h
  rotate_left
  ·cases h
  split at h
  rotate_left
  ·cases h
  rw[Zlt l h]
theorem Zj4 {ob:Ob}:∀(l:List Nat) {E:En} {S S':SS} {st:St} {cs:List AV} {r:Row} (_:RM P C E S st) (_:RB E ob.a ob.n ob.m ob.ov cs) (_:toDs cs=some r) (_:dvos r=true) (_:fixNm ob l S=some S'),
  ∃st',RM P C E S' st'∧(∀cs1:List AV,cs1.length=cs.length→(∀i:Nat,cs1[i]?=cs[i]?∨cs1[i]?=r[i]?.map .d)→∃cs2:List AV,FixL cs1 st cs2 st'∧cs2.length=cs.length∧(∀i:Nat,cs2[i]?=cs[i]?∨cs2[i]?=r[i]?.map .d)∧∀i:Nat,(i∈l∨cs1[i]?=r[i]?.map .d)→cs2[i]?=r[i]?.map .d)
 | [],E,S,S',st,cs,r,hm,hb,hr,ho,h=>by
  simp only[fixNm,oI]at h
  subst h
  exact⟨st,hm,fun cs1 h1 h2=>⟨cs1,FixL.refl _ _,h1,h2,fun i hi=>hi.elim (fun h=>by simp at h) (fun h=>h)⟩⟩
 | c::l,E,S,S',st,cs,r,hm,hb,hr,ho,h=>by
  simp only[fixNm]at h
  split at h
  ·rename_i hin
   have hin:c∈l:=Classical.byContradiction fun hc=>by rw[Zmp.2 hc]at hin;cases hin
   obtain⟨st',hm3,hrest⟩:=Zj4 l hm hb hr ho h
   refine⟨st',hm3,fun cs1 h1 h2=>?_⟩
   obtain⟨cs2,j1,j2,j3,j4⟩:=hrest cs1 h1 h2
   refine⟨cs2,j1,j2,j3,fun i hi=>j4 i (hi.imp (fun h=>?_) (fun h=>h))⟩
   rcases List.mem_cons.1 h with rfl | h
   ·exact hin
   ·exact h
  split at h
  rotate_left
  ·cases h
  rename_i g hg
  split at h
  rotate_left
  ·cases h
  rename_i hl
  obtain⟨av,k1,k2⟩:=ZdU hm.w0 hb hg
  have hlt:c<cs.length:=(List.getElem?_eq_some_iff.1 k1).1
  have hlr:c<r.length:=by rw[← Zdd hr];exact hlt
  have htd:toD av=some r[c]:=by
   have h6:=congrArg (fun l=>l[c]?) ((Zc4 _ _).1 hr)
   simp only[List.getElem?_map,k1,gG hlr,Option.map_some,oI]at h6
   exact h6
  have hdo:dvo r[c]=true:=(ZdO r).1 ho _ (List.getElem_mem hlr)
  obtain⟨e,av',q1,q2,q3,q4⟩:=hm.live hl
  rw[k2]at q3
  cases q3
  have hm1:=hm.dropG g
  obtain⟨st1,hm2,hfix,hst⟩:∃st1,RM P C E { S with gr:=grm g S.gr,xn:=g::S.xn } st1∧Fixes av st (.d r[c]) st1∧∀l:List AV,FixL l st l st1:=by
   rcases q4 with rfl | q4
   ·simp only[toD,oI]at htd
    refine⟨st,hm1,?_,fun l=>FixL.refl l st⟩
    rw[← htd]
    exact Zp5 st
   ·have q4':=q4
    obtain⟨id,s,cap,rows,rfl,p1,p2,-⟩:=q4
    refine⟨st.fix id,hm1.fixSt (hm.gA g e _ _ _ _ _ q1 k2) (fun j hj=>hm.ix g e _ _ _ _ _ j q1 k2 hj) (fun g' e' o s' cap' xs' hg' ho'=>?_),Zrm q4' htd hdo,fun l w g vs h1 h2=>?_⟩
    ·obtain⟨w1,w2⟩:=Zf6 hg'
     exact hm.gx g' e' g e w1 q1 w2 _ _ _ _ _ _ _ _ _ ho' k2
    ·obtain⟨arr,ha,-⟩:=h1.obj id p1
     obtain⟨w1,w2⟩:=h1.fixed p1 p2 ha
     exact⟨_,w1,h2.mono w2,w2⟩
  obtain⟨st',hm3,hrest⟩:=Zj4 l hm2 hb hr ho h
  refine⟨st',hm3,fun cs1 h1 h2=>?_⟩
  have hlt1:c<cs1.length:=by omega
  rcases h2 c with hc | hc
  ·have hc':cs1[c]?=some av:=by rw[hc,k1]
   have e1:cs1=cs1.take c++av::cs1.drop (c+1):=by
    have q:=List.take_append_drop c cs1
    have q2:cs1.drop c=av::cs1.drop (c+1):=by
     rw[List.drop_eq_getElem_cons hlt1]
     congr 1
     rw[gG hlt1]at hc'
     exact Option.some.inj hc'
    rw[q2]at q
    exact q.symm
   have hget:∀i:Nat,(cs1.take c++AV.d r[c]::cs1.drop (c+1))[i]?=if i=c then some (.d r[c])else cs1[i]?:=by
    intro i
    by_cases hi:i<c
    ·rw[List.getElem?_append_left (by simp;omega),if_neg (by omega),List.getElem?_take_of_lt hi]
    ·rw[List.getElem?_append_right (by simp;omega)]
     simp only[List.length_take,Nat.min_eq_left (Nat.le_of_lt hlt1)]
     by_cases hic:i=c
     ·subst hic;simp
     ·rw[if_neg hic]
      obtain⟨m,hm⟩:∃m,i - c=m+1:=⟨i - c - 1,by omega⟩
      rw[hm,List.getElem?_cons_succ,List.getElem?_drop]
      congr 1
      omega
   have hnew:∀i:Nat,(cs1.take c++AV.d r[c]::cs1.drop (c+1))[i]?=cs[i]?∨(cs1.take c++AV.d r[c]::cs1.drop (c+1))[i]?=r[i]?.map .d:=by
    intro i
    rw[hget]
    split
    ·rename_i e;subst e;right;rw[gG hlr];rfl
    ·exact h2 i
   have hlen:(cs1.take c++AV.d r[c]::cs1.drop (c+1)).length=cs.length:=by simp;omega
   obtain⟨cs2,j1,j2,j3,j4⟩:=hrest (cs1.take c++.d r[c]::cs1.drop (c+1)) hlen hnew
   refine⟨cs2,FixL.trans ?_ j1,j2,j3,fun i hi=>j4 i ?_⟩
   ·have:=hfix.inL (cs1.take c) (cs1.drop (c+1))
    rw[← e1]at this
    exact this
   ·rcases hi with hi | hi
    ·rcases List.mem_cons.1 hi with rfl | hi
     ·right;rw[hget,if_pos rfl,gG hlr];rfl
     ·exact .inl hi
    ·right
     rw[hget]
     split
     ·rename_i e;subst e;rw[gG hlr];rfl
     ·exact hi
  ·obtain⟨cs2,j1,j2,j3,j4⟩:=hrest cs1 h1 h2
   refine⟨cs2,FixL.trans (hst cs1) j1,j2,j3,fun i hi=>j4 i ?_⟩
   rcases hi with hi | hi
   ·rcases List.mem_cons.1 hi with rfl | hi
    ·exact .inr hc
    ·exact .inl hi
   ·exact .inr hi
theorem ZqT {E:En}{S:SS}{st:St}{v:SV}{av:AV}{K:KV}(hm:RM P C E S st)(hv:RV E v av)(hr:run Γ (fixW S v K) E.ρ=some r) :
  ∃E' S' v' av' st',E.le E'∧RM P C E' S' st'∧RV E' v' av'∧Fixes av st av' st'∧run Γ (K S' v') E'.ρ=some r:=by
 unfold fixW at hr
 split at hr
 ·exact⟨E,S,_,av,st,.refl E,hm,hv,Fixes.refl _ _,hr⟩
 ·rename_i a n m ov hne
  obtain⟨cs,rfl,hb⟩:=hv.agg_inv
  split at hr
  rotate_left
  ·simp[run]at hr
  rename_i S' hS'
  obtain⟨rw0,hd,ho⟩:∃row,toDs cs=some row∧dvos row=true:=by
   obtain⟨l,a',h1,h2⟩:=Zfv (on:=true) hr (by
    have:=Zlt _ hS'
    rw[this];exact hm.nv) rfl
   obtain⟨x,q1,q2,q3⟩:=h2 rfl _ hb.agg
   rw[Zb4]at q3
   exact⟨x,q3,q2⟩
  obtain⟨st',hm',hfix⟩:=Zj4 (ob:=⟨0,a,n,m,ov⟩) _ hm hb hd ho hS'
  obtain⟨l,a',h1,h2⟩:=Zfv (on:=true) hr hm'.nv rfl
  obtain⟨x,q1,q2,q3⟩:=h2 rfl _ hb.agg
  rw[Zb4,hd]at q3
  cases q3
  obtain⟨cs2,j1,j2,j3,j4⟩:=hfix cs rfl (fun i=>.inl rfl)
  refine⟨E.push l,_,_,.agg (rw0.map .d),st',En.le_push E l,hm'.push l,RB.agg ⟨_,[],.d q1 (by rw[← Zdd hd,hb.len]) q2,AccR.nil _,rfl⟩,Fixes.agg (j1.trans ?_),h1⟩
  intro w g vs w1 w2
  refine⟨g,w1,⟨by rw[List.length_map,← Zdd hd,← j2];exact w2.1,fun i y u hy hu=>?_⟩,Gh.le.refl g⟩
  rw[List.getElem?_map]at hy
  cases hri:rw0[i]? with
  | none=>rw[hri]at hy;cases hy
  | some d=>
   rw[hri]at hy
   cases hy
   by_cases hib:cs2[i]?=some (.d d)
   ·exact w2.2 i _ u hib hu
   ·have hnb:i ∉ ZfL S 20 (.agg a n m ov):=by
     intro hin
     have:=j4 i (.inl hin)
     rw[hri]at this
     exact hib this
    have hci:cs2[i]?=cs[i]?:=by
     rcases j3 i with h | h
     ·exact h
     ·rw[hri]at h;exact absurd h hib
    have hil:i<cs.length:=by rw[Zdd hd];exact(List.getElem?_eq_some_iff.1 hri).1
    rw[gG hil]at hci
    have hnx:=ZgS hm.hn 20 hb.agg i cs[i] (by rw[Zb4];exact gG hil) hnb
    have htd:toD cs[i]=some d:=by
     have h6:=congrArg (fun l=>l[i]?) ((Zc4 _ _).1 hd)
     simp only[List.getElem?_map,gG hil,hri,Option.map_some,oI]at h6
     exact h6
    have hdo:dvo d=true:=(ZdO rw0).1 ho _ (List.mem_of_getElem? hri)
    exact .d (Zk2 htd (w2.2 i _ u hci hu) (Zet htd hdo) hnx)
 ·exact Zg8 _ hm hv hr
theorem ZkF {h:Hint}:∀(vs:List SV) {i:Nat} {E:En} {S:SS} {st:St} {avs:List AV} {K:SS→List SV→Tr},RM P C E S st→vs.length=avs.length→(∀(i:Nat) (u:SV) (a:AV),vs[i]?=some u→avs[i]?=some a→RV E u a)→run Γ (Zkt h i S vs K) E.ρ=some r →
  ∃E' S' vs' avs' st',E.le E'∧RM P C E' S' st'∧vs'.length=vs.length∧vs'.length=avs'.length∧(∀(i:Nat) (u:SV) (a:AV),vs'[i]?=some u→avs'[i]?=some a→RV E' u a)∧FixL avs st avs' st'∧run Γ (K S' vs') E'.ρ=some r
 | [],i,E,S,st,avs,K,hm,hl,hv,hr=>by
  cases avs with
  | cons _ _=>simp at hl
  | nil=>
   simp only[Zkt]at hr
   exact⟨E,S,[],[],st,.refl E,hm,rfl,rfl,fun i u a h=>by simp at h,FixL.refl _ _,hr⟩
 | v::vs,i,E,S,st,avs,K,hm,hl,hv,hr=>by
  cases avs with
  | nil=>simp at hl
  | cons a avs=>
   simp only[Zkt]at hr
   obtain⟨E1,S1,v1,a1,st1,k1,k2,k3,k4,k5⟩:∃E' S' v' av' st',E.le E'∧RM P C E' S' st'∧RV E' v' av'∧Fixes a st av' st'∧run Γ (Zkt h (i+1) S' vs fun S vs=>K S (v'::vs)) E'.ρ=some r:=by
    split at hr
    ·exact ZqT hm (hv 0 v a rfl rfl) hr
    ·exact Zg8 _ hm (hv 0 v a rfl rfl) hr
   obtain⟨E2,S2,vs2,as2,st2,j1,j2,j3,j4,j5,j6,j7⟩:=ZkF vs k2 (avs:=avs) (by simpa using hl) (fun i u b hu hb=>(hv (i+1) u b (by simpa using hu) (by simpa using hb)).mono k1) k5
   refine⟨E2,S2,v1::vs2,a1::as2,st2,k1.trans j1,j2,by simp[j3],by simp[j4],fun i u b hu hb=>?_,?_,j7⟩
   ·cases i with
    | zero=>
     simp only[List.getElem?_cons_zero,oI]at hu hb
     subst hu;subst hb
     exact k3.mono j1
    | succ i=>exact j5 i u b (by simpa using hu) (by simpa using hb)
   ·refine FixL.trans (k4.inL [] avs) ?_
    intro w g vals h1 h2
    have hlt:0<vals.size:=by rw[← h2.1];simp
    have hrest:RepL g avs (vals.toList.drop 1).toArray:=by
     refine⟨by have:=h2.1;simp at this ⊢;omega,fun i x v hx hv=>?_⟩
     refine h2.2 (i+1) x v (by simpa using hx) ?_
     rw[List.getElem?_toArray,List.getElem?_drop,Array.getElem?_toList]at hv
     rw[Nat.add_comm];exact hv
    obtain⟨g',q1,q2,q3⟩:=j6 w g _ h1 hrest
    refine⟨g',q1,⟨by have:=h2.1;have:=q2.1;simp at *;omega,fun i x v hx hv=>?_⟩,q3⟩
    cases i with
    | zero=>exact(h2.2 0 x v (by simpa using hx) hv).mono q3
    | succ i=>
     refine q2.2 i x v (by simpa using hx) ?_
     rw[List.getElem?_toArray,List.getElem?_drop,Array.getElem?_toList,Nat.add_comm]
     exact hv
def endK (sp:Spec)(hq:Sq)(S:SS)(v:SV):Tr:=match Zit sp.tup v with
 | some vs=>if Nat.beq vs.length sp.sh.length=false then .err 96 [] else ZjK 0 sp.h [] hq ⟨S,ZgA 0 vs⟩ .fin
 | none=>.err 96 []
theorem Zn5 {sp:Spec}{hq:Sq}{hn:List (Option GK×TypeId)}(hh:ZhX sp.h sp.sh (preX sp.pre)=some (hq,hn))(hso:ZjL sp hn=true){E:En}{st:St}{outs:List Row}{J:AV→St→Prop}(hm:RM P (ctxOf sp E st) E sp.pre st)
  (hfin:∀(E':En) (st':St) (avs:List AV),E.le E'→E'.ρ=E.ρ++outs→RM P (ctxOf sp E st) E' { hq.s with gr:=ZeC hn } st'→avs.length=sp.sh.length→RTS E' hq.sl (ZcR avs)→PostC sp E' st' avs→J (resAV sp.tup avs) st')
  {E':En} {S':SS} {vs:List SV} {avs:List AV} {st':St} (hle:E.le E') (hm':RM P (ctxOf sp E st) E' S' st') (hal:vs.length=avs.length) (hrel:∀(i:Nat) (u:SV) (a:AV),vs[i]?=some u→avs[i]?=some a→RV E' u a) (hvl:vs.length=sp.sh.length)
  (hr':run Γ (ZjK 0 sp.h [] hq ⟨S',ZgA 0 vs⟩ .fin) E'.ρ=some (.fin outs)):J (resAV sp.tup avs) st':=by
 obtain⟨S1,S2,sl2,h1,h2,h3,rfl⟩:=ZgV hh
 simp only[preX]at h1
 have hso':=hso
 simp only[ZjL,bA,decide_eq_true_eq,List.isEmpty_iff]at hso'
 obtain⟨⟨⟨⟨⟨⟨⟨⟨⟨heq,hdc⟩,hxn⟩,hkn⟩,hac⟩,hdist⟩,hsome⟩,hnd⟩,hrange⟩,hsh⟩:=hso'
 have hs':RTS E' (ZgA 0 vs) (ZcR avs):=by
  intro i e he
  obtain⟨u,q1,rfl,-⟩:=ZjZ he
  rw[Nat.sub_zero]at q1
  have hi:i<avs.length:=by rw[← hal];exact(List.getElem?_eq_some_iff.1 q1).1
  refine .inr ?_
  have:=hrel i u _ q1 (gG hi)
  simp only[ZcR,gG hi,Option.getD_some]
  exact this
 simp only[ZjK]at hr'
 split at hr'
 ·simp[run]at hr'
 rename_i hsob
 split at hr'
 ·simp[run]at hr'
 rename_i hss
 obtain⟨hr',nms,hn1,hgw,hds,hgg⟩:=Zg6 hr'
 obtain⟨l2,as2,rs,rs',hr',hev,hr1,hr2⟩:=Zi8 (q:=⟨S',ZgA 0 vs⟩) hm' hs' hr'
 simp only[run,hev,Option.map_some,oI,Rs.fin.injEq]at hr'
 obtain⟨p1,p2⟩:=ZgT h1
 have p3:=ZfZ h2
 have hin:∀i e,lk i sp.sh=some e→i∈sp.h.sl:=fun i e he=>by
  have:=List.all_eq_true.1 hsh _ (ZiV he)
  simpa using this
 have hkill:Zhj 0 [] sp.h sp.sh=sp.sh:=ZmE hsh
 obtain⟨EH,f1,f2,f3,f4⟩:=ZjY (xn0:=flX sp.pre.gr++sp.pre.xn) (P:=P) (C:=ctxOf sp E st) (key:=0) (ws:=[]) (h:=sp.h) (E0:=E) (E1:=E'.push l2) (q:=⟨sp.pre,sp.sh⟩) (q1:=⟨bump S' l2.length,ZgA 0 vs⟩) (gr:=[]) (nms:=nms) (tm0:=ZcR []) hm (fun i e hni he=>absurd (hin i e he) hni) (hle.trans (En.le_push E' l2)) (hm'.push l2)
  (fun i e he=>by
   rw[hkill]at he
   obtain⟨e',j1,j2,j3,j4,j5⟩:=p2 i e he
   have hi:=hin i e he
   rcases Zmy hss j1 with⟨k,j6⟩ | ⟨e1,j6,j7,j8,j9⟩
   ·exact absurd j6 (j5 hi k)
   ·obtain⟨row,f,g1,g2,-⟩:=hr1.ex hi
    simp only at g1 j6
    rw[j6]at g1
    cases g1
    exact .inr ⟨e1,j6,g2,fun _=>⟨by rw[← j3];exact(j8 hi).1,by rw[← j4];exact(j8 hi).2⟩,fun q=>absurd hi q⟩)
  (fun j x hx=>by
   obtain⟨o,j1,j2,j3,j4⟩:=p3 j x (by rw[p1];exact hx)
   obtain⟨y,j5,j6,j7⟩:=ZkC hsob j1
   exact⟨y,j5,fun hj=>⟨j2.symm.trans (j6 hj).1,j3.symm.trans (j6 hj).2⟩,fun hj=>by rw[← j4 hj];exact j7 hj⟩)
  hr1 (hr2.imp (ObRow.mono (.refl _) rfl)) (fun g hg=>List.mem_append.2 (.inr hg)) (by rw[hrange];exact List.nodup_range) hnd (fun x hx=>by simp at hx) hn1 hgw hds (fun x hx=>by simp at hx) (by rw[hkill];exact h1) h2 h3
 rw[List.append_nil,hdc]at f3
 refine hfin EH st' avs f1 (by rw[f2,hr']) f3 (by rw[← hal];exact hvl) f4 ⟨fun i hi c x hx hc=>?_,fun j hj id hι c x hx hc=>?_⟩
 ·obtain⟨row,f,-,-,-,-,q⟩:=hr1.ex hi
  exact q c x hx hc
 ·obtain⟨row,ob,id',-,q1,-,-,q2⟩:=hr2.ex hj
  obtain⟨⟨-,-⟩,hbk⟩:=Zhz hnd h2
  obtain⟨z,hz⟩:=List.getElem?_of_mem hj
  obtain⟨o,b,w1,-⟩:=hbk z j hz
  have p1':S1.ob=sp.pre.ob:=p1
  rw[p1']at w1
  obtain⟨id0,w2,-⟩:=hm.ob j o w1
  rw[f1.ι _ _ w2]at hι
  cases hι
  rw[((hle.trans (En.le_push E' l2)).ι _ _ w2)]at q1
  cases q1
  exact q2 c x hx hc
theorem Zn6 {tup:Bool}{v:SV}{vs:List SV}(hvs:Zit tup v=some vs){E:En}{av:AV}(hv:RV E v av):∃avs:List AV,vs.length=avs.length∧resAV tup avs=av∧(tup=false→avs.length=1)∧∀(i:Nat) (u:SV) (a:AV),vs[i]?=some u→avs[i]?=some a→RV E u a:=by
 cases htup:tup with
 | true=>
  rw[htup]at hvs
  cases v <;> first | (simp[Zit]at hvs;done) | skip
  rename_i us
  have e:Zit true (.tup us)=some us:=rfl
  rw[e]at hvs
  cases hvs
  cases hv with
  | tup q1 q2=>exact⟨_,q1,rfl,(fun h=>by cases h),q2⟩
 | false=>
  rw[htup]at hvs
  have e:Zit false v=some [v]:=by cases v <;> rfl
  rw[e]at hvs
  cases hvs
  refine⟨[av],rfl,rfl,fun _=>rfl,fun i u a hu ha=>?_⟩
  cases i with
  | zero=>simp at hu ha;subst hu;subst ha;exact hv
  | succ i=>simp at hu
theorem end_ok {sp:Spec}{hq:Sq}{hn:List (Option GK×TypeId)}(hh:ZhX sp.h sp.sh (preX sp.pre)=some (hq,hn))(hso:ZjL sp hn=true){E:En}{st:St}{outs:List Row}{J:AV→St→Prop}(hm:RM P (ctxOf sp E st) E sp.pre st)
  (hfin:∀(E':En) (st':St) (avs:List AV),E.le E'→E'.ρ=E.ρ++outs→RM P (ctxOf sp E st) E' { hq.s with gr:=ZeC hn } st'→avs.length=sp.sh.length→RTS E' hq.sl (ZcR avs)→PostC sp E' st' avs→J (resAV sp.tup avs) st')
  {E':En} {S':SS} {v:SV} {av:AV} {st':St} (hle:E.le E') (hm':RM P (ctxOf sp E st) E' S' st') (hv:RV E' v av) (hr':run Γ (endK sp hq S' v) E'.ρ=some (.fin outs)):J av st':=by
 unfold endK at hr'
 split at hr'
 rotate_left
 ·simp[run]at hr'
 rename_i vs hvs
 split at hr'
 ·simp[run]at hr'
 rename_i hvl
 simp only[Bool.not_eq_false]at hvl
 obtain⟨avs,hal,hav,-,hrel⟩:=Zn6 hvs hv
 rw[← hav]
 exact Zn5 hh hso hm hfin hle hm' hal hrel (nbeq hvl) hr'
theorem Zp7 {Γ':Den}(hc:CfOk P cf)(hcons:Zn4 P cf Γ){k:Nat}{sp:Spec}{T:Tr}(ht:tree cf k sp=T)(hne:isErr T=false)(hT:∀ρ outs,Γ' k ρ=some outs→run Γ T ρ=some (.fin outs)):ZdM P Γ' k sp:=by
 unfold tree at ht
 split at ht
 ·subst ht;cases hne
 rename_i hq hn hh
 split at ht
 ·subst ht;cases hne
 rename_i hso
 simp only[Bool.not_eq_false]at hso
 refine⟨hq,hn,hh,hso,fun E st as outs J hm hlen hrv hΓ hol hfin=>?_⟩
 have hr:=hT _ _ hΓ
 rw[← ht]at hr
 refine Ct.fix (Zn1 hc (Zrn hc hcons 60) (fun r=>ko_ok hcons) hr hm hlen hrv fun E' S' v av st' hle hm' hv hr'=>?_)
 split at hr'
 rotate_left
 ·simp[run]at hr'
 rename_i vs hvs
 split at hr'
 ·simp[run]at hr'
 rename_i hvl
 simp only[Bool.not_eq_false]at hvl
 obtain⟨avs,hal,hav,hsingle,hrel⟩:=Zn6 hvs hv
 obtain⟨E2,S2,vs2,as2,st2,j1,j2,j3,j4,j5,j6,j7⟩:=ZkF vs hm' hal hrel hr'
 refine⟨resAV sp.tup as2,st2,?_,Zn5 hh hso hm hfin (hle.trans j1) j2 j4 j5 (j3.trans (nbeq hvl)) j7⟩
 rw[← hav]
 unfold resAV
 cases htup:sp.tup with
 | true=>exact Fixes.tup j6
 | false=>
  have h1:=hsingle htup
  have h2:as2.length=1:=by rw[← j4,j3,hal];exact h1
  obtain⟨a,rfl⟩:=List.length_eq_one_iff.1 h1
  obtain⟨b,rfl⟩:=List.length_eq_one_iff.1 h2
  intro w g u q1 q2
  obtain⟨g',w1,w2,w3⟩:=j6 w g #[u] q1 ⟨rfl,fun i x y hx hy=>by
   cases i with
   | zero=>simp at hx hy;subst hx;subst hy;exact q2
   | succ i=>simp at hx⟩
  exact⟨g',w1,w2.2 0 b u rfl rfl,w3⟩
theorem Znl {k:Nat}{sp:Spec}{hq:Sq}{hn:List (Option GK×TypeId)}(hh:ZhX sp.h sp.sh (preX sp.pre)=some (hq,hn))(hso:ZjL sp hn=true)
  (H:∀(E:En) (st:St) (as:List AV) (outs:List Row) (J:AV→St→Prop),RM P (ctxOf sp E st) E sp.pre st→sp.args.length=as.length→(∀(i:Nat) (v:SV) (a:AV),sp.args[i]?=some v→as[i]?=some a→RV E v a)→Γ k E.ρ=some outs →
   (∀(E':En) (S':SS) (v:SV) (av:AV) (st':St),E.le E'→RM P (ctxOf sp E st) E' S' st'→RV E' v av→run Γ (endK sp hq S' v) E'.ρ=some (.fin outs)→J av st')→Ct P k as st J):ZdM P Γ k sp:=
 ⟨hq,hn,hh,hso,fun E st as outs J hm hlen hrv hΓ hol hfin=>H E st as outs J hm hlen hrv hΓ fun E' S' v av st' hle hm' hv hr'=>end_ok hh hso hm hfin hle hm' hv hr'⟩
end
end Go.AW

namespace Go.AW
open Go.RowKit
def dvOf:AV→DV
 | .d x=>x
 | _=>.sl 0 []
def isZ:AV→Bool
 | .d (.lit v)=>v.oneCell'
 | .nil=>true
 | _=>false
theorem Zro:∀{l:List AV},l.all isZ=true→(l.map dvOf).map cv=l∧dvos (l.map dvOf)=true
 | [],_=>⟨rfl,rfl⟩
 | a::l,h=>by
  simp only[List.all_cons,bA]at h
  obtain⟨h1,h2⟩:=Zro h.2
  cases a <;> simp only[isZ,bF,false_and]at h
  ·rename_i x
   cases x <;> simp only[isZ,bF,false_and]at h
   simp only[List.map_cons,dvOf,cv,dvos,dvo,bA]
   exact⟨by rw[h1],h.1,h2⟩
  ·simp only[List.map_cons,dvOf,cv,dvos,dvo,dvoss,bA]
   exact⟨by rw[h1],trivial,h2⟩
def kindD:TypeDesc→Nat
 | .int _=>0
 | .bool=>1
 | .string=>2
 | .slice _=>3
 | .struct _=>4
 | .pointer _=>5
 | .interface _=>6
 | .func ..=>7
 | .array ..=>8
 | _=>98
def unO:List (Nat×Option (Nat×Bool))→Option (List (Nat×Nat×Bool))
 | []=>some []
 | (o,some (n,b))::l=>(unO l).map fun r=>(o,n,b)::r
 | (_,none)::_=>none
theorem Zp8:∀{l:List (Nat×Option (Nat×Bool))} {r:List (Nat×Nat×Bool)},unO l=some r→∀f:Nat,l[f]?=(r[f]?).map fun x=>(x.1,some (x.2.1,x.2.2))
 | [],r,h,f=>by simp only[unO,oI]at h;subst h;simp
 | (o,some (n,b))::l,r,h,f=>by
  simp only[unO,Option.map_eq_some_iff]at h
  obtain⟨r',h1,rfl⟩:=h
  cases f with
  | zero=>rfl
  | succ f=>simpa using Zp8 h1 f
 | (_,none)::_,r,h,f=>by simp[unO]at h
def ZmF:TypeDesc→Option Nat
 | .int _=>some 0
 | .bool=>some 1
 | .string=>some 2
 | _=>none
def cmpFs (P:Program):Nat→List Field→Option (List Nat)
 | _,[]=>some []
 | k,f::fs=>if decide (f.name ≠ "_")&&Nat.beq f.offset k then(match P.underlying f.type with
  | some d=>(match ZmF d,cmpFs P (k+1) fs with
   | some x,some r=>some (x::r)
   | _,_=>none)
  | none=>none)else none
def cmpC (P:Program)(t:TypeId):Option (List Nat):=match P.underlying t with
 | some (.struct fs)=>if (!P.stoodInHeld t&&!P.eqGuardType P.depth t)=true then cmpFs P 0 fs.toList else none
 | _=>none
def elC (P:Program)(t:TypeId):Option (TypeId×Nat×Nat):=match elT P t with
 | some (e,n,b)=>if (zeroC P e).map (·.length)=some n then some (e,n,b)else none
 | none=>none
def isK0:TypeDesc→List DV→Bool
 | .int k,[.lit (.int k' _)]=>decide (k=k')
 | .int _,_=>false
 | _,_=>true
def tiC (P:Program)(t:TypeId):Option TI:=match tsz P t,zeroC P t,P.underlying t,unO (flds P t)with
 | some (n,ag),some z,some d,some fl=>
  if (z.all isZ&&Nat.beq z.length n&&(ag || Nat.beq n 1)&&(fl.all fun x=>x.2.2 || Nat.beq x.2.1 1)&&isK0 d (z.map dvOf))=true then
   some ⟨n,ag,kindD d,z.map dvOf,fl,elC P t,arT P t,cmpC P t⟩
  else none
 | _,_,_,_=>none
end Go.AW

namespace Go.AW
open Go.RowKit
theorem ZqU {d:TypeDesc}{k:Nat}{x y:DV}{b:Bool}(hd:ZmF d=some k)(h:eqC k x y=some b):(ZiO d (some (.d x)) (some (.d y))).ok∧(ZiO d (some (.d x)) (some (.d y))).b=b:=by
 unfold eqC at h
 split at h
 ·split at h
  ·rename_i e
   cases h
   cases d <;> simp[ZmF]at hd
   exact⟨e,rfl⟩
  ·cases h
 ·cases h
  cases d <;> simp[ZmF]at hd
  exact⟨trivial,rfl⟩
 ·cases h
  cases d <;> simp[ZmF]at hd
  exact⟨trivial,rfl⟩
 ·cases h
theorem Zn7 {P:Program}{r s:Row}:∀{fs:List Field} {k:Nat} {ks:List Nat} {b:Bool},cmpFs P k fs=some ks→eqR ks (r.drop k) (s.drop k)=some b→(eqFs P (r.map .d) (s.map .d) fs).ok∧(eqFs P (r.map .d) (s.map .d) fs).b=b
 | [],k,ks,b,h,he=>by
  simp only[cmpFs,oI]at h
  subst h
  generalize r.drop k=x at he
  generalize s.drop k=y at he
  cases x <;> cases y <;> simp[eqR]at he
  subst he
  exact⟨trivial,rfl⟩
 | f::fs,k,ks,b,h,he=>by
  simp only[cmpFs]at h
  split at h
  ·rename_i hc
   simp only[bA,decide_eq_true_eq]at hc
   obtain⟨hc1,hc2⟩:=hc
   have hc2:=nbeq hc2
   split at h
   ·rename_i d hd
    split at h
    ·rename_i x ks' hx hks
     cases h
     cases hr:r.drop k with
     | nil=>rw[hr]at he;simp[eqR]at he
     | cons c cs=>
      cases hs:s.drop k with
      | nil=>rw[hr,hs]at he;simp[eqR]at he
      | cons c' cs'=>
       rw[hr,hs]at he
       simp only[eqR]at he
       split at he
       ·rename_i b1 b2 h1 h2
        cases he
        have hr1:r[k]?=some c:=by have:=congrArg (fun l=>l[0]?) hr;simpa[List.getElem?_drop] using this
        have hs1:s[k]?=some c':=by have:=congrArg (fun l=>l[0]?) hs;simpa[List.getElem?_drop] using this
        have hr2:r.drop (k+1)=cs:=by have:=congrArg List.tail hr;simpa[List.tail_drop] using this
        have hs2:s.drop (k+1)=cs':=by have:=congrArg List.tail hs;simpa[List.tail_drop] using this
        obtain⟨q1,q2⟩:=Zn7 (r:=r) (s:=s) (b:=b2) hks (by rw[hr2,hs2];exact h2)
        obtain⟨q3,q4⟩:=ZqU hx h1
        simp only[eqFs,hd,hc2,List.getElem?_map,hr1,hs1,Option.map_some]
        exact⟨⟨hc1,q3,q1⟩,by rw[q4,q2]⟩
       ·cases he
    ·cases h
   ·cases h
  ·cases h
theorem tiC_ok {P:Program}{t:TypeId}{i:TI}(h:tiC P t=some i):TiOk P t i:=by
 unfold tiC at h
 split at h
 ·rename_i n ag z d fl h1 h2 h3 h4
  split at h
  ·rename_i hc
   simp only[bA]at hc
   obtain⟨⟨⟨⟨hz,hl⟩,hone⟩,hfl⟩,hk0⟩:=hc
   have hl:=nbeq hl
   obtain⟨q1,q2⟩:=Zro hz
   cases h
   refine { sz:=h1,one:=fun e=>?_,zero:=by rw[h2,q1],zlen:=by simp[hl],zok:=q2,flds:=Zp8 h4,fone:=fun f o m hf=>?_,elem:=fun e m b he=>?_,arr:=rfl,str:=fun e=>?_,kind1:=fun e=>?_,kind2:=fun e=>?_,kind3:=fun e=>?_,kind0:=fun e k n hzz=>?_,kind7:=fun e=>?_,kind6:=fun e=>?_,noif:=fun e=>?_,cmp:=fun ks hk r s b hr hs he=>?_ }
   ·simp only at e
    subst e
    exact nbeq (by simpa using hone)
   ·have:=List.all_eq_true.1 hfl _ (List.mem_of_getElem? hf)
    exact nbeq (by simpa using this)
   ·simp only[elC]at he
    split at he
    ·rename_i e' m' b' he'
     split at he
     ·rename_i hz'
      cases he
      exact⟨he',hz'⟩
     ·cases he
    ·cases he
   ·unfold isStr
    rw[h3]
    cases d <;> simp[kindD]at e ⊢
   ·rw[h3]
    cases d <;> simp[kindD]at e ⊢
   ·rw[h3]
    cases d <;> simp[kindD]at e ⊢
   ·rw[h3]
    cases d <;> simp[kindD]at e ⊢
   ·rw[h3]
    simp only at hzz
    rw[hzz]at hk0
    cases d <;> simp[kindD]at e
    simp only[isK0,decide_eq_true_eq]at hk0
    rw[hk0]
   ·rw[h3]
    cases d <;> simp[kindD]at e ⊢
   ·rw[h3]
    cases d <;> simp[kindD]at e ⊢
   ·rw[h3]
    cases d <;> simp[kindD]at e ⊢
   ·simp only[cmpC]at hk
    split at hk
    ·rename_i fs hfs
     split at hk
     ·rename_i hg
      simp only[bA,Bool.not_eq_true']at hg
      obtain⟨q3,q4⟩:=Zn7 (r:=r) (s:=s) (k:=0) hk (by simpa using he)
      simp only[eqAgg,hfs]
      exact⟨⟨hg.1,hg.2,q3⟩,q4⟩
     ·cases hk
    ·cases hk
  ·cases h
 ·cases h
end Go.AW

namespace Go.AW
open Go.RowKit
def methB (P:Program)(t:TypeId)(name:String):Option FuncId:=match P.info? t,P.underlying t with
 | some i,some d=>(match i.methods.find? (·.name==name),d with
  | _,.pointer _=>none
  | some m,_=>(match m.path.isEmpty,m.func with
   | true,some (f,false)=>some f
   | _,_=>none)
  | none,_=>none)
 | _,_=>none
theorem Zj5 {P:Program}{t:TypeId}{name:String}{k:FuncId}(h:methB P t name=some k):∃i d m,P.info? t=some i∧P.underlying t=some d∧i.methods.find? (·.name==name)=some m∧m.path.toList=[]∧m.func=some (k,false)∧∀e,d≠.pointer e:=by
 unfold methB at h
 split at h
 ·rename_i i d hi hd
  refine⟨i,d,?_⟩
  split at h
  ·cases h
  ·rename_i m hm hp
   split at h
   ·rename_i f hpath hf
    cases h
    refine⟨m,hi,hd,hm,?_,hf,fun e he=>?_⟩
    ·have:m.path=#[]:=by simpa using hpath
     rw[this]
    ·exact hp e he
   ·cases h
  ·cases h
 ·cases h
theorem Meth.of {P:Program}{t:TypeId}{name:String}{k:FuncId}(h:methB P t name=some k):Meth P t name k:=by
 obtain⟨i,d,m,hi,hd,hm,hpath,hf,hp⟩:=Zj5 h
 intro v w
 have:P.types.size+Made.depth=(P.types.size+(Made.depth - 1))+1:=by have:0<Made.depth:=by decide
                                                                    omega
 rw[this]
 unfold method
 rw[Sem.run_bind,run_typeInfo w hi]
 simp only[Result.andThen_ok,hm,hpath,follow,hf,Sem.run_bind,Sem.run_pure,Place.get]
 unfold receiverAt
 have hu:=run_underlying hd w
 cases d <;> first | exact absurd rfl (hp _) | simp[Sem.run_bind,hu,Place.get]
theorem NilOk.of {P:Program}{t:TypeId}{name:String}{k:FuncId}(h:methB P t name=some k)(v:Value):NilOk P t v name:=by
 obtain⟨i,d,m,hi,hd,hm,hpath,hf,hp⟩:=Zj5 h
 intro w
 have:P.types.size+Made.depth=(P.types.size+(Made.depth - 1))+1:=by have:0<Made.depth:=by decide
                                                                    omega
 rw[this]
 unfold nilAhead
 rw[Sem.run_bind,run_typeInfo w hi]
 have hu:=run_underlying hd w
 simp only[Result.andThen_ok,hm,hpath,followBlind,hf,Sem.run_bind,Sem.run_pure,hu]
 cases d <;> first | exact absurd rfl (hp _) | rfl
def fiC (P:Program)(k:Nat)(ct:List (Nat×List (Nat×Nat))):Option FI:=match P.funcs[k]? with
 | some fn=>(match fn.body with
  | some b=>if (ZfV ct b&&wfC P fn.ntmps b&&enters P k)=true then some ⟨fn.ntmps,b,fn.results.toList,ct⟩else none
  | none=>none)
 | none=>none
theorem fiC_ok {P:Program}{k:Nat}{ct:List (Nat×List (Nat×Nat))}{fi:FI}(h:fiC P k ct=some fi):∃fn,FnOk P k fi fn∧wfC P fn.ntmps fi.body=true:=by
 unfold fiC at h
 split at h
 ·rename_i fn hf
  split at h
  ·rename_i b hb
   split at h
   ·rename_i hc
    simp only[bA]at hc
    cases h
    exact⟨fn,⟨hf,rfl,hb,rfl,hc.1.1,hc.2⟩,hc.1.2⟩
   ·cases h
  ·cases h
 ·cases h
structure Tab where
 ti:List (Nat×TI)
 fi:List (Nat×FI)
 con:List (Nat×Spec)
 meth:List (Nat×String×Nat)
 hint:List (Nat×Hint)
 exl:List (Nat×Nat):=[]
def exB (l:List (Nat×Nat))(k e:Nat):Bool:=l.any fun x=>Nat.beq x.1 k&&Nat.beq x.2 e
def eqStr (a b:String):Bool:=a==b
def lkM (t:Nat)(n:String):List (Nat×String×Nat)→Option Nat
 | []=>none
 | (t',n',k)::l=>if (Nat.beq t t'&&eqStr n n')=true then some k else lkM t n l
def Tab.cf (T:Tab):Cf:=⟨fun t=>lk t T.ti,fun k=>lk k T.fi,fun k=>lk k T.con,fun t n=>lkM t n T.meth,fun t n=>(lkM t n T.meth).isSome,fun k=>(lk k T.hint).getD {},fun _=>false,exB T.exl⟩
def exfB (l:List (Nat×TI)):Bool:=l.all fun x=>match x.2.elem with
 | some (e,_,_)=>!isX e
 | none=>true
def TisOk (P:Program)(l:List (Nat×TI)):Prop:=∀t i,lk t l=some i→tiC P t=some i
def FisOk (P:Program)(l:List (Nat×FI)):Prop:=∀k i,lk k l=some i→∃ct,fiC P k ct=some i
def MsOk (P:Program)(l:List (Nat×String×Nat)):Prop:=∀t n k,lkM t n l=some k→methB P t n=some k
theorem TisOk.nil {P:Program}:TisOk P []:=fun t i h=>by simp[lk]at h
theorem TisOk.cons {P:Program}{t:Nat}{i:TI}{l:List (Nat×TI)}(h:tiC P t=some i)(hl:TisOk P l):TisOk P ((t,i)::l):=fun t' i' h'=>by
 simp only[lk]at h'
 split at h'
 ·rename_i e
  cases h'
  rw[nbeq e];exact h
 ·exact hl t' i' h'
theorem FisOk.nil {P:Program}:FisOk P []:=fun t i h=>by simp[lk]at h
theorem FisOk.cons {P:Program}{k:Nat}{i:FI}{l:List (Nat×FI)}(h:∃ct,fiC P k ct=some i)(hl:FisOk P l):FisOk P ((k,i)::l):=fun t' i' h'=>by
 simp only[lk]at h'
 split at h'
 ·rename_i e
  cases h'
  rw[nbeq e];exact h
 ·exact hl t' i' h'
theorem MsOk.nil {P:Program}:MsOk P []:=fun t n i h=>by simp[lkM]at h
theorem MsOk.cons {P:Program}{t k:Nat}{n:String}{l:List (Nat×String×Nat)}(h:methB P t n=some k)(hl:MsOk P l):MsOk P ((t,n,k)::l):=fun t' n' k' h'=>by
 simp only[lkM]at h'
 split at h'
 ·rename_i e
  simp only[bA,eqStr,beq_iff_eq]at e
  cases h'
  rw[nbeq e.1,e.2];exact h
 ·exact hl t' n' k' h'
theorem Tab.ok {P:Program}{T:Tab}(hm:P.follows .mixedOrders=true)(h1:TisOk P T.ti)(h2:FisOk P T.fi)(h3:MsOk P T.meth)(h4:exfB T.ti=true):CfOk P T.cf where
 mo:=hm
 ti:=fun t i h=>tiC_ok (h1 t i h)
 fn:=fun k fi h=>by
  obtain⟨ct,h⟩:=h2 k fi h
  exact fiC_ok h
 meth:=fun t n k h=>Meth.of (h3 t n k h)
 nilok:=fun t n h=>by
  obtain⟨k,hk⟩:=Option.isSome_iff_exists.1 h
  exact NilOk.of (h3 t n k hk) _
 xf:=fun t i e n b h he=>by
  have:=List.all_eq_true.1 h4 _ (ZiV h)
  simp only[he,Bool.not_eq_true']at this
  exact this
theorem TisOk.all {P:Program}:∀{l:List (Nat×TI)},l.map (fun x=>tiC P x.1)=l.map (fun x=>some x.2)→TisOk P l
 | [],_=>.nil
 | (t,i)::l,h=>by
  simp only[List.map_cons,List.cons.injEq]at h
  exact .cons h.1 (TisOk.all h.2)
theorem FisOk.all {P:Program}:∀{l:List (Nat×FI)},l.map (fun x=>fiC P x.1 x.2.ct)=l.map (fun x=>some x.2)→FisOk P l
 | [],_=>.nil
 | (t,i)::l,h=>by
  simp only[List.map_cons,List.cons.injEq]at h
  exact .cons ⟨_,h.1⟩ (FisOk.all h.2)
theorem MsOk.all {P:Program}:∀{l:List (Nat×String×Nat)},l.map (fun x=>methB P x.1 x.2.1)=l.map (fun x=>some x.2.2)→MsOk P l
 | [],_=>.nil
 | (t,n,i)::l,h=>by
  simp only[List.map_cons,List.cons.injEq]at h
  exact .cons h.1 (MsOk.all h.2)
end Go.AW
