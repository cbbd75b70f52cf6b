/- Operations that only compute: their trees give what the machine's words say. · Operations that only compute: pieces, literals, lengths, picks; all of them. · Picks; all operations that only compute; what is learned of atoms; guards. · Guards; what is learned of atoms. · Operations that make and write memory. · Operations that make, write, or call: their trees. · Appends; calls; all operations. · One operation, guard and all; rows in the order of the text. · Rows whose reads are not ordered against writes. · Loops: what is handed over to a head; names of cells. -/
import Derived.Test.YtibiooglhpjojaaGreatDoorPb
set_option linter.unusedSimpArgs false
set_option linter.unusedVariables false
namespace Go.AW
open Go.RowKit
section
variable {P:Program}{cf:Cf}{C:Ctx}{E:En}{S:SS}{st:St}{sl:List (Nat×SE)}{tm:Tm}{Γ:Den}{r:Rs}{g:Option At}{on:Bool}{K:KV}
theorem Zlk {v:Value}(h:isNil v=true):v=.slice none 0 0:=by
 unfold isNil at h
 split at h
 ·rfl
 ·cases h
theorem Zi6 {v:Value}(h:isNil v=false):ZeA v=.d (.lit v)∧cell1 v=.lit v:=by
 constructor
 ·unfold ZeA
  split
  ·simp[isNil]at h
  ·rfl
 ·unfold cell1
  split
  ·simp[isNil]at h
  ·rfl
theorem ZqO (v:Value):cv (cell1 v)=ZeA v:=by
 cases h:isNil v with
 | true=>rw[Zlk h];rfl
 | false=>rw[(Zi6 h).1,(Zi6 h).2];rfl
theorem ZpJ {v:Value}(h:v.oneCell'=true):dvo (cell1 v)=true:=by
 cases hn:isNil v with
 | true=>rw[Zlk hn];rfl
 | false=>rw[(Zi6 hn).2];exact h
theorem cst_ok (hw:E.ω 0=some .nil){v:Value}(h:Zjw v=true):RV E (cst v) (Zjv v):=by
 by_cases hA:∃cs,v=.agg cs
 ·obtain⟨cs,rfl⟩:=hA
  simp only[Zjw]at h
  refine RB.agg ⟨_,[],.z (by simp) ?_,AccR.nil E,?_⟩
  ·rw[ZdO]
   intro x hx
   obtain⟨v,hv,rfl⟩:=List.mem_map.1 hx
   exact ZpJ (List.all_eq_true.1 h v hv)
  ·simp only[Zbi,List.map_map]
   congr 1
   exact List.map_congr_left fun v _=>ZqO v
 ·have e1:cst v=if isNil v=true then .one (.c [.sl 0 []]) (some (.w 0))else .one (.c [.lit v]) none:=by cases v <;> first | rfl | exact absurd ⟨_,rfl⟩ hA
  have e2:Zjv v=ZeA v:=by cases v <;> first | rfl | exact absurd ⟨_,rfl⟩ hA
  have hv:v.oneCell'=true:=by cases v <;> first | exact h | exact absurd ⟨_,rfl⟩ hA
  rw[e1,e2]
  split
  ·rename_i hn
   rw[Zlk hn]
   exact .one1 rfl rfl hw rfl
  ·rename_i hn
   rw[(Zi6 (by simpa using hn)).1]
   exact .one0 rfl hv
theorem ZbA (hm:RM P C E S st)(hs:RTS E sl tm){x:Operand}(hx:opOk x=true):opd sl x=⟨none,.un⟩∨RSE E (opd sl x) (opnd tm x):=by
 cases x with
 | tmp t=>
  simp only[opd,opnd,Zrc]
  cases h:lk t sl with
  | none=>exact .inl rfl
  | some e=>exact .inr (hs t e h)
 | const v=>exact .inr (.inr (cst_ok hm.w0 hx))
 | global n=>simp[opOk]at hx
 | func f=>exact .inr (.inr (.fn rfl (by simp) rfl (by simp)))
def PGood (P:Program)(tm:Tm)(st:St)(op:Op)(E:En)(l:List Row)(v:SV):Prop:=(kv P tm st op).ok∧RV (E.push l) v (kv P tm st op).v
def KqOk (E:En)(l:List Row)(S S':SS):Prop:=S'=bump S l.length∨∃x,EqOk (E.ρ++l) x∧S'={ bump S l.length with eq:=x::S.eq }
theorem ZqP (S:SS)(g:Option At)(op:BinOp)(a b r:At):addEq S g op a b r=S∨(g=none∧op=.eql∧∃i kk k,a=.v i∧b=.c [.lit (.int kk k)]∧addEq S g op a b r={ S with eq:=(.v i,kk,k,r)::S.eq }):=by
 unfold addEq
 split
 ·exact .inr ⟨rfl,rfl,_,_,_,rfl,rfl,rfl⟩
 ·exact .inl rfl
def PRun (P:Program)(tm:Tm)(st:St)(op:Op)(Γ:Den)(K:KV)(S:SS)(E:En)(on:Bool)(r:Rs):Prop:=
 ∃(l:List Row) (S':SS) (v:SV),run Γ (K S' v) (E.ρ++l)=some r∧KqOk E l S S'∧(on=true→PGood P tm st op E l v)
theorem PRun.mk' {op:Op}(l:List Row)(v:SV)(h:run Γ (K (bump S l.length) v) (E.ρ++l)=some r)(hg:on=true→PGood P tm st op E l v):PRun P tm st op Γ K S E on r:=⟨l,_,v,h,.inl rfl,hg⟩
theorem PRun.rm {op:Op}(hm:RM P C E S st)(h:PRun P tm st op Γ K S E on r):∃(l:List Row) (S':SS) (v:SV),run Γ (K S' v) (E.push l).ρ=some r∧RM P C (E.push l) S' st∧(on=true→PGood P tm st op E l v):=by
 obtain⟨l,S',v,h1,h2,h3⟩:=h
 refine⟨l,S',v,h1,?_,h3⟩
 rcases h2 with rfl | ⟨x,h2,rfl⟩
 ·exact hm.push l
 ·have:=hm.push l
  refine { this with ob:=this.ob,eqc:=?_ }
  intro y hy
  rcases List.mem_cons.1 hy with rfl | hy
  ·exact h2
  ·exact this.eqc y hy
theorem PRun.here {op:Op}{v:SV}(h:run Γ (K S v) E.ρ=some r)(hg:on=true→(kv P tm st op).ok∧RV E v (kv P tm st op).v):PRun P tm st op Γ K S E on r:=
 PRun.mk' [] v (by rw[List.append_nil];exact h) fun ho=>⟨(hg ho).1,(hg ho).2.mono (En.le_push E [])⟩
theorem PRun.emit1 {op:Op}{f:Fo}{as:List At}(hn:E.ρ.length=S.nv)(hg:gate E.ρ g=some on)(hr:run Γ (emit S g f as fun S r=>K S (.one r none)) E.ρ=some r)
  (hv:on=true→∀rs x,evs E.ρ as=some rs→evF f rs=some x→(kv P tm st op).ok∧∃d,x=[d]∧dvo d=true∧(kv P tm st op).v=.d d):PRun P tm st op Γ K S E on r:=by
 obtain⟨l,a,h1,h2⟩:=Zbr hr hn hg
 refine PRun.mk' l _ h1 fun ho=>?_
 obtain⟨rs,x,h3,h4,h5⟩:=h2 ho
 obtain⟨h6,d,rfl,h7,h8⟩:=hv ho rs x h3 h4
 refine⟨h6,?_⟩
 rw[h8]
 exact .one0 h5 h7
variable (hc:CfOk P cf)(hm:RM P C E S st)(hs:RTS E sl tm)(hg:gate E.ρ g=some on)
include hm hs hg
theorem Zri {x:Operand}{op:Op}(hop:kv P tm st op=⟨opOk x=true,opnd tm x⟩)(hx:opOk x=true)(hr:run Γ (useV S g (opd sl x) fun v=>K S v) E.ρ=some r):PRun P tm st op Γ K S E on r:=by
 obtain⟨v,h1,h2⟩:=Zbs hm (ZbA hm hs hx) hg hr
 exact PRun.here h1 fun ho=>by rw[hop];exact⟨hx,h2 ho⟩
include hc
theorem Zoz {x:Operand}(hx:opOk x=true)(hr:run Γ (sxP cf S g sl (.nilCheck x) K) E.ρ=some r):PRun P tm st (.nilCheck x) Γ K S E on r:=by
 simp only[sxP,ZaT,ZbK,Zcw,Za0,ZaM,ZbL,ZaN,ZbM,Za1,ZaU,Zar,ZbN,Zcx,ZbO,Zcy]at hr
 obtain⟨v,h1,h2⟩:=Zbs hm (ZbA hm hs hx) hg hr
 have hk:kv P tm st (.nilCheck x)=⟨opOk x=true∧(checked P (opnd tm x)).ok,(checked P (opnd tm x)).v⟩:=rfl
 split at h1
 ·refine PRun.here h1 fun ho=>?_
  rw[hk]
  have:=h2 ho
  generalize opnd tm x=av at this ⊢
  cases this with
  | ptr h3=>exact⟨⟨hx,trivial⟩,.ptr h3⟩
 ·refine PRun.here h1 fun ho=>?_
  rw[hk]
  have:=h2 ho
  generalize opnd tm x=av at this ⊢
  cases this with
  | pp h3 h4=>exact⟨⟨hx,trivial⟩,.pp h3 h4⟩
 ·refine PRun.here h1 fun ho=>?_
  rw[hk]
  have:=h2 ho
  generalize opnd tm x=av at this ⊢
  cases this with
  | pv h3 h4=>exact⟨⟨hx,trivial⟩,.pv h3 h4⟩
 ·refine PRun.here h1 fun ho=>?_
  rw[hk]
  have:=h2 ho
  generalize opnd tm x=av at this ⊢
  cases this with
  | bp h3 h4 h5 h6 h7 h8 h9=>exact⟨⟨hx,trivial⟩,.bp h3 h4 h5 h6 h7 h8 h9⟩
 ·refine PRun.here h1 fun ho=>?_
  rw[hk]
  have:=h2 ho
  generalize opnd tm x=av at this ⊢
  cases this with
  | bv h3 h4 h5 h6 h7 h8=>exact⟨⟨hx,trivial⟩,.bv h3 h4 h5 h6 h7 h8⟩
 ·refine PRun.here h1 fun ho=>?_
  rw[hk]
  have:=h2 ho
  generalize opnd tm x=av at this ⊢
  cases this with
  | ifc h3=>exact⟨⟨hx,trivial⟩,.ifc h3⟩
 ·refine PRun.here h1 fun ho=>?_
  rw[hk]
  have:=h2 ho
  generalize opnd tm x=av at this ⊢
  cases this with
  | fn h3 h4 h5 h6=>exact⟨⟨hx,trivial⟩,.fn h3 h4 h5 h6⟩
 ·rename_i nm t
  split at h1
  ·rename_i hno
   refine PRun.here h1 fun ho=>?_
   rw[hk]
   have hrv:=h2 ho
   have e:opnd tm x=.fn (.method nm) [.ifc t (.agg [])] []:=by
    have hz:RV E (.fn (.method nm) [.ifc t (.agg (.c []) 0 .z [])] []) (.fn (.method nm) [.ifc t (.agg [])] []):=by
     have ha:RV E (.agg (.c []) 0 .z []) (.agg []):=RB.agg ⟨[],[],.z (r:=[]) rfl rfl,AccR.nil E,rfl⟩
     refine .fn rfl (fun i v a h3 h4=>?_) rfl (by simp)
     cases i with
     | zero=>simp at h3 h4;subst h3;subst h4;exact .ifc ha
     | succ i=>simp at h3
    exact hrv.uniq hz
   rw[e]at hrv ⊢
   exact⟨⟨hx,hc.nilok t nm hno⟩,hrv⟩
  ·simp[run]at h1
 ·simp[run]at h1
omit hc
omit hm hs hg in
theorem evs2 {a b:At}{x y:Row}{rs:List Row}(ha:a.ev E.ρ=some x)(hb:b.ev E.ρ=some y)(h:evs E.ρ [a,b]=some rs):rs=[x,y]:=by
 simp only[evs,ha,hb,oI]at h;exact h.symm
omit hm hs hg in
theorem evs1 {a:At}{x:Row}{rs:List Row}(ha:a.ev E.ρ=some x)(h:evs E.ρ [a]=some rs):rs=[x]:=by
 simp only[evs,ha,oI]at h;exact h.symm
omit hm hs hg in
theorem evs3 {a b c:At}{x y z:Row}{rs:List Row}(ha:a.ev E.ρ=some x)(hb:b.ev E.ρ=some y)(hc:c.ev E.ρ=some z)(h:evs E.ρ [a,b,c]=some rs):rs=[x,y,z]:=by
 simp only[evs,ha,hb,hc,oI]at h;exact h.symm
omit hm hs hg in
theorem ZqQ {op:BinOp}{k:IntKind}{a b:Int}{x:Row}(h:intO op k a b=some x):(Zhg op k a b).ok∧∃d,x=[d]∧dvo d=true∧(Zhg op k a b).v=.d d:=by
 cases op <;> simp only[intO,reduceCtorEq,oI]at h
 case quo=>
  split at h
  ·cases h
  ·rename_i hb
   cases h
   exact⟨hb,_,rfl,rfl,rfl⟩
 case rem=>
  split at h
  ·cases h
  ·rename_i hb
   cases h
   exact⟨hb,_,rfl,rfl,rfl⟩
 all_goals (subst h;exact⟨trivial,_,rfl,rfl,rfl⟩)
omit hm hs hg in
theorem ZqR {op:BinOp}{a b:ByteArray}{x:Row}(h:strO op a b=some x):(Zjx op a b).ok∧∃d,x=[d]∧dvo d=true∧(Zjx op a b).v=.d d:=by
 cases op <;> simp only[strO,reduceCtorEq,oI]at h
 case add=>
  split at h
  ·rename_i hb
   cases h
   exact⟨hb,_,rfl,rfl,rfl⟩
  ·cases h
 all_goals (subst h;exact⟨trivial,_,rfl,rfl,rfl⟩)
theorem bin_one {op:BinOp}{t:TypeId}{x y:Operand}{ty:TypeId}{b:Bool}{a a':At}{o o':Option GK}(hx:opOk x=true)(hy:opOk y=true)(hb:b=true→P.underlying t=some .bool)(h1:on=true→RV E (.one a o) (opnd tm x))(h2:on=true→RV E (.one a' o') (opnd tm y))
  (hr:run Γ (emit S g (if b=true then .bbin op else .bin op) [kn1 S a,kn1 S a'] fun S' r=>K (addEq S' g op (kn1 S a) (kn1 S a') r) (.one r none)) E.ρ=some r):PRun P tm st (.binOp op t x y ty) Γ K S E on r:=by
 have _:=hs
 obtain⟨l,c,hr1,hr2⟩:=Zbr hr hm.nv hg
 have hgood:on=true→PGood P tm st (.binOp op t x y ty) E l (.one c none)∧∀kk k n,op=.eql→(kn1 S a).ev E.ρ=some [.lit (.int kk n)]→(kn1 S a').ev E.ρ=some [.lit (.int kk k)]→c.ev (E.ρ++l)=some [.lit (.bool (n==k))]:=by
  intro ho
  obtain⟨rs,z,hrs,hz,hcz⟩:=hr2 ho
  obtain⟨d1,e1,o1,l1⟩:=(h1 ho).one_toD
  obtain⟨d2,e2,o2,l2⟩:=(h2 ho).one_toD
  obtain rfl:=evs2 (Zgf hm e1) (Zgf hm e2) hrs
  have hkv:kv P tm st (.binOp op t x y ty)=ev P tm (.binOp op t x y ty):=rfl
  have hfin:((kv P tm st (.binOp op t x y ty)).ok∧∃d,z=[d]∧dvo d=true∧(kv P tm st (.binOp op t x y ty)).v=.d d)∧∀kk k n,op=.eql→d1=.lit (.int kk n)→d2=.lit (.int kk k)→z=[.lit (.bool (n==k))]:=by
   rw[hkv]
   cases b with
   | true=>
    obtain⟨u,v,e,hz'⟩:=Zbn (f:=.bbin op) hz
    clear hz
    simp only[List.cons.injEq,and_true]at e
    obtain⟨rfl,rfl⟩:=e
    have ex:=(h1 ho).lit e1
    have ey:=(h2 ho).lit e2
    refine⟨?_,fun kk k n _ h=>by cases h⟩
    simp only[ev,ex,ey]
    cases op <;> simp only[boolO,reduceCtorEq,oI]at hz' <;> subst hz' <;> exact⟨⟨hx,hy,hb rfl⟩,_,rfl,rfl,rfl⟩
   | false=>
    obtain⟨u,v,e,hz'⟩:=Zbn (f:=.bin op) hz
    clear hz
    simp only[List.cons.injEq,and_true]at e
    obtain⟨rfl,rfl⟩:=e
    have ex:=(h1 ho).lit e1
    have ey:=(h2 ho).lit e2
    refine⟨?_,fun kk k n hop hu hv=>?_⟩
    ·unfold binO at hz'
     split at hz'
     ·split at hz'
      ·rename_i hk
       subst hk
       obtain⟨h3,d,rfl,h4,h5⟩:=ZqQ hz'
       obtain⟨h6,h7⟩:=Zkf h3
       simp only[ev,ex,ey]
       exact⟨⟨hx,hy,h6⟩,d,rfl,h4,h7.trans h5⟩
      ·cases hz'
     ·obtain⟨h3,d,rfl,h4,h5⟩:=ZqR hz'
      simp only[ev,ex,ey]
      exact⟨⟨hx,hy,h3⟩,d,rfl,h4,h5⟩
     ·cases hz'
    ·cases hu;cases hv
     subst hop
     simp only[binO,if_true,intO,oI]at hz'
     exact hz'.symm
  obtain⟨⟨h6,d,rfl,h7,h8⟩,h9⟩:=hfin
  refine⟨⟨h6,by rw[h8];exact .one0 hcz h7⟩,fun kk k n hop q1 q2=>?_⟩
  rw[Zgf hm e1]at q1
  rw[Zgf hm e2]at q2
  simp only[oI,List.cons.injEq,and_true]at q1 q2
  rw[hcz,h9 kk k n hop q1 q2]
 refine⟨l,_,_,hr1,?_,fun ho=>(hgood ho).1⟩
 rcases ZqP (bump S l.length) g op (kn1 S a) (kn1 S a') c with e | ⟨rfl,hop,i,kk,k,e1,e2,e⟩
 ·exact .inl e
 ·rw[e]
  have ho:on=true:=by simpa[gate] using hg.symm
  refine .inr ⟨_,?_,rfl⟩
  obtain⟨d1,q1,-,-⟩:=(h1 ho).one_toD
  obtain⟨rs,z,hrs,hz,-⟩:=hr2 ho
  have hk1:=Zgf hm q1
  rw[e2]at hrs
  obtain rfl:=evs2 hk1 rfl hrs
  have hint:∃n,d1=.lit (.int kk n):=by
   subst hop
   cases b with
   | true=>
    obtain⟨u,v,e',-⟩:=Zbn (f:=.bbin .eql) hz
    simp only[List.cons.injEq,DV.lit.injEq,and_true]at e'
    cases e'.2
   | false=>
    obtain⟨u,v,e',hz'⟩:=Zbn (f:=.bin .eql) hz
    simp only[List.cons.injEq,DV.lit.injEq,and_true]at e'
    obtain⟨rfl,rfl⟩:=e'
    unfold binO at hz'
    split at hz'
    ·rename_i he
     split at hz'
     ·rename_i hk
      cases he
      subst hk
      exact⟨_,rfl⟩
     ·cases hz'
    ·rename_i he;cases he
    ·cases hz'
  obtain⟨n,rfl⟩:=hint
  refine⟨n,?_,(hgood ho).2 kk k n hop hk1 (by rw[e2];rfl)⟩
  rw[e1]at hk1
  exact At.ev_mono hk1 l
omit hm hs hg in
theorem lits_of {r s:Row}:∀{ks:List Nat} {b:Bool},eqR ks r s=some b→(∀x∈r,∃v,x=.lit v)∧∀x∈s,∃v,x=.lit v:=by
 induction r generalizing s with
 | nil=>
  intro ks b h
  cases s with
  | nil=>simp
  | cons _ _=>cases ks <;> simp[eqR]at h
 | cons x xs ih=>
  intro ks b h
  cases s with
  | nil=>cases ks <;> simp[eqR]at h
  | cons y ys=>
   cases ks with
   | nil=>simp[eqR]at h
   | cons k ks=>
    simp only[eqR]at h
    cases hc:eqC k x y with
    | none=>rw[hc]at h;cases h
    | some u=>
     cases hr:eqR ks xs ys with
     | none=>rw[hc,hr]at h;cases h
     | some w=>
      obtain⟨h1,h2⟩:=ih hr
      have h3:(∃v,x=.lit v)∧∃v,y=.lit v:=by
       unfold eqC at hc
       split at hc <;> first | exact⟨⟨_,rfl⟩,_,rfl⟩ | cases hc
      simp only[List.mem_cons,forall_eq_or_imp]
      exact⟨⟨h3.1,h1⟩,h3.2,h2⟩
omit hm hs hg in
theorem Zmn {as:List AV}{r:Row}(h:toDs as=some r)(hl:∀x∈r,∃v,x=DV.lit v):as=r.map .d:=by
 rw[Zc4]at h
 apply List.ext_getElem?
 intro i
 have hi:=congrArg (fun l=>l[i]?) h
 simp only[List.getElem?_map]at hi ⊢
 cases ha:as[i]? with
 | none=>rw[ha]at hi;cases hr:r[i]? with
  | none=>rfl
  | some x=>rw[hr]at hi;cases hi
 | some a=>
  rw[ha]at hi
  cases hr:r[i]? with
  | none=>rw[hr]at hi;cases hi
  | some x=>
   rw[hr]at hi
   simp only[Option.map_some,oI]at hi ⊢
   obtain⟨v,rfl⟩:=hl x (List.mem_of_getElem? hr)
   exact ZdQ hi
include hc
theorem p_binOp {op:BinOp}{t:TypeId}{x y:Operand}{ty:TypeId}(hx:opOk x=true)(hy:opOk y=true)(hr:run Γ (sxP cf S g sl (.binOp op t x y ty) K) E.ρ=some r):PRun P tm st (.binOp op t x y ty) Γ K S E on r:=by
 simp only[sxP,ZaT,ZbK,Zcw,Za0,ZaM,ZbL,ZaN,ZbM,Za1,ZaU,Zar,ZbN,Zcx,ZbO,Zcy]at hr
 obtain⟨v,hr,hv⟩:=Zbs hm (ZbA hm hs hx) hg hr
 obtain⟨u,hr,hu⟩:=Zbs hm (ZbA hm hs hy) hg hr
 have hkv0:kv P tm st (.binOp op t x y ty)=ev P tm (.binOp op t x y ty):=rfl
 have nilF_run:∀(b:Bool),run Γ (nilF cf S t op b K) E.ρ=some r→(on=true→∀q,fnRes P t op b=q→(kv P tm st (.binOp op t x y ty))=⟨opOk x=true∧opOk y=true∧q.ok,q.v⟩)→PRun P tm st (.binOp op t x y ty) Γ K S E on r:=by
  intro b hr hq
  unfold nilF at hr
  split at hr
  rotate_left
  ·simp[run]at hr
  rename_i hk
  have hk:=nbeq hk
  unfold kindOf at hk
  cases hi:cf.ti t with
  | none=>rw[hi]at hk;cases hk
  | some i=>
   rw[hi]at hk
   obtain⟨p,rr,vv,hu⟩:=(hc.ti t i hi).kind7 hk
   split at hr
   ·refine PRun.here hr fun ho=>?_
    rw[hq ho _ rfl]
    simp only[fnRes,hu]
    exact⟨⟨hx,hy,trivial⟩,.one0 rfl rfl⟩
   ·refine PRun.here hr fun ho=>?_
    rw[hq ho _ rfl]
    simp only[fnRes,hu]
    exact⟨⟨hx,hy,trivial⟩,.one0 rfl rfl⟩
   ·simp[run]at hr
 split at hr
 ·refine nilF_run true hr fun ho q hq=>?_
  have ex:=(hv ho).lit rfl
  have ey:=(hu ho).lit rfl
  rw[hkv0,← hq]
  simp only[ev,ex,ey]
 ·refine nilF_run false hr fun ho q hq=>?_
  have ey:=(hu ho).lit rfl
  have hv':=hv ho
  rw[hkv0,← hq]
  generalize hxe:opnd tm x=av at hv'
  cases hv' with
  | fn _ _ _ _=>simp only[ev,hxe,ey]
 ·rename_i a o a' o' _ _
  split at hr
  ·rename_i hshr
   have hop:op=.shr:=by unfold isShr at hshr;split at hshr <;> first | rfl | cases hshr
   have hr9:=hr
   subst hop
   refine PRun.emit1 hm.nv hg hr9 fun ho rs z hrs hz=>?_
   obtain⟨d1,e1,o1,l1⟩:=(hv ho).one_toD
   obtain⟨d2,e2,o2,l2⟩:=(hu ho).one_toD
   obtain rfl:=evs2 (Zgf hm e1) (Zgf hm e2) hrs
   obtain⟨k,p,k',q,e,h0,rfl⟩:=Zbn (f:=.shr) hz
   simp only[List.cons.injEq,and_true]at e
   obtain⟨rfl,rfl⟩:=e
   rw[hkv0]
   simp only[ev,(hv ho).lit e1,(hu ho).lit e2,Zhp]
   exact⟨⟨hx,hy,h0⟩,_,rfl,rfl,rfl⟩
  refine bin_one hm hs hg (b:=Nat.beq (kindOf cf t) 1) hx hy (fun hb=>?_) hv hu hr
  have hk:=nbeq hb
  unfold kindOf at hk
  split at hk
  ·rename_i i hi
   exact(hc.ti t i hi).kind1 hk
  ·cases hk
 ·rename_i a n m ov a' n' m' ov'
  split at hr
  ·simp[run]at hr
  ·rename_i ks hcm
   obtain⟨l1,a1,hr1,h1⟩:=Zfv hr hm.nv hg
   have hm1:=hm.push l1
   obtain⟨l2,a2,hr2,h2⟩:=Zfv (E:=E.push l1) hr1 hm1.nv (ZcS hg)
   have hm2:=hm1.push l2
   have key:∀ne:Bool,run Γ (emit (bump (bump S l1.length) l2.length) g (.eqr ne ks) [a1,a2] fun S r=>K S (.one r none)) ((E.push l1).push l2).ρ=some r→(op=if ne=true then .neq else .eql)→PRun P tm st (.binOp op t x y ty) Γ K S E on r:=by
    intro ne hr3 hop
    obtain⟨l3,a3,hr4,h3⟩:=Zbr hr3 hm2.nv (ZcS (ZcS hg))
    refine PRun.mk' (l1++l2++l3) (.one a3 none) ?_ fun ho=>?_
    ·have e:bump (bump (bump S l1.length) l2.length) l3.length=bump S (l1++l2++l3).length:=by simp[bump,Nat.add_assoc]
     rw[← e]
     simpa[En.push,List.append_assoc] using hr4
    ·obtain⟨cs,e1,hb1⟩:=(hv ho).agg_inv
     obtain⟨cs',e2,hb2⟩:=(hu ho).agg_inv
     obtain⟨y1,q1,o1,d1⟩:=(h1 ho _ (hv ho)).mono (En.le_push _ l2)
     obtain⟨y2,q2,o2,d2⟩:=h2 ho _ ((hu ho).mono (En.le_push _ l1))
     rw[e1]at d1
     rw[e2]at d2
     obtain⟨rs,z,h5,h6,h7⟩:=h3 ho
     obtain rfl:=evs2 (E:=(E.push l1).push l2) q1 q2 h5
     obtain⟨ra,rb,b,e,heq,rfl⟩:=Zbn (f:=.eqr ne ks) h6
     simp only[List.cons.injEq,and_true]at e
     obtain⟨rfl,rfl⟩:=e
     obtain⟨hl1,hl2⟩:=lits_of heq
     have c1:cs=y1.map .d:=Zmn d1 hl1
     have c2:cs'=y2.map .d:=Zmn d2 hl2
     unfold cmpT at hcm
     split at hcm
     ·rename_i i hi
      split at hcm
      rotate_left
      ·cases hcm
      rename_i hsz
      obtain⟨k1,k2⟩:y1.length=i.size∧y2.length=i.size:=by
       simp only[bA]at hsz
       rw[← Zdd d1,← Zdd d2,Zb4,Zb4,hb1.len,hb2.len]
       exact⟨nbeq hsz.1,nbeq hsz.2⟩
      obtain⟨k3,k4⟩:=(hc.ti t i hi).cmp ks hcm y1 y2 b k1 k2 heq
      have hkv:kv P tm st (.binOp op t x y ty)=ev P tm (.binOp op t x y ty):=rfl
      refine⟨?_,?_⟩
      ·rw[hkv]
       simp only[ev,e1,e2,c1,c2]
       refine⟨hx,hy,?_⟩
       subst hop
       cases ne <;> exact k3
      ·rw[hkv]
       simp only[ev,e1,e2,c1,c2]
       subst hop
       cases ne with
       | true=>
        simp only[Zjz,k4]
        refine .one0 (x:=.lit (.bool (!b))) ?_ rfl
        rw[← ZaZ,← ZaZ]
        have e:(b != true)=!b:=by simp
        rw[e]at h7
        exact h7
       | false=>
        simp only[Zjz,k4]
        refine .one0 (x:=.lit (.bool b)) ?_ rfl
        rw[← ZaZ,← ZaZ]
        have e:(b != false)=b:=by simp
        rw[e]at h7
        exact h7
     ·simp at hcm
   split at hr2
   ·exact key false hr2 rfl
   ·exact key true hr2 rfl
   ·simp[run]at hr2
 ·simp[run]at hr
theorem p_unOp {op:UnOp}{t:TypeId}{x:Operand}(hx:opOk x=true)(hr:run Γ (sxP cf S g sl (.unOp op t x) K) E.ρ=some r):PRun P tm st (.unOp op t x) Γ K S E on r:=by
 have _:=hc
 simp only[sxP,ZaT,ZbK,Zcw,Za0,ZaM,ZbL,ZaN,ZbM,Za1,ZaU,Zar,ZbN,Zcx,ZbO,Zcy]at hr
 obtain⟨a,o,hr,hv⟩:=Zde hm (ZbA hm hs hx) hg hr
 have hkv:kv P tm st (.unOp op t x)=ev P tm (.unOp op t x):=rfl
 split at hr
 ·refine PRun.emit1 hm.nv hg hr fun ho rs z hrs hz=>?_
  obtain⟨d1,e1,o1,l1⟩:=(hv ho).one_toD
  obtain rfl:=evs1 e1 hrs
  obtain⟨u,e,rfl⟩:=Zbn (f:=.not) hz
  simp only[List.cons.injEq,and_true]at e
  subst e
  have ex:=(hv ho).lit e1
  rw[hkv]
  simp only[ev,ex]
  exact⟨hx,_,rfl,rfl,rfl⟩
 ·refine PRun.emit1 hm.nv hg hr fun ho rs z hrs hz=>?_
  obtain⟨d1,e1,o1,l1⟩:=(hv ho).one_toD
  obtain rfl:=evs1 e1 hrs
  obtain⟨k,u,e,rfl⟩:=Zbn (f:=.neg) hz
  simp only[List.cons.injEq,and_true]at e
  subst e
  have ex:=(hv ho).lit e1
  rw[hkv]
  simp only[ev,ex]
  exact⟨hx,_,rfl,rfl,rfl⟩
 ·simp[run]at hr
theorem ZnX {t:TypeId}{k:IntKind}(h:intOf cf t=some k):P.underlying t=some (.int k):=by
 have _:=hm;have _:=hs;have _:=hg
 unfold intOf at h
 split at h
 ·rename_i i hi
  split at h
  ·rename_i hk
   split at h
   ·rename_i k' n hz
    cases h
    exact(hc.ti t i hi).kind0 (nbeq hk) _ _ hz
   ·cases h
  ·cases h
 ·cases h
theorem ZpK {s t:TypeId}{x:Operand}(hx:opOk x=true)(hr:run Γ (sxP cf S g sl (.convert s t x) K) E.ρ=some r):PRun P tm st (.convert s t x) Γ K S E on r:=by
 simp only[sxP,ZaT,ZbK,Zcw,Za0,ZaM,ZbL,ZaN,ZbM,Za1,ZaU,Zar,ZbN,Zcx,ZbO,Zcy]at hr
 obtain⟨a,o,hr,hv⟩:=Zde hm (ZbA hm hs hx) hg hr
 have hkv:kv P tm st (.convert s t x)=ev P tm (.convert s t x):=rfl
 split at hr
 ·rename_i k0 k hs' ht'
  have e1:=ZnX hc hm hs hg hs'
  have e2:=ZnX hc hm hs hg ht'
  refine PRun.emit1 hm.nv hg hr fun ho rs z hrs hz=>?_
  obtain⟨d1,q1,o1,l1⟩:=(hv ho).one_toD
  obtain rfl:=evs1 q1 hrs
  obtain⟨k',n,e,rfl⟩:=Zbn (f:=.conv k) hz
  simp only[List.cons.injEq,and_true]at e
  subst e
  rw[hkv]
  simp only[ev,e1,e2,(hv ho).lit q1]
  exact⟨hx,_,rfl,rfl,rfl⟩
 ·simp[run]at hr
theorem Zne {s:TypeId}{x:Operand}{f:Nat}(hx:opOk x=true)(hr:run Γ (sxP cf S g sl (.fieldAddr s x f) K) E.ρ=some r):PRun P tm st (.fieldAddr s x f) Γ K S E on r:=by
 simp only[sxP,ZaT,ZbK,Zcw,Za0,ZaM,ZbL,ZaN,ZbM,Za1,ZaU,Zar,ZbN,Zcx,ZbO,Zcy]at hr
 obtain⟨v,hr,hv⟩:=Zbs hm (ZbA hm hs hx) hg hr
 have hkv:kv P tm st (.fieldAddr s x f)=ev P tm (.fieldAddr s x f):=rfl
 split at hr
 ·rename_i i hi
  have hti:=(hc.ti s i hi).flds f
  split at hr
  ·rename_i off n ag o d hf
   split at hr
   ·simp[run]at hr
   ·rename_i hn
    refine PRun.here hr fun ho=>?_
    have:=hv ho
    rw[hkv]
    simp only[ev,hti,hf,Option.map_some]
    generalize opnd tm x=av at this ⊢
    cases this with
    | ptr h3=>exact⟨⟨hx,fun e=>hn (by rw[e];rfl)⟩,.ptr h3⟩
  ·rename_i off n ag a d k hf
   split at hr
   ·simp[run]at hr
   ·rename_i hn
    refine PRun.here hr fun ho=>?_
    have:=hv ho
    rw[hkv]
    simp only[ev,hti,hf,Option.map_some]
    generalize opnd tm x=av at this ⊢
    cases this with
    | @pp _ _ _ row h3 h4=>
     refine⟨⟨hx,fun e=>hn (by rw[e];rfl)⟩,?_⟩
     show RV E (.pp a (d+off) k) (.pp ((List.map AV.d (List.drop d row)).drop off))
     rw[← List.map_drop,List.drop_drop]
     exact .pp h3 h4
  ·rename_i off n ag a j d k gx hf
   split at hr
   ·simp[run]at hr
   ·rename_i hn
    refine PRun.here hr fun ho=>?_
    have:=hv ho
    rw[hkv]
    simp only[ev,hti,hf,Option.map_some]
    generalize opnd tm x=av at this ⊢
    cases this with
    | @bp _ _ _ _ _ row id s' cap kk q rows h3 h4 h5 h6 h7 h8 h9=>
     refine⟨⟨hx,fun e=>hn (by rw[e];rfl)⟩,?_⟩
     show RV E _ (.ptr id (q.toNat * s'+d+off))
     rw[Nat.add_assoc]
     exact .bp h3 h4 h5 h6 h7 h8 h9
  ·rename_i off n ag cs d gx hf
   split at hr
   ·simp[run]at hr
   ·rename_i hn
    refine PRun.here hr fun ho=>?_
    have:=hv ho
    rw[hkv]
    simp only[ev,hti,hf,Option.map_some]
    simp only[Bool.or_eq_true,Bool.not_eq_true',not_or,Bool.not_eq_false]at hn
    generalize opnd tm x=av at this ⊢
    cases this with
    | @bv _ _ _ id s' cap k o ass row h3 h4 h5 h6 h7 h8=>
     have hle:off≤cs.length:=lB hn.2
     have hle2:off≤(row.drop o).length:=by omega
     simp only[List.length_drop]at hle2
     refine⟨⟨hx,fun e=>hn.1 (by rw[e];rfl)⟩,.bv h3 h4 (o:=o+off) (by omega) (by omega) (by simp only[List.length_drop]at h7 ⊢;omega) fun i v a h9 h10=>?_⟩
     rw[List.getElem?_drop]at h9
     rw[← List.drop_drop,List.getElem?_drop]at h10
     exact h8 _ v a h9 h10
  ·simp[run]at hr
 ·simp[run]at hr
omit hc hm hs hg in
theorem ZpL {v:SV}{cs:List AV}{off k:Nat}{ag:Bool}(hk:ag=false→k=1)(hl:off+k≤cs.length)(h:Piece E ag v ((cs.drop off).take k)):(sub cs off k ag).ok∧RV E v (sub cs off k ag).v:=by
 unfold sub
 cases ag with
 | true=>exact⟨hl,h⟩
 | false=>
  obtain rfl:=hk rfl
  obtain⟨c,e,hv⟩:∃c,(cs.drop off).take 1=[c]∧RV E v c:=h
  refine⟨by show off<cs.length;omega,?_⟩
  have hget:((cs.drop off).take 1)[0]?=some c:=by rw[e];rfl
  simp only[List.getElem?_take,List.getElem?_drop]at hget
  show RV E v (cs.getD off .bad)
  rw[List.getD_eq_getElem?_getD]
  have:cs[off]?=some c:=by simpa using hget
  rw[this]
  exact hv
theorem p_rd {op:Op}{k0:Nat}{ag:Bool}{off:Nat}{a:At}{n:Nat}{m:BM}{ov:List (Nat×Nat×SV)}{fu o:Nat}(hk:ag=false→k0=1)(hr:run Γ (rd S g o k0 ag K fu a n m ov off []) E.ρ=some r)
  (hv:on=true→∃cs,RB E a n m ov cs∧((sub cs off k0 ag).ok→(kv P tm st op).ok)∧(kv P tm st op).v=(sub cs off k0 ag).v):PRun P tm st op Γ K S E on r:=by
 have _:=hc
 have _:=hs
 obtain⟨l,v,h1,h2⟩:=Zkv fu hr hm.nv hg
 refine PRun.mk' l v h1 fun ho=>?_
 obtain⟨cs,hb,hok,hval⟩:=hv ho
 obtain⟨hl,hp⟩:=h2 ho hm.w0 hk cs [] _ hb (AccR.nil E) rfl
 obtain⟨q1,q2⟩:=ZpL hk hl hp
 exact⟨hok q1,by rw[hval];exact q2⟩
theorem p_field {s:TypeId}{x:Operand}{f:Nat}(hx:opOk x=true)(hr:run Γ (sxP cf S g sl (.field s x f) K) E.ρ=some r):PRun P tm st (.field s x f) Γ K S E on r:=by
 simp only[sxP,ZaT,ZbK,Zcw,Za0,ZaM,ZbL,ZaN,ZbM,Za1,ZaU,Zar,ZbN,Zcx,ZbO,Zcy]at hr
 obtain⟨v,hr,hv⟩:=Zbs hm (ZbA hm hs hx) hg hr
 have hkv:kv P tm st (.field s x f)=ev P tm (.field s x f):=rfl
 cases hi:cf.ti s with
 | none=>rw[hi]at hr;simp[run]at hr
 | some i=>
  rw[hi]at hr
  have hti:=(hc.ti s i hi).flds f
  cases hf:i.flds[f]? with
  | none=>simp only[hf]at hr;cases v <;> simp[run]at hr
  | some y=>
   obtain⟨off,n,ag⟩:=y
   simp only[hf]at hr
   cases v <;> try (simp[run]at hr;done)
   rename_i a k m ov
   refine p_rd hc hm hs hg (off:=off) (ag:=ag) (fun h=>?_) hr fun ho=>?_
   ·subst h;exact(hc.ti s i hi).fone f off n hf
   ·obtain⟨cs,e,hb⟩:=(hv ho).agg_inv
    refine⟨cs,hb,fun hok=>?_,?_⟩
    ·rw[hkv]
     simp only[ev,hti,hf,Option.map_some,e]
     exact⟨hx,hok⟩
    ·rw[hkv]
     simp only[ev,hti,hf,Option.map_some,e]
omit hc hm hs hg in
theorem Zrj {t:TypeId}{x i:Operand}{s:Nat}{xs:List (List AV)}(h:elems (opnd tm x)=some (s,xs)):ev P tm (.indexAddr t x i)=(match elT P t,opnd tm i with
  | some (_,n,_),.d (.lit (.int _ k))=>⟨opOk x=true∧opOk i=true∧n=s∧(at_ xs k).ok,(at_ xs k).v⟩
  | _,_=>fails):=by
 have key:∀av,elems av=some (s,xs)→(match av with
  | .ptr id o=>(match P.underlying t,opnd tm i with
   | some (.array m e),.d (.lit (.int _ k))=>(match tsz P e with
    | some (n,_)=>⟨opOk x=true∧opOk i=true∧0≤k∧k<(m:Int),.ptr id (o+k.toNat * n)⟩
    | none=>fails)
   | _,_=>fails)
  | .xs id off s _ xs=>(match elT P t,opnd tm i with
   | some (_,n,_),.d (.lit (.int _ k))=>⟨opOk x=true∧opOk i=true∧n=s∧0≤k∧k<(xs.length:Int),.ptr id (off+k.toNat * s)⟩
   | _,_=>fails)
  | xv=>(match elT P t,elems xv,opnd tm i with
   | some (_,n,_),some (s,xs),.d (.lit (.int _ k))=>(⟨opOk x=true∧opOk i=true∧n=s∧(at_ xs k).ok,(at_ xs k).v⟩:PV)
   | _,_,_=>fails))=(match elT P t,some (s,xs),opnd tm i with
   | some (_,n,_),some (s,xs),.d (.lit (.int _ k))=>(⟨opOk x=true∧opOk i=true∧n=s∧(at_ xs k).ok,(at_ xs k).v⟩:PV)
   | _,_,_=>fails):=by
  intro av h
  cases av <;> first | (rw[← h];done) | (simp[elems]at h;done)
 refine Eq.trans (show ev P tm (.indexAddr t x i)=_ from key (opnd tm x) h) ?_
 cases elT P t with
 | none=>rfl
 | some y=>
  obtain⟨e,n,b⟩:=y
  generalize opnd tm i=iv
  cases iv <;> try rfl
  rename_i dv
  cases dv <;> try rfl
  rename_i v
  cases v <;> rfl
theorem Znf {t:TypeId}{x i:Operand}(hx:opOk x=true)(hi:opOk i=true)(hr:run Γ (sxP cf S g sl (.indexAddr t x i) K) E.ρ=some r):PRun P tm st (.indexAddr t x i) Γ K S E on r:=by
 simp only[sxP,ZaT,ZbK,Zcw,Za0,ZaM,ZbL,ZaN,ZbM,Za1,ZaU,Zar,ZbN,Zcx,ZbO,Zcy]at hr
 obtain⟨v,hr,hv⟩:=Zbs hm (ZbA hm hs hx) hg hr
 obtain⟨j,oj,hr,hj⟩:=Zde hm (ZbA hm hs hi) hg hr
 have hkv:kv P tm st (.indexAddr t x i)=ev P tm (.indexAddr t x i):=rfl
 cases hti:cf.ti t with
 | none=>rw[hti]at hr;simp[run]at hr
 | some ti=>
  rw[hti]at hr
  rcases he:ti.elem with _ | ⟨e,n,by_⟩
  ·cases v with
   | ptr o d=>
    simp only[he]at hr
    split at hr
    ·rename_i len e n kk k hja
     split at hr
     ·rename_i ie hie
      split at hr
      ·rename_i hb
       rw[decide_eq_true_eq]at hb
       have ht:=hc.ti t ti hti
       have hte:=hc.ti e ie hie
       have hu:P.underlying t=some (.array len e):=by
        have ha:=ht.arr
        rw[hja]at ha
        unfold arT at ha
        split at ha
        ·rename_i hu
         simp only[Option.map_eq_some_iff,Prod.mk.injEq]at ha
         obtain⟨i',-,rfl,rfl,-⟩:=ha
         exact hu
        ·cases ha
       refine PRun.here hr fun ho=>?_
       have ei:=(hj ho).lit (v:=.int kk k) rfl
       obtain⟨id,ex,hι⟩:∃id,opnd tm x=.ptr id d∧E.ι o=some id:=by
        have:=hv ho
        generalize opnd tm x=av at this
        cases this with | ptr h=>exact⟨_,rfl,h⟩
       rw[hkv]
       simp only[ev,ex,hu,ei,hte.sz]
       exact⟨⟨hx,hi,hb.1,hb.2⟩,.ptr hι⟩
      ·simp[run]at hr
     ·simp[run]at hr
    ·simp[run]at hr
   | _=>simp only[he]at hr;simp[run]at hr
  obtain⟨hel1,-⟩:=(hc.ti t ti hti).elem e n by_ he
  cases v <;> simp only[he]at hr <;> try (simp[run]at hr;done)
  ·rename_i a o _
   have key:∀{K':SS→At→Tr},run Γ (emit S g (.idx n) [a,j] K') E.ρ=some r→∃(l:List Row) (b:At),run Γ (K' (bump S l.length) b) (E.ρ++l)=some r ∧
     (on=true→∃xs kk q,j.ev E.ρ=some [.lit (.int kk q)]∧0≤q∧q.toNat<xs.length∧b.ev (E.ρ++l)=some (xs.getD q.toNat [])∧dvos (xs.getD q.toNat [])=true∧toD (opnd tm x)=some (.sl n xs)∧opnd tm i=.d (.lit (.int kk q))):=by
    intro K' hr
    obtain⟨l,b,h1,h2⟩:=Zbr hr hm.nv hg
    refine⟨l,b,h1,fun ho=>?_⟩
    obtain⟨rs,z,h3,h4,h5⟩:=h2 ho
    obtain⟨d1,e1,o1,l1⟩:=(hv ho).one_toD
    obtain⟨d2,e2,o2,l2⟩:=(hj ho).one_toD
    obtain rfl:=evs2 e1 e2 h3
    have hok:=ZnV h4 (by intro y hy;simp at hy;rcases hy with rfl | rfl <;> simp[dvos,o1,o2])
    obtain⟨s,xs,k,q,eq,hs',hq0,hq1,rfl⟩:=Zbn (f:=.idx n) h4
    simp only[List.cons.injEq,and_true]at eq
    obtain⟨rfl,rfl⟩:=eq
    subst hs'
    exact⟨xs,k,q,e2,hq0,by omega,h5,hok,l1,(hj ho).lit e2⟩
   split at hr
   ·rename_i hcl
    obtain⟨l,b,h1,h2⟩:=key hr
    refine PRun.mk' l _ h1 fun ho=>?_
    obtain⟨xs,kk,q,-,hq0,hlt,h5,hok,l1,ei⟩:=h2 ho
    have hel:=ZpI l1 ((hv ho).cln1 hm hcl) (by omega)
    have hget:xs.getD q.toNat []=xs[q.toNat]:=by rw[List.getD_eq_getElem?_getD,gG hlt];rfl
    have hgetm:(xs.map (·.map AV.d)).getD q.toNat []=xs[q.toNat].map .d:=by rw[List.getD_eq_getElem?_getD,List.getElem?_map,gG hlt];rfl
    refine⟨?_,?_⟩
    ·rw[hkv]
     rw[Zrj hel]
     simp only[hel1,ei]
     refine⟨hx,hi,trivial,hq0,?_⟩
     simp;omega
    ·rw[hkv]
     rw[Zrj hel]
     simp only[hel1,ei,at_]
     rw[hgetm]
     have:=RV.pp (E:=E.push l) (off:=0) (n:=n) h5 hok
     rw[hget,List.drop_zero]at this
     exact this
   ·split at hr
    ·rename_i hcl gx
     split at hr
     ·rename_i hlive
      obtain⟨l,b,h1,h2⟩:=key hr
      refine PRun.mk' l _ h1 fun ho=>?_
      obtain⟨xs,kk,q,ej,hq0,hlt,h5,hok,l1,ei⟩:=h2 ho
      obtain⟨e',av,h6,h7,h8,h9⟩:=hm.live hlive
      have hav:opnd tm x=av:=by
       have:=hv ho
       generalize opnd tm x=av' at this
       cases this with
       | one1 _ _ q1 _=>rw[q1]at h8;exact Option.some.inj h8
      rw[hav]at l1
      rcases h9 with rfl | ⟨id,s,cap,rows,rfl,h10,h11,h12,h13,h14,h15,h16,h17⟩
      ·simp only[toD,oI,DV.sl.injEq]at l1
       obtain⟨-,rfl⟩:=l1
       simp at hlt
      ·obtain⟨rfl,hs'⟩:=Zmm l1
       obtain rfl:=hs' (by omega)
       have hget:xs.getD q.toNat []=xs[q.toNat]:=by rw[List.getD_eq_getElem?_getD,gG hlt];rfl
       refine⟨?_,?_⟩
       ·rw[hkv]
        simp only[ev,hav,hel1,ei]
        refine⟨hx,hi,trivial,hq0,?_⟩
        simp;omega
       ·rw[hkv]
        simp only[ev,hav,hel1,ei]
        have:=RV.bp (E:=E.push l) (off:=0) (n:=n) h5 hok (At.ev_le (En.le_push E l) ej) hq0 (Zcv (En.le_push E l) h8) (by rw[hget];exact gG hlt) rfl
        rw[Nat.zero_add]
        exact this
     ·simp[run]at hr
    ·simp[run]at hr
  ·rename_i s rows
   split at hr
   ·split at hr
    ·rename_i kd k hcond
     split at hr
     ·rename_i cs hcs
      refine PRun.here hr fun ho=>?_
      simp only[bA,decide_eq_true_eq]at hcond
      obtain⟨hn,hk0⟩:=hcond
      obtain rfl:=nbeq hn
      have ei:=(hj ho).lit rfl
      have hx2:=hv ho
      rw[hkv]
      generalize hxe:opnd tm x=av at hx2
      cases hx2 with
      | @psl _ _ ass hl hl2 hvv=>
       obtain⟨as,has⟩:∃as,ass[k.toNat]?=some as:=by
        have:=(List.getElem?_eq_some_iff.1 hcs).1
        exact⟨_,gG (by omega)⟩
       have hlt:=(List.getElem?_eq_some_iff.1 has).1
       have hgd:ass.getD k.toNat []=as:=by rw[List.getD_eq_getElem?_getD,has];rfl
       simp only[ev,hel1,hxe,ei,elems,at_]
       rw[hgd]
       exact⟨⟨hx,hi,trivial,hk0,by omega⟩,.pv (hl2 _ _ _ hcs has) fun j' v' a' h1 h2=>hvv _ j' _ _ v' a' hcs has h1 h2⟩
     ·simp[run]at hr
    ·simp[run]at hr
   ·simp[run]at hr
  ·rename_i s rows gx
   split at hr
   ·split at hr
    ·rename_i kd k hcond
     split at hr
     ·rename_i cs hcs
      refine PRun.here hr fun ho=>?_
      simp only[bA,decide_eq_true_eq]at hcond
      obtain⟨hn,hk0⟩:=hcond
      obtain rfl:=nbeq hn
      have ei:=(hj ho).lit rfl
      have hx2:=hv ho
      rw[hkv]
      generalize hxe:opnd tm x=av at hx2
      cases hx2 with
      | @psx _ _ _ id cap ass hgv hl hl2 hvv=>
       obtain⟨as,has⟩:∃as,ass[k.toNat]?=some as:=by
        have:=(List.getElem?_eq_some_iff.1 hcs).1
        exact⟨_,gG (by omega)⟩
       have hlt:=(List.getElem?_eq_some_iff.1 has).1
       simp only[ev,hel1,hxe,ei]
       refine⟨⟨hx,hi,trivial,hk0,by omega⟩,?_⟩
       rw[Nat.zero_add]
       exact .bv hgv has (o:=0) (by omega) rfl (by rw[List.drop_zero];exact hl2 _ _ _ hcs has) fun j' v' a' h1 h2=>hvv _ j' _ _ v' a' hcs has h1 (by simpa using h2)
     ·simp[run]at hr
    ·simp[run]at hr
   ·simp[run]at hr
theorem p_index {t:TypeId}{x i:Operand}(hx:opOk x=true)(hi:opOk i=true)(hr:run Γ (sxP cf S g sl (.index t x i) K) E.ρ=some r):PRun P tm st (.index t x i) Γ K S E on r:=by
 simp only[sxP,ZaT,ZbK,Zcw,Za0,ZaM,ZbL,ZaN,ZbM,Za1,ZaU,Zar,ZbN,Zcx,ZbO,Zcy]at hr
 obtain⟨v,hr,hv⟩:=Zbs hm (ZbA hm hs hx) hg hr
 obtain⟨j,oj,hr,hj⟩:=Zde hm (ZbA hm hs hi) hg hr
 have hkv:kv P tm st (.index t x i)=ev P tm (.index t x i):=rfl
 cases v <;> try (simp[run]at hr;done)
 rotate_left
 ·rename_i a k0 m ov
  simp only at hr
  split at hr
  ·rename_i ti hti
   split at hr
   ·rename_i len e n kk k hja
    split at hr
    ·rename_i ie hie
     split at hr
     ·rename_i hb
      rw[decide_eq_true_eq]at hb
      have ht:=hc.ti t ti hti
      have hte:=hc.ti e ie hie
      have hu:P.underlying t=some (.array len e):=by
       have ha:=ht.arr
       rw[hja]at ha
       unfold arT at ha
       split at ha
       ·rename_i hu
        simp only[Option.map_eq_some_iff,Prod.mk.injEq]at ha
        obtain⟨i',-,rfl,rfl,-⟩:=ha
        exact hu
       ·cases ha
      refine p_rd hc hm hs hg (off:=k.toNat * ie.size) (ag:=ie.agg) hte.one hr fun ho=>?_
      have ei:=(hj ho).lit (v:=.int kk k) rfl
      obtain⟨cs,ex,hb'⟩:=(hv ho).agg_inv
      refine⟨cs,hb',fun hok=>?_,?_⟩
      ·rw[hkv]
       simp only[ev,ex,hu,ei,hte.sz]
       exact⟨hx,hi,hb.1,hb.2,hok⟩
      ·rw[hkv]
       simp only[ev,ex,hu,ei,hte.sz]
     ·simp[run]at hr
    ·simp[run]at hr
   ·simp[run]at hr
  ·simp[run]at hr
 rename_i a o
 simp only at hr
 split at hr
 ·rename_i hk
  refine PRun.emit1 hm.nv hg hr fun ho rs z hrs hz=>?_
  obtain⟨d1,e1,o1,l1⟩:=(hv ho).one_toD
  obtain⟨d2,e2,o2,l2⟩:=(hj ho).one_toD
  obtain rfl:=evs2 e1 e2 hrs
  obtain⟨s,k,q,eq,hq0,hq1,rfl⟩:=Zbn (f:=.sidx) hz
  simp only[List.cons.injEq,and_true]at eq
  obtain⟨rfl,rfl⟩:=eq
  have ex:=(hv ho).lit e1
  have ei:=(hj ho).lit e2
  have hu:P.underlying t=some .string:=by
   have hk:=nbeq hk
   unfold kindOf at hk
   split at hk
   ·rename_i ti hti
    exact(hc.ti t ti hti).kind2 hk
   ·cases hk
  rw[hkv]
  simp only[ev,ex,ei]
  exact⟨⟨hx,hi,hu,hq0,hq1⟩,_,rfl,rfl,rfl⟩
 ·simp[run]at hr
omit hc in
theorem ZpM {x:Operand}{i:Nat}(hx:opOk x=true)(hr:run Γ (sxP cf S g sl (.extract x i) K) E.ρ=some r):PRun P tm st (.extract x i) Γ K S E on r:=by
 simp only[sxP,ZaT,ZbK,Zcw,Za0,ZaM,ZbL,ZaN,ZbM,Za1,ZaU,Zar,ZbN,Zcx,ZbO,Zcy]at hr
 obtain⟨v,hr,hv⟩:=Zbs hm (ZbA hm hs hx) hg hr
 have hkv:kv P tm st (.extract x i)=ev P tm (.extract x i):=rfl
 cases v <;> try (simp[run]at hr;done)
 rename_i vs
 simp only at hr
 cases hi:vs[i]? with
 | none=>simp only[hi]at hr;simp[run]at hr
 | some u=>
  simp only[hi]at hr
  refine PRun.here hr fun ho=>?_
  have h2:=hv ho
  rw[hkv]
  generalize hxe:opnd tm x=av at h2
  cases h2 with
  | @tup _ as hl hvv=>
   have hlt:=(List.getElem?_eq_some_iff.1 hi).1
   have ha:as[i]?=some (as.getD i .bad):=by rw[List.getD_eq_getElem?_getD,gG (show i<as.length by omega)];rfl
   simp only[ev,hxe]
   exact⟨⟨hx,by omega⟩,hvv i u _ hi ha⟩
omit hc in
theorem Zeu {xs:List Operand}(hx:xs.all opOk=true):∀{K:List SV→Tr},run Γ (Zhi S g (xs.map (opd sl)) K) E.ρ=some r →
  ∃vs,run Γ (K vs) E.ρ=some r∧vs.length=xs.length∧(on=true→∀(i:Nat) (v:SV) (a:AV),vs[i]?=some v→(xs.map (opnd tm))[i]?=some a→RV E v a):=by
 induction xs with
 | nil=>intro K hr;exact⟨[],hr,rfl,fun _ i v a h=>by simp at h⟩
 | cons x xs ih=>
  intro K hr
  simp only[List.all_cons,bA]at hx
  simp only[List.map_cons,Zhi]at hr
  obtain⟨v,hr,hv⟩:=Zbs hm (ZbA hm hs hx.1) hg hr
  obtain⟨vs,hr,hl,hvs⟩:=ih hx.2 hr
  refine⟨v::vs,hr,by simp[hl],fun ho i u a h1 h2=>?_⟩
  cases i with
  | zero=>simp at h1 h2;subst h1;subst h2;exact hv ho
  | succ i=>exact hvs ho i u a (by simpa using h1) (by simpa using h2)
omit hc in
theorem ZoA {f:Fn}{fs cs:Array Operand}(hx:fs.toList.all opOk=true)(hx':cs.toList.all opOk=true)(hr:run Γ (sxP cf S g sl (.makeFunc f fs cs) K) E.ρ=some r):PRun P tm st (.makeFunc f fs cs) Γ K S E on r:=by
 simp only[sxP,ZaT,ZbK,Zcw,Za0,ZaM,ZbL,ZaN,ZbM,Za1,ZaU,Zar,ZbN,Zcx,ZbO,Zcy]at hr
 obtain⟨vs,hr,hl,hvs⟩:=Zeu hm hs hg hx hr
 obtain⟨us,hr,hl',hus⟩:=Zeu hm hs hg hx' hr
 refine PRun.here hr fun ho=>?_
 exact⟨⟨hx,hx'⟩,.fn (by simp[hl]) (hvs ho) (by simp[hl']) (hus ho)⟩
theorem ZjM {t:TypeId}{x:Operand}(hx:opOk x=true)(hr:run Γ (sxP cf S g sl (.makeInterface t x) K) E.ρ=some r):PRun P tm st (.makeInterface t x) Γ K S E on r:=by
 simp only[sxP,ZaT,ZbK,Zcw,Za0,ZaM,ZbL,ZaN,ZbM,Za1,ZaU,Zar,ZbN,Zcx,ZbO,Zcy]at hr
 obtain⟨v,hr,hv⟩:=Zbs hm (ZbA hm hs hx) hg hr
 split at hr
 ·simp[run]at hr
 ·rename_i hk
  refine PRun.here hr fun ho=>⟨⟨hx,?_⟩,.ifc (hv ho)⟩
  simp only[decide_eq_true_eq,not_or]at hk
  unfold kindOf at hk
  cases hi:cf.ti t with
  | none=>rw[hi]at hk;exact absurd rfl hk.2
  | some i=>rw[hi]at hk;exact(hc.ti t i hi).noif hk.1
omit hc hm hs hg in
theorem Zkw:∀{vs:List SV} {as:List AV} {i:Nat} {cs:List AV},vs.length=as.length→i+as.length≤cs.length→(∀(j:Nat) (v:SV) (a:AV),vs[j]?=some v→as[j]?=some a→RV E v a∧ZfW v=true∧isAgg v=false) →
  ∃c',AccR E (rowOv i vs) as∧Zbi (rowOv i vs) as cs=some c'∧c'.length=cs.length∧(∀j,j<i∨i+as.length≤j→c'[j]?=cs[j]?)∧∀j a,as[j]?=some a→c'[i+j]?=some a
 | [],[],i,cs,_,_,_=>⟨cs,AccR.nil E,rfl,rfl,fun _ _=>rfl,fun j a h=>by simp at h⟩
 | v::vs,a::as,i,cs,hl,hb,h=>by
  simp only[List.length_cons]at hb
  obtain⟨c,h1,h2,h3,h4,h5⟩:=Zkw (vs:=vs) (as:=as) (i:=i+1) (cs:=cs) (by simpa using hl) (by omega) fun j v' a' q1 q2=>h (j+1) v' a' (by simpa using q1) (by simpa using q2)
  obtain⟨r1,r2,r3⟩:=h 0 v a rfl rfl
  have hone:=r1.one_cell r3
  have hcell:=r1.ZaQ r2
  refine⟨ZaO c i (Zak a),h1.cons r1,?_,?_,?_,?_⟩
  ·simp only[rowOv,Zbi,h2]
   rw[if_pos ⟨by rw[hone];rfl,hcell,by omega⟩]
  ·rw[ZaX _ _ _ (by rw[hone];simp;omega),h3]
  ·intro j hj
   simp only[List.length_cons]at hj
   rw[Za8 _ _ _ (by rw[hone];simp;omega),hone]
   simp only[List.length_singleton]
   by_cases c1:j<i
   ·rw[if_pos c1];exact h4 j (by omega)
   ·rw[if_neg c1,if_neg (by omega)];exact h4 j (by omega)
  ·intro j b hj
   rw[Za8 _ _ _ (by rw[hone];simp;omega),hone]
   simp only[List.length_singleton]
   cases j with
   | zero=>
    simp only[List.getElem?_cons_zero,oI]at hj
    subst hj
    rw[if_neg (by omega),if_pos (by omega)]
    simp
   | succ j=>
    rw[if_neg (by omega),if_neg (by omega)]
    have:=h5 j b (by simpa using hj)
    rw[← this]
    congr 1
    omega
 | [],_::_,_,_,hl,_,_=>by simp at hl
 | _::_,[],_,_,hl,_,_=>by simp at hl
omit hc hm hs hg in
theorem ZpN {op:Op}{n:Nat}{cs:List SV}(hr:run Γ (ldRow n cs K S) E.ρ=some r)
  (hv:on=true→∃as:List AV,cs.length=as.length∧(∀(i:Nat) (v:SV) (a:AV),cs[i]?=some v→as[i]?=some a→RV E v a)∧(n≤as.length→(kv P tm st op).ok)∧(kv P tm st op).v=.agg (as.take n)):PRun P tm st op Γ K S E on r:=by
 unfold ldRow at hr
 split at hr
 ·rename_i hcnd
  simp only[bA]at hcnd
  obtain⟨hle,hall⟩:=hcnd
  have hle:=lB hle
  refine PRun.here hr fun ho=>?_
  obtain⟨as,h1,h2,h3,h4⟩:=hv ho
  refine⟨h3 (by omega),?_⟩
  rw[h4]
  have hlen:(as.take n).length=n:=by simp;omega
  obtain⟨c',q1,q2,q3,-,q5⟩:=Zkw (E:=E) (vs:=cs.take n) (as:=as.take n) (i:=0) (cs:=(List.replicate n (DV.lit (.bool false))).map cv) (by simp[h1]) (by simp;omega) fun j v a r1 r2=>by
   have hm1:v∈cs.take n:=List.mem_of_getElem? r1
   have hb:=List.all_eq_true.1 hall v hm1
   simp only[bA,Bool.not_eq_true']at hb
   rw[List.getElem?_take]at r1 r2
   split at r1
   ·rename_i hj
    rw[if_pos hj]at r2
    exact⟨h2 j v a r1 r2,hb.1.1,hb.2⟩
   ·cases r1
  have e:c'=as.take n:=by
   apply List.ext_getElem?
   intro j
   by_cases hj:j<n
   ·have hg:=gG (show j<(as.take n).length by omega)
    have:=q5 j _ hg
    rw[Nat.zero_add]at this
    rw[this,hg]
   ·rw[List.getElem?_eq_none (by rw[q3];simp;omega),List.getElem?_eq_none (by omega)]
  rw[← e]
  refine RB.agg ⟨_,_,.z (by simp) ?_,q1,q2⟩
  rw[ZdO]
  intro y hy
  rw[List.mem_replicate]at hy
  rw[hy.2]
  rfl
 ·simp[run]at hr
theorem Zrk {t:TypeId}{x:Operand}(hx:opOk x=true)(hr:run Γ (sxP cf S g sl (.load t x) K) E.ρ=some r):PRun P tm st (.load t x) Γ K S E on r:=by
 simp only[sxP,ZaT,ZbK,Zcw,Za0,ZaM,ZbL,ZaN,ZbM,Za1,ZaU,Zar,ZbN,Zcx,ZbO,Zcy]at hr
 obtain⟨v,hr,hv⟩:=Zbs hm (ZbA hm hs hx) hg hr
 cases hi:cf.ti t with
 | none=>simp only[hi]at hr;simp[run]at hr
 | some i=>
  have hti:=hc.ti t i hi
  cases v <;> simp only[hi]at hr <;> try (simp[run]at hr;done)
  ·rename_i o off
   cases hob:objAt S o with
   | none=>simp only[hob]at hr;simp[run]at hr
   | some ob=>
    simp only[hob]at hr
    refine p_rd hc hm hs hg (off:=off) (ag:=i.agg) hti.one hr fun ho=>?_
    have h2:=hv ho
    obtain⟨id,h3,h4,-,h5,h6⟩:=hm.ob o ob hob
    generalize hxe:opnd tm x=av at h2
    cases h2 with
    | ptr h7=>
     rw[h3]at h7
     cases h7
     refine⟨_,h6,fun hok=>?_,?_⟩
     ·simp only[kv,hxe,hti.sz]
      exact⟨hx,hok⟩
     ·simp only[kv,hxe,hti.sz]
  ·rename_i a off n
   split at hr
   ·obtain⟨l,b,h1,h2⟩:=Zbr hr hm.nv hg
    have hgood:on=true→∃row:Row,(opnd tm x=.pp ((row.drop off).map .d))∧off+i.size≤row.length∧b.ev (E.ρ++l)=some ((row.drop off).take i.size)∧dvos ((row.drop off).take i.size)=true:=fun ho=>by
     have h3:=hv ho
     obtain⟨rs,z,h4,h5,h6⟩:=h2 ho
     generalize hxe:opnd tm x=av at h3
     cases h3 with
     | @pp _ _ _ row h7 h8=>
      obtain rfl:=evs1 h7 h4
      obtain⟨r',e,hle,rfl⟩:=Zbn (f:=.get off i.size) h5
      simp only[List.cons.injEq,and_true]at e
      subst e
      exact⟨row,rfl,hle,h6,ZfN (ZfM h8 _) _⟩
    cases hag:i.agg with
    | true=>
     simp only[hag,if_true]at h1
     refine PRun.mk' l _ h1 fun ho=>?_
     obtain⟨row,h3,h4,h5,h6⟩:=hgood ho
     refine⟨?_,?_⟩
     ·simp only[kv,h3,hti.sz]
      refine⟨hx,?_⟩
      simp[sub,hag];omega
     ·simp only[kv,h3,hti.sz,sub,hag,if_true,List.drop_zero]
      rw[← List.map_take]
      exact RB.agg ⟨_,[],.d h5 (by simp;omega) h6,AccR.nil _,rfl⟩
    | false=>
     simp only[hag,bF,if_false]at h1
     refine PRun.mk' l _ h1 fun ho=>?_
     obtain⟨row,h3,h4,h5,h6⟩:=hgood ho
     have h1s:=hti.one hag
     rw[h1s]at h4 h5 h6
     obtain⟨x0,hx0⟩:∃x0,(row.drop off).take 1=[x0]:=List.length_eq_one_iff.1 (by simp;omega)
     rw[hx0]at h5 h6
     have hget:row[off]?=some x0:=by
      have:((row.drop off).take 1)[0]?=some x0:=by rw[hx0];rfl
      simp only[List.getElem?_take,List.getElem?_drop]at this
      simpa using this
     refine⟨?_,?_⟩
     ·simp only[kv,h3,hti.sz]
      refine⟨hx,?_⟩
      simp[sub,hag];omega
     ·simp only[kv,h3,hti.sz,sub,hag,bF,if_false]
      rw[List.getD_eq_getElem?_getD,List.getElem?_map,List.getElem?_drop,Nat.add_zero,hget]
      exact .one0 h5 (by simpa[dvos] using h6)
   ·simp[run]at hr
  ·rename_i cs
   split at hr
   ·rename_i hag
    refine ZpN hr fun ho=>?_
    have h2:=hv ho
    generalize hxe:opnd tm x=av at h2
    cases h2 with
    | @pv _ as hl hvv=>
     refine⟨as,hl,hvv,fun hle=>?_,?_⟩
     ·simp only[kv,hxe,hti.sz]
      refine⟨hx,?_⟩
      simpa[sub,hag] using hle
     ·simp only[kv,hxe,hti.sz,sub,hag,if_true,List.drop_zero]
   ·rename_i hag
    have hag':i.agg=false:=by simpa using hag
    cases cs with
    | nil=>simp[run]at hr
    | cons c cs=>
     refine PRun.here hr fun ho=>?_
     have h2:=hv ho
     generalize hxe:opnd tm x=av at h2
     cases h2 with
     | @pv _ as hl hvv=>
      cases as with
      | nil=>simp at hl
      | cons a as=>
       refine⟨?_,?_⟩
       ·simp only[kv,hxe,hti.sz]
        refine⟨hx,?_⟩
        simp[sub,hag']
       ·simp only[kv,hxe,hti.sz,sub,hag',bF,if_false]
        exact hvv 0 c a rfl rfl
  ·rename_i a j off n gx
   split at hr
   rotate_left
   ·simp[run]at hr
   rename_i hlive
   split at hr
   ·obtain⟨l,b,h1,h2⟩:=Zbr hr hm.nv hg
    have hgood:on=true→∃(row:Row) (id base:Nat),opnd tm x=.ptr id base∧base+i.size≤(st.obj id).2.length∧((st.obj id).2.drop base).take i.size=((row.drop off).take i.size).map .d∧off+i.size≤row.length∧b.ev (E.ρ++l)=some ((row.drop off).take i.size)∧dvos ((row.drop off).take i.size)=true:=fun ho=>by
     have h3:=hv ho
     obtain⟨rs,z,h4,h5,h6⟩:=h2 ho
     generalize hxe:opnd tm x=av at h3
     cases h3 with
     | @bp _ _ _ _ _ row id s cap kk k rows h7 h8 h9 h10 h11 h12 h13=>
      obtain rfl:=evs1 h7 h4
      obtain⟨r',e,hle,rfl⟩:=Zbn (f:=.get off i.size) h5
      simp only[List.cons.injEq,and_true]at e
      subst e
      obtain⟨e',-,-,-,-,-,-,-,q1,q2,q3,q4⟩:=hm.liveXs hlive h11
      have hr':(rows.map (·.map AV.d))[k.toNat]?=some (row.map .d):=by rw[List.getElem?_map,h12];rfl
      obtain⟨q5,q6⟩:=Zi5 q1 q2 q3 q4 hr' (off:=off) (n:=i.size) (by simpa using hle)
      exact⟨row,id,_,rfl,q5,by rw[q6,List.map_take,List.map_drop],hle,h6,ZfN (ZfM h8 _) _⟩
    cases hag:i.agg with
    | true=>
     simp only[hag,if_true]at h1
     refine PRun.mk' l _ h1 fun ho=>?_
     obtain⟨row,id,bs,h3,h4,h5,h6,h7,h8⟩:=hgood ho
     refine⟨?_,?_⟩
     ·simp only[kv,h3,hti.sz]
      refine⟨hx,?_⟩
      simp[sub,hag];omega
     ·simp only[kv,h3,hti.sz,sub,hag,if_true]
      rw[h5]
      exact RB.agg ⟨_,[],.d h7 (by simp;omega) h8,AccR.nil _,rfl⟩
    | false=>
     simp only[hag,bF,if_false]at h1
     refine PRun.mk' l _ h1 fun ho=>?_
     obtain⟨row,id,bs,h3,h4,h5,h6,h7,h8⟩:=hgood ho
     have h1s:=hti.one hag
     rw[h1s]at h4 h5 h6 h7 h8
     obtain⟨x0,hx0⟩:∃x0,(row.drop off).take 1=[x0]:=List.length_eq_one_iff.1 (by simp;omega)
     rw[hx0]at h5 h7 h8
     have hget:(st.obj id).2[bs]?=some (.d x0):=by
      have:(((st.obj id).2.drop bs).take 1)[0]?=some (.d x0):=by rw[h5];rfl
      simp only[List.getElem?_take,List.getElem?_drop]at this
      simpa using this
     refine⟨?_,?_⟩
     ·simp only[kv,h3,hti.sz]
      refine⟨hx,?_⟩
      simp[sub,hag];omega
     ·simp only[kv,h3,hti.sz,sub,hag,bF,if_false]
      rw[List.getD_eq_getElem?_getD,hget]
      exact .one0 h7 (by simpa[dvos] using h8)
   ·simp[run]at hr
  ·rename_i cs off gx
   split at hr
   rotate_left
   ·simp[run]at hr
   rename_i hlive
   have hgood:on=true→∃(as:List AV) (id:Nat),opnd tm x=.ptr id off∧cs.length=as.length∧(∀(i:Nat) (v:SV) (a:AV),cs[i]?=some v→as[i]?=some a→RV E v a)∧∀n,n≤as.length→off+n≤(st.obj id).2.length∧((st.obj id).2.drop off).take n=as.take n:=fun ho=>by
    have h3:=hv ho
    generalize hxe:opnd tm x=av at h3
    cases h3 with
    | @bv _ _ _ id s cap k o ass row h4 h5 h6 h7 h8 h9=>
     refine⟨row.drop o,id,rfl,h8,h9,fun n hn=>?_⟩
     obtain⟨e',-,-,-,-,-,-,-,q1,q2,q3,q4⟩:=hm.liveXs hlive h4
     simp only[List.length_drop]at hn
     obtain⟨q5,q6⟩:=Zi5 q1 q2 q3 q4 h5 (off:=o) (n:=n) (by omega)
     rw[h7]
     exact⟨q5,q6⟩
   split at hr
   ·rename_i hag
    refine ZpN hr fun ho=>?_
    obtain⟨as,id,h3,h4,h5,h6⟩:=hgood ho
    by_cases hle:i.size≤as.length
    ·obtain⟨h7,h8⟩:=h6 _ hle
     refine⟨as,h4,h5,fun hle=>?_,?_⟩
     ·simp only[kv,h3,hti.sz]
      refine⟨hx,?_⟩
      simpa[sub,hag] using h7
     ·simp only[kv,h3,hti.sz,sub,hag,if_true]
      rw[h8]
    ·exfalso
     unfold ldRow at hr
     split at hr
     ·rename_i hq
      simp only[bA]at hq
      have:=lB hq.1
      omega
     ·simp[run]at hr
   ·rename_i hag
    have hag':i.agg=false:=by simpa using hag
    cases cs with
    | nil=>simp[run]at hr
    | cons c cs=>
     refine PRun.here hr fun ho=>?_
     obtain⟨as,id,h3,h4,h5,h6⟩:=hgood ho
     cases as with
     | nil=>simp at h4
     | cons a as=>
      obtain⟨h7,h8⟩:=h6 1 (by simp)
      have hget:(st.obj id).2[off]?=some a:=by
       have:(((st.obj id).2.drop off).take 1)[0]?=some a:=by rw[h8];rfl
       simp only[List.getElem?_take,List.getElem?_drop]at this
       simpa using this
      refine⟨?_,?_⟩
      ·simp only[kv,h3,hti.sz]
       refine⟨hx,?_⟩
       simp[sub,hag'];omega
      ·simp only[kv,h3,hti.sz,sub,hag',bF,if_false]
       rw[List.getD_eq_getElem?_getD,hget]
       exact h5 0 c a rfl rfl
end
end Go.AW

namespace Go.AW
open Go.RowKit
section
variable {P:Program}{cf:Cf}{C:Ctx}{E:En}{S:SS}{st:St}{sl:List (Nat×SE)}{tm:Tm}{Γ:Den}{r:Rs}{g:Option At}{on:Bool}{K:KV}
theorem lenI_sl {av:AV}{s:Nat}{xs:List Row}(h:toD av=some (.sl s xs)):lenI av=(xs.length:Nat):=by
 cases av <;> simp only[toD,oI,reduceCtorEq]at h
 ·subst h;rfl
 ·simp only[DV.sl.injEq]at h;obtain⟨-,rfl⟩:=h;rfl
 ·rename_i t s' xs'
  cases xs' with
  | nil=>simp only[slv,DV.sl.injEq]at h;obtain⟨-,rfl⟩:=h;rfl
  | cons y ys=>simp only[slv,DV.sl.injEq]at h;obtain⟨-,rfl⟩:=h;rfl
 ·rename_i id o s' cap rows
  obtain⟨rfl,-⟩:=Zmm (id:=id) (o:=o) (s:=s') (cap:=cap) (rows:=rows) (s':=s) (xs:=xs) (by simp only[toD];exact h)
  simp[lenI]
theorem cutV_sl {t:TypeId}{e:TypeId}{n b s:Nat}{xs:List Row}{av:AV}{kl kh:IntKind}{l h:Int}(he:elT P t=some (e,n,b))(ha:toD av=some (.sl s xs))(hn:noX av=true)(hs:s=n∨xs=[])(h0:0≤l)(h1:l≤h)(h2:h≤(xs.length:Int)) :
  (cutV P t av (.d (.lit (.int kl l))) (.d (.lit (.int kh h)))).ok∧(cutV P t av (.d (.lit (.int kl l))) (.d (.lit (.int kh h)))).v=.d (slv n ((xs.take h.toNat).drop l.toNat)):=by
 cases av <;> simp only[toD,oI,reduceCtorEq]at ha
 ·subst ha
  simp only[cutV,he]
  exact⟨⟨hs.imp Eq.symm id,h0,h1,h2⟩,trivial⟩
 ·simp only[DV.sl.injEq]at ha
  obtain⟨-,rfl⟩:=ha
  simp only[cutV,he]
  simp at h2
  exact⟨⟨by omega,by omega,rfl⟩,by simp[slv]⟩
 ·rename_i tk s' xs'
  cases xs' with
  | nil=>
   simp only[slv,DV.sl.injEq]at ha
   obtain⟨-,rfl⟩:=ha
   simp only[cutV,he]
   exact⟨⟨.inr trivial,h0,h1,h2⟩,trivial⟩
  | cons y ys=>
   simp only[slv,DV.sl.injEq]at ha
   obtain⟨rfl,rfl⟩:=ha
   simp only[cutV,he]
   exact⟨⟨hs.imp Eq.symm id,h0,h1,h2⟩,trivial⟩
 ·cases hn
def ZpO (cf:Cf)(g:Option At)(t:TypeId)(a:At)(o:Option GK)(K:KV)(l:At)(S:SS)(h:At):Tr:=
 if Nat.beq (kindOf cf t) 2=true then emit S g .scut [a,l,h] fun S r=>K S (.one r none)
 else match cf.ti t with
  | some ti=>(match ti.elem with
   | some (_,n,_)=>if cln1 S o=true then emit S g (.cut n) [a,l,h] fun S r=>K S (.one r none)else(match o with
    | some x=>if (liveX S x&&!Nat.beq n 0)=true then emit S g (.idx n) [a,.c [.lit (.int .i64 0)]] fun S _=>emit S g (.cut n) [a,l,h] fun S r=>K S (.xc r l x)else .err 121 []
    | none=>.err 121 [])
   | none=>.err 25 [])
  | none=>.err 25 []
variable (hc:CfOk P cf)(hm:RM P C E S st)(hs:RTS E sl tm)(hg:gate E.ρ g=some on)
include hc hm hs hg
theorem p_slice {t:TypeId}{x:Operand}{lo hi:Option Operand}(hx:opOk x=true)(hlo:∀y,lo=some y→opOk y=true)(hhi:∀y,hi=some y→opOk y=true)(hr:run Γ (sxP cf S g sl (.slice t x lo hi none) K) E.ρ=some r):PRun P tm st (.slice t x lo hi none) Γ K S E on r:=by
 simp only[sxP,ZaT,ZbK,Zcw,Za0,ZaM,ZbL,ZaN,ZbM,Za1,ZaU,Zar,ZbN,Zcx,ZbO,Zcy]at hr
 obtain⟨a,o,hr,hv⟩:=Zde hm (ZbA hm hs hx) hg hr
 have hl:∃la,run Γ ((match hi with
    | some h=>(fun K:SS→At→Tr=>use1 S g (opd sl h) fun h _=>K S h)
    | none=>emit S g (if Nat.beq (kindOf cf t) 2=true then .slen else .len) [a]) (ZpO cf g t a o K la)) E.ρ=some r∧(on=true→∃d,la.ev E.ρ=some [d]∧toD (bndV tm 0 lo).v=some d∧(bndV tm 0 lo).ok):=by
  cases lo with
  | none=>exact⟨_,hr,fun _=>⟨_,rfl,rfl,trivial⟩⟩
  | some y=>
   obtain⟨b,ob,hr,hb⟩:=Zde hm (ZbA hm hs (hlo y rfl)) hg hr
   refine⟨b,hr,fun ho=>?_⟩
   obtain⟨d,h1,h2,h3⟩:=(hb ho).one_toD
   exact⟨d,h1,h3,hlo y rfl⟩
 clear hr
 obtain⟨la,hr,hla⟩:=hl
 have hh:∃l ha,run Γ (ZpO cf g t a o K la (bump S l.length) ha) (E.ρ++l)=some r∧(on=true→∃d,ha.ev (E.ρ++l)=some [d]∧toD (bndV tm (lenI (opnd tm x)) hi).v=some d∧(bndV tm (lenI (opnd tm x)) hi).ok):=by
  cases hi with
  | none=>
   obtain⟨l,b,h1,h2⟩:=Zbr hr hm.nv hg
   refine⟨l,b,h1,fun ho=>?_⟩
   obtain⟨rs,z,h3,h4,h5⟩:=h2 ho
   obtain⟨d1,e1,o1,l1⟩:=(hv ho).one_toD
   obtain rfl:=evs1 e1 h3
   split at h4
   ·obtain⟨s,e,rfl⟩:=Zbn (f:=.slen) h4
    simp only[List.cons.injEq,and_true]at e
    subst e
    refine⟨_,h5,?_,trivial⟩
    rw[ZdQ l1];rfl
   ·obtain⟨s,xs,e,rfl⟩:=Zbn (f:=.len) h4
    simp only[List.cons.injEq,and_true]at e
    subst e
    refine⟨_,h5,?_,trivial⟩
    simp only[bndV,toD,lenI_sl l1]
  | some y=>
   obtain⟨b,ob,hr,hb⟩:=Zde hm (ZbA hm hs (hhi y rfl)) hg hr
   refine⟨[],b,by rw[List.append_nil];exact hr,fun ho=>?_⟩
   obtain⟨d,h1,h2,h3⟩:=(hb ho).one_toD
   exact⟨d,by rw[List.append_nil];exact h1,h3,hhi y rfl⟩
 clear hr
 obtain⟨l,ha,hr,hha⟩:=hh
 have hm':=hm.push l
 have fin:∀(f:Fo),run Γ (emit (bump S l.length) g f [a,la,ha] fun S r=>K S (.one r none)) (E.ρ++l)=some r →
   (on=true→∀d1 d2 d3 z,dvo d1=true→toD (opnd tm x)=some d1→toD (bndV tm 0 lo).v=some d2→toD (bndV tm (lenI (opnd tm x)) hi).v=some d3→evF f [[d1],[d2],[d3]]=some z →
    (cutV P t (opnd tm x) (bndV tm 0 lo).v (bndV tm (lenI (opnd tm x)) hi).v).ok∧∃d,z=[d]∧dvo d=true∧(cutV P t (opnd tm x) (bndV tm 0 lo).v (bndV tm (lenI (opnd tm x)) hi).v).v=.d d)→PRun P tm st (.slice t x lo hi none) Γ K S E on r:=by
  intro f hr hf
  obtain⟨l2,b,h1,h2⟩:=Zbr (ρ:=(E.push l).ρ) hr hm'.nv (ZcS hg)
  refine PRun.mk' (l++l2) (.one b none) ?_ fun ho=>?_
  ·rw[← List.append_assoc]
   have e:bump (bump S l.length) l2.length=bump S (l++l2).length:=by simp[bump,Nat.add_assoc]
   rw[← e];exact h1
  ·obtain⟨rs,z,h3,h4,h5⟩:=h2 ho
   obtain⟨d1,e1,o1,l1⟩:=(hv ho).one_toD
   obtain⟨d2,e2,l2',k2⟩:=hla ho
   obtain⟨d3,e3,l3,k3⟩:=hha ho
   obtain rfl:=evs3 (E:=E.push l) (At.ev_mono e1 l) (At.ev_mono e2 l) e3 h3
   obtain⟨h6,d,rfl,hdo,h7⟩:=hf ho d1 d2 d3 z o1 l1 l2' l3 h4
   refine⟨⟨hx,k2,k3,h6⟩,?_⟩
   show RV _ _ (cutV P t (opnd tm x) (bndV tm 0 lo).v (bndV tm (lenI (opnd tm x)) hi).v).v
   rw[h7,← ZaZ]
   exact .one0 h5 hdo
 unfold ZpO at hr
 split at hr
 ·rename_i hk
  refine fin _ hr fun ho d1 d2 d3 z e1 l1 l2 l3 hz=>?_
  obtain⟨s,kl,lv,kh,hv',e,h0,h1,h2,rfl⟩:=Zbn (f:=.scut) hz
  simp only[List.cons.injEq,and_true]at e
  obtain⟨rfl,rfl,rfl⟩:=e
  have hu:P.underlying t=some .string:=by
   have hk:=nbeq hk
   unfold kindOf at hk
   split at hk
   ·rename_i ti hti
    exact(hc.ti t ti hti).kind2 hk
   ·cases hk
  rw[ZdQ l1,ZdQ l2]
  rw[ZdQ l1]at l3
  rw[ZdQ l3]
  exact⟨⟨hu,h0,h1,h2⟩,_,rfl,rfl,rfl⟩
 ·cases hti:cf.ti t with
  | none=>simp only[hti]at hr;simp[run]at hr
  | some ti=>
   rcases he:ti.elem with _ | ⟨e,n,by_⟩
   ·simp only[hti,he]at hr;simp[run]at hr
   ·simp only[hti,he]at hr
    obtain⟨hel,-⟩:=(hc.ti t ti hti).elem e n by_ he
    split at hr
    ·rename_i hcl
     refine fin _ hr fun ho d1 d2 d3 z e1 l1 l2 l3 hz=>?_
     obtain⟨s,xs,kl,lv,kh,hv',eq,hs',h0,h1,h2,rfl⟩:=Zbn (f:=.cut n) hz
     simp only[List.cons.injEq,and_true]at eq
     obtain⟨rfl,rfl,rfl⟩:=eq
     rw[ZdQ l2,ZdQ l3]
     obtain⟨q1,q2⟩:=cutV_sl (kl:=kl) (kh:=kh) hel l1 ((hv ho).cln1 hm hcl) hs' h0 h1 h2
     refine⟨q1,_,rfl,Zhv ((ZcD _).2 fun y hy=>?_),q2⟩
     simp only[dvo]at e1
     rw[ZcD]at e1
     exact e1 y (List.mem_of_mem_take (List.mem_of_mem_drop hy))
    ·split at hr
     ·rename_i gx _
      split at hr
      ·rename_i hlv
       simp only[bA,Bool.not_eq_true']at hlv
       obtain⟨hlive,hn0⟩:=hlv
       obtain⟨li,bi,hr1,hi1⟩:=Zbr (ρ:=(E.push l).ρ) hr hm'.nv (ZcS hg)
       have hm2:=hm'.push li
       obtain⟨l2,b,hr2,h2⟩:=Zbr (ρ:=((E.push l).push li).ρ) hr1 hm2.nv (ZcS (ZcS hg))
       refine PRun.mk' (l++li++l2) (.xc b la gx) ?_ fun ho=>?_
       ·have e:bump (bump (bump S l.length) li.length) l2.length=bump S (l++li++l2).length:=by simp[bump,Nat.add_assoc]
        rw[← e]
        simpa[En.push,List.append_assoc] using hr2
       ·obtain⟨d1,e1,o1,l1⟩:=(hv ho).one_toD
        obtain⟨d2,e2,q2,k2⟩:=hla ho
        obtain⟨d3,e3,q3,k3⟩:=hha ho
        obtain⟨rs,z,h3,h4,-⟩:=hi1 ho
        obtain rfl:=evs2 (E:=E.push l) (At.ev_mono e1 l) rfl h3
        obtain⟨s',xs',kk,q,eq,hs',-,hq1,-⟩:=Zbn (f:=.idx n) h4
        simp only[List.cons.injEq,DV.lit.injEq,Value.int.injEq,and_true]at eq
        obtain⟨rfl,rfl,rfl⟩:=eq
        obtain⟨rs,z,h3,h4,h5⟩:=h2 ho
        obtain rfl:=evs3 (E:=(E.push l).push li) (At.ev_mono (At.ev_mono e1 l) li) (At.ev_mono (At.ev_mono e2 l) li) (At.ev_mono e3 li) h3
        obtain⟨s2,xs,kl,lv,kh,hv',eq,-,h0,h1,h2',rfl⟩:=Zbn (f:=.cut n) h4
        simp only[List.cons.injEq,DV.sl.injEq,and_true]at eq
        obtain⟨⟨rfl,rfl⟩,rfl,rfl⟩:=eq
        obtain⟨e',av,-,-,h8,h9⟩:=hm.live hlive
        have hav:opnd tm x=av:=by
         have:=hv ho
         generalize opnd tm x=av' at this
         cases this with
         | one1 _ _ q1 _=>rw[q1]at h8;exact Option.some.inj h8
        have hls:=ZdQ q2
        have hhs:=ZdQ q3
        have hbo:=bndV tm (lenI (opnd tm x)) hi
        rw[hav]at l1
        rcases h9 with rfl | ⟨id,s,cap,rows,rfl,-,-,-,-,-,-,-,hcap⟩
        ·simp only[toD,oI,DV.sl.injEq]at l1
         obtain⟨-,rfl⟩:=l1
         simp at hq1
        ·obtain⟨rfl,hss⟩:=Zmm l1
         obtain rfl:=hss (by omega)
         subst hs'
         have hpos:0<s':=by
          rcases Nat.eq_zero_or_pos s' with e0 | e0
          ·rw[e0]at hn0;cases hn0
          ·exact e0
         have hcut:cutV P t (opnd tm x) (bndV tm 0 lo).v (bndV tm (lenI (opnd tm x)) hi).v=⟨s'=s'∧0<s'∧0≤lv∧lv≤hv'∧hv'≤((xs'.map (·.map AV.d)).length:Int),.xs id (0+(if lv.toNat<cap then lv.toNat * s' else 0)) s' (cap - lv.toNat) (((xs'.map (·.map AV.d)).take hv'.toNat).drop lv.toNat)⟩:=by
          rw[hls,hhs,hav]
          simp only[cutV,hel]
         refine⟨⟨hx,k2,k3,?_⟩,?_⟩
         ·rw[hcut]
          exact⟨rfl,hpos,h0,h1,by simpa using h2'⟩
         ·show RV _ _ (cutV P t (opnd tm x) (bndV tm 0 lo).v (bndV tm (lenI (opnd tm x)) hi).v).v
          rw[hcut,← ZaZ,← ZaZ]
          show RV _ _ (.xs id (0+(if lv.toNat<cap then lv.toNat * s' else 0)) s' (cap - lv.toNat) (((xs'.map (·.map AV.d)).take hv'.toNat).drop lv.toNat))
          rw[← List.map_take,← List.map_drop]
          refine .xc (E:=((E.push l).push li).push l2) (h:=hv'.toNat) rfl h5 ?_ (At.ev_mono (At.ev_mono (At.ev_mono e2 l) li) l2) h0 (by omega) (by omega) h8
          simp only[dvo]at o1
          rw[ZcD]at o1 ⊢
          exact fun y hy=>o1 y (List.mem_of_mem_take (List.mem_of_mem_drop hy))
      ·simp[run]at hr
     ·simp[run]at hr
omit hc hm hs hg in
theorem ZpP {pl:Nat→Option (Nat×Nat)}{size:Nat}{a:At}{m:BM}:∀(ks:List Nat) {vs:List SV} {as:List AV} {ov ov':List (Nat×Nat×SV)} {cs:List AV},ks.length=as.length→fillS pl size ks vs ov=some ov'→vs.length=as.length →
  (∀(i:Nat) (v:SV) (x:AV),vs[i]?=some v→as[i]?=some x→RV E v x)→RB E a size m ov cs→∃cs',fillA pl cs (ks.zip as)=some cs'∧RB E a size m ov' cs'
 | [],vs,as,ov,ov',cs,hl,hf,hv,hr,hb=>by
  simp only[fillS,oI]at hf
  subst hf
  exact⟨cs,rfl,hb⟩
 | k::ks,[],as,ov,ov',cs,hl,hf,hv,hr,hb=>by
  simp only[List.length_nil]at hv
  rw[← hv]at hl
  simp at hl
 | k::ks,v::vs,[],ov,ov',cs,hl,hf,hv,hr,hb=>by simp at hl
 | k::ks,v::vs,x::as,ov,ov',cs,hl,hf,hv,hr,hb=>by
  simp only[fillS]at hf
  cases hp:pl k with
  | none=>rw[hp]at hf;cases hf
  | some q=>
   obtain⟨o,n⟩:=q
   rw[hp]at hf
   simp only at hf
   split at hf
   ·rename_i hcnd
    simp only[bA,decide_eq_true_eq]at hcnd
    obtain⟨⟨h1,h2⟩,h3⟩:=hcnd
    have hx:=hr 0 v x rfl rfl
    have hsz:(Zak x).length=n:=by rw[hx.szV];exact nbeq h1
    have hlen:=hb.len
    obtain⟨cs',h4,h5⟩:=ZpP ks (by simpa using hl) hf (by simpa using hv) (fun i v' x' h6 h7=>hr (i+1) v' x' (by simpa using h6) (by simpa using h7)) (hb.wr hx hsz (hx.ZaQ h2) (by omega))
    refine⟨cs',?_,h5⟩
    simp only[List.zip_cons_cons,fillA,hp]
    rw[if_pos ⟨hsz,by omega,hx.ZaQ h2⟩]
    exact h4
   ·cases hf
omit hm hs hg in
theorem plS_eq {t:TypeId}{i:TI}(hi:cf.ti t=some i)(ha:i.arr=none)(k:Nat):plS i k=plc (flds P t)[k]?:=by
 simp only[plS,ha,(hc.ti t i hi).flds k]
 cases i.flds[k]? with
 | none=>rfl
 | some x=>rfl
theorem p_build {t:TypeId}{ps:Array (Nat×Operand)}(hx:(ps.toList.all fun p=>opOk p.2)=true)(hr:run Γ (sxP cf S g sl (.build t ps) K) E.ρ=some r):PRun P tm st (.build t ps) Γ K S E on r:=by
 simp only[sxP,ZaT,ZbK,Zcw,Za0,ZaM,ZbL,ZaN,ZbM,Za1,ZaU,Zar,ZbN,Zcx,ZbO,Zcy]at hr
 cases hi:cf.ti t with
 | none=>simp only[hi]at hr;simp[run]at hr
 | some i=>
  have hti:=hc.ti t i hi
  simp only[hi]at hr
  split at hr
  ·rename_i hkd
   have hmap:(ps.toList.map fun p=>opd sl p.2)=(ps.toList.map (·.2)).map (opd sl):=by simp
   rw[hmap]at hr
   obtain⟨vs,hr,hl,hvs⟩:=Zeu hm hs hg (by simpa[List.all_map] using hx) hr
   cases hf:fillS (plS i) i.size (ps.toList.map (·.1)) vs [] with
   | none=>simp only[hf]at hr;simp[run]at hr
   | some ov=>
    simp only[hf]at hr
    refine PRun.here hr fun ho=>?_
    have hb0:RB E (.c i.zero) i.size .z [] (i.zero.map cv):=⟨_,[],.z hti.zlen hti.zok,AccR.nil E,rfl⟩
    obtain⟨cs',h1,h2⟩:=ZpP (ps.toList.map (·.1)) (as:=(ps.toList.map (·.2)).map (opnd tm)) (by simp) hf (by simp[hl]) (hvs ho) hb0
    have hz:(ps.toList.map (·.1)).zip ((ps.toList.map (·.2)).map (opnd tm))=Zcr tm ps:=by
     simp only[Zcr,List.map_map]
     rw[List.zip_map']
     rfl
    rw[hz]at h1
    have hbd:(ZgO P t (Zcr tm ps)).ok∧(ZgO P t (Zcr tm ps)).v=.agg cs':=by
     unfold ZgO
     rw[hti.zero]
     simp only
     cases ha:i.arr with
     | some y=>
      obtain⟨m,e,n⟩:=y
      have hpl:plS i=fun k=>some (k * n,n):=by funext k;simp[plS,ha]
      rw[hti.arr,ha]
      simp only
      rw[hpl]at h1
      rw[h1]
      exact⟨trivial,rfl⟩
     | none=>
      have hpl:plS i=fun k=>plc (flds P t)[k]?:=funext fun k=>plS_eq hc hi ha k
      rw[hti.arr,ha]
      simp only
      rw[hpl]at h1
      rw[h1]
      refine⟨⟨?_,?_⟩,rfl⟩
      ·rw[List.all_eq_true]
       intro y hy
       obtain⟨k,hk⟩:=List.getElem?_of_mem hy
       rw[hti.flds k]at hk
       cases hq:i.flds[k]? with
       | none=>rw[hq]at hk;cases hk
       | some q=>rw[hq]at hk;cases hk;rfl
      ·simp only[ha,Option.isSome_none,Bool.false_or]at hkd
       exact hti.str (nbeq hkd)
    exact⟨⟨hx,hbd.1⟩,by show RV E _ (ZgO P t (Zcr tm ps)).v;rw[hbd.2];exact h2.agg⟩
  ·simp[run]at hr
theorem p_len {c:Call}{x:Operand}(hcal:c.callee=.builtin .len)(harg:c.args.toList=[x])(hx:opOk x=true)(hr:run Γ (sxP cf S g sl (.call c) K) E.ρ=some r):PRun P tm st (.call c) Γ K S E on r:=by
 simp only[sxP,ZaT,ZbK,Zcw,Za0,ZaM,ZbL,ZaN,ZbM,Za1,ZaU,Zar,ZbN,Zcx,ZbO,Zcy,hcal,harg]at hr
 obtain⟨v,hr,hv⟩:=Zbs hm (ZbA hm hs hx) hg hr
 have hkv:kv P tm st (.call c)=ZfT P tm (.builtin .len) [x] c.argTypes.toList:=by simp only[kv,ev,hcal,harg]
 have hty:∀k:Nat,lenK cf c.argTypes.toList=k→k≠99→∃t i,c.argTypes.toList=[t]∧cf.ti t=some i∧i.kind=k:=by
  intro k hk hne
  unfold lenK at hk
  split at hk
  ·rename_i t ht
   unfold kindOf at hk
   split at hk
   ·rename_i i hi;exact⟨t,i,ht,hi,hk⟩
   ·exact absurd hk.symm hne
  ·exact absurd hk.symm hne
 cases v <;> try (simp[run]at hr;done)
 ·rename_i a o
  simp only at hr
  split at hr
  ·rename_i hk
   obtain⟨t,i,h1,h2,h3⟩:=hty 2 (nbeq hk) (by decide)
   refine PRun.emit1 hm.nv hg hr fun ho rs z hrs hz=>?_
   obtain⟨d1,e1,o1,l1⟩:=(hv ho).one_toD
   obtain rfl:=evs1 e1 hrs
   obtain⟨s,e,rfl⟩:=Zbn (f:=.slen) hz
   simp only[List.cons.injEq,and_true]at e
   subst e
   rw[hkv,h1]
   have hu:=(hc.ti t i h2).kind2 h3
   simp only[ZfT,Zkg,(hv ho).lit e1,lenOf,lenTy,hu]
   exact⟨⟨hx,trivial⟩,_,rfl,rfl,rfl⟩
  ·split at hr
   ·rename_i hk
    obtain⟨t,i,h1,h2,h3⟩:=hty 3 (nbeq hk) (by decide)
    refine PRun.emit1 hm.nv hg hr fun ho rs z hrs hz=>?_
    obtain⟨d1,e1,o1,l1⟩:=(hv ho).one_toD
    obtain rfl:=evs1 e1 hrs
    obtain⟨s,xs,e,rfl⟩:=Zbn (f:=.len) hz
    simp only[List.cons.injEq,and_true]at e
    subst e
    rw[hkv,h1]
    obtain⟨e',hu⟩:=(hc.ti t i h2).kind3 h3
    have hlo:lenOf (opnd tm x)=some (xs.length,false):=toD_len l1
    simp only[ZfT,Zkg,hlo,lenTy,hu]
    exact⟨⟨hx,trivial⟩,_,rfl,rfl,rfl⟩
   ·simp[run]at hr
 ·rename_i s rows
  simp only at hr
  split at hr
  ·rename_i hk
   obtain⟨t,i,h1,h2,h3⟩:=hty 3 (nbeq hk) (by decide)
   refine PRun.here hr fun ho=>?_
   obtain⟨e',hu⟩:=(hc.ti t i h2).kind3 h3
   rw[hkv,h1]
   have h4:=hv ho
   generalize hxe:opnd tm x=av at h4
   cases h4 with
   | psl hl hl2 hvv=>
    simp only[ZfT,Zkg,hxe,lenOf,lenTy,hu]
    refine⟨⟨hx,trivial⟩,?_⟩
    rw[← hl]
    exact .one0 rfl rfl
  ·simp[run]at hr
 ·rename_i s rows gx
  simp only at hr
  split at hr
  ·rename_i hk
   obtain⟨t,i,h1,h2,h3⟩:=hty 3 (nbeq hk) (by decide)
   refine PRun.here hr fun ho=>?_
   obtain⟨e',hu⟩:=(hc.ti t i h2).kind3 h3
   rw[hkv,h1]
   have h4:=hv ho
   generalize hxe:opnd tm x=av at h4
   cases h4 with
   | psx hgv hl hl2 hvv=>
    simp only[ZfT,Zkg,hxe,lenOf,lenTy,hu]
    refine⟨⟨hx,trivial⟩,?_⟩
    rw[← hl]
    exact .one0 rfl rfl
  ·simp[run]at hr
theorem p_mm {c:Call}{x y:Operand}{mx:Bool}(hcal:c.callee=.builtin (if mx=true then .max else .min))(harg:c.args.toList=[x,y])(hx:opOk x=true)(hy:opOk y=true)(hr:run Γ (sxP cf S g sl (.call c) K) E.ρ=some r):PRun P tm st (.call c) Γ K S E on r:=by
 have _:=hc
 have hkv:kv P tm st (.call c)=ZfT P tm c.callee [x,y] c.argTypes.toList:=by simp only[kv,ev,harg]
 have hr':run Γ (use1 S g (opd sl x) fun a _=>use1 S g (opd sl y) fun b _=>emit S g (.mm mx) [a,b] fun S r=>K S (.one r none)) E.ρ=some r:=by
  simp only[sxP,ZaT,ZbK,Zcw,Za0,ZaM,ZbL,ZaN,ZbM,Za1,ZaU,Zar,ZbN,Zcx,ZbO,Zcy,hcal,harg]at hr
  cases mx <;> exact hr
 clear hr
 obtain⟨a,o,hr,hv⟩:=Zde hm (ZbA hm hs hx) hg hr'
 obtain⟨b,o',hr,hu⟩:=Zde hm (ZbA hm hs hy) hg hr
 refine PRun.emit1 hm.nv hg hr fun ho rs z hrs hz=>?_
 obtain⟨d1,e1,o1,l1⟩:=(hv ho).one_toD
 obtain⟨d2,e2,o2,l2⟩:=(hu ho).one_toD
 obtain rfl:=evs2 e1 e2 hrs
 obtain⟨k,m,n,e,rfl⟩:=Zbn (f:=.mm mx) hz
 simp only[List.cons.injEq,and_true]at e
 obtain⟨rfl,rfl⟩:=e
 rw[hkv,hcal]
 cases mx <;> simp only[if_true,bF,if_false,ZfT,mmV,ZnF,(hv ho).lit e1,(hu ho).lit e2] <;> exact⟨⟨hx,hy,trivial⟩,_,rfl,rfl,rfl⟩
end
end Go.AW

namespace Go.AW
open Go.RowKit
section
variable {P:Program}{cf:Cf}{C:Ctx}{E:En}{S:SS}{st:St}{sl:List (Nat×SE)}{tm:Tm}{Γ:Den}{r:Rs}{g:Option At}{on:Bool}{K:KV}
theorem ZfX {c:Call}{x:Operand}(h:x∈c.args.toList):x∈(Op.call c).operands.toList:=by
 simp only[Op.operands,Call.operands]
 cases c.callee <;> simp[h]
theorem ZpQ (hc:CfOk P cf)(hm:RM P C E S st)(hs:RTS E sl tm)(hg:gate E.ρ g=some on){op:Op}(hx:op.operands.toList.all opOk=true)(hr:run Γ (sxP cf S g sl op K) E.ρ=some r):PRun P tm st op Γ K S E on r:=by
 have hmem:∀x,x∈op.operands.toList→opOk x=true:=fun x h=>List.all_eq_true.1 hx x h
 cases op <;> try (simp[sxP,ZaT,ZbK,Zcw,Za0,ZaM,ZbL,ZaN,ZbM,Za1,ZaU,Zar,ZbN,Zcx,ZbO,Zcy,run]at hr;done)
 case move x=>exact Zri hm hs hg rfl (hmem x (by simp[Op.operands])) hr
 case assign x=>exact Zri hm hs hg rfl (hmem x (by simp[Op.operands])) hr
 case nilCheck x=>exact Zoz hc hm hs hg (hmem x (by simp[Op.operands])) hr
 case binOp op t x y ty=>exact p_binOp hc hm hs hg (hmem x (by simp[Op.operands])) (hmem y (by simp[Op.operands])) hr
 case unOp op t x=>exact p_unOp hc hm hs hg (hmem x (by simp[Op.operands])) hr
 case convert s t x=>exact ZpK hc hm hs hg (hmem x (by simp[Op.operands])) hr
 case fieldAddr s x f=>exact Zne hc hm hs hg (hmem x (by simp[Op.operands])) hr
 case field s x f=>exact p_field hc hm hs hg (hmem x (by simp[Op.operands])) hr
 case indexAddr t x i=>exact Znf hc hm hs hg (hmem x (by simp[Op.operands])) (hmem i (by simp[Op.operands])) hr
 case index t x i=>exact p_index hc hm hs hg (hmem x (by simp[Op.operands])) (hmem i (by simp[Op.operands])) hr
 case extract x i=>exact ZpM hm hs hg (hmem x (by simp[Op.operands])) hr
 case makeFunc f fs cs=>exact ZoA hm hs hg (List.all_eq_true.2 fun x h=>hmem x (by simp[Op.operands];exact .inl (by simpa using h))) (List.all_eq_true.2 fun x h=>hmem x (by simp[Op.operands];exact .inr (by simpa using h))) hr
 case makeInterface t x=>exact ZjM hc hm hs hg (hmem x (by simp[Op.operands])) hr
 case load t x=>exact Zrk hc hm hs hg (hmem x (by simp[Op.operands])) hr
 case build t ps=>exact p_build hc hm hs hg (List.all_eq_true.2 fun x h=>hmem x.2 (by simp only[Op.operands];exact List.mem_map_of_mem h)) hr
 case slice t x lo hi mx=>
  cases mx with
  | some m=>simp[sxP,ZaT,ZbK,Zcw,Za0,ZaM,ZbL,ZaN,ZbM,Za1,ZaU,Zar,ZbN,Zcx,ZbO,Zcy,run]at hr
  | none=>exact p_slice hc hm hs hg (hmem x (by simp[Op.operands])) (fun y hy=>hmem y (by simp[Op.operands,hy])) (fun y hy=>hmem y (by simp[Op.operands,hy])) hr
 case call c=>
  have hr0:=hr
  simp only[sxP,ZaT,ZbK,Zcw,Za0,ZaM,ZbL,ZaN,ZbM,Za1,ZaU,Zar,ZbN,Zcx,ZbO,Zcy]at hr
  split at hr
  ·rename_i x h1 h2
   exact p_len hc hm hs hg h1 h2 (hmem x (ZfX (by rw[h2];simp))) hr0
  ·rename_i x y h1 h2
   exact p_mm (mx:=true) hc hm hs hg h1 h2 (hmem x (ZfX (by rw[h2];simp))) (hmem y (ZfX (by rw[h2];simp))) hr0
  ·rename_i x y h1 h2
   exact p_mm (mx:=false) hc hm hs hg h1 h2 (hmem x (ZfX (by rw[h2];simp))) (hmem y (ZfX (by rw[h2];simp))) hr0
  ·simp[run]at hr
theorem ZpR (hm:RM P C E S st){a:At}{w:Bool}{c:Option At}{x:Option At×At×Bool×At}
  (hf:S.ac.find? (fun y=>eqA y.2.1 a&&(y.2.2.1==w)&&(match y.1,c with | none,none=>true | some p,some q=>eqA p q | _,_=>false))=some x) :
  x.1=c∧x.2.1=a∧x.2.2.1=w∧AcOk E.ρ x:=by
 obtain⟨h1,h2⟩:=Ziu hm hf
 obtain⟨p,a',w',k⟩:=x
 simp only[bA]at h2
 refine⟨?_,ZdF h2.1.1,eq_of_beq h2.1.2,h1⟩
 have h3:=h2.2
 cases p with
 | none=>cases c with
  | none=>rfl
  | some q=>cases h3
 | some p=>cases c with
  | none=>cases h3
  | some q=>rw[ZdF h3]
theorem Zgg (hm:RM P C E S st){c:Option At}{a:At}{w:Bool}{x:Option At}(h:Zkr S g c a w x=true)(hg:gate E.ρ g=some true)(hcg:∀p,c=some p→p.ev E.ρ=some [.lit (.bool true)])(ha:a.ev E.ρ=some [.lit (.bool w)]) :
  ∀p,x=some p→p.ev E.ρ=some [.lit (.bool true)]:=by
 simp only[Zkr,Bool.or_eq_true]at h
 rcases h with h | h
 ·exact Ziv hm 50 h hg
 ·split at h
  ·rename_i p a' w' k hf
   obtain⟨h1,h2,h3,h4⟩:=ZpR hm hf
   simp only at h1 h2 h3
   subst h1;subst h2;subst h3
   have hk:k.ev E.ρ=some [.lit (.bool true)]:=by
    cases p with
    | none=>
     obtain⟨b,e1,e2⟩:=h4
     rw[ha]at e1
     cases e1
     simpa using e2
    | some p=>
     obtain⟨d,e1,e2,e3⟩:=h4
     rw[hcg p rfl]at e1
     cases e1
     obtain⟨b,e4,e5⟩:=e3 rfl
     rw[ha]at e4
     cases e4
     simpa using e5
   exact Ziv hm 50 h (by simp[gate,hk])
  ·cases h
theorem RSE.rv {e:SE}{av:AV}(h:RSE E e av)(hg:∀p,e.g=some p→p.ev E.ρ=some [.lit (.bool true)]):RVd E e.v av:=by
 obtain⟨g,v⟩:=e
 cases g with
 | none=>exact h
 | some a=>
  obtain⟨b,h1,h2,-⟩:=h
  rw[hg a rfl]at h1
  cases h1
  exact h2 rfl
theorem RSE.of_opd (hm:RM P C E S st)(hs:RTS E sl tm){x:Operand}(hx:opOk x=true){a:At}{o:Option GK}(h:(opd sl x).v=.one a o):RSE E (opd sl x) (opnd tm x):=by
 rcases ZbA hm hs hx with e | e
 ·rw[e]at h;cases h
 ·exact e
theorem Zkx (hm:RM P C E S st)(hs:RTS E sl tm)(hg:gate E.ρ g=some on){c x y:Operand}(hc:opOk c=true)(hx:opOk x=true)(hy:opOk y=true)(hr:run Γ (ZnR S g (opd sl c) (opd sl x) (opd sl y) K) E.ρ=some r):PRun P tm st (.pick c x y) Γ K S E on r:=by
 unfold ZnR at hr
 have hcu:∀(hr:run Γ (use1 S g (opd sl c) fun a _=>match asB a with
   | some true=>useV S g (opd sl x) fun v=>K S v
   | some false=>useV S g (opd sl y) fun v=>K S v
   | none=>match (opd sl x).v,(opd sl y).v with
    | .one u _,.one v _=>if (Zkr S g (opd sl c).g a true (opd sl x).g&&Zkr S g (opd sl c).g a false (opd sl y).g)=true then pickC S g a (kn1 S u) (kn1 S v) fun S r=>K S (.one r none)else .err 31 []
    | _,_=>.err 32 []) E.ρ=some r),on=true→∀p,(opd sl c).g=some p→p.ev E.ρ=some [.lit (.bool true)]:=by
  intro hr ho
  unfold use1 useV at hr
  generalize opd sl c=e at hr
  obtain⟨ge,v⟩:=e
  have:impl S 50 g ge=true:=by
   cases v <;> simp only at hr <;> first | (simp[run]at hr;done) | (split at hr <;> first | assumption | (simp[run]at hr;done))
  subst ho
  exact Ziv hm 50 this hg
 have hcg:=hcu hr
 obtain⟨a,o,hr,hv⟩:=Zde hm (ZbA hm hs hc) hg hr
 have hkv:kv P tm st (.pick c x y)=ev P tm (.pick c x y):=rfl
 split at hr
 ·rename_i hb
  obtain⟨v,hr,hu⟩:=Zbs hm (ZbA hm hs hx) hg hr
  refine PRun.here hr fun ho=>?_
  have ec:=(hv ho).lit (Zh5 hb E.ρ)
  rw[hkv]
  simp only[ev,ec,if_true]
  exact⟨⟨hx,hy,hc⟩,hu ho⟩
 ·rename_i hb
  obtain⟨v,hr,hu⟩:=Zbs hm (ZbA hm hs hy) hg hr
  refine PRun.here hr fun ho=>?_
  have ec:=(hv ho).lit (Zh5 hb E.ρ)
  rw[hkv]
  simp only[ev,ec,bF,if_false]
  exact⟨⟨hx,hy,hc⟩,hu ho⟩
 ·split at hr
  ·rename_i u ou w ow hxv hyv
   split at hr
   ·rename_i hside
    simp only[bA]at hside
    unfold pickC at hr
    split at hr
    ·rename_i hsame
     obtain⟨wv,eu,ew⟩:∃wv,kn1 S u=.c [.lit wv]∧kn1 S w=.c [.lit wv]:=by
      unfold sameC at hsame
      split at hsame
      ·rename_i p q e1 e2
       rw[Zre hsame]at e1
       exact⟨_,e1,e2⟩
      ·cases hsame
     rw[eu]at hr
     obtain⟨l,b,h1,h2⟩:=Zbr hr hm.nv hg
     refine PRun.mk' l _ h1 fun ho=>?_
     obtain⟨rs,z,h3,h4,h5⟩:=h2 ho
     have hgt:gate E.ρ g=some true:=by rw[hg,ho]
     obtain⟨d1,e1,o1,l1⟩:=(hv ho).one_toD
     obtain rfl:=evs1 e1 h3
     obtain⟨bb,e,-⟩:=Zbn (f:=.asb) h4
     simp only[List.cons.injEq,and_true]at e
     subst e
     have ec:=(hv ho).lit e1
     rw[PGood,hkv]
     simp only[ev,ec]
     refine⟨⟨hx,hy,hc⟩,?_⟩
     have side:∀{z:Operand} {uu:At} {oo:Option GK},opOk z=true→(opd sl z).v=.one uu oo→(∀p,(opd sl z).g=some p→p.ev E.ρ=some [.lit (.bool true)])→kn1 S uu=.c [.lit wv]→RV (E.push l) (.one (.c [.lit wv]) none) (opnd tm z):=by
      intro z uu oo hz hzv hgd hk
      have hrs:=RSE.of_opd hm hs hz hzv
      have hrv:=hrs.rv hgd
      rw[hzv]at hrv
      have hrv:RV E (.one uu oo) (opnd tm z):=by
       rcases hrv with⟨k,hk⟩ | hrv
       ·cases hk
       ·exact hrv
      have hev:uu.ev E.ρ=some [.lit wv]:=Zd6 hm (by rw[hk];rfl)
      have hd:dvo (.lit wv)=true:=by
       obtain⟨d,q1,q2,-⟩:=hrv.one_toD
       rw[hev]at q1
       cases q1;exact q2
      rw[hrv.lit hev]
      exact .one0 rfl hd
     cases bb with
     | true=>
      simp only[if_true]
      exact side hx hxv (Zgg hm hside.1 hgt (hcg ho) e1) eu
     | false=>
      simp only[bF,if_false]
      exact side hy hyv (Zgg hm hside.2 hgt (hcg ho) e1) ew
    split at hr
    ·rename_i htf
     obtain⟨eu,ew⟩:kn1 S u=.c [.lit (.bool true)]∧kn1 S w=.c [.lit (.bool false)]:=by
      unfold isTF at htf
      split at htf
      ·rename_i e1 e2
       exact⟨e1,e2⟩
      ·cases htf
     obtain⟨l,b,h1,h2⟩:=Zbr hr hm.nv hg
     refine PRun.mk' l _ h1 fun ho=>?_
     obtain⟨rs,z,h3,h4,h5⟩:=h2 ho
     have hgt:gate E.ρ g=some true:=by rw[hg,ho]
     obtain⟨d1,e1,o1,l1⟩:=(hv ho).one_toD
     obtain rfl:=evs1 e1 h3
     obtain⟨bb,e,-⟩:=Zbn (f:=.asb) h4
     simp only[List.cons.injEq,and_true]at e
     subst e
     have ec:=(hv ho).lit e1
     rw[PGood,hkv]
     simp only[ev,ec]
     refine⟨⟨hx,hy,hc⟩,?_⟩
     have side:∀{z:Operand} {uu:At} {oo:Option GK} {wb:Bool},opOk z=true→(opd sl z).v=.one uu oo→(∀p,(opd sl z).g=some p→p.ev E.ρ=some [.lit (.bool true)])→kn1 S uu=.c [.lit (.bool wb)]→opnd tm z=.d (.lit (.bool wb)):=by
      intro z uu oo wb hz hzv hgd hk
      have hrs:=RSE.of_opd hm hs hz hzv
      have hrv:=hrs.rv hgd
      rw[hzv]at hrv
      have hrv:RV E (.one uu oo) (opnd tm z):=by
       rcases hrv with⟨k,hk⟩ | hrv
       ·cases hk
       ·exact hrv
      exact hrv.lit (Zd6 hm (by rw[hk];rfl))
     cases bb with
     | true=>
      simp only[if_true]
      rw[side hx hxv (Zgg hm hside.1 hgt (hcg ho) e1) eu]
      exact .one0 (At.ev_mono e1 l) rfl
     | false=>
      simp only[bF,if_false]
      rw[side hy hyv (Zgg hm hside.2 hgt (hcg ho) e1) ew]
      exact .one0 (At.ev_mono e1 l) rfl
    obtain⟨l,b,h1,h2⟩:=Zbr hr hm.nv hg
    refine PRun.mk' l _ h1 fun ho=>?_
    obtain⟨rs,z,h3,h4,h5⟩:=h2 ho
    have hgt:gate E.ρ g=some true:=by rw[hg,ho]
    obtain⟨d1,e1,o1,l1⟩:=(hv ho).one_toD
    obtain⟨bb,y1,y2,v,e,hsel,rfl⟩:=Zbn (f:=.pick) h4
    have hev:a.ev E.ρ=some [.lit (.bool bb)]∧(kn1 S u).ev E.ρ=some y1∧(kn1 S w).ev E.ρ=some y2:=by
     subst e
     simp only[evs]at h3
     cases q1:a.ev E.ρ with
     | none=>rw[q1]at h3;cases h3
     | some r1=>
      cases q2:(kn1 S u).ev E.ρ with
      | none=>rw[q1,q2]at h3;cases h3
      | some r2=>
       cases q3:(kn1 S w).ev E.ρ with
       | none=>rw[q1,q2,q3]at h3;cases h3
       | some r3=>
        rw[q1,q2,q3]at h3
        simp only[oI,List.cons.injEq,and_true]at h3
        obtain⟨rfl,rfl,rfl⟩:=h3
        exact⟨rfl,rfl,rfl⟩
    obtain⟨ea,eu,ew⟩:=hev
    have ec:=(hv ho).lit ea
    rw[PGood,hkv]
    simp only[ev,ec]
    refine⟨⟨hx,hy,hc⟩,?_⟩
    cases bb with
    | true=>
     simp only[if_true]at hsel ⊢
     subst hsel
     have hrs:=RSE.of_opd hm hs hx hxv
     have hrv:=hrs.rv (Zgg hm hside.1 hgt (hcg ho) ea)
     rw[hxv]at hrv
     have hrv:RV E (.one u ou) (opnd tm x):=by
      rcases hrv with⟨k,hk⟩ | hrv
      ·cases hk
      ·exact hrv
     rw[hrv.lit (Zd6 hm eu)]
     have hd:dvo (.lit v)=true:=by
      obtain⟨d,q1,q2,-⟩:=hrv.one_toD
      rw[Zd6 hm eu]at q1
      cases q1;exact q2
     exact .one0 h5 hd
    | false=>
     simp only[bF,if_false]at hsel ⊢
     subst hsel
     have hrs:=RSE.of_opd hm hs hy hyv
     have hrv:=hrs.rv (Zgg hm hside.2 hgt (hcg ho) ea)
     rw[hyv]at hrv
     have hrv:RV E (.one w ow) (opnd tm y):=by
      rcases hrv with⟨k,hk⟩ | hrv
      ·cases hk
      ·exact hrv
     rw[hrv.lit (Zd6 hm ew)]
     have hd:dvo (.lit v)=true:=by
      obtain⟨d,q1,q2,-⟩:=hrv.one_toD
      rw[Zd6 hm ew]at q1
      cases q1;exact q2
     exact .one0 h5 hd
   ·simp[run]at hr
  ·simp[run]at hr
end
end Go.AW

namespace Go.AW
open Go.RowKit
section
variable {P:Program}{C:Ctx}{E:En}{S:SS}{st:St}
theorem RM.addKn (h:RM P C E S st){i:Nat}{b:Bool}(hi:E.ρ[i]?=some [.lit (.bool b)]):RM P C E { S with kn:=(i,b)::S.kn } st:=by
 refine { h with kn:=?_ }
 intro j c hj
 rcases List.mem_cons.1 hj with e | e
 ·cases e;exact hi
 ·exact h.kn j c e
theorem RM.addAc (h:RM P C E S st){x:Option At×At×Bool×At}(hx:AcOk E.ρ x):RM P C E { S with ac:=x::S.ac } st:=by
 refine { h with ac:=?_ }
 intro y hy
 rcases List.mem_cons.1 hy with rfl | e
 ·exact hx
 ·exact h.ac y e
theorem Zh7 {ρ:List Row}{p a k:At}{w c:Bool}(h1:p.ev ρ=some [.lit (.bool c)])(h2:c=false→k.ev ρ=some [.lit (.bool false)])(h3:c=true→∃b,a.ev ρ=some [.lit (.bool b)]∧k.ev ρ=some [.lit (.bool (b==w))]):AcOk ρ (some p,a,w,k):=⟨c,h1,h2,h3⟩
structure Kn (S S':SS):Prop where
 nv:S'.nv=S.nv
 ob:S'.ob=S.ob
 nw:S'.nw=S.nw
 nb:S'.nb=S.nb
 gr:S'.gr=S.gr
 ac:S'.ac=S.ac
 org:S'.org=S.org
theorem Kn.refl (S:SS):Kn S S:=⟨rfl,rfl,rfl,rfl,rfl,rfl,rfl⟩
theorem Kn.trans {a b c:SS}(h:Kn a b)(h':Kn b c):Kn a c:=⟨h'.nv.trans h.nv,h'.ob.trans h.ob,h'.nw.trans h.nw,h'.nb.trans h.nb,h'.gr.trans h.gr,h'.ac.trans h.ac,h'.org.trans h.org⟩
theorem Zd7:∀(n:Nat) {S:SS} {c:At} {b:Bool},RM P C E S st→c.ev E.ρ=some [.lit (.bool b)]→RM P C E (learn n S c b) st∧Kn S (learn n S c b)
 | 0,S,c,b,h,hc=>⟨h,Kn.refl S⟩
 | n+1,S,c,b,h,hc=>by
  simp only[learn]
  split
  ·rename_i i hk
   have hi:E.ρ[i]?=some [.lit (.bool b)]:=by
    have:=Zgf h hc
    rw[hk]at this;exact this
   have h1:=h.addKn hi
   have k1:Kn S { S with kn:=(i,b)::S.kn }:=⟨rfl,rfl,rfl,rfl,rfl,rfl,rfl⟩
   split
   ·rename_i a w k hf
    obtain⟨hx,hp⟩:=Ziu h1 hf
    split
    ·exact⟨h1,k1⟩
    ·obtain⟨ba,e1,e2⟩:=hx
     have:k=c:=ZdF hp
     subst this
     rw[hc]at e2
     simp only[oI,List.cons.injEq,DV.lit.injEq,Value.bool.injEq,and_true]at e2
     have hba:ba=if b=true then w else !w:=by subst e2;cases ba <;> cases w <;> rfl
     obtain⟨h2,k2⟩:=Zd7 n h1 (c:=a) (b:=if b=true then w else !w) (by rw[← hba];exact e1)
     exact⟨h2,k1.trans k2⟩
   ·rename_i p a w k hf
    obtain⟨hx,hp⟩:=Ziu h1 hf
    split
    ·rename_i hb
     subst hb
     obtain⟨d,e1,e2,e3⟩:=hx
     have:k=c:=ZdF hp
     subst this
     have hd:d=true:=by
      cases d with
      | true=>rfl
      | false=>have:=e2 rfl;simp only at this;rw[hc]at this;cases this
     subst hd
     obtain⟨ba,e4,e5⟩:=e3 rfl
     simp only at e5
     rw[hc]at e5
     simp only[oI,List.cons.injEq,DV.lit.injEq,Value.bool.injEq,and_true]at e5
     have hba:ba=w:=eq_of_beq e5.symm
     obtain⟨h2,k2⟩:=Zd7 n h1 e1
     obtain⟨h3,k3⟩:=Zd7 n h2 (c:=a) (b:=w) (by rw[← hba];exact e4)
     exact⟨h3,k1.trans (k2.trans k3)⟩
    ·exact⟨h1,k1⟩
   ·exact⟨h1,k1⟩
  ·exact⟨h,Kn.refl S⟩
theorem ZnY (h:RM P C E S st):∀(n:Nat) {c:At} {b:Bool},c.ev E.ρ=some [.lit (.bool b)] →
  ((∀x∈parts S n c,x.1.ev E.ρ=some [.lit (.bool x.2)])→b=true)∧((∃x∈parts S n c,x.1.ev E.ρ=some [.lit (.bool (!x.2))])→b=false)
 | 0,c,b,hc=>by
  simp only[parts,List.mem_singleton,forall_eq,exists_eq_left]
  constructor
  ·intro h1;rw[hc]at h1;cases h1;rfl
  ·intro h1;rw[hc]at h1;cases h1;rfl
 | n+1,c,b,hc=>by
  simp only[parts]
  split
  ·rename_i a w k hf
   obtain⟨hx,hp⟩:=Ziu h hf
   obtain⟨ba,e1,e2⟩:=hx
   have:k=c:=ZdF hp
   subst this
   simp only at e1 e2
   rw[hc]at e2
   simp only[oI,List.cons.injEq,DV.lit.injEq,Value.bool.injEq,and_true]at e2
   subst e2
   simp only[List.mem_singleton,forall_eq,exists_eq_left]
   constructor
   ·intro h1;rw[e1]at h1;cases h1;simp
   ·intro h1;rw[e1]at h1;cases h1;simp
  ·rename_i p a w k hf
   obtain⟨hx,hp⟩:=Ziu h hf
   obtain⟨d,e1,e2,e3⟩:=hx
   have:k=c:=ZdF hp
   subst this
   simp only at e1 e2 e3
   obtain⟨i1,i2⟩:=ZnY h n e1
   constructor
   ·intro h1
    have hd:=i1 fun x hx=>h1 x (List.mem_append.2 (.inl hx))
    obtain⟨ba,e4,e5⟩:=e3 hd
    rw[hc]at e5
    simp only[oI,List.cons.injEq,DV.lit.injEq,Value.bool.injEq,and_true]at e5
    have:=h1 (a,w) (List.mem_append.2 (.inr (List.mem_singleton.2 rfl)))
    simp only at this
    rw[e4]at this
    cases this
    rw[e5];simp
   ·rintro⟨x,hx,hxe⟩
    rcases List.mem_append.1 hx with hx | hx
    ·have hd:=i2 ⟨x,hx,hxe⟩
     have:=e2 hd
     rw[hc]at this
     cases this;rfl
    ·rw[List.mem_singleton]at hx
     subst hx
     simp only at hxe
     cases d with
     | false=>have:=e2 rfl;rw[hc]at this;cases this;rfl
     | true=>
      obtain⟨ba,e4,e5⟩:=e3 rfl
      rw[hc]at e5
      simp only[oI,List.cons.injEq,DV.lit.injEq,Value.bool.injEq,and_true]at e5
      rw[e4]at hxe
      cases hxe
      rw[e5];simp
  ·simp only[List.mem_singleton,forall_eq,exists_eq_left]
   constructor
   ·intro h1;rw[hc]at h1;cases h1;rfl
   ·intro h1;rw[hc]at h1;cases h1;rfl
theorem Zng {Γ:Den}{r:Rs}{a:At}{x y:Tr}{ρ:List Row}(hr:run Γ (.ite a x y) ρ=some r):∃b,a.ev ρ=some [.lit (.bool b)]∧(b=true→run Γ x ρ=some r)∧(b=false→run Γ y ρ=some r):=by
 simp only[run]at hr
 split at hr
 ·rename_i b e
  refine⟨b,e,fun hb=>?_,fun hb=>?_⟩
  ·rw[if_pos hb]at hr;exact hr
  ·rw[if_neg (by rw[hb];decide)]at hr;exact hr
 ·cases hr
theorem Zky {Γ:Den}{r:Rs}{yes no:SS→Tr}:∀(l:List (At×Bool)) {S:SS},RM P C E S st→run Γ (ZiT yes no l S) E.ρ=some r →
  ∃S',RM P C E S' st∧Kn S S'∧((run Γ (yes S') E.ρ=some r∧∀x∈l,x.1.ev E.ρ=some [.lit (.bool x.2)])∨(run Γ (no S') E.ρ=some r∧∃x∈l,x.1.ev E.ρ=some [.lit (.bool (!x.2))]))
 | [],S,h,hr=>⟨S,h,Kn.refl S,.inl ⟨hr,by simp⟩⟩
 | (c,w)::l,S,h,hr=>by
  simp only[ZiT]at hr
  have yesC:∀{S1:SS},RM P C E S1 st→Kn S S1→c.ev E.ρ=some [.lit (.bool w)]→run Γ (ZiT yes no l S1) E.ρ=some r →
    ∃S',RM P C E S' st∧Kn S S'∧((run Γ (yes S') E.ρ=some r∧∀x∈(c,w)::l,x.1.ev E.ρ=some [.lit (.bool x.2)])∨(run Γ (no S') E.ρ=some r∧∃x∈(c,w)::l,x.1.ev E.ρ=some [.lit (.bool (!x.2))])):=by
   intro S1 h1 k1 hcw hr1
   obtain⟨S',h2,k2,h3⟩:=Zky l h1 hr1
   refine⟨S',h2,k1.trans k2,h3.imp (fun⟨q1,q2⟩=>⟨q1,fun x hx=>?_⟩) (fun⟨q1,x,hx,q2⟩=>⟨q1,x,List.mem_cons_of_mem _ hx,q2⟩)⟩
   rcases List.mem_cons.1 hx with rfl | hx
   ·exact hcw
   ·exact q2 x hx
  have noC:∀{S1:SS},RM P C E S1 st→Kn S S1→c.ev E.ρ=some [.lit (.bool (!w))]→run Γ (no S1) E.ρ=some r →
    ∃S',RM P C E S' st∧Kn S S'∧((run Γ (yes S') E.ρ=some r∧∀x∈(c,w)::l,x.1.ev E.ρ=some [.lit (.bool x.2)])∨(run Γ (no S') E.ρ=some r∧∃x∈(c,w)::l,x.1.ev E.ρ=some [.lit (.bool (!x.2))])):=by
   intro S1 h1 k1 hcw hr1
   exact⟨S1,h1,k1,.inr ⟨hr1,(c,w),List.mem_cons_self ..,hcw⟩⟩
  split at hr
  ·rename_i i hk
   split at hr
   ·rename_i hw
    obtain⟨b,e,h1,h2⟩:=Zng hr
    have hcb:=Zd6 h (by rw[hk];exact e)
    cases b with
    | true=>
     obtain⟨h3,k3⟩:=Zd7 20 h hcb
     exact yesC h3 k3 (by rw[hw];exact hcb) (h1 rfl)
    | false=>
     obtain⟨h3,k3⟩:=Zd7 20 h hcb
     exact noC h3 k3 (by rw[hw];exact hcb) (h2 rfl)
   ·rename_i hw
    have hw':w=false:=by simpa using hw
    obtain⟨b,e,h1,h2⟩:=Zng hr
    have hcb:=Zd6 h (by rw[hk];exact e)
    cases b with
    | true=>
     obtain⟨h3,k3⟩:=Zd7 20 h hcb
     exact noC h3 k3 (by rw[hw'];exact hcb) (h1 rfl)
    | false=>
     obtain⟨h3,k3⟩:=Zd7 20 h hcb
     exact yesC h3 k3 (by rw[hw'];exact hcb) (h2 rfl)
  ·split at hr
   ·rename_i b hb
    have hcb:=Zd6 h (Zh5 hb E.ρ)
    split at hr
    ·rename_i hbw
     exact yesC h (Kn.refl S) (by rw[← eq_of_beq hbw];exact hcb) hr
    ·rename_i hbw
     have:b=!w:=by cases b <;> cases w <;> simp_all
     exact noC h (Kn.refl S) (by rw[← this];exact hcb) hr
   ·simp[run]at hr
def GdOk (ρ:List Row)(v:Option Bool):Gd→Prop
 | .yes=>v=some true
 | .no=>v=some false
 | .at a=>∃b,a.ev ρ=some [.lit (.bool b)]∧v=some b
structure Kg (S S':SS)(k:Nat):Prop where
 nv:S'.nv=S.nv+k
 ob:S'.ob=S.ob
 nw:S'.nw=S.nw
 nb:S'.nb=S.nb
 gr:S'.gr=S.gr
theorem Znh {Γ:Den}{r:Rs}{g:Option At}{a:At}{want:Bool}{K:SS→Gd→Tr}{v:Option Bool}(h:RM P C E S st)
  (hv:match g with
   | none=>∀b,a.ev E.ρ=some [.lit (.bool b)]→v=some (b==want)
   | some p=>∃c,p.ev E.ρ=some [.lit (.bool c)]∧(c=false→v=some false)∧(c=true→∀b,a.ev E.ρ=some [.lit (.bool b)]→v=some (b==want)))
  (hr:run Γ (sxG.act S g a want K) E.ρ=some r):∃l S' gd,run Γ (K S' gd) (E.ρ++l)=some r∧RM P C (E.push l) S' st∧Kg S S' l.length∧GdOk (E.ρ++l) v gd:=by
 have here:∀{gd:Gd},run Γ (K S gd) E.ρ=some r→GdOk E.ρ v gd→∃l S' gd,run Γ (K S' gd) (E.ρ++l)=some r∧RM P C (E.push l) S' st∧Kg S S' l.length∧GdOk (E.ρ++l) v gd:=by
  intro gd h1 h2
  exact⟨[],S,gd,by rw[List.append_nil];exact h1,h.push [],⟨rfl,rfl,rfl,rfl,rfl⟩,by rw[List.append_nil];exact h2⟩
 unfold sxG.act at hr
 cases hb:asB a with
 | some b=>
  rw[hb]at hr
  have ha:=Zh5 hb E.ρ
  simp only at hr
  split at hr
  ·rename_i hbw
   cases g with
   | none=>exact here hr (by simp only[GdOk];rw[hv b ha,hbw])
   | some p=>
    obtain⟨c,h1,h2,h3⟩:=hv
    refine here hr ⟨c,h1,?_⟩
    cases c with
    | true=>rw[h3 rfl b ha,hbw]
    | false=>exact h2 rfl
  ·rename_i hbw
   have hbw':(b==want)=false:=by simpa using hbw
   cases g with
   | none=>exact here hr (by simp only[GdOk];rw[hv b ha,hbw'])
   | some p=>
    obtain⟨c,h1,h2,h3⟩:=hv
    refine here hr ?_
    simp only[GdOk]
    cases c with
    | true=>rw[h3 rfl b ha,hbw']
    | false=>exact h2 rfl
 | none=>
  rw[hb]at hr
  simp only at hr
  split at hr
  ·rename_i p' a' w' k hf
   obtain⟨e1,e2,e3,hx⟩:=ZpR h hf
   simp only at e1 e2 e3
   subst e1;subst e2;subst e3
   have hk:∃b,k.ev E.ρ=some [.lit (.bool b)]∧v=some b:=by
    cases p' with
    | none=>
     obtain⟨b,q1,q2⟩:=hx
     exact⟨_,q2,hv b q1⟩
    | some p=>
     obtain⟨c,q1,q2,q3⟩:=hv
     obtain⟨d,q4,q5,q6⟩:=hx
     simp only at q4 q5 q6
     rw[q1]at q4
     cases q4
     cases c with
     | false=>exact⟨false,q5 rfl,q2 rfl⟩
     | true=>
      obtain⟨b,q7,q8⟩:=q6 rfl
      exact⟨_,q8,q3 rfl b q7⟩
   obtain⟨b,hk1,hk2⟩:=hk
   split at hr
   ·rename_i hkb
    have:=Zh5 hkb E.ρ
    rw[Zgf h hk1]at this
    cases this
    exact here hr hk2
   ·rename_i hkb
    have:=Zh5 hkb E.ρ
    rw[Zgf h hk1]at this
    cases this
    exact here hr hk2
   ·exact here hr ⟨b,hk1,hk2⟩
  ·have fin:∀(f:Fo) (as:List At),run Γ (emit S none f as fun S r=>K { S with ac:=(g,a,want,r)::S.ac } (.at r)) E.ρ=some r →
     (∀rs x,evs E.ρ as=some rs→evF f rs=some x→∃b,x=[.lit (.bool b)]∧v=some b∧∀(ρ':List Row) (k:At),(∃l,ρ'=E.ρ++l)→k.ev ρ'=some x→AcOk ρ' (g,a,want,k)) →
     ∃l S' gd,run Γ (K S' gd) (E.ρ++l)=some r∧RM P C (E.push l) S' st∧Kg S S' l.length∧GdOk (E.ρ++l) v gd:=by
    intro f as hr hf
    obtain⟨l,k,h1,h2⟩:=Zbr hr h.nv rfl
    obtain⟨rs,x,h3,h4,h5⟩:=h2 rfl
    obtain⟨b,rfl,h6,h7⟩:=hf rs x h3 h4
    exact⟨l,_,_,h1,(h.push l).addAc (h7 _ k ⟨l,rfl⟩ h5),⟨rfl,rfl,rfl,rfl,rfl⟩,b,h5,h6⟩
   cases g with
   | none=>
    cases want with
    | true=>
     refine fin _ _ hr fun rs x h1 h2=>?_
     obtain⟨b,e,rfl⟩:=Zbn (f:=.asb) h2
     subst e
     have ha:a.ev E.ρ=some [.lit (.bool b)]:=by
      simp only[evs]at h1
      cases q:a.ev E.ρ with
      | none=>rw[q]at h1;cases h1
      | some y=>rw[q]at h1;simp only[oI,List.cons.injEq,and_true]at h1;rw[h1]
     refine⟨b,rfl,by rw[hv b ha];simp,fun ρ' k ⟨l,hl⟩ hk=>⟨b,by rw[hl];exact At.ev_mono ha l,by simpa using hk⟩⟩
    | false=>
     refine fin _ _ hr fun rs x h1 h2=>?_
     obtain⟨b,e,rfl⟩:=Zbn (f:=.not) h2
     subst e
     have ha:a.ev E.ρ=some [.lit (.bool b)]:=by
      simp only[evs]at h1
      cases q:a.ev E.ρ with
      | none=>rw[q]at h1;cases h1
      | some y=>rw[q]at h1;simp only[oI,List.cons.injEq,and_true]at h1;rw[h1]
     refine⟨!b,rfl,by rw[hv b ha];simp,fun ρ' k ⟨l,hl⟩ hk=>⟨b,by rw[hl];exact At.ev_mono ha l,by simpa using hk⟩⟩
   | some p=>
    obtain⟨c,hp,hv1,hv2⟩:=hv
    have hpa:∀rs,evs E.ρ [p,a]=some rs→∃y,a.ev E.ρ=some y∧rs=[[.lit (.bool c)],y]:=by
     intro rs h1
     simp only[evs,hp]at h1
     cases q:a.ev E.ρ with
     | none=>rw[q]at h1;cases h1
     | some y=>rw[q]at h1;simp only[oI]at h1;exact⟨y,rfl,h1.symm⟩
    cases want with
    | true=>
     refine fin _ _ hr fun rs x h1 h2=>?_
     obtain⟨y,hy,rfl⟩:=hpa rs h1
     obtain⟨gb,ry,e,h3⟩:=Zbn (f:=.and) h2
     simp only[List.cons.injEq,DV.lit.injEq,Value.bool.injEq,and_true]at e
     obtain⟨rfl,rfl⟩:=e
     rcases h3 with⟨rfl,rfl⟩ | ⟨rfl,b,rfl,rfl⟩
     ·exact⟨false,rfl,hv1 rfl,fun ρ' k ⟨l,hl⟩ hk=>Zh7 (c:=false) (by rw[hl];exact At.ev_mono hp l) (fun _=>hk) (fun e=>by cases e)⟩
     ·exact⟨b,rfl,by rw[hv2 rfl b hy];simp,fun ρ' k ⟨l,hl⟩ hk=>Zh7 (c:=true) (by rw[hl];exact At.ev_mono hp l) (fun e=>by cases e) (fun _=>⟨b,by rw[hl];exact At.ev_mono hy l,by simpa using hk⟩)⟩
    | false=>
     refine fin _ _ hr fun rs x h1 h2=>?_
     obtain⟨y,hy,rfl⟩:=hpa rs h1
     obtain⟨gb,ry,e,h3⟩:=Zbn (f:=.andn) h2
     simp only[List.cons.injEq,DV.lit.injEq,Value.bool.injEq,and_true]at e
     obtain⟨rfl,rfl⟩:=e
     rcases h3 with⟨rfl,rfl⟩ | ⟨rfl,b,rfl,rfl⟩
     ·exact⟨false,rfl,hv1 rfl,fun ρ' k ⟨l,hl⟩ hk=>Zh7 (c:=false) (by rw[hl];exact At.ev_mono hp l) (fun _=>hk) (fun e=>by cases e)⟩
     ·exact⟨!b,rfl,by rw[hv2 rfl b hy];simp,fun ρ' k ⟨l,hl⟩ hk=>Zh7 (c:=true) (by rw[hl];exact At.ev_mono hp l) (fun e=>by cases e) (fun _=>⟨b,by rw[hl];exact At.ev_mono hy l,by simpa using hk⟩)⟩
theorem gdec_at {ops:List Oper}{tm:Tm}{j:Nat}{want:Bool}{o:Oper}{d:Nat}(h1:ops[j]?=some o)(h2:o.dst=some d):gdec ops tm (some (j,want))=match tm d with
   | .d (.lit (.bool b))=>some (b==want)
   | .d (.lit (.tuple _))=>some false
   | _=>none:=by
 simp only[gdec,h1,Option.bind_some,h2]
 rfl
theorem RV.un_inv {E:En}{av:AV}(h:RV E .un av):av=Zc3:=by cases h;rfl
theorem sxG_run {Γ:Den}{r:Rs}{ops:List Oper}{sl:List (Nat×SE)}{tm:Tm}{gd:Option (Nat×Bool)}{K:SS→Gd→Tr}(h:RM P C E S st)(hs:RTS E sl tm)(hr:run Γ (sxG S ops sl gd K) E.ρ=some r) :
  ∃l S' q,run Γ (K S' q) (E.ρ++l)=some r∧RM P C (E.push l) S' st∧Kg S S' l.length∧GdOk (E.ρ++l) (gdec ops tm gd) q:=by
 have here:∀{q:Gd},run Γ (K S q) E.ρ=some r→GdOk E.ρ (gdec ops tm gd) q→∃l S' q,run Γ (K S' q) (E.ρ++l)=some r∧RM P C (E.push l) S' st∧Kg S S' l.length∧GdOk (E.ρ++l) (gdec ops tm gd) q:=by
  intro gd h1 h2
  exact⟨[],S,gd,by rw[List.append_nil];exact h1,h.push [],⟨rfl,rfl,rfl,rfl,rfl⟩,by rw[List.append_nil];exact h2⟩
 cases gd with
 | none=>exact here hr rfl
 | some p=>
  obtain⟨j,want⟩:=p
  simp only[sxG,sxGs]at hr
  cases hj:ops[j]? with
  | none=>simp only[hj]at hr;simp[run]at hr
  | some o=>
   cases hd:o.dst with
   | none=>simp only[hj,hd]at hr;simp[run]at hr
   | some d=>
    cases hl:lk d sl with
    | none=>simp only[hj,hd,hl]at hr;simp[run]at hr
    | some e=>
     simp only[hj,hd,hl]at hr
     have he:=hs d e hl
     have hgd:=gdec_at (tm:=tm) (want:=want) hj hd
     obtain⟨ge,v⟩:=e
     cases v <;> simp only at hr <;> try (simp[run]at hr;done)
     ·rename_i a oa
      have hval:RVd E (.one a oa) (tm d)→∀b,(kn1 S a).ev E.ρ=some [.lit (.bool b)]→gdec ops tm (some (j,want))=some (b==want):=by
       intro hv b hb
       rcases hv with⟨k,e⟩ | hv
       ·cases e
       ·rw[hgd,hv.lit (Zd6 h hb)]
      cases ge with
      | none=>exact Znh h (fun b hb=>hval he b hb) hr
      | some p=>
       obtain⟨c,h1,h2,h3⟩:=he
       have h1':=Zgf h h1
       have hund:c=false→gdec ops tm (some (j,want))=some false:=fun hc=>by
        rw[hgd,h3 hc];rfl
       simp only[Option.bind_some]at hr
       split at hr
       ·rename_i hb
        have:=Zh5 hb E.ρ
        rw[h1']at this
        cases this
        exact here hr (hund rfl)
       ·rename_i hb
        have:=Zh5 hb E.ρ
        rw[h1']at this
        cases this
        exact Znh h (fun b hb=>hval (h2 rfl) b hb) hr
       ·exact Znh (g:=some (kn1 S p)) (a:=kn1 S a) (want:=want) h ⟨c,h1',hund,fun hc b hb=>hval (h2 hc) b hb⟩ hr
     ·have hu:tm d=Zc3:=by
       cases ge with
       | none=>
        rcases he with⟨k,e⟩ | he
        ·cases e
        ·exact he.un_inv
       | some p=>
        obtain⟨c,h1,h2,h3⟩:=he
        cases c with
        | false=>exact h3 rfl
        | true=>
         rcases h2 rfl with⟨k,e⟩ | he
         ·cases e
         ·exact he.un_inv
      exact here hr (by simp only[GdOk];rw[hgd,hu];rfl)
end
end Go.AW

namespace Go.AW
open Go.RowKit
section
variable {P:Program}{C:Ctx}{E:En}{S:SS}{st:St}
theorem Zc9 {α:Type}:∀(l:List α) (n:Nat) (y:α) (i:Nat),(setAt l n y)[i]?=if i=n∧n<l.length then some y else l[i]?
 | [],n,y,i=>by simp[setAt]
 | x::l,0,y,i=>by
  cases i with
  | zero=>simp[setAt]
  | succ i=>simp[setAt]
 | x::l,n+1,y,i=>by
  cases i with
  | zero=>simp[setAt]
  | succ i=>
   simp only[setAt,List.getElem?_cons_succ,Zc9 l n y i,List.length_cons]
   by_cases h:i=n <;> by_cases h2:n<l.length <;> simp[h,h2]
theorem Zh8 {α:Type}:∀(l:List α) (n:Nat) (y:α),(setAt l n y).length=l.length
 | [],_,_=>rfl
 | _::_,0,_=>rfl
 | _::l,n+1,y=>by simp[setAt,Zh8 l n y]
theorem RM.setOb (h:RM P C E S st){o id:Nat}{ob ob':Ob}{cs:List AV}(ho:S.ob[o]?=some ob)(hi:E.ι o=some id)(ht:ob'.t=ob.t)(hb:RB E ob'.a ob'.n ob'.m ob'.ov cs):RM P C E { S with ob:=setAt S.ob o ob' } (st.setc id cs):=by
 have hlt:o<S.ob.length:=(List.getElem?_eq_some_iff.1 ho).1
 obtain⟨id',h1,h2,h2',h3,h4⟩:=h.ob o ob ho
 rw[hi]at h1
 cases h1
 have hobj:∀i,(st.setc id cs).obj i=if i=id then((st.obj id).1,cs)else st.obj i:=fun i=>rfl
 refine { h with on:=?_,ob:=?_,gr:=?_,wf:=h.wf,fr:=?_ }
 ·intro j hj
  rw[Zh8]at hj
  exact h.on j hj
 ·intro j q hj
  rw[Zc9]at hj
  split at hj
  ·rename_i hc
   cases hj
   obtain⟨rfl,-⟩:=hc
   refine⟨id,hi,h2,h2',?_,?_⟩
   ·rw[hobj,if_pos rfl,ht];exact h3
   ·rw[hobj,if_pos rfl];exact hb
  ·rename_i hc
   obtain⟨idj,q1,q2,q2',q3,q4⟩:=h.ob j q hj
   have hne:idj≠id:=by
    rintro rfl
    exact hc ⟨h.inj j o _ q1 hi,hlt⟩
   exact⟨idj,q1,q2,q2',by rw[hobj,if_neg hne];exact q3,by rw[hobj,if_neg hne];exact q4⟩
 ·intro g e hge
  obtain⟨av,q1,q2⟩:=h.gr g e hge
  refine⟨av,q1,q2.imp (fun x=>x) (Or.imp (fun x=>x) fun⟨q3,idx,s,cap,rows,q4,q5,q6,q7⟩=>⟨q3,idx,s,cap,rows,q4,q5,q6,?_⟩)⟩
  have hne:idx≠id:=by
   rintro rfl
   rw[q4]at q1
   exact h.ix g e _ _ _ _ _ o hge q1 hi
  rw[hobj,if_neg hne]
  exact q7
 ·refine { n:=h.fr.n,k:=h.fr.k,obj:=?_,fz:=h.fr.fz,live:=h.fr.live }
  intro i hi0 hA
  have hne:i≠id:=by
   rintro rfl
   rcases h.oA o i hi with q | q
   ·exact hA q
   ·omega
  rw[hobj,if_neg hne]
  exact h.fr.obj i hi0 hA
theorem RM.addOb (h:RM P C E S st){ob:Ob}{cs:List AV}(hb:RB E ob.a ob.n ob.m ob.ov cs) :
  ∃E',E.le E'∧E'.ρ=E.ρ∧RM P C E' { S with ob:=S.ob++[ob] } (st.push ob.t cs)∧E'.ι S.ob.length=some st.n:=by
 have hι:E.ι S.ob.length=none:=h.on _ (Nat.le_refl _)
 let E':En:={ E with ι:=fun j=>if j=S.ob.length then some st.n else E.ι j }
 have hle:E.le E':=by
  refine⟨⟨[],by simp[E']⟩,fun n x hx=>?_,fun _ _ hx=>hx,fun _ _ hx=>hx⟩
  have:n≠S.ob.length:=by rintro rfl;rw[hι]at hx;cases hx
  simp only[E',if_neg this];exact hx
 have hobj:∀i,(st.push ob.t cs).obj i=if i=st.n then(ob.t,cs)else st.obj i:=fun i=>rfl
 have hn:(st.push ob.t cs).n=st.n+1:=rfl
 have hlt:∀j id,E.ι j=some id→j<S.ob.length∧id<st.n:=by
  intro j id hj
  have hj2:j<S.ob.length:=by
   refine Classical.byContradiction fun hge=>?_
   rw[h.on j (by omega)]at hj;cases hj
  obtain⟨id',q1,q2,-,-,-⟩:=h.ob j _ (gG hj2)
  rw[hj]at q1;cases q1
  exact⟨hj2,q2⟩
 refine⟨E',hle,rfl,?_,by simp[E']⟩
 have hfz:∀i,(st.push ob.t cs).fz i=if i=st.n then false else st.fz i:=fun i=>rfl
 have hgav:∀g,gav E' g=gav E g:=fun g=>by cases g <;> rfl
 refine { nv:=h.nv,w0:=h.w0,wn:=h.wn,bn:=h.bn,on:=?_,ob:=?_,inj:=?_,gr:=?_,gd:=fun g e g' e' h1 h2 hne t s xs s' xs'=>by rw[hgav,hgav];exact h.gd g e g' e' h1 h2 hne t s xs s' xs',
          gx:=fun g e g' e' h1 h2 hne id o s cap xs o' s' cap' xs'=>by rw[hgav,hgav];exact h.gx g e g' e' h1 h2 hne id o s cap xs o' s' cap' xs',ix:=?_,hn:=fun g av=>by rw[hgav];exact h.hn g av,
          wf:=h.wf,wf0:=h.wf0,kn:=h.kn,ac:=h.ac,eqc:=h.eqc,fr:=?_,oA:=?_,gT:=fun g e t s xs h1=>by rw[hgav];exact h.gT g e t s xs h1,gA:=fun g e id o s cap xs h1=>by rw[hgav];exact h.gA g e id o s cap xs h1 }
 ·intro j hj
  simp only[List.length_append,List.length_cons,List.length_nil]at hj
  simp only[E']
  rw[if_neg (by omega)]
  exact h.on j (by omega)
 ·intro j q hj
  rw[List.getElem?_append]at hj
  split at hj
  ·rename_i hjl
   obtain⟨id,q1,q2,q2',q3,q4⟩:=h.ob j q hj
   refine⟨id,hle.ι _ _ q1,by rw[hn];omega,by rw[hfz,if_neg (by omega)];exact q2',?_,?_⟩
   ·rw[hobj,if_neg (by omega)];exact q3
   ·rw[hobj,if_neg (by omega)];exact q4.mono hle
  ·rename_i hjl
   have hj0:j=S.ob.length:=by
    have:=(List.getElem?_eq_some_iff.1 hj).1
    simp at this;omega
   subst hj0
   simp only[Nat.sub_self,List.getElem?_cons_zero,oI]at hj
   subst hj
   refine⟨st.n,by simp[E'],by rw[hn];omega,by rw[hfz,if_pos rfl],?_,?_⟩
   ·rw[hobj,if_pos rfl]
   ·rw[hobj,if_pos rfl];exact hb.mono hle
 ·intro i j id hi hj
  simp only[E']at hi hj
  by_cases e1:i=S.ob.length <;> by_cases e2:j=S.ob.length
  ·omega
  ·rw[if_pos e1]at hi;rw[if_neg e2]at hj
   cases hi
   exact absurd (hlt j _ hj).2 (by omega)
  ·rw[if_neg e1]at hi;rw[if_pos e2]at hj
   cases hj
   exact absurd (hlt i _ hi).2 (by omega)
  ·rw[if_neg e1]at hi;rw[if_neg e2]at hj
   exact h.inj i j id hi hj
 ·intro g e hge
  obtain⟨av,q1,q2⟩:=h.gr g e hge
  refine⟨av,by rw[hgav];exact q1,q2.imp id (Or.imp id fun⟨q3,idx,s,cap,rows,q4,q5,q6,q7⟩=>⟨q3,idx,s,cap,rows,q4,by rw[hn];omega,by rw[hfz,if_neg (by omega)];exact q6,?_⟩)⟩
  rw[hobj,if_neg (by omega)]
  exact q7
 ·intro g e id o s cap xs j hge hg hj
  rw[hgav]at hg
  simp only[E']at hj
  split at hj
  ·cases hj
   obtain⟨av,q1,q2⟩:=h.gr g e hge
   rw[hg]at q1
   cases q1
   rcases q2 with q2 | ⟨-,t,s',xs',q2,-⟩ | ⟨-,idx,s',cap',rows,q2,q3,-⟩
   ·cases q2
   ·cases q2
   ·cases q2;omega
  ·exact h.ix g e id o s cap xs j hge hg hj
 ·refine { n:=by rw[hn];have:=h.fr.n;omega,k:=h.fr.k,obj:=?_,fz:=?_,live:=h.fr.live }
  ·intro i hi0 hA
   rw[hobj,if_neg (by have:=h.fr.n;omega)]
   exact h.fr.obj i hi0 hA
  ·intro i hi0 hA
   rw[hfz,if_neg (by have:=h.fr.n;omega)]
   exact h.fr.fz i hi0 hA
 ·intro j id hj
  simp only[E']at hj
  split at hj
  ·cases hj;exact .inr h.fr.n
  ·exact h.oA j id hj
theorem RM.lessGr (h:RM P C E S st){gr:List (GK×TypeId)}{xn:List GK}(hg:∀x∈gr,x∈S.gr)(hb:∀g∈bads S,g∈flX gr++xn):RM P C E { S with gr:=gr,xn:=xn } st:=
 { nv:=h.nv,w0:=h.w0,wn:=h.wn,bn:=h.bn,on:=h.on,ob:=h.ob,inj:=h.inj,wf:=h.wf,wf0:=h.wf0,kn:=h.kn,ac:=h.ac,eqc:=h.eqc,fr:=h.fr,oA:=h.oA
   gr:=fun g e hx=>h.gr g e (hg _ hx),gd:=fun g e g' e' h1 h2=>h.gd g e g' e' (hg _ h1) (hg _ h2),gT:=fun g e t s xs hx=>h.gT g e t s xs (hg _ hx)
   gx:=fun g e g' e' h1 h2=>h.gx g e g' e' (hg _ h1) (hg _ h2),ix:=fun g e id o s cap xs j hx=>h.ix g e id o s cap xs j (hg _ hx),gA:=fun g e id o s cap xs hx=>h.gA g e id o s cap xs (hg _ hx)
   hn:=fun g av h1 h2=>h.hn g av h1 (Zcn.2 fun h3=>Zcn.1 h2 (hb g h3)) }
theorem Zll (e:TypeId):isX (e+XF)=true:=Nat.ble_eq_true_of_le (Nat.le_add_left ..)
theorem ZpS (e:TypeId):e+XF - XF=e:=Nat.add_sub_cancel ..
theorem RM.eat (h:RM P C E S st){tk:Nat}(hu:∀g e s xs,(g,e)∈S.gr→gav E g=some (.own tk s xs)→False)(hT:C.Tk tk∨C.st0.k≤tk):RM P C E S (st.eat tk):=by
 have hl:∀t,(st.eat tk).live t=if t=tk then none else st.live t:=fun t=>rfl
 refine { h with ob:=h.ob,gr:=?_,wf:=?_,fr:=?_ }
 ·intro g e hx
  obtain⟨av,h1,h2⟩:=h.gr g e hx
  refine⟨av,h1,h2.imp id (Or.imp ?_ id)⟩
  rintro⟨h0,t,s,xs,rfl,h3,h4⟩
  have hne:t≠tk:=by rintro rfl;exact hu g e s xs hx h1
  exact⟨h0,t,s,xs,rfl,by rw[hl,if_neg hne];exact h3,h4⟩
 ·intro t e he
  rw[hl]at he
  split at he
  ·cases he
  ·exact h.wf t e he
 ·refine { n:=h.fr.n,k:=h.fr.k,obj:=h.fr.obj,fz:=h.fr.fz,live:=?_ }
  intro t e h0 hN
  have hne:t≠tk:=by
   rintro rfl
   rcases hT with q | q
   ·exact hN q
   ·have:=h.wf0 t e h0;omega
  rw[hl,if_neg hne]
  exact h.fr.live t e h0 hN
theorem RM.name (h:RM P C E S st){e:TypeId}{av:AV}(hok:GOk P st e av)(hx:noX av=true∨isX e=true)
  (hd:∀g e' t s xs s' xs',(g,e')∈S.gr→gav E g=some (.own t s xs)→av=.own t s' xs'→False)
  (hdx:∀g e' id o s cap xs o' s' cap' xs',(g,e')∈S.gr→gav E g=some (.xs id o s cap xs)→av=.xs id o' s' cap' xs'→False)
  (hix:∀id o s cap xs j,av=.xs id o s cap xs→E.ι j=some id→False)
  (hT:∀t s xs,av=.own t s xs→C.Tk t∨C.st0.k≤t) (hA:∀id o s cap xs,av=.xs id o s cap xs→C.A id∨C.st0.n≤id) :
  ∃E',E.le E'∧E'.ρ=E.ρ∧RM P C E' { S with nw:=S.nw+1,gr:=(.w S.nw,e)::S.gr } st∧E'.ω S.nw=some av:=by
 have hω:E.ω S.nw=none:=h.wn _ (Nat.le_refl _)
 let E':En:={ E with ω:=fun n=>if n=S.nw then some av else E.ω n }
 have hle:E.le E':=by
  refine⟨⟨[],by simp[E']⟩,fun _ _ hx=>hx,fun n x hx=>?_,fun _ _ hx=>hx⟩
  have:n≠S.nw:=by rintro rfl;rw[hω]at hx;cases hx
  simp only[E',if_neg this];exact hx
 have hnew:E'.ω S.nw=some av:=by simp[E']
 have hneww:gav E' (.w S.nw)=some av:=hnew
 have hback:∀g a,gav E' g=some a→(g=.w S.nw∧a=av)∨gav E g=some a:=by
  intro g a hg
  cases g with
  | w n=>
   simp only[gav,E']at hg
   split at hg
   ·rename_i e;cases hg;exact .inl ⟨by rw[e],rfl⟩
   ·exact .inr hg
  | b b i=>exact .inr hg
 have old:∀g e',(g,e')∈S.gr→∃a,gav E g=some a∧gav E' g=some a∧GOk P st e' a:=by
  intro g e' hx
  obtain⟨a,h1,h2⟩:=h.gr g e' hx
  exact⟨a,h1,Zcv hle h1,h2⟩
 have back:∀g e' a,(g,e')∈S.gr→gav E' g=some a→gav E g=some a:=by
  intro g e' a h1 h2
  obtain⟨b,h3,h4,-⟩:=old g e' h1
  rw[h4]at h2;cases h2;exact h3
 refine⟨E',hle,rfl,?_,hnew⟩
 refine { nv:=h.nv,w0:=hle.ω _ _ h.w0,wn:=?_,bn:=h.bn,on:=h.on,ob:=?_,inj:=h.inj,gr:=?_,gd:=?_,gx:=?_,ix:=?_,hn:=?_,wf:=h.wf,wf0:=h.wf0,kn:=h.kn,ac:=h.ac,eqc:=h.eqc,fr:=h.fr,oA:=h.oA,gT:=?_,gA:=?_ }
 ·intro n hn
  have hn':S.nw+1≤n:=hn
  simp only[E']
  rw[if_neg (by omega)]
  exact h.wn n (by omega)
 ·intro j q hj
  obtain⟨id,q1,q2,q2',q3,q4⟩:=h.ob j q hj
  exact⟨id,q1,q2,q2',q3,q4.mono hle⟩
 ·intro g e' hx
  rcases List.mem_cons.1 hx with q | q
  ·cases q
   exact⟨_,hneww,hok⟩
  ·obtain⟨a,h1,h2,h3⟩:=old g e' q
   exact⟨a,h2,h3⟩
 ·intro g e1 g' e2 h1 h2 hne t s1 x1 s2 x2 h3 h4
  rcases List.mem_cons.1 h1 with q1 | q1 <;> rcases List.mem_cons.1 h2 with q2 | q2
  ·cases q1;cases q2;exact hne rfl
  ·cases q1
   rw[hneww]at h3
   cases h3
   exact hd g' e2 t s2 x2 _ _ q2 (back g' e2 _ q2 h4) rfl
  ·cases q2
   rw[hneww]at h4
   cases h4
   exact hd g e1 t s1 x1 _ _ q1 (back g e1 _ q1 h3) rfl
  ·exact h.gd g e1 g' e2 q1 q2 hne t s1 x1 s2 x2 (back g e1 _ q1 h3) (back g' e2 _ q2 h4)
 ·intro g e1 g' e2 h1 h2 hne id o1 s1 c1 x1 o2 s2 c2 x2 h3 h4
  rcases List.mem_cons.1 h1 with q1 | q1 <;> rcases List.mem_cons.1 h2 with q2 | q2
  ·cases q1;cases q2;exact hne rfl
  ·cases q1
   rw[hneww]at h3
   cases h3
   exact hdx g' e2 id _ _ _ _ _ _ _ _ q2 (back g' e2 _ q2 h4) rfl
  ·cases q2
   rw[hneww]at h4
   cases h4
   exact hdx g e1 id _ _ _ _ _ _ _ _ q1 (back g e1 _ q1 h3) rfl
  ·exact h.gx g e1 g' e2 q1 q2 hne id o1 s1 c1 x1 o2 s2 c2 x2 (back g e1 _ q1 h3) (back g' e2 _ q2 h4)
 ·intro g e1 id o1 s1 c1 x1 j h1 h3 hj
  rcases List.mem_cons.1 h1 with q1 | q1
  ·cases q1
   rw[hneww]at h3
   cases h3
   exact hix _ _ _ _ _ j rfl hj
  ·exact h.ix g e1 id o1 s1 c1 x1 j q1 (back g e1 _ q1 h3) hj
 ·intro g a hg hb
  rcases hback g a hg with⟨rfl,rfl⟩ | hg
  ·rcases hx with hx | hx
   ·exact hx
   ·exfalso
    rw[Zcn]at hb
    exact hb (List.mem_append.2 (.inl (ZcT.2 ⟨e,List.mem_cons_self ..,hx⟩)))
  ·refine h.hn g a hg (Zcn.2 fun h3=>Zcn.1 hb ?_)
   rcases List.mem_append.1 h3 with h3 | h3
   ·obtain⟨e',h4,h5⟩:=ZcT.1 h3
    exact List.mem_append.2 (.inl (ZcT.2 ⟨e',List.mem_cons_of_mem _ h4,h5⟩))
   ·exact List.mem_append.2 (.inr h3)
 ·intro g e1 t s1 x1 h1 h2
  rcases List.mem_cons.1 h1 with q | q
  ·cases q
   rw[hneww]at h2
   cases h2
   exact hT _ _ _ rfl
  ·exact h.gT g e1 t s1 x1 q (back g e1 _ q h2)
 ·intro g e1 id o1 s1 c1 x1 h1 h2
  rcases List.mem_cons.1 h1 with q | q
  ·cases q
   rw[hneww]at h2
   cases h2
   exact hA _ _ _ _ _ rfl
  ·exact h.gA g e1 id o1 s1 c1 x1 q (back g e1 _ q h2)
theorem RM.ownSt (h:RM P C E S st)(e:TypeId):RM P C E S (st.own e):=by
 have hl:∀t,(st.own e).live t=if t=st.k then some e else st.live t:=fun t=>rfl
 have hk:(st.own e).k=st.k+1:=rfl
 refine { h with ob:=h.ob,gr:=?_,wf:=?_,fr:=?_ }
 ·intro g e' hx
  obtain⟨av,h1,h2⟩:=h.gr g e' hx
  refine⟨av,h1,h2.imp id (Or.imp ?_ id)⟩
  rintro⟨h0,t,s,xs,rfl,h3,h4⟩
  have:=h.wf t e' h3
  exact⟨h0,t,s,xs,rfl,by rw[hl,if_neg (by omega)];exact h3,h4⟩
 ·intro t e' he'
  rw[hl]at he'
  rw[hk]
  split at he'
  ·omega
  ·have:=h.wf t e' he';omega
 ·refine { n:=h.fr.n,k:=by rw[hk];have:=h.fr.k;omega,obj:=h.fr.obj,fz:=h.fr.fz,live:=?_ }
  intro t e' h0 hN
  have h1:=h.fr.live t e' h0 hN
  have:=h.wf t e' h1
  rw[hl,if_neg (by omega)]
  exact h1
theorem RM.own (h:RM P C E S st){e:TypeId}{s:Nat}{xs:List Row}(he:esz P e=some s)(hx:isX e=false) :
  ∃E',E.le E'∧E'.ρ=E.ρ∧RM P C E' { S with nw:=S.nw+1,gr:=(.w S.nw,e)::S.gr } (st.own e)∧E'.ω S.nw=some (.own st.k s xs):=by
 refine(h.ownSt e).name (av:=.own st.k s xs) (.inr (.inl ⟨hx,st.k,s,xs,rfl,by simp[St.own,upd],he⟩)) (.inl rfl) ?_ ?_ ?_ ?_ ?_
 ·intro g e' t s1 x1 s2 x2 h1 h2 h3
  cases h3
  obtain⟨av,h4,h5⟩:=h.gr g e' h1
  rw[h2]at h4
  cases h4
  rcases h5 with h5 | ⟨-,t',s',xs',h5,h6,-⟩ | ⟨-,id,s',cap,rows,h5,-⟩
  ·cases h5
  ·cases h5
   have:=h.wf _ _ h6
   omega
  ·cases h5
 ·intro g e' id o s cap xs o' s' cap' xs' _ _ h3;cases h3
 ·intro id o s cap xs j h3;cases h3
 ·intro t s1 x1 h3;cases h3;exact .inr h.fr.k
 ·intro id o s cap xs h3;cases h3
theorem RM.nameNil (h:RM P C E S st)(e:TypeId):∃E',E.le E'∧E'.ρ=E.ρ∧RM P C E' { S with nw:=S.nw+1,gr:=(.w S.nw,e)::S.gr } st∧E'.ω S.nw=some .nil:=
 h.name (.inl rfl) (.inl rfl) (fun _ _ _ _ _ _ _ _ _ h=>by cases h) (fun _ _ _ _ _ _ _ _ _ _ _ _ _ h=>by cases h) (fun _ _ _ _ _ _ h=>by cases h) (fun _ _ _ h=>by cases h) (fun _ _ _ _ _ h=>by cases h)
theorem RM.pushSt (h:RM P C E S st)(e:TypeId)(cs:List AV):RM P C E S (st.push e cs):=by
 have hobj:∀i,(st.push e cs).obj i=if i=st.n then(e,cs)else st.obj i:=fun i=>rfl
 have hn:(st.push e cs).n=st.n+1:=rfl
 have hfz:∀i,(st.push e cs).fz i=if i=st.n then false else st.fz i:=fun i=>rfl
 refine { h with ob:=?_,gr:=?_,wf:=h.wf,fr:=?_ }
 ·intro j q hj
  obtain⟨id,q1,q2,q2',q3,q4⟩:=h.ob j q hj
  refine⟨id,q1,by rw[hn];omega,by rw[hfz,if_neg (by omega)];exact q2',?_,?_⟩
  ·rw[hobj,if_neg (by omega)];exact q3
  ·rw[hobj,if_neg (by omega)];exact q4
 ·intro g e hge
  obtain⟨av,q1,q2⟩:=h.gr g e hge
  refine⟨av,q1,q2.imp id (Or.imp id fun⟨q3,idx,s,cap,rows,q4,q5,q6,q7⟩=>⟨q3,idx,s,cap,rows,q4,by rw[hn];omega,by rw[hfz,if_neg (by omega)];exact q6,?_⟩)⟩
  rw[hobj,if_neg (by omega)]
  exact q7
 ·refine { n:=by rw[hn];have:=h.fr.n;omega,k:=h.fr.k,obj:=?_,fz:=?_,live:=h.fr.live }
  ·intro i hi0 hA
   rw[hobj,if_neg (by have:=h.fr.n;omega)]
   exact h.fr.obj i hi0 hA
  ·intro i hi0 hA
   rw[hfz,if_neg (by have:=h.fr.n;omega)]
   exact h.fr.fz i hi0 hA
theorem RM.setSt (h:RM P C E S st){id:Nat}(cs:List AV)(hA:C.A id∨C.st0.n≤id)(hι:∀j,E.ι j=some id→False)(hg:∀g e o s cap xs,(g,e)∈S.gr→gav E g=some (.xs id o s cap xs)→False):RM P C E S (st.setc id cs):=by
 have hobj:∀i,(st.setc id cs).obj i=if i=id then((st.obj id).1,cs)else st.obj i:=fun i=>rfl
 refine { h with ob:=?_,gr:=?_,wf:=h.wf,fr:=?_ }
 ·intro j q hj
  obtain⟨idj,q1,q2,q2',q3,q4⟩:=h.ob j q hj
  have hne:idj≠id:=by rintro rfl;exact hι j q1
  exact⟨idj,q1,q2,q2',by rw[hobj,if_neg hne];exact q3,by rw[hobj,if_neg hne];exact q4⟩
 ·intro g e hge
  obtain⟨av,q1,q2⟩:=h.gr g e hge
  refine⟨av,q1,q2.imp (fun x=>x) (Or.imp (fun x=>x) fun⟨q3,idx,s,cap,rows,q4,q5,q6,q7⟩=>⟨q3,idx,s,cap,rows,q4,q5,q6,?_⟩)⟩
  have hne:idx≠id:=by
   rintro rfl
   rw[q4]at q1
   exact hg g e _ _ _ _ hge q1
  rw[hobj,if_neg hne]
  exact q7
 ·refine { n:=h.fr.n,k:=h.fr.k,obj:=?_,fz:=h.fr.fz,live:=h.fr.live }
  intro i hi0 hA'
  have hne:i≠id:=by
   rintro rfl
   rcases hA with q | q
   ·exact hA' q
   ·omega
  rw[hobj,if_neg hne]
  exact h.fr.obj i hi0 hA'
theorem RM.nameX (h:RM P C E S st){id s cap:Nat}{rows:List (List AV)}{e:TypeId}(hok:XOk P st e (.xs id 0 s cap rows))(hA:C.A id∨C.st0.n≤id)(hι:∀j,E.ι j=some id→False)
  (hg:∀g e o s cap xs,(g,e)∈S.gr→gav E g=some (.xs id o s cap xs)→False) :
  ∃E',E.le E'∧E'.ρ=E.ρ∧RM P C E' { S with nw:=S.nw+1,gr:=(.w S.nw,e+XF)::S.gr } st∧E'.ω S.nw=some (.xs id 0 s cap rows):=by
 refine h.name (.inr (.inr ⟨Zll e,by rw[ZpS];exact hok⟩)) (.inr (Zll e)) ?_ ?_ ?_ ?_ ?_
 ·intro _ _ _ _ _ _ _ _ _ h;cases h
 ·intro g e' idx o s1 cap1 xs1 o' s' cap' xs' h1 h2 h3
  cases h3
  exact hg g e' _ _ _ _ h1 h2
 ·intro idx o s1 cap1 xs1 j h3 h4
  cases h3
  exact hι j h4
 ·intro _ _ _ h;cases h
 ·intro _ _ _ _ _ h3;cases h3;exact hA
theorem RM.new_id (h:RM P C E S st):(∀j,E.ι j=some st.n→False)∧∀g e o s cap xs,(g,e)∈S.gr→gav E g=some (.xs st.n o s cap xs)→False:=by
 refine⟨fun j hj=>?_,fun g e o s cap xs h1 h2=>?_⟩
 ·have hj2:j<S.ob.length:=by
   refine Classical.byContradiction fun hge=>?_
   rw[h.on j (by omega)]at hj;cases hj
  obtain⟨id',q1,q2,-,-,-⟩:=h.ob j _ (gG hj2)
  rw[hj]at q1;cases q1
  omega
 ·obtain⟨av,q1,q2⟩:=h.gr g e h1
  rw[h2]at q1
  cases q1
  rcases q2 with q2 | ⟨-,t,s',xs',q2,-⟩ | ⟨-,idx,s',cap',rows,q2,q3,-⟩
  ·cases q2
  ·cases q2
  ·cases q2;omega
end
end Go.AW

namespace Go.AW
open Go.RowKit
section
variable {P:Program}{cf:Cf}{C:Ctx}{Γ:Den}{r:Rs}
def Next (P:Program)(C:Ctx)(Γ:Den)(r:Rs)(E:En)(K:KV)(J:AV→St→Prop):Prop:=
 ∀E' S' v av st',E.le E'→RM P C E' S' st'→RV E' v av→run Γ (K S' v) E'.ρ=some r→J av st'
def CalOk (P:Program)(C:Ctx)(Γ:Den)(r:Rs)(cal:Cal):Prop:=
 ∀(k:Nat) (args:List SV) (as:List AV) (S:SS) (K:KV) (E:En) (st:St) (J:AV→St→Prop),run Γ (cal k args S K) E.ρ=some r→RM P C E S st→args.length=as.length →
  (∀(i:Nat) (v:SV) (a:AV),args[i]?=some v→as[i]?=some a→RV E v a)→Next P C Γ r E K J→Ct P k as st J
variable {E:En}{S:SS}{st:St}{sl:List (Nat×SE)}{tm:Tm}{K:KV}{J:AV→St→Prop}
theorem ZfO {c:Call}{b:Builtin}(h:c.callee=.builtin b)(hb:b≠.append):keeps (.call c)=true:=by
 simp only[keeps,quiet,h]
 cases b <;> first | rfl | exact absurd rfl hb
theorem Zmo {g:Option At}{op:Op}(hr:run Γ (sxP cf S g sl op K) E.ρ=some r):keeps op=true:=by
 cases op <;> first | rfl | (simp[sxP,ZaT,ZbK,Zcw,Za0,ZaM,ZbL,ZaN,ZbM,Za1,ZaU,Zar,ZbN,Zcx,ZbO,Zcy,run]at hr;done) | skip
 rename_i c
 simp only[sxP,ZaT,ZbK,Zcw,Za0,ZaM,ZbL,ZaN,ZbM,Za1,ZaU,Zar,ZbN,Zcx,ZbO,Zcy]at hr
 split at hr
 ·rename_i h _;exact ZfO h (by decide)
 ·rename_i h _;exact ZfO h (by decide)
 ·rename_i h _;exact ZfO h (by decide)
 ·simp[run]at hr
theorem PRun.eff {op:Op}(hm:RM P C E S st)(hk:keeps op=true)(h:PRun P tm st op Γ K S E true r)(hK:Next P C Γ r E K J):eff P tm st J op:=by
 obtain⟨l,S',v,h1,h0,h2⟩:=h.rm hm
 obtain⟨h3,h4⟩:=h2 rfl
 rw[Zl6 hk]
 exact⟨h3,hK (E.push l) S' v _ st (En.le_push E l) h0 h4 h1⟩
theorem ZjN {av:AV}{s:Nat}{ys:List Row}(h:toD av=some (.sl s ys))(hn:noX av=true):dcont av=some ys:=by
 cases av <;> simp only[toD,oI,reduceCtorEq]at h
 ·subst h;rfl
 ·simp only[DV.sl.injEq]at h;obtain⟨-,rfl⟩:=h;rfl
 ·rename_i t s' xs'
  cases xs' with
  | nil=>simp only[slv,DV.sl.injEq]at h;obtain⟨-,rfl⟩:=h;rfl
  | cons y ys=>simp only[slv,DV.sl.injEq]at h;obtain⟨-,rfl⟩:=h;rfl
 ·cases hn
theorem Ziw {t e:TypeId}{n b:Nat}(h:elT P t=some (e,n,b)):esz P e=some n:=by
 unfold elT at h
 split at h
 ·rename_i e' _
  simp only[Option.map_eq_some_iff]at h
  obtain⟨i,hi,q⟩:=h
  cases q
  simp[esz,hi]
 ·cases h
theorem Zex (hm:RM P C E S st){o:Option GK}{e:TypeId}(h:grows S o e=true):∃g,o=some g∧((g=.w 0)∨(g,e)∈S.gr):=by
 unfold grows at h
 split at h
 ·exact⟨_,rfl,.inl rfl⟩
 ·rename_i g _
  split at h
  ·rename_i e' he
   refine⟨g,rfl,.inr ?_⟩
   have:∀{l:List (GK×TypeId)},gm g l=some e'→(g,e')∈l:=by
    intro l
    induction l with
    | nil=>intro h;simp[gm]at h
    | cons x l ih=>
     obtain⟨g',y⟩:=x
     intro h
     simp only[gm]at h
     split at h
     ·rename_i q;cases h;rw[Zh3 q];exact List.mem_cons_self ..
     ·exact List.mem_cons_of_mem _ (ih h)
   rw[nbeq h];exact this he
  ·cases h
 ·cases h
theorem Zf6 {α:Type}{g:GK}:∀{l:List (GK×α)} {x:GK×α},x∈grm g l→x∈l∧x.1≠g
 | [],x,h=>by simp[grm]at h
 | (g',y)::l,x,h=>by
  simp only[grm]at h
  split at h
  ·obtain⟨h1,h2⟩:=Zf6 h
   exact⟨List.mem_cons_of_mem _ h1,h2⟩
  ·rename_i hne
   rcases List.mem_cons.1 h with rfl | h
   ·exact⟨List.mem_cons_self ..,fun e=>hne (by simp only at e;rw[e];exact Zh4 _)⟩
   ·obtain⟨h1,h2⟩:=Zf6 h
    exact⟨List.mem_cons_of_mem _ h1,h2⟩
theorem Zlm {c:AV}(h:toDs [c]=none):toD c=none:=by
 cases hq:toD c with
 | none=>rfl
 | some y=>rw[Zli hq]at h;cases h
theorem Zmp {l:List Nat}{c:Nat}:inC l c=false↔c ∉ l:=by
 unfold inC
 rw[← Bool.not_eq_true,List.any_eq_true]
 constructor
 ·intro h hc;exact h ⟨c,hc,by simp⟩
 ·rintro h ⟨x,hx,e⟩
  rw[nbeq e]at h;exact h hx
theorem Zgq {o n b:Nat}{ov:List (Nat×Nat×SV)}{c:Nat}(hc:c<n)(hv:covered c ov=false):∀{l:List GK},GK.b b (o+c)∈l→c∈Zht o n b ov l
 | [],h=>by simp at h
 | .w k::l,h=>by
  simp only[Zht]
  rcases List.mem_cons.1 h with h | h
  ·cases h
  ·exact Zgq hc hv h
 | .b b' i::l,h=>by
  simp only[Zht]
  rcases List.mem_cons.1 h with h | h
  ·simp only[GK.b.injEq]at h
   obtain⟨rfl,rfl⟩:=h
   have e:o+c - o=c:=by omega
   rw[e,if_pos (by simp[hv];omega)]
   exact List.mem_cons_self ..
  ·split
   ·exact List.mem_cons_of_mem _ (Zgq hc hv h)
   ·exact Zgq hc hv h
theorem ZgS (hm:∀g av,gav E g=some av→memG g (bads S)=false→noX av=true):∀(fu:Nat) {v:SV} {av:AV},RV E v av→∀(i:Nat) (c:AV),(Zak av)[i]?=some c→i ∉ ZfL S fu v→noX c=true
 | 0,v,av,h,i,c,hi,hb=>by
  have h1:=(List.getElem?_eq_some_iff.1 hi).1
  rw[h.szV]at h1
  simp only[ZfL]at hb
  exact absurd (List.mem_range.2 h1) hb
 | fu+1,v,av,h,i,c,hi,hb=>by
  cases h with
  | one0=>simp only[Zak]at hi;cases i <;> simp at hi;subst hi;rfl
  | one1 h1 h0 h2 h3=>
   rw[(RV.one1 h1 h0 h2 h3).one_cell rfl]at hi
   cases i with
   | succ i=>simp at hi
   | zero=>
    simp only[List.getElem?_cons_zero,oI]at hi
    subst hi
    simp only[ZfL]at hb
    split at hb
    ·rename_i hq
     exact hm _ _ h2 (by simpa[AW.cln1] using hq)
    ·simp at hb
  | @agg a n m ov cs0 cs avs h0 hl hv hf=>
   simp only[Zak]at hi
   simp only[ZfL,List.mem_append,not_or]at hb
   obtain⟨hb1,hb2⟩:=hb
   have key:∀{ov:List (Nat×Nat×SV)} {avs cs:List AV} (c:AV),avs.length=ov.length→(∀(i:Nat) (o k:Nat) (v:SV) (av:AV),ov[i]?=some (o,k,v)→avs[i]?=some av→RV E v av)→Zbi ov avs cs0=some cs→cs[i]?=some c→i ∉ ZfL.ovs S fu ov→noX c=true∨(cs0[i]?=some c∧covered i ov=false):=by
    intro ov
    induction ov with
    | nil=>
     intro avs cs c hl hv hf hi hb
     cases avs with
     | nil=>
      simp only[Zbi,oI]at hf
      subst hf
      exact .inr ⟨hi,rfl⟩
     | cons _ _=>simp at hl
    | cons x ov ih=>
     obtain⟨o,k,w⟩:=x
     intro avs cs c hl hv hf hi hb
     cases avs with
     | nil=>simp at hl
     | cons a avs=>
      simp only[Zbi]at hf
      cases hq:Zbi ov avs cs0 with
      | none=>rw[hq]at hf;cases hf
      | some c0=>
       rw[hq]at hf
       simp only at hf
       split at hf
       ·rename_i hcnd
        obtain⟨q1,q2,q3⟩:=hcnd
        cases hf
        simp only[ZfL.ovs,List.mem_append,List.mem_map,not_or,not_exists,not_and]at hb
        rw[Za8 _ _ _ (by omega)]at hi
        have hcov:covered i ((o,k,w)::ov)=(decide (o≤i∧i<o+k) || covered i ov):=rfl
        split at hi
        ·rcases ih c (by simpa using hl) (fun i o k v av h1 h2=>hv (i+1) o k v av (by simpa using h1) (by simpa using h2)) hq hi hb.2 with h | ⟨h1,h2⟩
         ·exact .inl h
         ·refine .inr ⟨h1,?_⟩
          rw[hcov,h2,Bool.or_false,decide_eq_false_iff_not]
          omega
        ·split at hi
         ·left
          refine ZgS hm fu (hv 0 o k w a rfl rfl) (i - o) c hi fun h=>hb.1 _ h ?_
          omega
         ·rcases ih c (by simpa using hl) (fun i o k v av h1 h2=>hv (i+1) o k v av (by simpa using h1) (by simpa using h2)) hq hi hb.2 with h | ⟨h1,h2⟩
          ·exact .inl h
          ·refine .inr ⟨h1,?_⟩
           rw[hcov,h2,Bool.or_false,decide_eq_false_iff_not]
           omega
       ·cases hf
   rcases key c hl hv hf hi hb2 with h | ⟨h1,h2⟩
   ·exact h
   ·cases h0 with
    | d h3 h4 h5=>
     rw[List.getElem?_map]at h1
     simp only[Option.map_eq_some_iff]at h1
     obtain⟨x,-,rfl⟩:=h1
     rfl
    | z h3 h4=>
     rw[List.getElem?_map]at h1
     simp only[Option.map_eq_some_iff]at h1
     obtain⟨x,-,rfl⟩:=h1
     unfold cv
     split <;> rfl
    | @g _ _ b o r l h3 h4 h5 h6 h7=>
     rw[List.getElem?_take]at h1
     split at h1
     ·rename_i hin
      rw[List.getElem?_drop]at h1
      refine hm (.b b (o+i)) c (by simp only[gav,h6,Option.bind_some];exact h1) ?_
      rw[Zcn]
      intro hmem
      exact hb1 (Zgq hin h2 hmem)
     ·cases h1
  | ptr=>simp only[Zak]at hi;cases i <;> simp at hi;subst hi;rfl
  | pp=>simp only[Zak]at hi;cases i <;> simp at hi;subst hi;rfl
  | pv=>simp only[Zak]at hi;cases i <;> simp at hi;subst hi;rfl
  | fn=>simp only[Zak]at hi;cases i <;> simp at hi;subst hi;rfl
  | ifc=>simp only[Zak]at hi;cases i <;> simp at hi;subst hi;rfl
  | tup=>simp only[Zak]at hi;cases i <;> simp at hi;subst hi;rfl
  | psl=>simp only[Zak]at hi;cases i <;> simp at hi;subst hi;rfl
  | bp=>simp only[Zak]at hi;cases i <;> simp at hi;subst hi;rfl
  | bv=>simp only[Zak]at hi;cases i <;> simp at hi;subst hi;rfl
  | xc=>
   simp only[Zak]at hi
   cases i with
   | zero=>simp[ZfL]at hb
   | succ i=>simp at hi
  | psx=>
   simp only[Zak]at hi
   cases i with
   | zero=>simp[ZfL]at hb
   | succ i=>simp at hi
  | un=>simp only[Zak,Zc3]at hi;cases i <;> simp at hi;subst hi;rfl
theorem RV.cln (hm:RM P C E S st){v:SV}{av:AV}(h:RV E v av)(hc:clnV S v=true):(Zak av).all noX=true:=by
 rw[List.all_eq_true]
 intro c hcm
 obtain⟨i,hi⟩:=List.getElem?_of_mem hcm
 refine ZgS hm.hn 20 h i c hi ?_
 unfold clnV at hc
 rw[List.isEmpty_iff]at hc
 rw[hc];simp
theorem RV.ZhV (hm:RM P C E S st){v:SV}{av:AV}(h:RV E v av){cs:List Nat}(hc:ZhV S v cs=true){i:Nat}{c:AV}(hi:(Zak av)[i]?=some c)(hn:i ∉ cs):noX c=true:=by
 refine ZgS hm.hn 20 h i c hi fun hb=>?_
 unfold AW.ZhV at hc
 have:=List.all_eq_true.1 hc i hb
 have h2:=Zmp.2 hn
 rw[h2]at this;cases this
theorem Zkz {a:At}{m:BM}{n:Nat}{ov:List (Nat×Nat×SV)}{K:SS→List SV→Tr}:∀(k:Nat) {E:En} {S:SS} {acc:List SV},E.ρ.length=S.nv→E.ω 0=some .nil→run Γ (Zmf a n m ov k S acc K) E.ρ=some r →
  ∃l vs,run Γ (K (bump S l.length) (vs++acc)) (E.ρ++l)=some r∧vs.length=k∧∀cs,RB E a n m ov cs→∀(i:Nat) (v:SV) (c:AV),vs[i]?=some v→cs[i]?=some c→RV (E.push l) v c
 | 0,E,S,acc,hn,hw,hr=>⟨[],[],by simp only[Zmf]at hr;simpa[bump] using hr,rfl,fun cs _ i v c h=>by simp at h⟩
 | k+1,E,S,acc,hn,hw,hr=>by
  simp only[Zmf]at hr
  obtain⟨l,v,h1,h2⟩:=Zkv (on:=true) 100 hr hn rfl
  obtain⟨l2,vs,h3,h4,h5⟩:=Zkz k (E:=E.push l) (S:=bump S l.length) (acc:=v::acc) (by simp[En.push,bump,hn]) hw h1
  refine⟨l++l2,vs++[v],?_,by simp[h4],fun cs hb i u c hi hc=>?_⟩
  ·have e:bump (bump S l.length) l2.length=bump S (l++l2).length:=by simp[bump,Nat.add_assoc]
   rw[← e]
   simpa[En.push,List.append_assoc] using h3
  ·rw[← ZaZ]
   by_cases hk:i<k
   ·rw[List.getElem?_append_left (by omega)]at hi
    exact h5 cs (hb.mono (En.le_push E l)) i u c hi hc
   ·have hik:i=k:=by
     have:=(List.getElem?_eq_some_iff.1 hi).1
     simp at this;omega
    subst hik
    rw[List.getElem?_append_right (by omega),h4,Nat.sub_self]at hi
    simp only[List.getElem?_cons_zero,oI]at hi
    subst hi
    obtain⟨-,hp⟩:=h2 rfl hw (fun _=>rfl) cs [] _ hb (AccR.nil E) rfl
    obtain⟨c',e,hv⟩:∃c,(cs.drop i).take 1=[c]∧RV (E.push l) v c:=hp
    have hg:((cs.drop i).take 1)[0]?=some c':=by rw[e];rfl
    simp only[List.getElem?_take,List.getElem?_drop]at hg
    have hc2:cs[i]?=some c':=by simpa using hg
    rw[hc]at hc2
    cases hc2
    exact hv.mono (En.le_push (E.push l) l2)
theorem Zmq {n:Nat}{K:SS→List (List SV)→Tr}:∀(vs:List SV) {E:En} {S:SS} {acc:List (List SV)},E.ρ.length=S.nv→E.ω 0=some .nil→run Γ (rowsS S n vs acc K) E.ρ=some r →
  ∃l rows,run Γ (K (bump S l.length) (acc.reverse++rows)) (E.ρ++l)=some r∧rows.length=vs.length ∧
   ∀(i:Nat) (v:SV) (row:List SV) (av:AV),vs[i]?=some v→rows[i]?=some row→RV E v av→row.length=n∧(Zak av).length=n∧(Zak av).all ZaQ=true∧∀(j:Nat) (u:SV) (c:AV),row[j]?=some u→(Zak av)[j]?=some c→RV (E.push l) u c
 | [],E,S,acc,hn,hw,hr=>⟨[],[],by rw[List.append_nil,List.append_nil];exact hr,rfl,fun i v row av h=>by simp at h⟩
 | v::vs,E,S,acc,hn,hw,hr=>by
  have fin:∀(l1:List Row) (row:List SV),run Γ (rowsS (bump S l1.length) n vs (row::acc) K) (E.push l1).ρ=some r→(∀av,RV E v av→row.length=n∧(Zak av).length=n∧(Zak av).all ZaQ=true∧∀(j:Nat) (u:SV) (c:AV),row[j]?=some u→(Zak av)[j]?=some c→RV (E.push l1) u c) →
    ∃l rows,run Γ (K (bump S l.length) (acc.reverse++rows)) (E.ρ++l)=some r∧rows.length=(v::vs).length ∧
     ∀(i:Nat) (v':SV) (row:List SV) (av:AV),(v::vs)[i]?=some v'→rows[i]?=some row→RV E v' av→row.length=n∧(Zak av).length=n∧(Zak av).all ZaQ=true∧∀(j:Nat) (u:SV) (c:AV),row[j]?=some u→(Zak av)[j]?=some c→RV (E.push l) u c:=by
   intro l1 row hr h0
   obtain⟨l2,rows,h1,h2,h3⟩:=Zmq vs (E:=E.push l1) (S:=bump S l1.length) (acc:=row::acc) (by simp[En.push,bump,hn]) hw hr
   refine⟨l1++l2,row::rows,?_,by simp[h2],fun i v' row' av hi hrow hv=>?_⟩
   ·have e:bump (bump S l1.length) l2.length=bump S (l1++l2).length:=by simp[bump,Nat.add_assoc]
    rw[← e]
    simpa[En.push,List.append_assoc] using h1
   ·rw[← ZaZ]
    cases i with
    | zero=>
     simp only[List.getElem?_cons_zero,oI]at hi hrow
     subst hi;subst hrow
     obtain⟨q1,q2,q3,q4⟩:=h0 av hv
     exact⟨q1,q2,q3,fun j u c h5 h6=>(q4 j u c h5 h6).mono (En.le_push (E.push l1) l2)⟩
    | succ i=>exact h3 i v' row' av (by simpa using hi) (by simpa using hrow) (hv.mono (En.le_push E l1))
  have one:∀(hv:isAgg v=false) (hr:run Γ (if (Nat.beq n 1&&ZfW v&&!isAgg v)=true then rowsS S n vs ([v]::acc) K else .err 63 [3]) E.ρ=some r),
    ∃l rows,run Γ (K (bump S l.length) (acc.reverse++rows)) (E.ρ++l)=some r∧rows.length=(v::vs).length ∧
     ∀(i:Nat) (v':SV) (row:List SV) (av:AV),(v::vs)[i]?=some v'→rows[i]?=some row→RV E v' av→row.length=n∧(Zak av).length=n∧(Zak av).all ZaQ=true∧∀(j:Nat) (u:SV) (c:AV),row[j]?=some u→(Zak av)[j]?=some c→RV (E.push l) u c:=by
   intro hv hr
   split at hr
   ·rename_i hcnd
    simp only[bA]at hcnd
    obtain rfl:=nbeq hcnd.1.1
    refine fin [] [v] (by simpa[En.push,bump] using hr) fun av h=>?_
    have hone:=h.one_cell hv
    refine⟨rfl,by rw[hone];rfl,h.ZaQ hcnd.1.2,fun j u c h1 h2=>?_⟩
    rw[hone]at h2
    cases j with
    | zero=>simp at h1 h2;subst h1;subst h2;exact h.mono (En.le_push E [])
    | succ j=>simp at h1
   ·simp[run]at hr
  cases v with
  | agg a k m ov=>
   simp only[rowsS]at hr
   split at hr
   ·rename_i hk
    obtain rfl:=nbeq hk
    obtain⟨l1,us,h1,h2,h3⟩:=Zkz k hn hw hr
    rw[List.append_nil]at h1
    split at h1
    ·rename_i hall
     refine fin l1 us h1 fun av h=>?_
     obtain⟨cs,rfl,hb⟩:=h.agg_inv
     exact⟨h2,hb.len,hb.ZaQ,fun j u c h4 h5=>h3 cs hb j u c h4 h5⟩
    ·simp[run]at h1
   ·simp[run]at hr
  | _=>exact one rfl hr
variable (hc:CfOk P cf)(hm:RM P C E S st)(hs:RTS E sl tm)
include hc hm hs
theorem e_store {t:TypeId}{x y:Operand}{cal:Cal}(hx:opOk x=true)(hy:opOk y=true)(hr:run Γ (sxE cf cal S sl (.store t x y) K) E.ρ=some r)(hK:Next P C Γ r E K J):eff P tm st J (.store t x y):=by
 simp only[sxE,Zfu,Zh0,Zcc,Zgp]at hr
 obtain⟨p,hr,hp⟩:=Zbs (on:=true) hm (ZbA hm hs hx) rfl hr
 obtain⟨v,hr,hv⟩:=Zbs (on:=true) hm (ZbA hm hs hy) rfl hr
 cases hi:cf.ti t with
 | none=>cases p <;> simp[hi,run]at hr
 | some i=>
  have hti:=hc.ti t i hi
  obtain⟨o,off,rfl⟩:∃o off,p=.ptr o off:=by cases p <;> first | exact⟨_,_,rfl⟩ | (simp[hi,run]at hr)
  simp only[hi]at hr
  cases hob:objAt S o with
  | none=>simp only[hob]at hr;simp[run]at hr
  | some ob=>
   simp only[hob]at hr
   split at hr
   ·rename_i hcnd
    obtain⟨h1,h2,h3⟩:=hcnd
    obtain⟨id,q1,q2,q2',q3,q4⟩:=hm.ob o ob hob
    have hp':=hp rfl
    have hxe:opnd tm x=.ptr id off:=by
     generalize opnd tm x=av at hp'
     cases hp' with
     | ptr q=>rw[q1]at q;cases q;rfl
    have hsz:=(hv rfl).szV
    have hlen:=q4.len
    simp only[eff,hxe,hti.sz]
    have hce:=(hv rfl).ZaQ h2
    refine⟨hx,hy,by rw[hsz,h3],hce,by omega,q2',?_⟩
    refine hK E _ .un _ _ (En.le.refl E) (hm.setOb (ob':={ ob with ov:=wr ob.ov off i.size v }) hob q1 rfl (q4.wr (off:=off) (k:=i.size) (hv rfl) (by rw[hsz,h3]) hce (by omega))) .un hr
   ·simp[run]at hr
theorem e_alloc {t:TypeId}{cal:Cal}(hr:run Γ (sxE cf cal S sl (.alloc t) K) E.ρ=some r)(hK:Next P C Γ r E K J):eff P tm st J (.alloc t):=by
 have _:=hs
 simp only[sxE,Zfu,Zh0,Zcc,Zgp]at hr
 cases hi:cf.ti t with
 | none=>simp only[hi]at hr;simp[run]at hr
 | some i=>
  have hti:=hc.ti t i hi
  simp only[hi]at hr
  simp only[eff,hti.zero]
  obtain⟨E',h1,h2,h3,h4⟩:=hm.addOb (ob:=⟨t,.c i.zero,i.size,.z,[]⟩) (cs:=i.zero.map cv) ⟨_,[],.z hti.zlen hti.zok,AccR.nil E,rfl⟩
  exact hK E' _ _ _ _ h1 h3 (.ptr h4) (by rw[h2];exact hr)
theorem e_box {t:TypeId}{x:Operand}{cal:Cal}(hx:opOk x=true)(hr:run Γ (sxE cf cal S sl (.box t x) K) E.ρ=some r)(hK:Next P C Γ r E K J):eff P tm st J (.box t x):=by
 have _:=hc
 simp only[sxE,Zfu,Zh0,Zcc,Zgp]at hr
 obtain⟨v,hr,hv⟩:=Zbs (on:=true) hm (ZbA hm hs hx) rfl hr
 have hv:=hv rfl
 simp only[eff]
 by_cases hag:isAgg v=true
 ·obtain⟨a,n,m,ov,rfl⟩:∃a n m ov,v=.agg a n m ov:=by cases v <;> first | exact⟨_,_,_,_,rfl⟩ | simp[isAgg]at hag
  obtain⟨cs,e,hb⟩:=hv.agg_inv
  refine⟨hx,hv.ZaQ rfl,?_⟩
  rw[e]
  obtain⟨E',h1,h2,h3,h4⟩:=hm.addOb (ob:=⟨t,a,n,m,ov⟩) (cs:=cs) hb
  exact hK E' _ _ _ _ h1 h3 (.ptr h4) (by rw[h2];exact hr)
 ·have hag':isAgg v=false:=by simpa using hag
  have key:∀(_:ZfW v=true) (hr:run Γ (K { S with ob:=S.ob++[⟨t,.c [.lit (.bool false)],1,.z,[(0,1,v)]⟩] } (.ptr S.ob.length 0)) E.ρ=some r),opOk x=true∧(Zak (opnd tm x)).all ZaQ=true∧J (.ptr st.n 0) (st.push t (Zak (opnd tm x))):=by
   intro hp hr
   have hce:=hv.ZaQ hp
   refine⟨hx,hce,?_⟩
   have hone:=hv.one_cell hag'
   have hb0:RB E (.c [.lit (.bool false)]) 1 .z [] [.d (.lit (.bool false))]:=⟨_,[],.z (r:=[.lit (.bool false)]) rfl rfl,AccR.nil E,rfl⟩
   have hb:=hb0.cons (o:=0) (k:=1) hv (by rw[hone];rfl) hce (by simp)
   have e:ZaO [AV.d (.lit (.bool false))] 0 (Zak (opnd tm x))=Zak (opnd tm x):=by rw[hone];rfl
   rw[e]at hb
   obtain⟨E',h1,h2,h3,h4⟩:=hm.addOb (ob:=⟨t,.c [.lit (.bool false)],1,.z,[(0,1,v)]⟩) hb
   exact hK E' _ _ _ _ h1 h3 (.ptr h4) (by rw[h2];exact hr)
  cases v <;> simp[isAgg]at hag' <;> simp only at hr <;> first | exact key rfl hr | (simp[run]at hr)
omit hc hm hs in
theorem ZjO {Ea:SS→Tr}{K:SS→List At→Tr}:∀(vs:List SV) {E:En} {S:SS} {acc:List At},RM P C E S st→run Γ (Zlg S vs acc K Ea) E.ρ=some r →
  ∃l,(∃as,run Γ (K (bump S l.length) (acc.reverse++as)) (E.ρ++l)=some r∧as.length=vs.length∧∀(i:Nat) (v:SV) (a:At) (av:AV),vs[i]?=some v→as[i]?=some a→RV E v av→Low (E.push l) a (Zak av)) ∨
   (run Γ (Ea (bump S l.length)) (E.ρ++l)=some r∧∃v∈vs,nonDA v=true)
 | [],E,S,acc,hm,hr=>⟨[],.inl ⟨[],by rw[List.append_nil,List.append_nil];exact hr,rfl,fun i v a av h=>by simp at h⟩⟩
 | v::vs,E,S,acc,hm,hr=>by
  simp only[Zlg]at hr
  split at hr
  ·rename_i hn
   exact⟨[],.inr ⟨by rw[List.append_nil];exact hr,v,List.mem_cons_self ..,hn⟩⟩
  ·obtain⟨l1,a1,hr1,h1⟩:=Zfv hr hm.nv rfl
   obtain⟨l2,h2⟩:=ZjO vs (E:=E.push l1) (hm.push l1) hr1
   refine⟨l1++l2,?_⟩
   have e:bump (bump S l1.length) l2.length=bump S (l1++l2).length:=by simp[bump,Nat.add_assoc]
   have e2:(E.push l1).ρ++l2=E.ρ++(l1++l2):=by simp[En.push]
   rw[e,e2,ZaZ]at h2
   rcases h2 with⟨as,h3,h4,h5⟩ | ⟨h3,w,hw,h4⟩
   ·refine .inl ⟨a1::as,by simpa using h3,by simp[h4],fun i u a av hi ha hrv=>?_⟩
    cases i with
    | zero=>
     simp at hi ha
     subst hi;subst ha
     have:=h1 rfl av hrv
     have hle:=En.le_push (E.push l1) l2
     rw[ZaZ]at hle
     exact this.mono hle
    | succ i=>exact h5 i u a av (by simpa using hi) (by simpa using ha) (hrv.mono (En.le_push E l1))
   ·exact .inr ⟨h3,w,List.mem_cons_of_mem _ hw,h4⟩
omit hc hm hs in
theorem ZkA:∀{ps:List (List AV)} {rows:List Row},ps.length=rows.length→(∀(i:Nat) p row,ps[i]?=some p→rows[i]?=some row→toDs p=some row)→toDss ps=some rows
 | [],[],_,_=>rfl
 | p::ps,row::rows,hl,h=>by
  simp only[toDss,h 0 p row rfl rfl,ZkA (by simpa using hl) (fun i p' r' h1 h2=>h (i+1) p' r' (by simpa using h1) (by simpa using h2))]
 | [],_::_,hl,_=>by simp at hl
 | _::_,[],hl,_=>by simp at hl
omit hc hm hs in
theorem Zix:∀{ps:List (List AV)} {p:List AV},p∈ps→toDs p=none→toDss ps=none
 | q::ps,p,hp,hn=>by
  simp only[toDss]
  rcases List.mem_cons.1 hp with rfl | hp
  ·rw[hn]
  ·rw[Zix hp hn]
   cases toDs q <;> rfl
omit hc hm hs in
theorem Zmr {v:SV}{av:AV}(h:RV E v av)(hn:nonD v=true):toDs (Zak av)=none:=by
 cases h <;> simp[nonD]at hn <;> rfl
omit hc hm hs in
theorem Zni:∀{as:List At} {rs:List Row} {ρ:List Row},evs ρ as=some rs→as.length=rs.length∧∀(i:Nat) a r,as[i]?=some a→rs[i]?=some r→a.ev ρ=some r
 | [],rs,ρ,h=>by simp only[evs,oI]at h;subst h;exact⟨rfl,fun i a r h=>by simp at h⟩
 | a::as,rs,ρ,h=>by
  simp only[evs]at h
  cases ha:a.ev ρ with
  | none=>rw[ha]at h;cases h
  | some x=>
   cases hs:evs ρ as with
   | none=>rw[ha,hs]at h;cases h
   | some xs=>
    rw[ha,hs]at h
    cases h
    obtain⟨h1,h2⟩:=Zni hs
    refine⟨by simp[h1],fun i b r hb hr=>?_⟩
    cases i with
    | zero=>simp at hb hr;subst hb;subst hr;exact ha
    | succ i=>exact h2 i b r (by simpa using hb) (by simpa using hr)
theorem Zms {t:TypeId}{len:Nat}{ps:Array (Nat×Operand)}{cal:Cal}(hx:(ps.toList.all fun p=>opOk p.2)=true)(hr:run Γ (sxE cf cal S sl (.buildSlice t len ps) K) E.ρ=some r)(hK:Next P C Γ r E K J):eff P tm st J (.buildSlice t len ps):=by
 simp only[sxE,Zfu,Zh0,Zcc,Zgp]at hr
 cases hi:cf.ti t with
 | none=>simp only[hi]at hr;simp[run]at hr
 | some i=>
  rcases he:i.elem with _ | ⟨e,n,by_⟩
  ·simp only[hi,he]at hr;simp[run]at hr
  simp only[hi,he]at hr
  obtain⟨hel,hz⟩:=(hc.ti t i hi).elem e n by_ he
  have hmap:(ps.toList.map fun p=>opd sl p.2)=(ps.toList.map (·.2)).map (opd sl):=by simp
  rw[hmap]at hr
  obtain⟨vs,hr,hl,hvs⟩:=Zeu (on:=true) hm hs rfl (by simpa[List.all_map] using hx) hr
  have hvs:=hvs rfl
  split at hr
  ·rename_i hcnd
   simp only[bA,decide_eq_true_eq,Bool.not_eq_true']at hcnd
   obtain⟨⟨⟨hidx,hbig⟩,hn0⟩,hcln⟩:=hcnd
   have hn:0<n:=by
    rcases Nat.eq_zero_or_pos n with e | e
    ·subst e;cases hn0
    ·exact e
   have hplen:(Zcr tm ps).length=len:=by
    have:=congrArg List.length hidx
    simpa[Zcr] using this
   have hpidx:(Zcr tm ps).map (·.1)=List.range' 0 len:=by
    rw[← hidx];simp[Zcr]
   have hcells:(Zcr tm ps).map (fun p=>Zak p.2)=((ps.toList.map (·.2)).map (opnd tm)).map Zak:=by simp[Zcr]
   have hvl:vs.length=((ps.toList.map (·.2)).map (opnd tm)).length:=by simp[hl]
   have hnoX:((Zcr tm ps).all fun p=>(Zak p.2).all noX)=true:=by
    rw[List.all_eq_true]
    intro p hp
    obtain⟨i,hi⟩:=List.getElem?_of_mem hp
    have hav:((ps.toList.map (·.2)).map (opnd tm))[i]?=some p.2:=by
     simp only[Zcr]at hi
     rw[List.getElem?_map]at hi ⊢
     rw[List.getElem?_map]
     cases hq:ps.toList[i]? with
     | none=>rw[hq]at hi;cases hi
     | some y=>rw[hq]at hi;cases hi;rfl
    have hi0:i<vs.length:=by rw[hvl];exact(List.getElem?_eq_some_iff.1 hav).1
    exact(hvs i _ p.2 (gG hi0) hav).cln hm (List.all_eq_true.1 hcln _ (List.getElem_mem hi0))
   obtain⟨l,hcase⟩:=ZjO vs hm hr
   simp only[eff,Zc2,hel]
   rcases hcase with⟨as,hr1,hal,hlow⟩ | ⟨hr1,w,hw,hnd⟩
   ·have hm1:=hm.push l
    obtain⟨l2,a,hr2,h2⟩:=Zbr (on:=true) (ρ:=(E.push l).ρ) hr1 hm1.nv rfl
    obtain⟨rs,x,h3,h4,h5⟩:=h2 rfl
    obtain⟨hlr,hget⟩:=Zni h3
    simp only[List.reverse_nil,List.nil_append]at hlr hget
    obtain⟨hall,rfl⟩:=Zbn (f:=.mk n) h4
    have hrow:∀(i:Nat) (av:AV) (row:Row),((ps.toList.map (·.2)).map (opnd tm))[i]?=some av→rs[i]?=some row→toDs (Zak av)=some row∧dvos row=true:=by
     intro i av row hav hrow
     have hi1:i<rs.length:=(List.getElem?_eq_some_iff.1 hrow).1
     have hi2:i<vs.length:=by omega
     have hi3:i<as.length:=by omega
     obtain⟨y,q1,q2,q3⟩:=hlow i _ _ av (gG hi2) (gG hi3) (hvs i _ av (gG hi2) hav)
     have q4:=hget i _ row (gG hi3) hrow
     rw[q1]at q4
     cases q4
     exact⟨q3,q2⟩
    have hlen2:((Zcr tm ps).map fun p=>Zak p.2).length=rs.length:=by rw[hcells];simp;simp at hvl;omega
    have hds:toDss ((Zcr tm ps).map fun p=>Zak p.2)=some rs:=by
     refine ZkA hlen2 fun i p row hp hr'=>?_
     rw[hcells,List.getElem?_map]at hp
     cases hq:((ps.toList.map (·.2)).map (opnd tm))[i]? with
     | none=>rw[hq]at hp;cases hp
     | some av=>
      rw[hq]at hp
      simp only[Option.map_some,oI]at hp
      subst hp
      exact(hrow i av row hq hr').1
    refine⟨hx,hn,hbig,hz,hpidx,hplen,?_,hnoX,?_⟩
    ·rw[List.all_eq_true]
     intro p hp
     obtain⟨i,hi⟩:=List.getElem?_of_mem hp
     have hi0:i<rs.length:=by rw[← hlen2,List.length_map];exact(List.getElem?_eq_some_iff.1 hi).1
     have hav:((ps.toList.map (·.2)).map (opnd tm))[i]?=some p.2:=by
      simp only[Zcr]at hi
      rw[List.getElem?_map]at hi ⊢
      rw[List.getElem?_map]
      cases hq:ps.toList[i]? with
      | none=>rw[hq]at hi;cases hi
      | some y=>rw[hq]at hi;cases hi;rfl
     obtain⟨q1,q2⟩:=hrow i p.2 _ hav (gG hi0)
     have q3:=List.all_eq_true.1 hall _ (List.getElem_mem hi0)
     simp only[bA,beq_iff_eq]
     refine⟨?_,ZgR q1 q2⟩
     rw[Zdd q1];simpa using q3
    ·rw[hds]
     obtain⟨E',k1,k2,k3,k4⟩:=(hm1.push l2).own (s:=n) (xs:=rs) (Ziw hel) (hc.xf t i e n by_ hi he)
     have hok:dvo (slv n rs)=true:=by
      refine Zhv ((ZcD _).2 fun row hrow'=>?_)
      obtain⟨i,hi⟩:=List.getElem?_of_mem hrow'
      have hi0:i<((ps.toList.map (·.2)).map (opnd tm)).length:=by rw[← hvl];have:=(List.getElem?_eq_some_iff.1 hi).1;omega
      exact(hrow i _ row (gG hi0) hi).2
     have hle:E.le E':=(En.le_push E l).trans ((En.le_push (E.push l) l2).trans k1)
     refine hK E' _ (.one a (some (.w _))) (.own st.k n rs) _ hle k3 (.one1 (x:=slv n rs) ?_ hok k4 rfl) (by rw[k2];exact hr2)
     rw[k2];exact h5
   ·split at hr1
    ·rename_i hall
     simp only[bA]at hall
     obtain⟨hall,hn1⟩:=hall
     obtain rfl:=nbeq hn1
     have hone:∀(i:Nat) (v:SV) (av:AV),vs[i]?=some v→((ps.toList.map (·.2)).map (opnd tm))[i]?=some av→Zak av=[av]∧ZaQ av=true∧RV E v av:=by
      intro i v av hv hav
      have h1:=hvs i v av hv hav
      have h2:=List.all_eq_true.1 hall v (List.mem_of_getElem? hv)
      have h3:isAgg v=false:=by cases v <;> first | rfl | simp[nonD]at h2
      have h4:ZfW v=true:=by cases v <;> first | rfl | simp[nonD]at h2
      have h5:=h1.one_cell h3
      refine⟨h5,?_,h1⟩
      have:=h1.ZaQ h4
      rw[h5]at this
      simpa using this
     have hds:toDss ((Zcr tm ps).map fun p=>Zak p.2)=none:=by
      obtain⟨i,hi⟩:=List.getElem?_of_mem hw
      have hi0:i<((ps.toList.map (·.2)).map (opnd tm)).length:=by rw[← hvl];exact(List.getElem?_eq_some_iff.1 hi).1
      refine Zix (p:=Zak (((ps.toList.map (·.2)).map (opnd tm))[i])) ?_ (Zmr (hvs i w _ hi (gG hi0)) (List.all_eq_true.1 hall w hw))
      rw[hcells]
      exact List.mem_map_of_mem (List.getElem_mem hi0)
     refine⟨hx,hn,hbig,hz,hpidx,hplen,?_,hnoX,?_⟩
     ·rw[List.all_eq_true]
      intro p hp
      obtain⟨i,hi⟩:=List.getElem?_of_mem hp
      have hav:((ps.toList.map (·.2)).map (opnd tm))[i]?=some p.2:=by
       simp only[Zcr]at hi
       rw[List.getElem?_map]at hi ⊢
       rw[List.getElem?_map]
       cases hq:ps.toList[i]? with
       | none=>rw[hq]at hi;cases hi
       | some y=>rw[hq]at hi;cases hi;rfl
      have hi0:i<vs.length:=by rw[hvl];exact(List.getElem?_eq_some_iff.1 hav).1
      obtain⟨q1,q2,-⟩:=hone i _ p.2 (gG hi0) hav
      rw[q1]
      simp[q2]
     ·rw[hds]
      refine hK (E.push l) _ _ _ st (En.le_push E l) (hm.push l) ?_ hr1
      rw[hcells]
      refine .psl (by simp[hl]) (fun i us as h1 h2=>?_) (fun i j us as v a h1 h2 h3 h4=>?_)
      ·rw[List.getElem?_map]at h1 h2
       cases q1:vs[i]? with
       | none=>rw[q1]at h1;cases h1
       | some v=>
        cases q2:((ps.toList.map (·.2)).map (opnd tm))[i]? with
        | none=>rw[q2]at h2;cases h2
        | some av=>
         rw[q1]at h1;rw[q2]at h2
         cases h1;cases h2
         rw[(hone i v av q1 q2).1];rfl
      ·rw[List.getElem?_map]at h1 h2
       cases q1:vs[i]? with
       | none=>rw[q1]at h1;cases h1
       | some u=>
        cases q2:((ps.toList.map (·.2)).map (opnd tm))[i]? with
        | none=>rw[q2]at h2;cases h2
        | some av=>
         rw[q1]at h1;rw[q2]at h2
         cases h1;cases h2
         obtain⟨k1,-,k3⟩:=hone i u av q1 q2
         simp only[k1]at h4
         cases j with
         | zero=>simp at h3 h4;subst h3;subst h4;exact k3.mono (En.le_push E l)
         | succ j=>simp at h3
    ·obtain⟨l2,rows,hr2,hrl,hrows⟩:=Zmq vs (E:=E.push l) (hm.push l).nv hm.w0 hr1
     simp only[List.reverse_nil,List.nil_append]at hr2
     by_cases hany:(rows.any fun r=>r.any nonD)=true
     ·simp only[hany,if_true]at hr2
      have hrow:∀(i:Nat) (row:List SV) (av:AV),rows[i]?=some row→((ps.toList.map (·.2)).map (opnd tm))[i]?=some av→row.length=n∧(Zak av).length=n∧(Zak av).all ZaQ=true∧∀(j:Nat) (u:SV) (c:AV),row[j]?=some u→(Zak av)[j]?=some c→RV ((E.push l).push l2) u c:=by
       intro i row av h1 h2
       have hi0:i<vs.length:=by rw[← hrl];exact(List.getElem?_eq_some_iff.1 h1).1
       exact hrows i _ row av (gG hi0) h1 ((hvs i _ av (gG hi0) h2).mono (En.le_push E l))
      have hds:toDss ((Zcr tm ps).map fun p=>Zak p.2)=none:=by
       obtain⟨row,hrm,hrn⟩:=List.any_eq_true.1 hany
       obtain⟨u,hu,hun⟩:=List.any_eq_true.1 hrn
       obtain⟨i,hi⟩:=List.getElem?_of_mem hrm
       obtain⟨j,hj⟩:=List.getElem?_of_mem hu
       have hi0:i<((ps.toList.map (·.2)).map (opnd tm)).length:=by rw[← hvl,← hrl];exact(List.getElem?_eq_some_iff.1 hi).1
       obtain⟨q1,q2,q3,q4⟩:=hrow i row _ hi (gG hi0)
       refine Zix (p:=Zak (((ps.toList.map (·.2)).map (opnd tm))[i])) ?_ ?_
       ·rw[hcells]
        exact List.mem_map_of_mem (List.getElem_mem hi0)
       ·have hj0:j<(Zak (((ps.toList.map (·.2)).map (opnd tm))[i])).length:=by rw[q2,← q1];exact(List.getElem?_eq_some_iff.1 hj).1
        have hc:=q4 j u _ hj (gG hj0)
        have hnn:=Zmr hc hun
        have hna:isAgg u=false:=by cases u <;> first | rfl | simp[nonD]at hun
        rw[hc.one_cell hna]at hnn
        have hnone:=Zlm hnn
        cases hq:toDs (Zak (((ps.toList.map (·.2)).map (opnd tm))[i]))with
        | none=>rfl
        | some xs=>
         exfalso
         have h6:=congrArg (fun l=>l[j]?) ((Zc4 _ _).1 hq)
         simp only[List.getElem?_map,gG hj0,Option.map_some,hnone]at h6
         cases hx:xs[j]? with
         | none=>rw[hx]at h6;cases h6
         | some y=>rw[hx]at h6;cases h6
      refine⟨hx,hn,hbig,hz,hpidx,hplen,?_,hnoX,?_⟩
      ·rw[List.all_eq_true]
       intro p hp
       obtain⟨i,hi⟩:=List.getElem?_of_mem hp
       have hav:((ps.toList.map (·.2)).map (opnd tm))[i]?=some p.2:=by
        simp only[Zcr]at hi
        rw[List.getElem?_map]at hi ⊢
        rw[List.getElem?_map]
        cases hq:ps.toList[i]? with
        | none=>rw[hq]at hi;cases hi
        | some y=>rw[hq]at hi;cases hi;rfl
       have hi0:i<rows.length:=by rw[hrl,hvl];exact(List.getElem?_eq_some_iff.1 hav).1
       obtain⟨-,q2,q3,-⟩:=hrow i _ p.2 (gG hi0) hav
       simp[q2,q3]
      ·rw[hds]
       refine hK ((E.push l).push l2) _ _ _ st ((En.le_push E l).trans (En.le_push _ l2)) ((hm.push l).push l2) ?_ hr2
       rw[hcells]
       refine .psl (by simp[hrl,hl]) (fun i us as h1 h2=>?_) (fun i j us as v a h1 h2 h3 h4=>?_)
       ·rw[List.getElem?_map]at h2
        cases q2:((ps.toList.map (·.2)).map (opnd tm))[i]? with
        | none=>rw[q2]at h2;cases h2
        | some av=>
         rw[q2]at h2
         cases h2
         obtain⟨k1,k2,-,-⟩:=hrow i us av h1 q2
         rw[k1,k2]
       ·rw[List.getElem?_map]at h2
        cases q2:((ps.toList.map (·.2)).map (opnd tm))[i]? with
        | none=>rw[q2]at h2;cases h2
        | some av=>
         rw[q2]at h2
         cases h2
         exact(hrow i us av h1 q2).2.2.2 j v a h3 h4
     ·simp[hany,run]at hr2
  ·simp[run]at hr
end
end Go.AW

namespace Go.AW
open Go.RowKit
section
variable {P:Program}{cf:Cf}{C:Ctx}{Γ:Den}{r:Rs}{E:En}{S:SS}{st:St}{sl:List (Nat×SE)}{tm:Tm}{K:KV}{J:AV→St→Prop}
theorem ZoB {av:AV}{s:Nat}{xs:List Row}(h:toD av=some (.sl s xs))(hn:noX av=true):∃s',elems av=some (s',xs.map (·.map .d)):=by
 cases av <;> simp only[toD,oI,reduceCtorEq]at h
 ·subst h;exact⟨_,rfl⟩
 ·simp only[DV.sl.injEq]at h
  obtain⟨-,rfl⟩:=h
  exact⟨_,rfl⟩
 ·rename_i tk s' xs'
  cases xs' with
  | nil=>
   simp only[slv,DV.sl.injEq]at h
   obtain⟨-,rfl⟩:=h
   exact⟨_,rfl⟩
  | cons y ys=>
   simp only[slv,DV.sl.injEq]at h
   obtain⟨rfl,rfl⟩:=h
   exact⟨_,rfl⟩
 ·cases hn
theorem Zg3 {α:Type}{g h:GK}{e:α}(hh:h≠g):∀{l:List (GK×α)},(h,e)∈l→(h,e)∈grm g l
 | [],hx=>by simp at hx
 | (g',y)::l,hx=>by
  simp only[grm]
  split
  ·rename_i q
   rcases List.mem_cons.1 hx with hx | hx
   ·simp only[Prod.mk.injEq]at hx
    exact absurd (hx.1.trans (Zh3 q).symm) hh
   ·exact Zg3 hh hx
  ·rcases List.mem_cons.1 hx with hx | hx
   ·rw[hx];exact List.mem_cons_self ..
   ·exact List.mem_cons_of_mem _ (Zg3 hh hx)
theorem RM.ungX (hm:RM P C E S st)(g:Option GK):RM P C E (ungX S g) st:=by
 have key:∀g:GK,RM P C E { S with gr:=grm g S.gr,xn:=g::S.xn } st:=fun g=>hm.lessGr (fun x hx=>(Zf6 hx).1) fun h hb=>by
  rcases List.mem_append.1 hb with hb | hb
  ·obtain⟨e,h1,h2⟩:=ZcT.1 hb
   by_cases hh:h=g
   ·exact List.mem_append.2 (.inr (by rw[hh];exact List.mem_cons_self ..))
   ·refine List.mem_append.2 (.inl (ZcT.2 ⟨e,?_,h2⟩))
    exact Zg3 hh h1
  ·exact List.mem_append.2 (.inr (List.mem_cons_of_mem _ hb))
 unfold AW.ungX
 split
 ·exact hm
 ·exact key _
 ·exact hm
theorem ungX_gr {g:GK}(hg:g≠.w 0){x:GK×TypeId}(hx:x∈(ungX S (some g)).gr):x∈S.gr∧x.1≠g:=by
 unfold ungX at hx
 split at hx
 ·rename_i h;cases h;exact absurd rfl hg
 ·rename_i h;cases h;exact Zf6 hx
 ·rename_i h;cases h
theorem ungX_nw (S:SS)(g:Option GK):(ungX S g).nw=S.nw:=by unfold ungX;split <;> rfl
theorem Zmt (hm:RM P C E S st){t e:TypeId}{n by_:Nat}(hel:elT P t=some (e,n,by_))(hz:(zeroC P e).map (·.length)=some n)(hn:0<n){g:Option GK}{av bv:AV}{old ys:List (List AV)}
  (hsrc:SrcX st n bv ys) (hyl:∀y∈ys,y.length=n) (hyc:∀y∈ys,y.all ZaQ=true)
  (hT:(av=.nil∧old=[])∨∃g0 id cap full,g=some g0∧(g0,e+XF)∈S.gr∧gav E g0=some (.xs id 0 n cap full)∧av=.xs id 0 n cap old∧old.length≤full.length∧full.take old.length=old)
  (hb1:old.length+ys.length≤9223372036854775807) (hb2:(old.length+ys.length) * by_≤140737488355328)
  (fin:∀E' st' av',E.le E'→E'.ρ=E.ρ→RM P C E' { ungX S g with nw:=S.nw+1,gr:=(.w S.nw,e+XF)::(ungX S g).gr } st'→E'.ω S.nw=some av'→((av'=.nil∧old=[]∧ys=[])∨∃id cap,av'=.xs id 0 n cap (old++ys))→J av' st') :
  Zim P t av bv st J:=by
 have hm1:=hm.ungX g
 have hnw:=ungX_nw S g
 have hesz:=Ziw hel
 have pushed:∀cap zs,old.length+ys.length≤cap→zs.length=(cap - (old.length+ys.length)) * n→(∀y∈old,y.length=n)→J (.xs st.n 0 n cap (old++ys)) (st.push e ((old++ys).flatten++zs)):=by
  intro cap zs h1 h2 h3
  have hl:∀y∈old++ys,y.length=n:=fun y hy=>(List.mem_append.1 hy).elim (h3 y) (hyl y)
  have hfl:=ZcE _ hl
  have hm2:=hm1.pushSt e ((old++ys).flatten++zs)
  obtain⟨hι,hg⟩:=hm1.new_id
  obtain⟨E',q1,q2,q3,q4⟩:=hm2.nameX (id:=st.n) (s:=n) (cap:=cap) (rows:=old++ys) (e:=e) ⟨st.n,n,cap,old++ys,rfl,by simp[St.push],by simp[St.push,upd],by simp[St.push,upd],hesz,
   by
    simp only[St.push,upd,if_true,List.length_append,h2]
    rw[hfl,List.length_append,← Nat.add_mul]
    congr 1;omega,
   by
    simp only[St.push,upd,if_true]
    rw[← hfl,List.take_left'  rfl],
   hl,by simpa using h1⟩ (.inr hm.fr.n) hι hg
  rw[hnw]at q3 q4
  exact fin E' _ _ q1 q2 q3 q4 (.inr ⟨_,_,rfl⟩)
 refine⟨e,n,by_,ys,hel,hn,hz,hsrc,hyl,hyc,?_⟩
 rcases hT with⟨rfl,rfl⟩ | ⟨g0,id,cap,full,rfl,hg0,hgv,rfl,hof,hft⟩
 ·left
  refine⟨rfl,by simpa using hb1,by simpa using hb2,fun h0=>?_,fun cap zs h1 h2 h3=>?_⟩
  ·obtain⟨E',q1,q2,q3,q4⟩:=hm1.nameNil (e+XF)
   rw[hnw]at q3 q4
   exact fin E' _ _ q1 q2 q3 q4 (.inl ⟨rfl,rfl,h0⟩)
  ·exact pushed cap zs (by simpa using h2) (by simpa using h3) (fun y h=>by simp at h)
 ·right
  obtain⟨av,q1,q2⟩:=hm.gr g0 _ hg0
  rw[hgv]at q1
  cases q1
  rcases q2 with q2 | ⟨q2,-⟩ | ⟨-,id',s',cap',rows',q2,q3,q4,q5,q6,q7,q8,q9,q10⟩
  ·cases q2
  ·rw[Zll]at q2;cases q2
  simp only[AV.xs.injEq]at q2
  obtain⟨rfl,-,rfl,rfl,rfl⟩:=q2
  rw[ZpS]at q5
  have hne:g0≠.w 0:=by
   rintro rfl
   rw[show gav E (.w 0)=E.ω 0 from rfl,hm.w0]at hgv
   cases hgv
  have hol:∀y∈old,y.length=n:=fun y hy=>q9 y (by rw[← hft]at hy;exact List.mem_of_mem_take hy)
  have hofl:=ZcE old hol
  have hpre:(st.obj id).2.take (old.length * n)=old.flatten:=by
   have h1:old.length * n≤full.length * n:=Nat.mul_le_mul_right _ hof
   have h2:((st.obj id).2.take (full.length * n)).take (old.length * n)=(st.obj id).2.take (old.length * n):=by rw[List.take_take,Nat.min_eq_left h1]
   rw[← h2,q8]
   have h3:full=old++full.drop old.length:=by
    have:=List.take_append_drop old.length full
    rw[hft]at this;exact this.symm
   rw[h3,List.flatten_append,← hofl,List.take_left' rfl]
  have hιd:∀j,E.ι j=some id→False:=fun j hj=>hm.ix _ _ _ _ _ _ _ j hg0 hgv hj
  have hgd:∀g e' o s cap xs,(g,e')∈(ungX S (some g0)).gr→gav E g=some (.xs id o s cap xs)→False:=fun g e' o s cp xs h1 h2=>by
   obtain⟨h3,h4⟩:=ungX_gr hne h1
   exact hm.gx g e' g0 _ h3 hg0 h4 id _ _ _ _ _ _ _ _ h2 hgv
  refine⟨id,cap,old,rfl,q4,q5,q7,hpre,hol,hb1,hb2,fun h1=>?_,fun h1 cap' zs h2 h3=>?_⟩
  ·have hl:∀y∈old++ys,y.length=n:=fun y hy=>(List.mem_append.1 hy).elim (hol y) (hyl y)
   have hfit:old.length * n+ys.flatten.length≤(st.obj id).2.length:=by
    rw[ZcE ys hyl,q7,← Nat.add_mul]
    exact Nat.mul_le_mul_right _ h1
   have hm2:=hm1.setSt (id:=id) (ZaO (st.obj id).2 (old.length * n) ys.flatten) (hm.gA _ _ _ _ _ _ _ hg0 hgv) hιd hgd
   obtain⟨E',r1,r2,r3,r4⟩:=hm2.nameX (id:=id) (s:=n) (cap:=cap) (rows:=old++ys) (e:=e) ⟨id,n,cap,old++ys,rfl,q3,q4,by simp only[St.setc,upd,if_true];exact q5,hesz,
    by simp only[St.setc,upd,if_true];rw[ZaX _ _ _ hfit];exact q7,
    by
     simp only[St.setc,upd,if_true,ZaO]
     rw[hpre,← List.flatten_append]
     have e1:(old++ys).length * n=(old++ys).flatten.length:=(ZcE _ hl).symm
     rw[e1,List.take_left' rfl],
    hl,by simpa using h1⟩ (hm.gA _ _ _ _ _ _ _ hg0 hgv) hιd hgd
   rw[hnw]at r3 r4
   exact fin E' _ _ r1 r2 r3 r4 (.inr ⟨_,_,rfl⟩)
  ·exact pushed cap' zs h2 h3 hol
theorem ZpT (hm:RM P C E S st){g:GK}{av:AV}{e:TypeId}{n:Nat}(hesz:esz P e=some n)(hgv:gav E g=some av)(h:grows S (some g) (e+XF)=true) :
  av=.nil∨∃id cap rows,av=.xs id 0 n cap rows∧(g,e+XF)∈S.gr:=by
 obtain⟨g',h1,h2⟩:=Zex hm h
 cases h1
 rcases h2 with rfl | h2
 ·rw[show gav E (.w 0)=E.ω 0 from rfl,hm.w0]at hgv
  cases hgv;exact .inl rfl
 ·obtain⟨av',q1,q2⟩:=hm.gr g _ h2
  rw[hgv]at q1
  cases q1
  rcases q2 with q2 | ⟨q2,-⟩ | ⟨-,id',s',cap',rows',q2,q3,q4,q5,q6,-⟩
  ·exact .inl q2
  ·rw[Zll]at q2;cases q2
  ·rw[ZpS,hesz]at q6
   cases q6
   exact .inr ⟨_,_,_,q2,h2⟩
theorem ZfY {g:Option GK}{e:TypeId}{ρ:List Row}(h:run Γ (Zf5 S g e) ρ=some r):False:=by
 unfold Zf5 at h
 split at h
 ·split at h <;> simp[run]at h
 ·simp[run]at h
theorem ZpU (hm:RM P C E S st){t e:TypeId}{n by_:Nat}(hel:elT P t=some (e,n,by_))(hz:(zeroC P e).map (·.length)=some n)(hn:0<n){g:Option GK}{av bv:AV}{a b:At}{d1 d2:DV}
  (e1:a.ev E.ρ=some [d1]) (o1:dvo d1=true) (e2:b.ev E.ρ=some [d2]) (o2:dvo d2=true) (l1:toD av=some d1)
  (hT:av=.nil∨∃g0 id cap full rows,g=some g0∧(g0,e+XF)∈S.gr∧gav E g0=some (.xs id 0 n cap full)∧av=.xs id 0 n cap rows∧rows.length≤full.length∧full.take rows.length=rows)
  (hsrc:∀s ys,d2=.sl s ys→(s=n∨ys=[])→SrcX st n bv (ys.map (·.map .d)))
  (hr:run Γ (apD S (e+XF) n by_ g a b K) E.ρ=some r) (hK:Next P C Γ r E K J):Zim P t av bv st J:=by
 unfold apD at hr
 obtain⟨l,a',hr,h2⟩:=Zbr (on:=true) hr hm.nv rfl
 obtain⟨rs,z,h3,h4,h5⟩:=h2 rfl
 obtain rfl:=evs2 e1 e2 h3
 have hok:=ZnV h4 (by intro y hy;simp at hy;rcases hy with rfl | rfl <;> simp[dvos,o1,o2])
 obtain⟨s1,xs,s2,ys,q,hs1,hs2,hall,hb1,hb2,rfl⟩:=Zbn (f:=.app n by_) h4
 simp only[List.cons.injEq,and_true]at q
 obtain⟨rfl,rfl⟩:=q
 have hok:dvo (slv n (xs++ys))=true:=by simpa[dvos] using hok
 have hys:∀y∈ys.map (·.map AV.d),y.length=n:=fun y hy=>by
  obtain⟨y0,hy0,rfl⟩:=List.mem_map.1 hy
  simpa using List.all_eq_true.1 hall y0 hy0
 have hyo:∀y∈ys.map (·.map AV.d),y.all ZaQ=true:=fun y hy=>by
  obtain⟨y0,hy0,rfl⟩:=List.mem_map.1 hy
  simp only[dvo]at o2
  rw[ZcD]at o2
  exact ZgR (Zrd y0) (o2 y0 hy0)
 have hm1:=hm.push l
 have hold:av=.nil∧xs=[]∨∃g0 id cap full,g=some g0∧(g0,e+XF)∈S.gr∧gav E g0=some (.xs id 0 n cap full)∧av=.xs id 0 n cap (xs.map (·.map .d))∧xs.length≤full.length∧full.take xs.length=xs.map (·.map .d):=by
  rcases hT with rfl | ⟨g0,id,cap,full,rows,h6,h7,h8,rfl,h9,h10⟩
  ·simp only[toD,oI,DV.sl.injEq]at l1
   obtain⟨-,rfl⟩:=l1
   exact .inl ⟨rfl,rfl⟩
  ·obtain⟨rfl,-⟩:=Zmm l1
   simp only[List.length_map]at h9 h10
   exact .inr ⟨g0,id,cap,full,h6,h7,h8,rfl,h9,h10⟩
 refine Zmt (E:=E.push l) (S:=bump S l.length) hm1 hel hz hn (g:=g) (old:=xs.map (·.map .d)) (ys:=ys.map (·.map .d)) (hsrc s2 ys rfl hs2) hys hyo ?_ (by simpa using hb1) (by simpa using hb2) ?_
 ·rcases hold with⟨h6,rfl⟩ | ⟨g0,id,cap,full,h6,h7,h8,h9,h10,h11⟩
  ·exact .inl ⟨h6,rfl⟩
  ·exact .inr ⟨g0,id,cap,full,h6,h7,Zcv (En.le_push E l) h8,h9,by simpa using h10,by simpa using h11⟩
 ·intro E' st' av' k1 k2 k3 k4 k5
  refine hK E' _ (.one a' (some (.w _))) av' st' ((En.le_push E l).trans k1) k3 (.one1 (x:=slv n (xs++ys)) ?_ hok k4 ?_) (by rw[k2];exact hr)
  ·rw[k2];exact h5
  ·rcases k5 with⟨rfl,h6,h7⟩ | ⟨id,cap,rfl⟩
   ·simp only[List.map_eq_nil_iff]at h6 h7
    rw[h6,h7];rfl
   ·rw[← List.map_append]
    simp only[toD,ZhP]
theorem ZoC {rows:List (List SV)}{ass:List (List AV)}{n:Nat}(hl:rows.length=ass.length)(hl2:∀(i:Nat) (vs:List SV) (as:List AV),rows[i]?=some vs→ass[i]?=some as→vs.length=as.length)
  (hv:∀(i j:Nat) (vs:List SV) (as:List AV) (v:SV) (a:AV),rows[i]?=some vs→ass[i]?=some as→vs[j]?=some v→as[j]?=some a→RV E v a)
  (hc:rows.all (fun r=>Nat.beq r.length n&&r.all (fun v=>ZfW v&&!isAgg v))=true):(∀y∈ass,y.length=n)∧∀y∈ass,y.all ZaQ=true:=by
 have hrow:∀y∈ass,∃(i:Nat) (vs:List SV),rows[i]?=some vs∧ass[i]?=some y:=by
  intro y hy
  obtain⟨i,hi⟩:=List.getElem?_of_mem hy
  have:i<rows.length:=by rw[hl];exact(List.getElem?_eq_some_iff.1 hi).1
  exact⟨i,_,gG this,hi⟩
 constructor
 ·intro y hy
  obtain⟨i,vs,h1,h2⟩:=hrow y hy
  have:=List.all_eq_true.1 hc vs (List.mem_of_getElem? h1)
  simp only[bA]at this
  rw[← hl2 i vs y h1 h2]
  exact nbeq this.1
 ·intro y hy
  obtain⟨i,vs,h1,h2⟩:=hrow y hy
  have h3:=List.all_eq_true.1 hc vs (List.mem_of_getElem? h1)
  simp only[bA]at h3
  rw[List.all_eq_true]
  intro a ha
  obtain⟨j,hj⟩:=List.getElem?_of_mem ha
  have hlt:j<vs.length:=by rw[hl2 i vs y h1 h2];exact(List.getElem?_eq_some_iff.1 hj).1
  have h4:=hv i j vs y _ a h1 h2 (gG hlt) hj
  have h5:=List.all_eq_true.1 h3.2 _ (List.getElem_mem hlt)
  simp only[bA,Bool.not_eq_true']at h5
  have h6:=h4.ZaQ h5.1
  rw[h4.one_cell h5.2]at h6
  simpa using h6
theorem ZpV (hm:RM P C E S st){t e:TypeId}{n by_:Nat}(hel:elT P t=some (e,n,by_))(hz:(zeroC P e).map (·.length)=some n)(hn:0<n){g:Option GK}{av:AV}{old rows:List (List SV)}{olds ass:List (List AV)}
  (hlo:old.length=olds.length) (hlo2:∀(i:Nat) (vs:List SV) (as:List AV),old[i]?=some vs→olds[i]?=some as→vs.length=as.length)
  (hvo:∀(i j:Nat) (vs:List SV) (as:List AV) (v:SV) (a:AV),old[i]?=some vs→olds[i]?=some as→vs[j]?=some v→as[j]?=some a→RV E v a)
  (hl:rows.length=ass.length) (hl2:∀(i:Nat) (vs:List SV) (as:List AV),rows[i]?=some vs→ass[i]?=some as→vs.length=as.length)
  (hv:∀(i j:Nat) (vs:List SV) (as:List AV) (v:SV) (a:AV),rows[i]?=some vs→ass[i]?=some as→vs[j]?=some v→as[j]?=some a→RV E v a)
  (hT:(av=.nil∧old=[])∨∃g0 id cap,g=some g0∧(g0,e+XF)∈S.gr∧gav E g0=some (.xs id 0 n cap olds)∧av=.xs id 0 n cap olds)
  (hr:run Γ (apL S (e+XF) n by_ g (old++rows) K) E.ρ=some r) (hK:Next P C Γ r E K J):Zim P t av (.psl n ass) st J:=by
 unfold apL at hr
 split at hr
 ·rename_i hcnd
  simp only[bA,Bool.not_eq_true']at hcnd
  obtain⟨⟨⟨hne,hb1⟩,hb2⟩,hall⟩:=hcnd
  have hb1:=lB hb1
  have hb2:=lB hb2
  rw[List.all_append,bA]at hall
  obtain⟨h1,h2⟩:=ZoC hl hl2 hv hall.2
  rw[List.length_append,hlo,hl]at hb1 hb2
  refine Zmt hm hel hz hn (g:=g) (old:=olds) (ys:=ass) (.inl ⟨n,rfl⟩) h1 h2 ?_ (by omega) hb2 ?_
  ·rcases hT with⟨h3,rfl⟩ | ⟨g0,id,cap,h3,h4,h5,h6⟩
   ·exact .inl ⟨h3,List.eq_nil_of_length_eq_zero (by rw[← hlo];rfl)⟩
   ·exact .inr ⟨g0,id,cap,olds,h3,h4,h5,h6,Nat.le_refl _,List.take_length⟩
  ·intro E' st' av' k1 k2 k3 k4 k5
   refine hK E' _ (.psx n (old++rows) (.w S.nw)) av' st' k1 k3 ?_ (by rw[k2];exact hr)
   have hpos:0<(old++rows).length:=by
    cases hq:old++rows with
    | nil=>rw[hq]at hne;cases hne
    | cons _ _=>simp
   rcases k5 with⟨-,h6,h7⟩ | ⟨id,cap,rfl⟩
   ·subst h6;subst h7
    simp at hlo hl
    rw[hlo,hl]at hpos
    simp at hpos
   ·have happ:∀(i:Nat) (vs:List SV) (as:List AV),(old++rows)[i]?=some vs→(olds++ass)[i]?=some as→(old[i]?=some vs∧olds[i]?=some as)∨(rows[i - old.length]?=some vs∧ass[i - old.length]?=some as):=by
     intro i vs as h8 h9
     rw[List.getElem?_append]at h8 h9
     by_cases hi:i<old.length
     ·rw[if_pos hi]at h8
      rw[if_pos (by omega)]at h9
      exact .inl ⟨h8,h9⟩
     ·rw[if_neg hi]at h8
      rw[if_neg (by omega),← hlo]at h9
      exact .inr ⟨h8,h9⟩
    refine .psx (cap:=cap) (id:=id) k4 (by simp[hlo,hl]) (fun i vs as h8 h9=>?_) (fun i j vs as v a h8 h9 h10 h11=>?_)
    ·rcases happ i vs as h8 h9 with⟨q1,q2⟩ | ⟨q1,q2⟩
     ·exact hlo2 _ _ _ q1 q2
     ·exact hl2 _ _ _ q1 q2
    ·rcases happ i vs as h8 h9 with⟨q1,q2⟩ | ⟨q1,q2⟩
     ·exact(hvo _ j _ _ v a q1 q2 h10 h11).mono k1
     ·exact(hv _ j _ _ v a q1 q2 h10 h11).mono k1
 ·simp[run]at hr
theorem apX_run (hm:RM P C E S st){t e:TypeId}{n by_:Nat}(hel:elT P t=some (e,n,by_))(hz:(zeroC P e).map (·.length)=some n)(hn:0<n){av bv:AV}{v u:SV}(hv:RV E v av)(hu:RV E u bv)
  (hr:run Γ (apX S (e+XF) n by_ v u K) E.ρ=some r) (hK:Next P C Γ r E K J):Zim P t av bv st J:=by
 have hesz:=Ziw hel
 unfold apX at hr
 split at hr
 ·rename_i a o b o'
  split at hr
  rotate_left
  ·simp[run]at hr
  rename_i hcl
  split at hr
  rotate_left
  ·exact(ZfY hr).elim
  rename_i hgr
  obtain⟨d1,e1,o1,l1⟩:=hv.one_toD
  obtain⟨d2,e2,o2,l2⟩:=hu.one_toD
  obtain⟨g,rfl,-⟩:=Zex hm hgr
  have hgv:gav E g=some av:=by cases hv with | one1 _ _ q _=>exact q
  refine ZpU hm hel hz hn e1 o1 e2 o2 l1 ?_ (fun s ys hd hs=>?_) hr hK
  ·rcases ZpT hm hesz hgv hgr with h | ⟨id,cap,rows,rfl,h⟩
   ·exact .inl h
   ·exact .inr ⟨g,id,cap,rows,rows,rfl,h,hgv,rfl,Nat.le_refl _,List.take_length⟩
  ·subst hd
   exact .inl (ZoB l2 (hu.cln1 hm hcl))
 ·rename_i ra kk g rb lo g'
  split at hr
  rotate_left
  ·simp[run]at hr
  rename_i hcnd
  simp only[bA]at hcnd
  obtain⟨hgg,hlive⟩:=hcnd
  obtain rfl:=Zh3 hgg
  split at hr
  rotate_left
  ·exact(ZfY hr).elim
  rename_i hgr
  cases hv with
  | @xc _ _ _ id s cap h kk' l rows sub hs h1 h2 h3 h4 h5 h6 h7=>
   simp only[At.ev,oI,List.cons.injEq,DV.lit.injEq,Value.int.injEq,and_true]at h3
   obtain⟨rfl,rfl⟩:=h3
   cases hu with
   | @xc _ _ _ id2 s2 cap2 hh kk2 l2 rows2 sub2 hs' k1 k2 k3 k4 k5 k6 k7=>
    rw[h7]at k7
    simp only[oI,AV.xs.injEq,true_and]at k7
    obtain⟨rfl,rfl,rfl,hrr⟩:=k7
    have hrr2:rows=rows2:=by
     have q1:=ZhP rows
     rw[hrr,ZhP]at q1
     exact(Option.some.inj q1).symm
    subst hrr2
    obtain⟨e',-,-,-,p1,p2,p3,p4,p5,p6,p7,p8⟩:=hm.liveXs hlive h7
    have hsn:s=n∧(g,e+XF)∈S.gr:=by
     rcases ZpT hm hesz h7 hgr with q | ⟨id',cap',rows',q,q'⟩
     ·cases q
     ·cases q;exact⟨rfl,q'⟩
    obtain⟨rfl,hmem⟩:=hsn
    have hoff:(0+if (0:Int).toNat<cap then(0:Int).toNat * s else 0)=0:=by simp
    rw[hoff]
    have hcap0:cap - (0:Int).toNat=cap:=by simp
    rw[hcap0]
    have hd1:dvo (slv s sub)=true:=Zhv h2
    have hd2:dvo (slv s sub2)=true:=Zhv k2
    have hl1:toD (AV.xs id 0 s cap (sub.map (·.map AV.d)))=some (slv s sub):=by simp only[toD,ZhP]
    refine ZpU hm hel hz hn h1 hd1 k1 hd2 hl1 (.inr ⟨g,id,cap,rows.map (·.map .d),sub.map (·.map .d),rfl,hmem,h7,rfl,?_,?_⟩) (fun s' ys hd hs2=>?_) hr hK
    ·rw[hs];simp;omega
    ·have e0:sub=rows.take h:=by rw[hs];simp
     rw[← List.map_take]
     congr 1
     rw[e0,List.length_map,List.length_take,Nat.min_eq_left (by omega)]
    ·have hys:ys=sub2:=by
      cases sub2 with
      | nil=>simp only[slv,DV.sl.injEq]at hd;exact hd.2.symm
      | cons y l=>simp only[slv,DV.sl.injEq]at hd;exact hd.2.symm
     subst hys
     refine .inr ⟨id,_,_,rfl,?_⟩
     have hlen:ys.length=hh - l2.toNat:=by rw[hs'];simp;omega
     by_cases hlc:l2.toNat<cap
     ·rw[if_pos hlc,Nat.zero_add]
      have e1:(rows.map (·.map AV.d)).flatten=(st.obj id).2.take (rows.length * s):=by rw[← p6,List.length_map]
      have hrl:∀y∈rows.map (·.map AV.d),y.length=s:=p7
      apply List.ext_getElem?
      intro i
      by_cases hi:i<ys.length * s
      ·have hspos:0<s:=hn
       have hdm:i / s<ys.length:=(Nat.div_lt_iff_lt_mul hspos).2 hi
       have hmod:i % s<s:=Nat.mod_lt _ hspos
       have hsplit:i=i / s * s+i % s:=by rw[Nat.mul_comm,Nat.div_add_mod]
       have hyl:∀y∈ys.map (·.map AV.d),y.length=s:=by
        intro y hy
        refine hrl y ?_
        obtain⟨y0,hy0,rfl⟩:=List.mem_map.1 hy
        rw[hs']at hy0
        exact List.mem_map_of_mem (List.mem_of_mem_take (List.mem_of_mem_drop hy0))
       have g1:(ys.map (·.map AV.d))[i / s]?=some (ys[i / s].map .d):=by rw[List.getElem?_map,gG hdm];rfl
       have g2:(rows.map (·.map AV.d))[l2.toNat+i / s]?=some (ys[i / s].map .d):=by
        have q1:ys[i / s]?=some ys[i / s]:=gG hdm
        generalize ys[i / s]=yy at q1 ⊢
        rw[hs',List.getElem?_drop,List.getElem?_take_of_lt (by omega)]at q1
        rw[List.getElem?_map,q1];rfl
       have f1:=Zh6 hyl g1 hmod
       rw[← hsplit]at f1
       have f2:=Zh6 hrl g2 hmod
       rw[e1]at f2
       have hlt2:(l2.toNat+i / s) * s+i % s<rows.length * s:=by
        have:l2.toNat+i / s<rows.length:=by omega
        have:=Nat.mul_le_mul_right s (show l2.toNat+i / s+1≤rows.length by omega)
        rw[Nat.add_mul,Nat.one_mul]at this
        omega
       rw[List.getElem?_take_of_lt hlt2]at f2
       rw[f1,← f2,List.getElem?_take_of_lt (by rw[List.length_map];exact hi),List.getElem?_drop]
       congr 1
       rw[Nat.add_mul];omega
      ·have hfl:(ys.map (·.map AV.d)).flatten.length=ys.length * s:=by
        rw[ZcE (n:=s)]
        ·simp
        ·intro y hy
         refine hrl y ?_
         obtain⟨y0,hy0,rfl⟩:=List.mem_map.1 hy
         rw[hs']at hy0
         exact List.mem_map_of_mem (List.mem_of_mem_take (List.mem_of_mem_drop hy0))
       rw[List.getElem?_eq_none (by simp;omega),List.getElem?_eq_none (by omega)]
     ·have hy0:ys=[]:=by
       refine List.eq_nil_of_length_eq_zero ?_
       simp only[List.length_map]at p8
       omega
      subst hy0
      simp
 ·rename_i s rows
  split at hr
  rotate_left
  ·simp[run]at hr
  rename_i hsn
  obtain rfl:=nbeq hsn
  cases hu with
  | @psl _ _ ass hl hl2 hvv=>
   have hav:av=.nil:=by
    cases hv with
    | one1 _ _ q _=>
     rw[show gav E (.w 0)=E.ω 0 from rfl,hm.w0]at q
     cases q;rfl
   exact ZpV hm hel hz hn (old:=[]) (olds:=[]) rfl (fun i vs as h=>by simp at h) (fun i j vs as v a h=>by simp at h) hl hl2 hvv (.inl ⟨hav,rfl⟩) hr hK
 ·rename_i s rows g s' rows'
  split at hr
  rotate_left
  ·simp[run]at hr
  rename_i hsn
  simp only[bA]at hsn
  obtain rfl:=nbeq hsn.1
  obtain rfl:=nbeq hsn.2
  split at hr
  rotate_left
  ·exact(ZfY hr).elim
  rename_i hgr
  cases hv with
  | @psx _ _ _ id cap olds hgv hlo hlo2 hvo=>
   cases hu with
   | @psl _ _ ass hl hl2 hvv=>
    refine ZpV hm hel hz hn hlo hlo2 hvo hl hl2 hvv (.inr ⟨g,id,cap,rfl,?_,hgv,rfl⟩) hr hK
    rcases ZpT hm hesz hgv hgr with q | ⟨id',cap',rows',q,q'⟩
    ·cases q
    ·exact q'
 ·simp[run]at hr
variable (hc:CfOk P cf)(hm:RM P C E S st)(hs:RTS E sl tm)
include hc hm hs
theorem ZqS {c:Call}{cal:Cal}(hcal:c.callee=.builtin .append)(hx:∀x∈c.args.toList,opOk x=true)(hr:run Γ (sxE cf cal S sl (.call c) K) E.ρ=some r)(hK:Next P C Γ r E K J):eff P tm st J (.call c):=by
 simp only[sxE,Zfu,Zh0,Zcc,Zgp,hcal]at hr
 split at hr
 ·rename_i x y t t' hargs htys
  have hxo:=hx x (by rw[hargs];simp)
  have hyo:=hx y (by rw[hargs];simp)
  cases hi:cf.ti t with
  | none=>simp only[hi]at hr;simp[run]at hr
  | some i=>
   rcases he:i.elem with _ | ⟨e,n,by_⟩
   ·simp only[hi,he]at hr;simp[run]at hr
   simp only[hi,he]at hr
   obtain⟨hel,hz⟩:=(hc.ti t i hi).elem e n by_ he
   split at hr
   ·rename_i hcnd
    simp only[bA,Bool.not_eq_true']at hcnd
    obtain⟨htt,hn0⟩:=hcnd
    have htt:=nbeq htt
    have hn:0<n:=by
     rcases Nat.eq_zero_or_pos n with e | e
     ·subst e;cases hn0
     ·exact e
    simp only[eff,hcal,ZhQ,hargs,htys]
    refine⟨hxo,hyo,htt,?_⟩
    split at hr
    ·obtain⟨v,hr,hv⟩:=Zbs (on:=true) hm (ZbA hm hs hxo) rfl hr
     obtain⟨u,hr,hu⟩:=Zbs (on:=true) hm (ZbA hm hs hyo) rfl hr
     exact .inr (apX_run hm hel hz hn (hv rfl) (hu rfl) hr hK)
    obtain⟨a,o,hr,ha⟩:=Zde (on:=true) hm (ZbA hm hs hxo) rfl hr
    obtain⟨b,ob,hr,hb⟩:=Zde (on:=true) hm (ZbA hm hs hyo) rfl hr
    have ha:=ha rfl
    have hb:=hb rfl
    split at hr
    rotate_left
    ·simp[run]at hr
    rename_i hcln
    simp only[bA]at hcln
    by_cases hgr:grows S o e=true
    ·rw[if_pos hgr]at hr
     obtain⟨g,rfl,hg⟩:=Zex hm hgr
     obtain⟨l,a',hr,h2⟩:=Zbr (on:=true) hr hm.nv rfl
     obtain⟨rs,z,h3,h4,h5⟩:=h2 rfl
     obtain⟨d1,e1,o1,l1⟩:=ha.one_toD
     obtain⟨d2,e2,o2,l2⟩:=hb.one_toD
     obtain rfl:=evs2 e1 e2 h3
     have hok:=ZnV h4 (by intro y hy;simp at hy;rcases hy with rfl | rfl <;> simp[dvos,o1,o2])
     obtain⟨s1,xs,s2,ys,q,hs1,hs2,hall,hb1,hb2,rfl⟩:=Zbn (f:=.app n by_) h4
     simp only[List.cons.injEq,and_true]at q
     obtain⟨rfl,rfl⟩:=q
     have hok:dvo (slv n (xs++ys))=true:=by simpa[dvos] using hok
     have hys:∀y∈ys,y.length=n:=fun y hy=>by simpa using List.all_eq_true.1 hall y hy
     have hm1:=hm.push l
     have hxf:=hc.xf t i e n by_ hi he
     have hsub:∀x∈grm g (bump S l.length).gr,x∈(bump S l.length).gr:=fun x hx=>(Zf6 hx).1
     have hgav:gav E g=some (opnd tm x):=by
      cases ha with
      | one1 h1 h0 h6 h7=>exact h6
     have hm2:=hm1.lessGr (gr:=grm g (bump S l.length).gr) (xn:=(bump S l.length).xn) hsub (fun h hb'=>by
      rcases List.mem_append.1 hb' with hb' | hb'
      ·obtain⟨e',k1,k2⟩:=ZcT.1 hb'
       have hne:h≠g:=by
        rintro rfl
        have hq:=hcln.1
        simp only[cln1,Bool.not_eq_true',Zcn]at hq
        exact hq (List.mem_append.2 (.inl hb'))
       refine List.mem_append.2 (.inl (ZcT.2 ⟨e',?_,k2⟩))
       exact Zg3 hne k1
      ·exact List.mem_append.2 (.inr hb'))
     have hfin:∀st1:St,RM P C (E.push l) { bump S l.length with gr:=grm g (bump S l.length).gr } st1→J (.own st1.k n (xs++ys)) (st1.own e):=by
      intro st1 hm3
      obtain⟨E',k1,k2,k3,k4⟩:=hm3.own (s:=n) (xs:=xs++ys) (Ziw hel) hxf
      refine hK E' _ (.one a' (some (.w _))) (.own st1.k n (xs++ys)) _ ((En.le_push E l).trans k1) k3 (.one1 (x:=slv n (xs++ys)) ?_ hok k4 rfl) (by rw[k2];exact hr)
      rw[k2];exact h5
     left
     simp only[ZgM,hel,ZjN l2 (hb.cln1 hm hcln.2)]
     refine⟨hn,hz,hys,?_⟩
     have hcase:opnd tm x=.nil∨∃tk,opnd tm x=.own tk n xs∧st.live tk=some e∧(g,e)∈S.gr:=by
      rcases hg with rfl | hg
      ·have:=hm.w0
       rw[show gav E (.w 0)=E.ω 0 from rfl,this]at hgav
       exact .inl (Option.some.inj hgav).symm
      ·obtain⟨av,h6,h7⟩:=hm.gr g e hg
       rw[hgav]at h6
       obtain rfl:=Option.some.inj h6
       rcases h7 with h7 | ⟨-,tk,s,xs',h7,h8,h9⟩ | ⟨h7,-⟩
       ·exact .inl h7
       ·refine .inr ⟨tk,?_,h8,hg⟩
        rw[Ziw hel]at h9
        cases h9
        rw[h7]at l1 ⊢
        simp only[toD,oI]at l1
        cases xs' with
        | nil=>simp only[slv,DV.sl.injEq]at l1;obtain⟨-,rfl⟩:=l1;rfl
        | cons u us=>simp only[slv,DV.sl.injEq]at l1;obtain⟨-,rfl⟩:=l1;rfl
       ·rw[hxf]at h7;cases h7
     rcases hcase with hnil | ⟨tk,hown,hlive,hgm⟩
     ·rw[hnil]at l1 ⊢
      simp only[toD,oI,DV.sl.injEq]at l1
      obtain⟨-,rfl⟩:=l1
      simp only[List.length_nil,Nat.zero_add]at hb1 hb2
      exact⟨hb1,hb2,hfin st hm2⟩
     ·rw[hown]at hgav ⊢
      refine⟨rfl,hlive,hb1,hb2,?_⟩
      refine hfin (st.eat tk) (hm2.eat (fun g' e' s' xs' hx' hgv=>?_) (hm.gT g e tk n xs hgm hgav))
      obtain⟨h6,h7⟩:=Zf6 hx'
      exact hm1.gd g e g' e' hgm h6 (fun h=>h7 h.symm) tk n xs s' xs' hgav hgv
    ·rw[if_neg hgr]at hr
     exact(ZfY hr).elim
   ·simp[run]at hr
 ·simp[run]at hr
omit hc hm hs in
theorem Zgh {vs us:List SV}{as bs:List AV}(hl:vs.length=as.length)(h:∀(i:Nat) (v:SV) (a:AV),vs[i]?=some v→as[i]?=some a→RV E v a)(hl':us.length=bs.length)(h':∀(i:Nat) (v:SV) (a:AV),us[i]?=some v→bs[i]?=some a→RV E v a) :
  (vs++us).length=(as++bs).length∧∀(i:Nat) (v:SV) (a:AV),(vs++us)[i]?=some v→(as++bs)[i]?=some a→RV E v a:=by
 refine⟨by simp[hl,hl'],fun i v a h1 h2=>?_⟩
 rw[List.getElem?_append]at h1 h2
 by_cases hi:i<vs.length
 ·rw[if_pos hi]at h1
  rw[if_pos (by omega)]at h2
  exact h i v a h1 h2
 ·rw[if_neg hi]at h1
  rw[if_neg (by omega)]at h2
  rw[hl]at h1
  exact h' _ v a h1 h2
omit hc hm hs in
theorem Zln {v:SV}{a:AV}{us:List SV}{bs:List AV}(h:RV E v a)(hl':us.length=bs.length)(h':∀(i:Nat) (v:SV) (a:AV),us[i]?=some v→bs[i]?=some a→RV E v a) :
  (v::us).length=(a::bs).length∧∀(i:Nat) (w:SV) (b:AV),(v::us)[i]?=some w→(a::bs)[i]?=some b→RV E w b:=
 Zgh (vs:=[v]) (as:=[a]) rfl (fun i w b h1 h2=>by cases i with | zero=>simp at h1 h2;subst h1;subst h2;exact h | succ i=>simp at h1) hl' h'
theorem e_call {c:Call}{cal:Cal}(hcal:CalOk P C Γ r cal)(hnb:∀b,c.callee≠.builtin b)(hx:∀x∈(Op.call c).operands.toList,opOk x=true)(hr:run Γ (sxE cf cal S sl (.call c) K) E.ρ=some r)(hK:Next P C Γ r E K J):eff P tm st J (.call c):=by
 have hargs:c.args.toList.all opOk=true:=List.all_eq_true.2 fun x h=>hx x (ZfX h)
 cases hce:c.callee with
 | builtin b=>exact absurd hce (hnb b)
 | value f=>
  have hf:opOk f=true:=hx f (by simp[Op.operands,Call.operands,hce])
  have hb:∀b,Callee.value f≠.builtin b:=fun b=>by intro h;cases h
  simp only[sxE,Zfu,Zh0,Zcc,Zgp,hce]at hr
  obtain⟨fv,hr1,hfv⟩:=Zbs (on:=true) hm (ZbA hm hs hf) rfl hr
  clear hr
  obtain⟨vs,hr,hl,hvs⟩:=Zeu (on:=true) hm hs rfl hargs hr1
  clear hr1
  have hfv:=hfv rfl
  have hvs:∀(i:Nat) (v:SV) (a:AV),vs[i]?=some v→(argsA tm c.args)[i]?=some a→RV E v a:=hvs rfl
  have hl:vs.length=(argsA tm c.args).length:=by rw[hl];simp[argsA]
  simp only[eff,hce]
  refine⟨hf,hargs,?_⟩
  cases fv with
  | fn F fs cs=>
   cases F with
   | func k=>
    generalize opnd tm f=av at hfv
    cases hfv with
    | @fn _ _ _ as bs h1 h2 h3 h4=>
     simp only[callA]
     obtain⟨q1,q2⟩:=Zgh h1 h2 hl hvs
     obtain⟨q3,q4⟩:=Zgh q1 q2 h3 h4
     exact hcal k _ _ S K E st J hr hm q3 q4 hK
   | method name=>
    rcases fs with _ | ⟨v0,_ | ⟨v1,fs⟩⟩
    ·simp[run]at hr
    ·cases v0 with
     | ifc t v=>
      rcases cs with _ | ⟨w0,cs⟩
      ·generalize opnd tm f=av at hfv
       cases hfv with
       | @fn _ _ _ as bs h1 h2 h3 h4=>
        rcases as with _ | ⟨a,_ | ⟨a1,as⟩⟩
        ·simp at h1
        ·rcases bs with _ | ⟨b0,bs⟩
         ·have h5:=h2 0 _ a rfl rfl
          cases h5 with
          | @ifc _ _ a' h6=>
           cases hme:cf.meth t name with
           | none=>simp only[hme]at hr;simp[run]at hr
           | some k=>
            simp only[hme]at hr
            obtain⟨q1,q2⟩:=Zln h6 hl hvs
            exact⟨k,hc.meth t name k hme,hcal k _ _ S K E st J hr hm q1 q2 hK⟩
         ·simp at h3
        ·simp at h1
      ·simp[run]at hr
     | _=>simp[run]at hr
    ·cases v0 <;> simp[run]at hr
   | methodOf t0 name=>
    rcases fs with _ | ⟨v0,fs⟩
    ·rcases cs with _ | ⟨w0,cs⟩
     ·simp only at hr
      split at hr
      ·simp[run]at hr
      ·rename_i hk6
       have hint:∃m,P.underlying t0=some (.interface m):=by
        have:kindOf cf t0=6:=by
         have h:=hk6
         simp only[Bool.not_eq_false]at h
         exact nbeq h
        unfold kindOf at this
        cases hi:cf.ti t0 with
        | none=>rw[hi]at this;cases this
        | some i=>rw[hi]at this;exact(hc.ti t0 i hi).kind6 this
       obtain⟨m,hint⟩:=hint
       generalize opnd tm f=av at hfv
       cases hfv with
       | @fn _ _ _ as bs h1 h2 h3 h4=>
        rcases as with _ | ⟨a,as⟩
        ·rcases bs with _ | ⟨b0,bs⟩
         ·rcases vs with _ | ⟨v,rest⟩
          ·simp[run]at hr
          ·cases v with
           | ifc t v=>
            generalize argsA tm c.args=as at hl hvs
            rcases as with _ | ⟨a,as⟩
            ·simp at hl
            ·have h5:=hvs 0 _ a rfl rfl
             cases h5 with
             | @ifc _ _ a' h6=>
              cases hme:cf.meth t name with
              | none=>simp only[hme]at hr;simp[run]at hr
              | some k=>
               simp only[hme]at hr
               simp only[callA,hint]
               obtain⟨q1,q2⟩:=Zln h6 (us:=rest) (bs:=as) (by simpa using hl) (fun i w b q1 q2=>hvs (i+1) w b (by simpa using q1) (by simpa using q2))
               exact⟨k,hc.meth t name k hme,hcal k _ _ S K E st J hr hm q1 q2 hK⟩
           | _=>simp[run]at hr
         ·simp at h3
        ·simp at h1
     ·simp[run]at hr
    ·cases v0 <;> simp[run]at hr
   | _=>simp[run]at hr
  | _=>simp[run]at hr
 | invoke rv name=>
  have hf:opOk rv=true:=hx rv (by simp[Op.operands,Call.operands,hce])
  simp only[sxE,Zfu,Zh0,Zcc,Zgp,hce]at hr
  obtain⟨fv,hr1,hfv⟩:=Zbs (on:=true) hm (ZbA hm hs hf) rfl hr
  clear hr
  obtain⟨vs,hr,hl,hvs⟩:=Zeu (on:=true) hm hs rfl hargs hr1
  clear hr1
  have hfv:=hfv rfl
  have hvs:∀(i:Nat) (v:SV) (a:AV),vs[i]?=some v→(argsA tm c.args)[i]?=some a→RV E v a:=hvs rfl
  have hl:vs.length=(argsA tm c.args).length:=by rw[hl];simp[argsA]
  simp only[eff,hce]
  refine⟨hf,hargs,?_⟩
  cases fv with
  | ifc t v=>
   generalize opnd tm rv=av at hfv
   cases hfv with
   | @ifc _ _ a' h6=>
    cases hme:cf.meth t name with
    | none=>simp only[hme]at hr;simp[run]at hr
    | some k=>
     simp only[hme]at hr
     obtain⟨q1,q2⟩:=Zln h6 hl hvs
     exact⟨k,hc.meth t name k hme,hcal k _ _ S K E st J hr hm q1 q2 hK⟩
  | _=>simp[run]at hr
theorem ZpW {op:Op}{cal:Cal}(hcal:CalOk P C Γ r cal)(hx:op.operands.toList.all opOk=true)(hr:run Γ (sxE cf cal S sl op K) E.ρ=some r)(hK:Next P C Γ r E K J):eff P tm st J op:=by
 have hmem:∀x,x∈op.operands.toList→opOk x=true:=fun x h=>List.all_eq_true.1 hx x h
 have pure_:∀(hr:run Γ (sxP cf S none sl op K) E.ρ=some r),eff P tm st J op:=fun hr=>
  PRun.eff hm (Zmo hr) (ZpQ hc hm hs (g:=none) rfl hx hr) hK
 cases op <;> try exact pure_ hr
 case store t x y=>exact e_store hc hm hs (hmem x (by simp[Op.operands])) (hmem y (by simp[Op.operands])) hr hK
 case alloc t=>exact e_alloc hc hm hs hr hK
 case box t x=>exact e_box hc hm hs (hmem x (by simp[Op.operands])) hr hK
 case buildSlice t len ps=>exact Zms hc hm hs (List.all_eq_true.2 fun x h=>hmem x.2 (by simp only[Op.operands];exact List.mem_map_of_mem h)) hr hK
 case call c=>
  cases hce:c.callee with
  | builtin b=>
   by_cases hb:b=.append
   ·subst hb
    exact ZqS hc hm hs hce (fun x h=>hmem x (ZfX h)) hr hK
   ·refine pure_ ?_
    have hr':=hr
    simp only[sxE,Zfu,Zh0,Zcc,Zgp,hce]at hr'
    exact hr'
  | _=>exact e_call hc hm hs hcal (fun b=>by rw[hce];intro h;cases h) hmem hr hK
end
end Go.AW

namespace Go.AW
open Go.RowKit
theorem Zgi {α:Type}{i d:Nat}(h:i≠d):∀l:List (Nat×α),lk i (l.filter fun x=>!(Nat.beq x.1 d))=lk i l
 | []=>rfl
 | (j,x)::l=>by
  simp only[List.filter_cons,lk]
  by_cases hj:Nat.beq j d=true
  ·rw[if_neg (by rw[hj];decide),Zgi h l,if_neg]
   intro e
   rw[nbeq e,nbeq hj]at h
   exact h rfl
  ·have hj':Nat.beq j d=false:=by cases e:Nat.beq j d with | true=>exact absurd e hj | false=>rfl
   rw[if_pos (by rw[hj'];rfl)]
   simp only[lk,Zgi h l]
theorem RSE.gd {E:En}{a:At}{v:SV}{av:AV}{b:Bool}(h1:a.ev E.ρ=some [.lit (.bool b)])(h2:b=true→RVd E v av)(h3:b=false→av=Zc3):RSE E ⟨some a,v⟩ av:=⟨b,h1,h2,h3⟩
theorem RTS.putE {E:En}{sl:List (Nat×SE)}{tm:Tm}{dst:Option Nat}{e:SE}{v:AV}(hs:RTS E sl tm)(he:RSE E e v):RTS E (putE sl dst e) (put tm dst v):=by
 cases dst with
 | none=>exact hs
 | some d=>
  intro i f hi
  simp only[AW.putE,lk]at hi
  by_cases hd:i=d
  ·subst hd
   rw[if_pos (by simp[Nat.beq_eq])]at hi
   cases hi
   simp only[put,upd,if_true]
   exact he
  ·rw[if_neg (by intro e;exact hd (nbeq e)),Zgi hd]at hi
   have:=hs i f hi
   simp only[put,upd,if_neg hd]
   exact this
theorem RTS.putS {E:En}{sl:List (Nat×SE)}{tm:Tm}{dst:Option Nat}{e:SE}{v:AV}(hs:RTS E sl tm)(he:RSE E e v):RTS E (putS sl dst e) (put tm dst v):=by
 cases dst with
 | none=>exact hs
 | some d=>
  intro i f hi
  simp only[AW.putS,lk]at hi
  by_cases hd:i=d
  ·subst hd
   rw[if_pos (by simp[Nat.beq_eq])]at hi
   cases hi
   simp only[put,upd,if_true]
   exact he
  ·rw[if_neg (by intro e;exact hd (nbeq e))]at hi
   have:=hs i f hi
   simp only[put,upd,if_neg hd]
   exact this
theorem Zrl {i:Nat}:∀l:List (Nat×SE),lk i (nubE l)=lk i l
 | []=>rfl
 | (j,x)::l=>by
  simp only[nubE,lk]
  by_cases hj:i=j
  ·rw[if_pos (by simp[hj,Nat.beq_eq]),if_pos (by simp[hj,Nat.beq_eq])]
  ·rw[if_neg (fun q=>hj (nbeq q)),if_neg (fun q=>hj (nbeq q)),Zgi hj,Zrl l]
theorem RTS.nub {E:En}{sl:List (Nat×SE)}{tm:Tm}(hs:RTS E sl tm):RTS E (nubE sl) tm:=fun i e h=>hs i e (by rwa [Zrl]at h)
section
variable {P:Program}{cf:Cf}{C:Ctx}{Γ:Den}{r:Rs}
def KOk (P:Program)(cf:Cf)(C:Ctx)(Γ:Den)(r:Rs):Prop:=
 ∀(op:Op) (S:SS) (a:At) (b:Bool) (sl:List (Nat×SE)) (tm:Tm) (K:KV) (E:En) (st:St) (J:AV→St→Prop),run Γ (sxK cf S (some a) sl op K) E.ρ=some r→RM P C E S st→RTS E sl tm→op.operands.toList.all opOk=true →
  a.ev E.ρ=some [.lit (.bool b)]→(b=true→Next P C Γ r E K J→eff P tm st J op)∧(b=false→∃l S' v,run Γ (K S' v) (E.ρ++l)=some r∧RM P C (E.push l) S' st)
variable {E:En}{st:St}{tm:Tm}{q:Sq}{K:Sq→Tr}{J:AV→St→Prop}{nt:Nat}{ops:List Oper}{o:Oper}{cal:Cal}
theorem Zhx (hc:CfOk P cf)(hcal:CalOk P C Γ r cal)(hko:KOk P cf C Γ r)(hm:RM P C E q.s st)(hs:RTS E q.sl tm)(hd:dstOk nt o.dst=true)(hx:o.op.operands.toList.all opOk=true)(hr:run Γ (sxO cf cal ops o q K) E.ρ=some r)
  (hK:∀E' q' v st',E.le E'→RM P C E' q'.s st'→RTS E' q'.sl (put tm o.dst v)→run Γ (K q') E'.ρ=some r→J v st'):F P nt ops o tm st J:=by
 unfold sxO at hr
 obtain⟨l,S,gd,hr,hm1,hkg,hgd⟩:=sxG_run hm hs hr
 have hle:=En.le_push E l
 have hs1:=hs.mono hle
 have pureK:∀{op:Op} {a:At} {b:Bool},o.op=op→keeps op=true→a.ev (E.ρ++l)=some [.lit (.bool b)]→gdec ops tm o.guard=some b →
   PRun P tm st op Γ (fun S v=>K ⟨S,putS q.sl o.dst ⟨some a,v⟩⟩) S (E.push l) b r→F P nt ops o tm st J:=by
  intro op a b hop hk ha hg hp
  obtain⟨l2,S',v,h1,hrm,h2⟩:=hp.rm hm1
  have ha2:a.ev ((E.push l).push l2).ρ=some [.lit (.bool b)]:=At.ev_mono ha l2
  have hle2:=hle.trans (En.le_push (E.push l) l2)
  refine⟨b,hg,hd,fun hb=>?_,fun hb=>?_⟩
  ·subst hb
   obtain⟨h3,h4⟩:=h2 rfl
   rw[hop,Zl6 hk]
   exact⟨h3,hK _ _ _ _ hle2 hrm ((hs.mono hle2).putS (e:=⟨some a,v⟩) (RSE.gd ha2 (fun _=>.inr h4) (fun e=>by cases e))) h1⟩
  ·subst hb
   exact hK _ _ Zc3 _ hle2 hrm ((hs.mono hle2).putS (e:=⟨some a,v⟩) (RSE.gd ha2 (fun e=>by cases e) (fun _=>rfl))) h1
 cases gd with
 | no=>
  refine⟨false,hgd,hd,fun e=>(by cases e),fun _=>?_⟩
  exact hK _ _ Zc3 _ hle hm1 (hs1.putS (e:=⟨none,.un⟩) (.inr .un)) hr
 | yes=>
  refine⟨true,hgd,hd,fun _=>?_,fun e=>by cases e⟩
  have hpick:∀c x y,o.op=.pick c x y→eff P tm st J o.op:=by
   intro c x y hop
   rw[hop]at hr hx ⊢
   have hmem:∀z,z∈(Op.pick c x y).operands.toList→opOk z=true:=fun z h=>List.all_eq_true.1 hx z h
   obtain⟨l2,S',v,h1,hrm,h2⟩:=(Zkx (on:=true) hm1 hs1 rfl (hmem c (by simp[Op.operands])) (hmem x (by simp[Op.operands])) (hmem y (by simp[Op.operands])) hr).rm hm1
   obtain⟨h3,h4⟩:=h2 rfl
   rw[Zl6 rfl]
   have hle2:=hle.trans (En.le_push (E.push l) l2)
   exact⟨h3,hK _ _ _ _ hle2 hrm ((hs.mono hle2).putS (e:=⟨none,v⟩) (.inr h4)) h1⟩
  have hother:run Γ (sxE cf cal S q.sl o.op fun S v=>K ⟨S,putS q.sl o.dst ⟨none,v⟩⟩) (E.push l).ρ=some r→eff P tm st J o.op:=fun hr=>
   ZpW hc hm1 hs1 hcal hx hr fun E' S' v av st' h1 h2 h3 h4=>hK _ _ _ _ (hle.trans h1) h2 ((hs1.mono h1).putS (e:=⟨none,v⟩) (.inr h3)) h4
  cases hop:o.op <;> simp only[hop]at hr <;> first | (rw[← hop];exact hpick _ _ _ hop) | (rw[← hop];exact hother (by rw[hop];exact hr))
 | «at» a=>
  obtain⟨b,ha,hg⟩:=hgd
  have hpick:∀c x y,o.op=.pick c x y→F P nt ops o tm st J:=by
   intro c x y hop
   rw[hop]at hr hx
   have hmem:∀z,z∈(Op.pick c x y).operands.toList→opOk z=true:=fun z h=>List.all_eq_true.1 hx z h
   exact pureK hop rfl ha hg (Zkx (on:=b) hm1 hs1 (by simp only[gate];rw[show a.ev (E.push l).ρ=_ from ha]) (hmem c (by simp[Op.operands])) (hmem x (by simp[Op.operands])) (hmem y (by simp[Op.operands])) hr)
  have hother:run Γ (if isSx o.op=false then sxP cf S (some a) q.sl o.op fun S v=>K ⟨S,putS q.sl o.dst ⟨some a,v⟩⟩
   else if Zmg cf q.sl o.op=true then sxK cf S (some a) q.sl o.op fun S v=>K ⟨S,putS q.sl o.dst ⟨some a,v⟩⟩
   else ZiT (fun S=>sxE cf cal (learn 20 S a true) q.sl o.op fun S v=>K ⟨S,putS q.sl o.dst ⟨none,v⟩⟩) (fun S=>K ⟨learn 20 S a false,putS q.sl o.dst ⟨none,.un⟩⟩) (parts S 20 a) S) (E.push l).ρ=some r→F P nt ops o tm st J:=by
   intro hr
   split at hr
   ·exact pureK rfl (Zmo hr) ha hg (ZpQ hc hm1 hs1 (by simp only[gate];rw[show a.ev (E.push l).ρ=_ from ha]) hx hr)
   ·split at hr
    ·obtain⟨h1,h2⟩:=hko o.op S a b q.sl tm _ (E.push l) st J hr hm1 hs1 hx ha
     refine⟨b,hg,hd,fun hb=>?_,fun hb=>?_⟩
     ·subst hb
      refine h1 rfl fun E' S' v av st' k1 k2 k3 k4=>hK _ _ _ _ (hle.trans k1) k2 ((hs1.mono k1).putS (e:=⟨some a,v⟩) (RSE.gd (At.ev_le k1 ha) (fun _=>.inr k3) (fun e=>by cases e))) k4
     ·obtain⟨l2,S',v,k1,k2⟩:=h2 hb
      subst hb
      have hle2:=hle.trans (En.le_push (E.push l) l2)
      exact hK _ _ Zc3 _ hle2 k2 ((hs.mono hle2).putS (e:=⟨some a,v⟩) (RSE.gd (At.ev_mono ha l2) (fun e=>by cases e) (fun _=>rfl))) k1
    ·obtain⟨S',h1,h2,h3⟩:=Zky _ hm1 hr
     obtain⟨p1,p2⟩:=ZnY hm1 20 (c:=a) (b:=b) ha
     refine⟨b,hg,hd,fun hb=>?_,fun hb=>?_⟩
     ·rcases h3 with⟨h3,h4⟩ | ⟨h3,h4⟩
      ·subst hb
       obtain⟨h5,h6⟩:=Zd7 20 h1 (c:=a) (b:=true) ha
       exact ZpW hc h5 hs1 hcal hx h3 fun E' S' v av st' k1 k2 k3 k4=>hK _ _ _ _ (hle.trans k1) k2 ((hs1.mono k1).putS (e:=⟨none,v⟩) (.inr k3)) k4
      ·have:=p2 h4
       rw[hb]at this;cases this
     ·rcases h3 with⟨h3,h4⟩ | ⟨h3,h4⟩
      ·have:=p1 h4
       rw[hb]at this;cases this
      ·subst hb
       obtain⟨h5,h6⟩:=Zd7 20 h1 (c:=a) (b:=false) ha
       exact hK _ _ Zc3 _ hle h5 (hs1.putS (e:=⟨none,.un⟩) (.inr .un)) h3
  cases hop:o.op <;> simp only[hop]at hr <;> first | exact hpick _ _ _ hop | exact hother (by rw[hop];exact hr)
theorem Zmu {l:List Oper}(h:opsOk nt l=true){o:Oper}(ho:o∈l):dstOk nt o.dst=true∧o.op.operands.toList.all opOk=true:=by
 have:=List.all_eq_true.1 h o ho
 simpa only[bA] using this
theorem ZpX (hc:CfOk P cf)(hcal:CalOk P C Γ r cal)(hko:KOk P cf C Γ r){Kp:Tm→St→Prop}:∀(l:List Oper) {E:En} {q:Sq} {st:St} {tm:Tm},opsOk nt l=true→RM P C E q.s st→RTS E q.sl tm→run Γ (sxR cf cal ops l q K) E.ρ=some r →
  (∀E' q' tm' st',E.le E'→RM P C E' q'.s st'→RTS E' q'.sl tm'→run Γ (K q') E'.ρ=some r→Kp tm' st')→wpL P nt ops l tm st Kp
 | [],E,q,st,tm,_,hm,hs,hr,hK=>hK E q tm st (En.le.refl E) hm hs hr
 | o::l,E,q,st,tm,ho,hm,hs,hr,hK=>by
  simp only[sxR]at hr
  obtain⟨h1,h2⟩:=Zmu ho (List.mem_cons_self ..)
  have ho':opsOk nt l=true:=by
   simp only[opsOk,List.all_cons,bA]at ho
   exact ho.2
  simp only[wpL]
  rw[Zgz]
  exact Zhx hc hcal hko hm hs h1 h2 hr fun E' q' v st' k1 k2 k3 k4=>ZpX hc hcal hko l ho' k2 k3 k4 fun E2 q2 tm2 st2 j1 j2 j3 j4=>hK E2 q2 tm2 st2 (k1.trans j1) j2 j3 j4
end
end Go.AW

namespace Go.AW
open Go.RowKit
def RDM (E:En)(ag:Bool):RDv→List AV→Prop
 | .sv v,p=>Piece E ag v p
 | .base a n m d k acc,p=>∃cs0 avs,RB0 E a n m cs0∧AccR E acc avs∧Zbi acc avs ((cs0.drop d).take k)=some p
 | .no,_=>False
theorem Piece.uniq {E:En}{ag:Bool}{v:SV}{p p':List AV}(h:Piece E ag v p)(h':Piece E ag v p'):p=p':=by
 cases ag with
 | true=>
  have:=RV.uniq h h'
  cases this;rfl
 | false=>
  obtain⟨c,rfl,h1⟩:∃c,p=[c]∧RV E v c:=h
  obtain⟨c',rfl,h2⟩:∃c,p'=[c]∧RV E v c:=h'
  rw[h1.uniq h2]
theorem AccR.uniq {E:En}:∀{ov:List (Nat×Nat×SV)} {avs avs':List AV},AccR E ov avs→AccR E ov avs'→avs=avs'
 | [],avs,avs',h,h'=>by
  have:=h.1;have:=h'.1
  cases avs <;> cases avs' <;> simp_all
 | x::ov,avs,avs',h,h'=>by
  obtain⟨a,l,rfl,h1,h2⟩:=h.uncons
  obtain⟨a',l',rfl,h3,h4⟩:=h'.uncons
  rw[h1.uniq h3,AccR.uniq h2 h4]
theorem RDM.uniq {E:En}{ag:Bool}{x:RDv}{p p':List AV}(h:RDM E ag x p)(h':RDM E ag x p'):p=p':=by
 cases x with
 | sv v=>exact Piece.uniq h h'
 | base a n m d k acc=>
  obtain⟨c1,a1,h1,h2,h3⟩:=h
  obtain⟨c2,a2,h4,h5,h6⟩:=h'
  obtain rfl:=h1.uniq h4
  obtain rfl:=h2.uniq h5
  rw[h3]at h6
  cases h6;rfl
 | no=>exact h.elim
theorem RB.uniq {E:En}{a:At}{n:Nat}{m:BM}{ov:List (Nat×Nat×SV)}{cs cs':List AV}(h:RB E a n m ov cs)(h':RB E a n m ov cs'):cs=cs':=by
 have:=h.agg.uniq h'.agg
 cases this;rfl
section
variable {E:En}
theorem Zmv {k:Nat}{ag:Bool}(hk:ag=false→k=1):∀(fu:Nat) {a:At} {n:Nat} {m:BM} {ov:List (Nat×Nat×SV)} {d:Nat} {acc:List (Nat×Nat×SV)} {cs avs cs':List AV},RB E a n m ov cs→AccR E acc avs→Zbi acc avs ((cs.drop d).take k)=some cs' →
  rdv k ag fu a n m ov d acc≠.no→RDM E ag (rdv k ag fu a n m ov d acc) cs'
 | 0,a,n,m,ov,d,acc,cs,avs,cs',hb,ha,hf,hn=>by simp[rdv]at hn
 | fu+1,a,n,m,[],d,acc,cs,avs,cs',hb,ha,hf,hn=>by
  obtain⟨cs0,avs0,h3,h4,h5⟩:=hb
  have:=h4.1
  cases avs0 with
  | cons _ _=>simp at this
  | nil=>
   simp only[Zbi,oI]at h5
   subst h5
   exact⟨cs0,avs,h3,ha,hf⟩
 | fu+1,a,n,m,(o1,n1,v1)::rest,d,acc,cs,avs,cs',hb,ha,hf,hn=>by
  obtain⟨c,av,h3,h4,h5,h6,h7,rfl⟩:=hb.cons_inv
  simp only[rdv]at hn ⊢
  split
  ·rename_i hd
   rw[if_pos hd]at hn
   rw[ZiU (by omega) (by omega)]at hf
   exact Zmv hk fu h3 ha hf hn
  ·rename_i hd
   rw[if_neg hd]at hn
   split
   ·rename_i hd2
    rw[if_pos hd2]at hn
    by_cases hag:isAgg v1=true
    ·obtain⟨a1,k1,m1,ov1,rfl⟩:∃a n m ov,v1=.agg a n m ov:=by cases v1 <;> first | exact⟨_,_,_,_,rfl⟩ | simp[isAgg]at hag
     simp only at hn ⊢
     obtain⟨cs1,rfl,h8⟩:=h4.agg_inv
     rw[ZeD (by omega) (by omega) (by omega)]at hf
     split
     ·rename_i hc
      simp only[bA,Nat.beq_eq,List.isEmpty_iff]at hc
      obtain⟨⟨⟨rfl,rfl⟩,rfl⟩,rfl⟩:=hc
      have:=ha.1
      cases avs with
      | cons _ _=>simp at this
      | nil=>
       simp only[Zbi,oI]at hf
       subst hf
       simp only[Zak]at h5 ⊢
       rw[Nat.sub_self,List.drop_zero,List.take_of_length_le (by omega)]
       exact h8.agg
     ·rename_i hc
      rw[if_neg hc]at hn
      exact Zmv hk fu h8 ha hf hn
    ·have hna:isAgg v1=false:=by simpa using hag
     have hone:=h4.one_cell hna
     rw[hone]at h5
     simp only[List.length_cons,List.length_nil]at h5
     cases acc with
     | cons x acc=>cases v1 <;> first | (simp[isAgg]at hna;done) | (simp at hn;done)
     | nil=>
      have hgoal:ag=false→Piece E ag v1 cs':=by
       intro hag'
       have:=ha.1
       cases avs with
       | cons _ _=>simp at this
       | nil=>
        simp only[Zbi,oI]at hf
        subst hf
        subst hag'
        obtain rfl:=hk rfl
        rw[ZeD (by rw[hone];simp;omega) (by omega) (by rw[hone];simp;omega),hone]
        have e:d - o1=0:=by omega
        rw[e]
        exact⟨av,rfl,h4⟩
      cases ag with
      | true=>cases v1 <;> first | (simp[isAgg]at hna;done) | (simp at hn;done)
      | false=>cases v1 <;> first | (simp[isAgg]at hna;done) | exact hgoal rfl
   ·rename_i hd2
    rw[if_neg hd2]at hn
    split
    ·rename_i hd3
     rw[if_pos hd3]at hn
     rw[Zmi (by omega) (by omega) (by omega)]at hf
     refine Zmv hk fu h3 (ha.snoc h4) ?_ hn
     rw[Zhw ha.1 h5 h6 (by simp;omega)]
     exact hf
    ·rename_i hd3
     rw[if_neg hd3]at hn
     exact absurd rfl hn
end
theorem eqRD_eq {x y:RDv}(h:eqRD x y=true):x=y∧x≠.no:=by
 cases x <;> cases y <;> simp only[eqRD,bF]at h
 ·rw[Zrg h];exact⟨rfl,by intro e;cases e⟩
 ·simp only[bA]at h
  rw[ZdF h.1.1.1.1.1,nbeq h.1.1.1.1.2,ZpE h.1.1.1.2,nbeq h.1.1.2,nbeq h.1.2,ZpF h.2]
  exact⟨rfl,by intro e;cases e⟩
def RMob (E:En)(obs:List Ob)(st:St):Prop:=∀j o,obs[j]?=some o→∃id,E.ι j=some id∧RB E o.a o.n o.m o.ov (st.obj id).2
theorem RMob.mono {E E':En}(h:E.le E'){obs:List Ob}{st:St}(hr:RMob E obs st):RMob E' obs st:=fun j o hj=>by
 obtain⟨id,h1,h2⟩:=hr j o hj
 exact⟨id,h.ι _ _ h1,h2.mono h⟩
theorem RM.rmob {P:Program}{C:Ctx}{E:En}{S:SS}{st:St}(h:RM P C E S st):RMob E S.ob st:=fun j o hj=>by
 obtain⟨id,h1,-,-,-,h4⟩:=h.ob j o hj
 exact⟨id,h1,h4⟩
theorem ZpY {E:En}{x y:List Ob}{st st':St}{o off k id:Nat}{ag:Bool}(hx:RMob E x st)(hy:RMob E y st')(h:ZpA x y o off k ag=true)(hi:E.ι o=some id)(hk:ag=false→k=1) :
  sub (st.obj id).2 off k ag=sub (st'.obj id).2 off k ag:=by
 unfold ZpA at h
 split at h
 ·rename_i a b ha hb
  obtain⟨i1,h1,h2⟩:=hx o a ha
  obtain⟨i2,h3,h4⟩:=hy o b hb
  rw[hi]at h1 h3
  cases h1;cases h3
  rw[Bool.or_eq_true]at h
  rcases h with h | h
  ·obtain rfl:=ZpG h
   rw[h2.uniq h4]
  ·simp only[bA]at h
   obtain⟨hl,hr⟩:=h
   obtain⟨hr,hno⟩:=eqRD_eq hr
   have q1:=Zmv (d:=off) hk 100 h2 (AccR.nil E) rfl hno
   have q2:=Zmv (d:=off) hk 100 h4 (AccR.nil E) rfl (by rw[← hr];exact hno)
   rw[hr]at q1
   have hp:=q1.uniq q2
   have hlen:(st.obj id).2.length=(st'.obj id).2.length:=by rw[h2.len,h4.len];exact nbeq hl
   unfold sub
   cases ag with
   | true=>simp only[if_true];rw[hlen,hp]
   | false=>
    obtain rfl:=hk rfl
    simp only[bF,if_false]
    rw[hlen]
    congr 1
    have:=congrArg (fun l=>l[0]?) hp
    simp only[List.getElem?_take,List.getElem?_drop]at this
    rw[List.getD_eq_getElem?_getD,List.getD_eq_getElem?_getD]
    have:(st.obj id).2[off]?=(st'.obj id).2[off]?:=by simpa using this
    rw[this]
 ·cases h
theorem Zh9 {crit:List (Nat×Nat)}{i j:Nat}:critH crit i j=true↔(i,j)∈crit:=by
 simp only[critH,List.any_eq_true,bA,Nat.beq_eq]
 constructor
 ·rintro⟨⟨a,b⟩,h1,h2,h3⟩
  simp only at h2 h3
  subst h2;subst h3;exact h1
 ·intro h;exact⟨_,h,rfl,rfl⟩
section
variable {P:Program}{cf:Cf}{C:Ctx}{Γ:Den}{r:Rs}{nt:Nat}{ops:List Oper}{cal:Cal}{K:Sq→Tr}
def LdSem (E:En)(k:LdK)(f:St→PV):Prop:=match k with
 | .free=>∀s s',f s=f s'
 | .ob o off n ag=>(ag=false→n=1)∧((∀s s',f s=f s')∨∃id X,E.ι o=some id∧∀s:St,f s=⟨X∧(sub (s.obj id).2 off n ag).ok,(sub (s.obj id).2 off n ag).v⟩)
 | .nm g=>(∀s s',f s=f s')∨∃(id s0 cap i off n:Nat) (rows:List (List AV)) (row:List AV) (ag:Bool) (X:Prop),gav E g=some (.xs id 0 s0 cap rows)∧rows[i]?=some row∧off+n≤s0∧(ag=false→n=1) ∧
   ∀s:St,f s=⟨X∧(sub (s.obj id).2 (i * s0+off) n ag).ok,(sub (s.obj id).2 (i * s0+off) n ag).v⟩
theorem LdSem.mono {E E':En}(h:E.le E'){k:LdK}{f:St→PV}(hs:LdSem E k f):LdSem E' k f:=by
 cases k with
 | free=>exact hs
 | ob o off n ag=>exact⟨hs.1,hs.2.imp id fun⟨id,X,h1,h2⟩=>⟨id,X,h.ι _ _ h1,h2⟩⟩
 | nm g=>exact hs.imp (fun x=>x) fun⟨id,s0,cap,i,off,n,rows,row,ag,X,h1,h2⟩=>⟨id,s0,cap,i,off,n,rows,row,ag,X,Zcv h h1,h2⟩
def MemOk (E:En)(m:List Ob×List GK)(st:St):Prop:=RMob E m.1 st∧∀g∈m.2,∀(id o s cap:Nat) (rows:List (List AV)),gav E g=some (.xs id o s cap rows)→(st.obj id).2.length=cap * s∧(st.obj id).2.take (rows.length * s)=rows.flatten∧(∀x∈rows,x.length=s)∧rows.length≤cap
theorem MemOk.mono {E E':En}(h:E.le E'){S:SS}{st:St}{P:Program}{C:Ctx}(hm:RM P C E S st):MemOk E' (memOf S) st:=by
 refine⟨hm.rmob.mono h,fun g hg id o s cap rows hv=>?_⟩
 have hl:liveX S g=true:=Zfw.2 hg
 obtain⟨e,av,-,-,h3,-⟩:=hm.live hl
 rw[Zcv h h3]at hv
 cases hv
 obtain⟨-,-,-,-,-,-,-,-,h4⟩:=hm.liveXs hl h3
 exact h4
theorem MemOk.mono2 {E E':En}(h:E.le E'){m:List Ob×List GK}{st:St}(hm:MemOk E m st)(hb:∀g∈m.2,∃av,gav E g=some av):MemOk E' m st:=by
 refine⟨hm.1.mono h,fun g hg id o s cap rows hv=>?_⟩
 obtain⟨av,h1⟩:=hb g hg
 rw[Zcv h h1]at hv
 cases hv
 exact hm.2 g hg _ _ _ _ _ h1
theorem Zi7 {E:En}{x y:List Ob×List GK}{st st':St}{k:LdK}{f:St→PV}(hx:MemOk E x st)(hy:MemOk E y st')(h:sameL x y k=true)(hf:LdSem E k f):f st=f st':=by
 cases k with
 | free=>exact hf st st'
 | ob o off n ag=>
  obtain⟨h1,h2⟩:=hf
  rcases h2 with h2 | ⟨id,X,h3,h4⟩
  ·exact h2 st st'
  ·rw[h4,h4,ZpY hx.1 hy.1 h h3 h1]
 | nm g=>
  rcases hf with h2 | ⟨id,s0,cap,i,off,n,rows,row,ag,X,h1,h2,h3,h4,h5⟩
  ·exact h2 st st'
  ·simp only[sameL,bA]at h
   obtain⟨a1,a2,a3,a4⟩:=hx.2 g (Zfw.1 h.1) _ _ _ _ _ h1
   obtain⟨b1,b2,b3,b4⟩:=hy.2 g (Zfw.1 h.2) _ _ _ _ _ h1
   have hrow:=a3 row (List.mem_of_getElem? h2)
   obtain⟨c1,c2⟩:=Zi5 a1 a2 a3 a4 h2 (off:=off) (n:=n) (by omega)
   obtain⟨d1,d2⟩:=Zi5 b1 b2 b3 b4 h2 (off:=off) (n:=n) (by omega)
   have hsub:sub (st.obj id).2 (i * s0+off) n ag=sub (st'.obj id).2 (i * s0+off) n ag:=by
    unfold sub
    cases ag with
    | true=>simp only[if_true];rw[a1,b1,c2,d2]
    | false=>
     obtain rfl:=h4 rfl
     simp only[bF,if_false]
     rw[a1,b1]
     congr 1
     have e:=c2.trans d2.symm
     have:=congrArg (fun l=>l[0]?) e
     simp only[List.getElem?_take,List.getElem?_drop]at this
     rw[List.getD_eq_getElem?_getD,List.getD_eq_getElem?_getD]
     have:(st.obj id).2[i * s0+off]?=(st'.obj id).2[i * s0+off]?:=by simpa using this
     rw[this]
   rw[h5,h5,hsub]
theorem ZpZ {E:En}{sl:List (Nat×SE)}{tm:Tm}(hc:CfOk P cf)(hs:RTS E sl tm){op:Op}{k:LdK}(h:ldOf cf sl op=some k):LdSem E k (fun s=>kv P tm s op):=by
 unfold ldOf at h
 split at h
 ·rename_i t i
  split at h
  ·rename_i e ti he hti
   have htk:=hc.ti t ti hti
   have h1:=hs i e he
   obtain⟨g,v⟩:=e
   have hund:tm i=Zc3→∀s s':St,kv P tm s (.load t (.tmp i))=kv P tm s' (.load t (.tmp i)):=fun hu s s'=>by simp only[kv,opnd,hu,Zc3]
   have hpp:(∃cs,tm i=.pp cs)→∀s s':St,kv P tm s (.load t (.tmp i))=kv P tm s' (.load t (.tmp i)):=fun⟨cs,hu⟩ s s'=>by simp only[kv,opnd,hu]
   have key:∀(Q:Prop),(RVd E v (tm i)→Q)→((∀s s':St,kv P tm s (.load t (.tmp i))=kv P tm s' (.load t (.tmp i)))→Q)→Q:=by
    intro Q q1 q2
    cases g with
    | none=>exact q1 h1
    | some a=>
     obtain⟨b,h2,h3,h4⟩:=h1
     cases b with
     | true=>exact q1 (h3 rfl)
     | false=>exact q2 (hund (h4 rfl))
   split at h
   ·rename_i o off hv
    cases h
    simp only at hv
    subst hv
    refine⟨htk.one,key _ (fun hr=>?_) .inl⟩
    rcases hr with⟨q,h2⟩ | h2
    ·cases h2
    ·generalize hte:tm i=av at h2
     cases h2 with
     | @ptr _ _ id h3=>exact .inr ⟨id,opOk (.tmp i)=true,h3,fun s=>by simp only[kv,opnd,hte,htk.sz]⟩
   ·rename_i hv
    cases h
    simp only at hv
    refine key _ (fun hr=>?_) (fun h=>h)
    rcases hr with⟨q,h2⟩ | h2
    ·rw[hv]at h2;cases h2
    ·rw[hv]at h2
     generalize hte:tm i=av at h2 hpp
     cases h2 with | pp=>exact hpp ⟨_,rfl⟩
   ·rename_i hv
    cases h
    simp only at hv
    refine key _ (fun hr=>?_) (fun h=>h)
    rcases hr with⟨q,h2⟩ | h2
    ·rw[hv]at h2;cases h2
    ·rw[hv]at h2
     generalize hte:tm i=av at h2 hpp
     cases h2 with | pv=>exact hpp ⟨_,rfl⟩
   ·rename_i hv
    cases h
    simp only at hv
    refine key _ (fun hr=>?_) (fun h=>h)
    rcases hr with⟨q,h2⟩ | h2
    ·rw[hv]at h2;cases h2
    ·rw[hv]at h2
     exact hund h2.un_inv
   ·rename_i a j off n gx hv
    split at h
    rotate_left
    ·cases h
    rename_i hle
    cases h
    simp only at hv
    have hle:=lB hle
    refine key _ (fun hr=>?_) .inl
    rcases hr with⟨q,h2⟩ | h2
    ·rw[hv]at h2;cases h2
    ·rw[hv]at h2
     generalize hte:tm i=av at h2
     cases h2 with
     | @bp _ _ _ _ _ row id s cap kk kq rows k1 k2 k3 k4 k5 k6 k7=>
      refine .inr ⟨id,s,cap,kq.toNat,off,ti.size,_,row.map .d,ti.agg,opOk (.tmp i)=true,k5,by rw[List.getElem?_map,k6];rfl,by omega,htk.one,fun s'=>by simp only[kv,opnd,hte,htk.sz]⟩
   ·cases h
  ·cases h
 ·cases h
structure GsOk (E:En)(gs:Gs)(gm:Gm):Prop where
 crit:gm.crit=gs.crit
 hist:∀p∈gm.hist,∃h∈gs.hist,h.1=p.1∧MemOk E h.2 p.2∧∀g∈h.2.2,∃av,gav E g=some av
 lds:∀q∈gm.lds,∃k,(q.1,k)∈gs.lds∧LdSem E k q.2
theorem GsOk.mono {E E':En}(h:E.le E'){gs:Gs}{gm:Gm}(hg:GsOk E gs gm):GsOk E' gs gm where
 crit:=hg.crit
 hist:=fun p hp=>by
  obtain⟨q,h1,h2,h3,h4⟩:=hg.hist p hp
  exact⟨q,h1,h2,h3.mono2 h h4,fun g hg=>by obtain⟨av,h5⟩:=h4 g hg;exact⟨av,Zcv h h5⟩⟩
 lds:=fun q hq=>by
  obtain⟨k,h1,h2⟩:=hg.lds q hq
  exact⟨k,h1,h2.mono h⟩
theorem ZjP {E:En}{S:SS}{st:St}(hm:RM P C E S st):∀g∈(memOf S).2,∃av,gav E g=some av:=fun g hg=>by
 obtain⟨e,av,-,-,h3,-⟩:=hm.live (Zfw.2 hg)
 exact⟨av,h3⟩
theorem Zg4 (hc:CfOk P cf)(hcal:CalOk P C Γ r cal)(hko:KOk P cf C Γ r){Kp:Tm→St→Prop}:∀(l:List (Nat×Oper)) {gs:Gs} {gm:Gm} {E:En} {q:Sq} {st:St} {tm:Tm},GsOk E gs gm→(∀x∈l,dstOk nt x.2.dst=true∧x.2.op.operands.toList.all opOk=true)→RM P C E q.s st→RTS E q.sl tm→run Γ (sxRG cf cal ops gs l q K) E.ρ=some r →
  (∀E' q' tm' st',E.le E'→RM P C E' q'.s st'→RTS E' q'.sl tm'→run Γ (K q') E'.ρ=some r→Kp tm' st')→wpH P nt ops gm l tm st Kp
 | [],gs,gm,E,q,st,tm,hg,_,hm,hs,hr,hK=>hK E q tm st (En.le.refl E) hm hs hr
 | (n,o)::l,gs,gm,E,q,st,tm,hg,ho,hm,hs,hr,hK=>by
  simp only[sxRG]at hr
  obtain⟨hd,hx⟩:=ho (n,o) (List.mem_cons_self ..)
  have ho':=fun x hx=>ho x (List.mem_cons_of_mem _ hx)
  simp only[wpH]
  by_cases hld:Zbz o.op=true
  ·rw[if_pos hld]at hr
   have hkeep:keeps o.op=true:=by simp[keeps,hld]
   have hnext:gm.next P n o tm st={ gm with lds:=(n,fun s=>kv P tm s o.op)::gm.lds }:=by simp[Gm.next,hkeep,hld]
   rw[hnext]
   cases hl:ldOf cf q.sl o.op with
   | none=>simp only[hl]at hr;simp[run]at hr
   | some k=>
    simp only[hl]at hr
    split at hr
    ·rename_i hall
     have hsem:=ZpZ hc hs hl
     refine⟨fun _ p hp hcr=>?_,Zhx hc hcal hko hm hs hd hx hr fun E' q' v st' k1 k2 k3 k4=>⟨fun hk=>absurd hkeep (by rw[hk];decide),?_⟩⟩
     ·obtain⟨h,h1,h2,h3,-⟩:=hg.hist p hp
      have h4:=List.all_eq_true.1 hall h h1
      simp only[Bool.or_eq_true,Bool.not_eq_true']at h4
      have hcr':critH gs.crit h.1 n=true:=Zh9.2 (by rw[h2,← hg.crit];exact hcr)
      rcases h4 with h4 | h4
      ·rw[hcr']at h4;cases h4
      ·exact Zi7 h3 (MemOk.mono (.refl E) hm) h4 hsem
     ·refine Zg4 hc hcal hko l ?_ ho' k2 k3 k4 fun E2 q2 tm2 st2 j1 j2 j3 j4=>hK E2 q2 tm2 st2 (k1.trans j1) j2 j3 j4
      have hg':=hg.mono k1
      refine⟨hg'.crit,hg'.hist,fun z hz=>?_⟩
      rcases List.mem_cons.1 hz with rfl | hz
      ·exact⟨k,List.mem_cons_self ..,hsem.mono k1⟩
      ·obtain⟨k',h1,h2⟩:=hg'.lds z hz
       exact⟨k',List.mem_cons_of_mem _ h1,h2⟩
    ·simp[run]at hr
  ·rw[if_neg hld]at hr
   have hnl:Zbz o.op=true→False:=hld
   by_cases hq:quiet o.op=true
   ·rw[if_pos hq]at hr
    have hkeep:keeps o.op=true:=by simp[keeps,hq]
    have hnext:gm.next P n o tm st=gm:=by simp[Gm.next,hkeep,hld]
    rw[hnext]
    refine⟨fun h=>(hnl h).elim,Zhx hc hcal hko hm hs hd hx hr fun E' q' v st' k1 k2 k3 k4=>⟨fun hk=>absurd hkeep (by rw[hk];decide),?_⟩⟩
    exact Zg4 hc hcal hko l (hg.mono k1) ho' k2 k3 k4 fun E2 q2 tm2 st2 j1 j2 j3 j4=>hK E2 q2 tm2 st2 (k1.trans j1) j2 j3 j4
   ·rw[if_neg hq]at hr
    have hkeep:keeps o.op=false:=by simp[keeps,hq,hld]
    have hnext:gm.next P n o tm st={ gm with hist:=(n,st)::gm.hist }:=by simp[Gm.next,hkeep]
    rw[hnext]
    refine⟨fun h=>(hnl h).elim,Zhx hc hcal hko hm hs hd hx hr fun E' q' v st' k1 k2 k3 k4=>?_⟩
    split at k4
    ·rename_i hall
     have hg':=hg.mono k1
     have hm0:MemOk E' (memOf q.s) st:=MemOk.mono k1 hm
     refine⟨fun _ z hz hcr=>?_,?_⟩
     ·obtain⟨k,h1,h2⟩:=hg'.lds z hz
      have h5:=List.all_eq_true.1 hall _ h1
      simp only[Bool.or_eq_true,Bool.not_eq_true']at h5
      have hcr':critH gs.crit z.1 n=true:=Zh9.2 (by rw[← hg.crit];exact hcr)
      rcases h5 with h5 | h5
      ·rw[hcr']at h5;cases h5
      ·exact(Zi7 hm0 (MemOk.mono (.refl E') k2) h5 h2).symm
     ·refine Zg4 hc hcal hko l ?_ ho' k2 k3 k4 fun E2 q2 tm2 st2 j1 j2 j3 j4=>hK E2 q2 tm2 st2 (k1.trans j1) j2 j3 j4
      refine⟨hg'.crit,fun p hp=>?_,hg'.lds⟩
      rcases List.mem_cons.1 hp with rfl | hp
      ·exact⟨_,List.mem_cons_self ..,rfl,hm0,fun g hg=>by obtain⟨av,h5⟩:=ZjP hm g hg;exact⟨av,Zcv k1 h5⟩⟩
      ·obtain⟨h,h1,h2,h3⟩:=hg'.hist p hp
       exact⟨h,List.mem_cons_of_mem _ h1,h2,h3⟩
    ·simp[run]at k4
theorem Ziy:∀{a b:List At},eqAs a b=true→a=b
 | [],[],_=>rfl
 | [],_::_,h=>by simp[eqAs]at h
 | _::_,[],h=>by simp[eqAs]at h
 | a::as,b::bs,h=>by
  simp only[eqAs,bA]at h
  rw[ZdF h.1,Ziy h.2]
theorem Zp0:∀{a b:Option At},eqOA a b=true→a=b
 | none,none,_=>rfl
 | none,some _,h=>by simp[eqOA]at h
 | some _,none,h=>by simp[eqOA]at h
 | some a,some b,h=>by rw[ZdF h]
theorem eqTr_eq:∀{a b:Tr},eqTr a b=true→a=b:=by
 intro a
 induction a with
 | fin a=>intro b h;cases b <;> simp only[eqTr,bF]at h;rw[Ziy h]
 | nxt a=>intro b h;cases b <;> simp only[eqTr,bF]at h;rw[Ziy h]
 | esc t ih=>intro b h;cases b <;> simp only[eqTr,bF]at h;rw[ih h]
 | op g f a t ih=>
  intro b h
  cases b <;> simp only[eqTr,bF,bA]at h
  rw[Zp0 h.1.1.1,of_decide_eq_true h.1.1.2,Ziy h.1.2,ih h.2]
 | ite a x y ihx ihy=>
  intro b h
  cases b <;> simp only[eqTr,bF,bA]at h
  rw[ZdF h.1.1,ihx h.1.2,ihy h.2]
 | call g k a n t ih=>
  intro b h
  cases b <;> simp only[eqTr,bF,bA]at h
  rw[Zp0 h.1.1.1.1,Nat.eq_of_beq_eq_true h.1.1.1.2,Ziy h.1.1.2,Nat.eq_of_beq_eq_true h.1.2,ih h.2]
 | loop a t ih=>
  intro b h
  cases b <;> simp only[eqTr,bF,bA]at h
  rw[Ziy h.1,ih h.2]
 | err c d=>
  intro b h
  cases b <;> simp only[eqTr,bF,bA]at h
  rw[Nat.eq_of_beq_eq_true h.1,of_decide_eq_true h.2]
theorem Zlo (hc:CfOk P cf)(hcal:CalOk P C Γ r cal)(hko:KOk P cf C Γ r){Kp:Tm→St→Prop}{m:Nat}{om:Oper}{T:List (Nat×Oper)}(hom:dstOk nt om.dst=true∧om.op.operands.toList.all opOk=true)(hT:∀x∈T,dstOk nt x.2.dst=true∧x.2.op.operands.toList.all opOk=true):∀(l:List (Nat×Oper)) {gs:Gs} {gm:Gm} {E:En} {q:Sq} {st:St} {tm:Tm},GsOk E gs gm→(∀x∈l,dstOk nt x.2.dst=true∧x.2.op.operands.toList.all opOk=true)→RM P C E q.s st→RTS E q.sl tm→run Γ (sxM cf cal ops m om T gs l q K) E.ρ=some r →
  (∀E' q' tm' st',E.le E'→RM P C E' q'.s st'→RTS E' q'.sl tm'→run Γ (K q') E'.ρ=some r→Kp tm' st')→wpM P nt ops m om T Kp gm l tm st
 | [],gs,gm,E,q,st,tm,hg,_,hm,hs,hr,hK=>Zg4 hc hcal hko ((m,om)::T) hg (fun x hx=>by
   rcases List.mem_cons.1 hx with e | hx
   ·rw[e];exact hom
   ·exact hT x hx) hm hs hr hK
 | (n,o)::l,gs,gm,E,q,st,tm,hg,ho,hm,hs,hr,hK=>by
  simp only[sxM]at hr
  obtain⟨hd,hx⟩:=ho (n,o) (List.mem_cons_self ..)
  have ho':=fun x hx=>ho x (List.mem_cons_of_mem _ hx)
  simp only[wpM]
  by_cases hld:Zbz o.op=true
  ·rw[if_pos hld]at hr
   have hkeep:keeps o.op=true:=by simp[keeps,hld]
   have hnext:gm.next P n o tm st={ gm with lds:=(n,fun s=>kv P tm s o.op)::gm.lds }:=by simp[Gm.next,hkeep,hld]
   rw[hnext]
   cases hl:ldOf cf q.sl o.op with
   | none=>simp only[hl]at hr;simp[run]at hr
   | some k=>
    simp only[hl]at hr
    split at hr
    ·rename_i hall
     have hsem:=ZpZ hc hs hl
     refine⟨fun hk=>absurd hkeep (by rw[hk];decide),fun _ p hp hcr=>?_,Zhx hc hcal hko hm hs hd hx hr fun E' q' v st' k1 k2 k3 k4=>⟨fun hk=>absurd hkeep (by rw[hk];decide),?_⟩⟩
     ·obtain⟨h,h1,h2,h3,-⟩:=hg.hist p hp
      have h4:=List.all_eq_true.1 hall h h1
      simp only[Bool.or_eq_true,Bool.not_eq_true']at h4
      have hcr':critH gs.crit h.1 n=true:=Zh9.2 (by rw[h2,← hg.crit];exact hcr)
      rcases h4 with h4 | h4
      ·rw[hcr']at h4;cases h4
      ·exact Zi7 h3 (MemOk.mono (.refl E) hm) h4 hsem
     ·refine Zlo hc hcal hko hom hT l ?_ ho' k2 k3 k4 fun E2 q2 tm2 st2 j1 j2 j3 j4=>hK E2 q2 tm2 st2 (k1.trans j1) j2 j3 j4
      have hg':=hg.mono k1
      refine⟨hg'.crit,hg'.hist,fun z hz=>?_⟩
      rcases List.mem_cons.1 hz with rfl | hz
      ·exact⟨k,List.mem_cons_self ..,hsem.mono k1⟩
      ·obtain⟨k',h1,h2⟩:=hg'.lds z hz
       exact⟨k',List.mem_cons_of_mem _ h1,h2⟩
    ·simp[run]at hr
  ·rw[if_neg hld]at hr
   have hnl:Zbz o.op=true→False:=hld
   by_cases hq:quiet o.op=true
   ·rw[if_pos hq]at hr
    have hkeep:keeps o.op=true:=by simp[keeps,hq]
    have hnext:gm.next P n o tm st=gm:=by simp[Gm.next,hkeep,hld]
    rw[hnext]
    refine⟨fun hk=>absurd hkeep (by rw[hk];decide),fun h=>(hnl h).elim,Zhx hc hcal hko hm hs hd hx hr fun E' q' v st' k1 k2 k3 k4=>⟨fun hk=>absurd hkeep (by rw[hk];decide),?_⟩⟩
    exact Zlo hc hcal hko hom hT l (hg.mono k1) ho' k2 k3 k4 fun E2 q2 tm2 st2 j1 j2 j3 j4=>hK E2 q2 tm2 st2 (k1.trans j1) j2 j3 j4
   ·rw[if_neg hq]at hr
    have hkeep:keeps o.op=false:=by simp[keeps,hq,hld]
    have hnext:gm.next P n o tm st={ gm with hist:=(n,st)::gm.hist }:=by simp[Gm.next,hkeep]
    rw[hnext]
    split at hr
    rotate_left
    ·simp[run]at hr
    rename_i heq
    have hr2:=hr
    rw[← eqTr_eq heq]at hr2
    refine⟨fun _=>Zg4 hc hcal hko ((m,om)::(n,o)::(l++T)) hg (fun x hx=>?_) hm hs hr2 hK,fun h=>(hnl h).elim,Zhx hc hcal hko hm hs hd hx hr fun E' q' v st' k1 k2 k3 k4=>?_⟩
    ·simp only[List.mem_cons,List.mem_append]at hx
     rcases hx with e | e | hx | hx
     ·rw[e];exact hom
     ·rw[e];exact ho (n,o) (List.mem_cons_self ..)
     ·exact ho' x hx
     ·exact hT x hx
    ·split at k4
     ·rename_i hall
      have hg':=hg.mono k1
      have hm0:MemOk E' (memOf q.s) st:=MemOk.mono k1 hm
      refine⟨fun _ z hz hcr=>?_,?_⟩
      ·obtain⟨k,h1,h2⟩:=hg'.lds z hz
       have h5:=List.all_eq_true.1 hall _ h1
       simp only[Bool.or_eq_true,Bool.not_eq_true']at h5
       have hcr':critH gs.crit z.1 n=true:=Zh9.2 (by rw[← hg.crit];exact hcr)
       rcases h5 with h5 | h5
       ·rw[hcr']at h5;cases h5
       ·exact(Zi7 hm0 (MemOk.mono (.refl E') k2) h5 h2).symm
      ·refine Zlo hc hcal hko hom hT l ?_ ho' k2 k3 k4 fun E2 q2 tm2 st2 j1 j2 j3 j4=>hK E2 q2 tm2 st2 (k1.trans j1) j2 j3 j4
       refine⟨hg'.crit,fun p hp=>?_,hg'.lds⟩
       rcases List.mem_cons.1 hp with rfl | hp
       ·exact⟨_,List.mem_cons_self ..,rfl,hm0,fun g hg=>by obtain⟨av,h5⟩:=ZjP hm g hg;exact⟨av,Zcv k1 h5⟩⟩
       ·obtain⟨h,h1,h2,h3⟩:=hg'.hist p hp
        exact⟨h,List.mem_cons_of_mem _ h1,h2,h3⟩
     ·simp[run]at k4
end
end Go.AW

namespace Go.AW
open Go.RowKit
def All2 (R:Nat→Row→Prop):List Nat→List Row→Prop
 | [],[]=>True
 | i::l,r::rs=>R i r∧All2 R l rs
 | _,_=>False
theorem All2.imp {R R':Nat→Row→Prop}(h:∀i r,R i r→R' i r):∀{l:List Nat} {rs:List Row},All2 R l rs→All2 R' l rs
 | [],[],_=>trivial
 | i::l,r::rs,hh=>⟨h i r hh.1,All2.imp h hh.2⟩
 | [],_::_,hh=>hh.elim
 | _::_,[],hh=>hh.elim
theorem All2.len {R:Nat→Row→Prop}:∀{l:List Nat} {rs:List Row},All2 R l rs→l.length=rs.length
 | [],[],_=>rfl
 | i::l,r::rs,hh=>by simp[All2.len hh.2]
 | [],_::_,hh=>hh.elim
 | _::_,[],hh=>hh.elim
theorem Zey (E:En):E.push []=E:=by simp[En.push]
theorem ZjQ {Γ:Den}{S:SS}{g:Option GK}{e:TypeId}{ρ:List Row}:run Γ (Zf5 S g e) ρ=none:=by
 unfold Zf5
 split
 ·split <;> rfl
 ·rfl
section
variable {P:Program}{C:Ctx}{Γ:Den}{r:Rs}
theorem Zp1 {E:En}{S:SS}{st:St}{e:SE}{av:AV}{K:SV→Tr}(h:RM P C E S st)(he:RSE E e av)(hr:run Γ (useV S none e K) E.ρ=some r):run Γ (K e.v) E.ρ=some r∧RV E e.v av:=by
 obtain⟨ge,v⟩:=e
 have key:run Γ (if impl S 50 none ge=true then K v else .err 11 []) E.ρ=some r→(∀k,v≠.dead k)→run Γ (K v) E.ρ=some r∧RV E v av:=by
  intro hr hd
  split at hr
  ·rename_i hi
   refine⟨hr,?_⟩
   have hge:=Ziv h 50 hi rfl
   cases ge with
   | none=>
    rcases he with⟨k,e⟩ | he
    ·exact absurd e (hd k)
    ·exact he
   | some a=>
    obtain⟨b,h1,h2,h3⟩:=he
    rw[hge a rfl]at h1
    cases h1
    rcases h2 rfl with⟨k,e⟩ | he
    ·exact absurd e (hd k)
    ·exact he
  ·simp[run]at hr
 unfold useV at hr
 cases v <;> first | exact key hr (fun k e=>by cases e) | (simp[run]at hr)
def SlRow (h:Hint)(E:En)(sl:List (Nat×SE))(tm:Tm)(i:Nat)(row:Row):Prop:=∃e,lk i sl=some e∧RV E e.v (tm i)∧dvos row=true∧toDs (Zak (tm i))=some row∧∀(c:Nat) (x:AV),(Zak (tm i))[c]?=some x→c ∉ Zfn h i→noX x=true
def ObRow (h:Hint)(E:En)(S:SS)(st:St)(j:Nat)(row:Row):Prop:=∃ob id,S.ob[j]?=some ob∧E.ι j=some id∧dvos row=true∧toDs (st.obj id).2=some row∧∀(c:Nat) (x:AV),(st.obj id).2[c]?=some x→c ∉ ZgQ h j→noX x=true
theorem ZjR {S:SS}{v:SV}{cs:List Nat}{code:Nat}{d:List Nat}{ρ:List Row}(h:run Γ (errX S v cs code d) ρ=some r):False:=by
 unfold errX at h
 split at h <;> simp[run]at h
theorem SlRow.mono {hh:Hint}{E E':En}(hle:E.le E'){sl:List (Nat×SE)}{tm:Tm}(i:Nat)(row:Row)(h:SlRow hh E sl tm i row):SlRow hh E' sl tm i row:=by
 obtain⟨e,h1,h2,h3,h4⟩:=h
 exact⟨e,h1,h2.mono hle,h3,h4⟩
theorem ObRow.mono {hh:Hint}{E E':En}(hle:E.le E'){S S':SS}(hS:S'.ob=S.ob){st:St}(i:Nat)(row:Row)(h:ObRow hh E S st i row):ObRow hh E' S' st i row:=by
 obtain⟨e,id,h1,h2,h3,h4⟩:=h
 exact⟨e,id,by rw[hS];exact h1,hle.ι _ _ h2,h3,h4⟩
theorem Zia {ρ:List Row}{a:At}{as:List At}{x:Row}{xs:List Row}(h:a.ev ρ=some x)(h':evs ρ as=some xs):evs ρ (a::as)=some (x::xs):=by simp[evs,h,h']
theorem Zg5 {ρ:List Row}:∀{as bs:List At} {xs ys:List Row},evs ρ as=some xs→evs ρ bs=some ys→evs ρ (as++bs)=some (xs++ys)
 | [],bs,xs,ys,h,h'=>by
  simp only[evs,oI]at h
  subst h
  exact h'
 | a::as,bs,xs,ys,h,h'=>by
  simp only[evs]at h
  cases ha:a.ev ρ with
  | none=>rw[ha]at h;cases h
  | some x=>
   cases hs:evs ρ as with
   | none=>rw[ha,hs]at h;cases h
   | some xs'=>
    rw[ha,hs]at h
    cases h
    exact Zia ha (Zg5 hs h')
theorem ZjS {key:Nat}{h:Hint}{sl:List (Nat×SE)}{tm:Tm}{st:St}{K:SS→List At→Tr}:∀(l:List Nat) {E:En} {S:SS} {acc:List At},RM P C E S st→RTS E sl tm→run Γ (ZjJ key h S sl l acc K) E.ρ=some r →
  ∃(l':List Row) (as:List At) (rs:List Row),run Γ (K (bump S l'.length) (acc.reverse++as)) (E.ρ++l')=some r∧evs (E.ρ++l') as=some rs∧All2 (SlRow h (E.push l') sl tm) l rs
 | [],E,S,acc,hm,hs,hr=>⟨[],[],[],by simpa[bump,ZjJ] using hr,rfl,trivial⟩
 | i::l,E,S,acc,hm,hs,hr=>by
  simp only[ZjJ]at hr
  cases hl:lk i sl with
  | none=>rw[hl]at hr;simp[run]at hr
  | some e=>
   rw[hl]at hr;simp only at hr
   obtain⟨h1,h2⟩:=Zp1 hm (hs i e hl) hr
   split at h1
   rotate_left
   ·exact(ZjR h1).elim
   rename_i hcb
   obtain⟨l1,a,h3,h4⟩:=Zfv (on:=true) h1 hm.nv rfl
   obtain⟨l2,as,rs,h5,h6,h7⟩:=ZjS l (E:=E.push l1) (hm.push l1) (hs.mono (En.le_push E l1)) h3
   obtain⟨x,h8,h9,h10⟩:=h4 rfl _ h2
   refine⟨l1++l2,a::as,x::rs,?_,?_,⟨⟨e,hl,h2.mono (En.le_push E _),h9,h10,fun c y hy hc=>h2.ZhV hm hcb hy hc⟩,?_⟩⟩
   ·rw[List.reverse_cons,List.append_assoc,Zd5]at h5
    rw[List.length_append,← List.append_assoc]
    exact h5
   ·rw[← List.append_assoc]
    exact Zia (At.ev_mono h8 l2) h6
   ·rw[← ZaZ];exact h7
theorem Zmw {key:Nat}{h:Hint}{st:St}{K:SS→List At→Tr}:∀(l:List Nat) {E:En} {S:SS} {acc:List At},RM P C E S st→run Γ (obAts key h S l acc K) E.ρ=some r →
  ∃(l':List Row) (as:List At) (rs:List Row),run Γ (K (bump S l'.length) (acc.reverse++as)) (E.ρ++l')=some r∧evs (E.ρ++l') as=some rs∧All2 (ObRow h (E.push l') S st) l rs
 | [],E,S,acc,hm,hr=>⟨[],[],[],by simpa[bump,obAts] using hr,rfl,trivial⟩
 | j::l,E,S,acc,hm,hr=>by
  simp only[obAts,objAt]at hr
  cases hl:S.ob[j]? with
  | none=>rw[hl]at hr;simp[run]at hr
  | some ob=>
   rw[hl]at hr;simp only at hr
   obtain⟨id,q1,q2,q2',q3,q4⟩:=hm.ob j ob hl
   split at hr
   rotate_left
   ·exact(ZjR hr).elim
   rename_i hcb
   obtain⟨l1,a,h3,h4⟩:=Zfv (on:=true) hr hm.nv rfl
   obtain⟨l2,as,rs,h5,h6,h7⟩:=Zmw l (E:=E.push l1) (hm.push l1) h3
   obtain⟨x,h8,h9,h10⟩:=h4 rfl _ q4.agg
   refine⟨l1++l2,a::as,x::rs,?_,?_,⟨⟨ob,id,hl,q1,h9,h10,fun c y hy hc=>q4.agg.ZhV hm hcb hy hc⟩,?_⟩⟩
   ·rw[List.reverse_cons,List.append_assoc,Zd5]at h5
    rw[List.length_append,← List.append_assoc]
    exact h5
   ·rw[← List.append_assoc]
    exact Zia (At.ev_mono h8 l2) h6
   ·rw[← ZaZ]
    exact h7.imp (ObRow.mono (En.le.refl _) rfl)
theorem Zi8 {key:Nat}{st:St}{tm:Tm}{h:Hint}{q:Sq}{E:En}{K:SS→List At→Tr}(hm:RM P C E q.s st)(hs:RTS E q.sl tm)(hr:run Γ (hand key h q K) E.ρ=some r) :
  ∃(l':List Row) (as:List At) (rs rs':List Row),run Γ (K (bump q.s l'.length) as) (E.ρ++l')=some r∧evs (E.ρ++l') as=some (rs++rs')∧All2 (SlRow h (E.push l') q.sl tm) h.sl rs∧All2 (ObRow h (E.push l') q.s st) h.ob rs':=by
 unfold hand at hr
 obtain⟨l1,as,rs,h1,h2,h3⟩:=ZjS h.sl hm hs hr
 obtain⟨l2,bs,rs',h4,h5,h6⟩:=Zmw h.ob (E:=E.push l1) (hm.push l1) h1
 simp only[List.reverse_nil,List.nil_append,Zd5]at h4
 refine⟨l1++l2,as++bs,rs,rs',?_,?_,?_,?_⟩
 ·rw[List.length_append,← List.append_assoc];exact h4
 ·rw[← List.append_assoc]
  exact Zg5 (Zlh h2 l2) h5
 ·rw[← ZaZ];exact h3.imp (SlRow.mono (En.le_push _ _))
 ·rw[← ZaZ];exact h6.imp (ObRow.mono (En.le.refl _) rfl)
theorem Zg6 {key:Nat}{h:Hint}{gr:List (GK×TypeId)}{q:Sq}{K:Tr}{ρ:List Row}(hr:run Γ (ZnS key h gr q K) ρ=some r) :
  run Γ K ρ=some r∧∃nms,nowNm h q=some nms∧(∀x∈nms,grows q.s x.1 x.2=true)∧distinct (nms.filterMap (·.1))=true∧∀x∈gr,grows q.s (some x.1) x.2=true∧∀y∈nms,y.1≠some x.1:=by
 unfold ZnS at hr
 split at hr
 ·simp[run]at hr
 ·rename_i nms hn
  split at hr
  ·rw[ZjQ]at hr;cases hr
  ·rename_i hf
   split at hr
   ·simp[run]at hr
   ·rename_i hd
    split at hr
    ·simp[run]at hr
    ·simp[run]at hr
    ·rename_i hg
     refine⟨hr,nms,hn,fun x hx=>?_,by simpa using hd,fun x hx=>?_⟩
     ·have:=List.find?_eq_none.1 hf x hx
      simpa using this
     ·have:=List.find?_eq_none.1 hg x hx
      simp only[Bool.or_eq_true,Bool.not_eq_true',not_or,Bool.not_eq_false,Bool.not_eq_true]at this
      refine⟨this.1,fun y hy e=>?_⟩
      have h2:=List.any_eq_false.1 this.2 y hy
      rw[e]at h2
      simp only[Zh4]at h2
      exact h2 trivial
end
theorem Zmx {E:En}(h0:E.ω 0=some .nil){ob:Ob}{c:Nat}{g:GK}:∀{ov:List (Nat×Nat×SV)} {cs:List AV},RB E ob.a ob.n ob.m ov cs→c<ob.n→ZhW ob c ov=some g→∃av,cs[c]?=some av∧gav E g=some av
 | [],cs,hb,hc,h=>by
  obtain⟨cs0,avs,h1,h2,h3⟩:=hb
  have:=h2.1
  cases avs with
  | cons _ _=>simp at this
  | nil=>
   simp only[Zbi,oI]at h3
   subst h3
   obtain⟨t,a,n,m,ov⟩:=ob
   simp only[ZhW]at h
   simp only at h1 hc
   have hl:=h1.len
   cases h1 with
   | d=>simp[nmOf]at h
   | @z r _ hn ho=>
    simp only[nmOf]at h
    split at h
    ·rename_i e
     cases h
     simp only[At.c.injEq]at e
     have:r[c]?=some (.sl 0 []):=by
      have:=congrArg (fun l=>l[0]?) e
      simpa[List.getElem?_take,List.getElem?_drop] using this
     exact⟨.nil,by simp[this,cv],h0⟩
    ·cases h
   | @g _ _ b o r l h4 h5 h6 h7 h8=>
    simp only[nmOf,oI]at h
    subst h
    have hlt:c<((l.drop o).take n).length:=by rw[hl];exact hc
    refine⟨_,gG hlt,?_⟩
    simp only[gav,h7,Option.bind_some]
    rw[← gG hlt,List.getElem?_take,if_pos hc,List.getElem?_drop]
 | (o1,n1,v1)::ov,cs,hb,hc,h=>by
  obtain⟨c0,av,h1,h2,h3,h4,h5,rfl⟩:=hb.cons_inv
  simp only[ZhW]at h
  split at h
  ·rename_i hin
   simp only[decide_eq_true_eq]at hin
   have hget:(ZaO c0 o1 (Zak av))[c]?=(Zak av)[c - o1]?:=by
    rw[Za8 c0 o1 _ (by omega),if_neg (by omega),if_pos (by omega)]
   rw[hget]
   split at h
   ·split at h
    ·rename_i hn
     obtain rfl:=nbeq hn
     subst h
     have e:c - o1=0:=by omega
     rw[h2.one_cell rfl,e]
     cases h2 with
     | one1 h6 h7 h8 h9=>exact⟨_,rfl,h8⟩
    ·cases h
   ·rename_i a n b d
    cases h
    obtain⟨cs1,rfl,cs0,avs,h6,h7,h8⟩:=h2.agg_inv
    have:=h7.1
    cases avs with
    | cons _ _=>simp at this
    | nil=>
     simp only[Zbi,oI]at h8
     subst h8
     simp only[Zb4]at h3 ⊢
     have hl:=h6.len
     cases h6 with
     | @g _ _ _ _ r l j1 j2 j3 j4 j5=>
      have hlt:c - o1<((l.drop d).take n).length:=by omega
      refine⟨_,gG hlt,?_⟩
      simp only[gav,j4,Option.bind_some]
      rw[← gG hlt,List.getElem?_take,if_pos (by omega),List.getElem?_drop]
   ·rename_i r n
    obtain⟨cs1,rfl,cs0,avs,h6,h7,h8⟩:=h2.agg_inv
    have:=h7.1
    cases avs with
    | cons _ _=>simp at this
    | nil=>
     simp only[Zbi,oI]at h8
     subst h8
     simp only[Zb4]at h3 ⊢
     cases h6 with
     | z j1 j2=>
      simp only[nmOf]at h
      split at h
      ·rename_i e
       cases h
       simp only[At.c.injEq]at e
       have:r[c - o1]?=some (.sl 0 []):=by
        have:=congrArg (fun l=>l[0]?) e
        simpa[List.getElem?_take,List.getElem?_drop] using this
       exact⟨.nil,by simp[this,cv],h0⟩
      ·cases h
   ·cases h
  ·rename_i hin
   simp only[decide_eq_true_eq]at hin
   obtain⟨x,h6,h7⟩:=Zmx h0 h1 hc h
   refine⟨x,?_,h7⟩
   rw[Za8 c0 o1 _ (by omega)]
   split
   ·exact h6
   ·rw[if_neg (by omega)];exact h6
theorem ZdU {E:En}(h0:E.ω 0=some .nil){ob:Ob}{c:Nat}{g:GK}{cs:List AV}(hb:RB E ob.a ob.n ob.m ob.ov cs)(h:ZcF ob c=some g):∃av,cs[c]?=some av∧gav E g=some av:=by
 unfold ZcF at h
 split at h
 ·cases h
 ·rename_i hc
  refine Zmx h0 hb ?_ h
  simp only[Nat.ble_eq]at hc
  omega
end Go.AW
