/- Typed functions and their chain. Printed by tfn.py. · Typed functions and their chain. Printed by tfn.py. · Typed functions and their chain. Printed by tfn.py. -/
import Derived.Test.YtibiooglhpjojaaGreatDoorF1
set_option linter.unusedSimpArgs false
set_option linter.unusedVariables false
namespace Go.AW.M
open Go.RowKit Go.Proofs
set_option maxRecDepth 100000
noncomputable section
def Zcd (v6:ByteArray):Option (ByteArray×Unit):=
 (Zdl v6).bind fun r11=>
 let v11:=r11.1
 let v12:=v11 != 0
 let v13:=!v12
 if v13=true then(
 some ((⟨#[]⟩:ByteArray),()))
 else(
 some (v6,()))
def l131:Ch:=(131,⟨pS13,pS9,pS0,pS1,false⟩,[])::l178
def Zfy (v0:ByteArray)(v1:Int):Option (ByteArray×Unit):=
 (ZhB v0).bind fun r2=>
 let v2:=r2.1
 let v3:=r2.2.1
 (caN v2 (⟨#[46]⟩:ByteArray)).bind fun v4=>
 let v5:=v1==1
 if v5=true then(
 (caN v4 (⟨#[115,101,114,118,105,99,101]⟩:ByteArray)).bind fun v6=>
 (Zdl v0).bind fun r7=>
 let v7:=r7.1
 let v8:=v7 != 0
 let v9:=!v8
 let v10:=!v9
 if v9=true then(
 some ((⟨#[]⟩:ByteArray),()))
 else(
 Zcd v6))
 else(
 let v6:=v1==2
 if v6=true then(
 (caN v4 (⟨#[115,111,99,107,101,116]⟩:ByteArray)).bind fun v7=>
 (Zdl v0).bind fun r8=>
 let v8:=r8.1
 let v9:=v8 != 0
 let v10:=!v9
 let v11:=!v10
 if v10=true then(
 some ((⟨#[]⟩:ByteArray),()))
 else(
 Zcd v7))
 else(
 let v7:=v1==3
 if v7=true then(
 (caN v4 (⟨#[116,105,109,101,114]⟩:ByteArray)).bind fun v8=>
 (Zdl v0).bind fun r9=>
 let v9:=r9.1
 let v10:=v9 != 0
 let v11:=!v10
 let v12:=!v11
 if v11=true then(
 some ((⟨#[]⟩:ByteArray),()))
 else(
 Zcd v8))
 else(
 let v8:=v1==4
 if v8=true then(
 (caN v4 (⟨#[116,97,114,103,101,116]⟩:ByteArray)).bind fun v9=>
 (Zdl v0).bind fun r10=>
 let v10:=r10.1
 let v11:=v10 != 0
 let v12:=!v11
 let v13:=!v12
 if v12=true then(
 some ((⟨#[]⟩:ByteArray),()))
 else(
 Zcd v9))
 else(
 (caN v4 (⟨#[]⟩:ByteArray)).bind fun v9=>
 (Zdl v0).bind fun r10=>
 let v10:=r10.1
 let v11:=v10 != 0
 let v12:=!v11
 let v13:=!v12
 if v12=true then(
 some ((⟨#[]⟩:ByteArray),()))
 else(
 Zcd v9)))))
def t131:List (Nat×TC U):=(131,⟨[.str,.ik .i64],[.str],fun(a:ByteArray×Int×Unit)=>Zfy a.1 a.2.1⟩)::t178
theorem c131:Chain Tryz.prog U tab base l131 t131:=Chain.cons tb cfok c178 2 rfl rfl rfl (hs:=[])
 (fun(e:Int×ByteArray×Unit)=>Zfy e.2.1 e.1) (by kernel_rfl) (fun _=>rfl)
def l92:Ch:=(92,⟨[.agg (.v 0) 35 (.g 0 0) []],pS8,pS0,pS1,false⟩,[])::l131
def Zf8 (v0:Zae):Option (ByteArray×Unit):=
 let v1:=v0.Kind
 let v2:=v1 != 2
 let v3:=v2
 (if v3=true then some (some (v0.Kind))else some none).bind fun v4=>
 (if v3=true then(v4.bind fun v4o1=>some (v4o1 != 3):Option Bool).bind fun v=>some (some v)else some none).bind fun v5=>
 (if v2=true then v5 else some false:Option Bool).bind fun v6=>
 if v6=true then(
 some ((⟨#[]⟩:ByteArray),()))
 else(
 let v7:=v0.Unit_
 let v8:=!((ByteArray.toList v7)==(ByteArray.toList (⟨#[]⟩:ByteArray)))
 if v8=true then(
 let v9:=v0.Unit_
 some (v9,()))
 else(
 let v9:=v0.Name
 (Zfy v9 (1)).bind fun r10=>
 let v10:=r10.1
 some (v10,())))
def t92:List (Nat×TC U):=(92,⟨[.st 28],[.str],fun(a:Zae×Unit)=>Zf8 a.1⟩)::t131
theorem c92:Chain Tryz.prog U tab base l92 t92:=Chain.cons tb cfok c131 1 rfl rfl rfl (hs:=[])
 (fun(e:Zae×Unit)=>Zf8 e.1) (by kernel_rfl) (fun _=>rfl)
def Zha (v0:Zae)(v4:Zac)(v3:Int):Option (Zac×Zab×Unit):=
 (ZcV v0).bind fun r13=>
 let v13:=r13.1
 let v14:=v4.Attempt
 let v15:=IntKind.i64.wrap (v14+1)
 let v16:=v4.Rows
 let v17:=IntKind.i64.wrap (v16+1)
 let v18:=v13.Name
 let v19:Zaq:={ z0 with Time:=v3 }
 let v20:Zaq:={ v19 with Unit_:=v18 }
 let v21:Zaq:={ v20 with N:=v17 }
 let v22:Zaq:={ v21 with Kind:=(2:Int) }
 let v23:Zaq:={ v22 with Text:=(⟨#[117,112]⟩:ByteArray) }
 let v24:=[v23]
 let v25:Zac:={ v4 with U:=v13 }
 let v26:Zac:={ v25 with Attempt:=v15 }
 let v27:Zac:={ v26 with State:=(4:Int) }
 let v28:Zac:={ v27 with Since:=v3 }
 let v29:Zac:={ v28 with Rows:=v17 }
 let v30:Zab:={ (⟨[],[],[],false,false⟩:Zab)with Rows:=v24 }
 some (v29,v30,())
def Zhb (v2:Int)(v4:Zac):Option (Zac×Zab×Unit):=
 let v9:=v2==2
 let v10:=v2==3
 some (v4,(⟨[],[],[],false,false⟩:Zab),())
def l39:Ch:=(39,⟨[.agg (.v 0) 35 (.g 0 0) [],.agg (.v 1) 62 (.g 1 0) [],.one (.v 2) (some (.w 1)),.one (.v 3) (some (.w 2))],⟨4,[],3,2,[],[],[],[(.w 2,1,2),(.w 1,1,1)],[],[]⟩,pS6,pS10,true⟩,[(3202,⟨[9],[],[],[],[],[],[],0⟩)])::l92
def Zfz (v0:Zae)(v1:Zac)(v2:Int)(v3:Int):Option (Zac×Zab×Unit):=
 (Zbl v1).bind fun r4=>
 let v4:=r4.1
 let v5:=v2==1
 let v6:=v5
 if v5=true then(
 loopS (A:=Int×Unit) (fun s7=>
   let v7:=s7.1
 let v8:=decide (v7<2)
 if v8=true then(
 (ixN ([0,9]:List Int) v7).bind fun v9=>
 let v10:=v9
 let v11:=v4.State
 let v12:=v11==v10
 if v12=true then(
 (Zha v0 v4 v3).bind fun r=>some (Sum.inr r))
 else(
 let v13:=IntKind.i64.wrap (v7+1)
 some (Sum.inl (v13,()))))
 else(
 (Zhb v2 v4).bind fun r=>some (Sum.inr r))
   ) (0,()))
 else(
 let v7:=v2==2
 let v8:=!v7
 (if v8=true then some (some (v2==3))else some none).bind fun v9=>
 (if v7=true then some true else(v9).bind fun y=>some y:Option Bool).bind fun v10=>
 let v11:=v10
 (if v11=true then some (some (v4.State))else some none).bind fun v12=>
 (if v11=true then(v12.bind fun v12o1=>some (v12o1==4):Option Bool).bind fun v=>some (some v)else some none).bind fun v13=>
 (if v10=true then v13 else some false:Option Bool).bind fun v14=>
 if v14=true then(
 let v15:=v4.Rows
 let v16:=IntKind.i64.wrap (v15+1)
 let v17:=v4.U.Name
 let v18:Zaq:={ z0 with Time:=v3 }
 let v19:Zaq:={ v18 with Unit_:=v17 }
 let v20:Zaq:={ v19 with N:=v16 }
 let v21:Zaq:={ v20 with Kind:=(2:Int) }
 let v22:Zaq:={ v21 with Text:=(⟨#[100,111,119,110]⟩:ByteArray) }
 let v23:=[v22]
 let v24:Zac:={ v4 with State:=(0:Int) }
 let v25:Zac:={ v24 with Since:=v3 }
 let v26:Zac:={ v25 with Rows:=v16 }
 let v27:Zab:={ (⟨[],[],[],false,false⟩:Zab)with Rows:=v23 }
 some (v26,v27,()))
 else(
 some (v4,(⟨[],[],[],false,false⟩:Zab),())))
def t39:List (Nat×TC U):=(39,⟨[.st 28,.st 33,.ik .i64,.ik .i64],[.st 33,.st 47],fun(a:Zae×Zac×Int×Int×Unit)=>Zfz a.1 a.2.1 a.2.2.1 a.2.2.2.1⟩)::t92
theorem c39:Chain Tryz.prog U tab base l39 t39:=Chain.cons tb cfok c92 4 rfl rfl rfl (hs:=[⟨.li (.ik .i64),([0,9]:List Int)⟩,hS8,hS0,hS0,hS8,hS0,hS0])
 (fun(e:Int×Int×Zac×Zae×Unit)=>Zfz e.2.2.2.1 e.2.2.1 e.2.1 e.1) (by kernel_rfl) (fun _=>rfl)
def l53:Ch:=(53,⟨pS19,pS20,pS6,pS10,true⟩,[])::l39
def ZfA (v0:Zaf)(v1:Zac)(v2:Int):Option (Zac×Zab×Unit):=
 (Zbl v1).bind fun r3=>
 let v3:=r3.1
 let v4:=v3.State
 let v5:=v4 != 4
 if v5=true then(
 let v6:=decide (1099511627776>v2)
 let v7:=!v6
 let v8:=v6
 some (v3,(⟨[],[],[],false,false⟩:Zab),()))
 else(
 let v6:=v3.Next
 let v7:=decide (v6>v2)
 let v8:=!v7
 (if v8=true then some (some (v6==1099511627776))else some none).bind fun v9=>
 (if v7=true then some true else(v9).bind fun y=>some y:Option Bool).bind fun v10=>
 if v10=true then(
 some (v3,(⟨[],[],[],false,false⟩:Zab),()))
 else(
 let v11:=v3.Rows
 let v12:=IntKind.i64.wrap (v11+1)
 let v13:=v3.U.Name
 let v14:Zaq:={ z0 with Time:=v2 }
 let v15:Zaq:={ v14 with Unit_:=v13 }
 let v16:Zaq:={ v15 with N:=v12 }
 let v17:Zaq:={ v16 with Kind:=(5:Int) }
 let v18:Zaq:={ v17 with Text:=(⟨#[111,102,102]⟩:ByteArray) }
 let v19:=[v18]
 let v20:=v3.U
 (Zf8 v20).bind fun r21=>
 let v21:=r21.1
 let v22:Zbu:={ (⟨0,(⟨#[]⟩:ByteArray),0⟩:Zbu)with Unit_:=v21 }
 let v23:Zbu:={ v22 with Type_:=(1:Int) }
 let v24:=[v23]
 let v25:Zac:={ v3 with Last:=v2 }
 let v26:Zac:={ v25 with Next:=(1099511627776:Int) }
 let v27:Zac:={ v26 with Rows:=v12 }
 let v28:Zab:={ (⟨[],[],[],false,false⟩:Zab)with Rows:=v19 }
 let v29:Zab:={ v28 with Asks:=v24 }
 some (v27,v29,())))
def t53:List (Nat×TC U):=(53,⟨[.st 43,.st 33,.ik .i64],[.st 33,.st 47],fun(a:Zaf×Zac×Int×Unit)=>ZfA a.1 a.2.1 a.2.2.1⟩)::t39
theorem c53:Chain Tryz.prog U tab base l53 t53:=Chain.cons tb cfok c39 3 rfl rfl rfl (hs:=[hS0,hS0,hS8,hS18,hS0])
 (fun(e:Int×Zac×Zaf×Unit)=>ZfA e.2.2.1 e.2.1 e.1) (by kernel_rfl) (fun _=>rfl)
def ZaV (v4:Int):Option ((Int×Unit)⊕(Unit)):=
 let v20:=IntKind.i64.wrap (v4+1)
 some (Sum.inl (v20,()))
def l195:Ch:=(195,⟨[.one (.v 0) (some (.w 1)),.one (.v 1) (some (.w 2)),.one (.v 2) (some (.w 3)),.fn (.func 115) [] []],pS18,pS22,[],true⟩,[(19501,⟨[8],[],[],[],[],[],[],0⟩),(19504,⟨[9],[],[],[],[],[],[],0⟩)])::l53
def ZaG (v0:List Zah)(v1:Int)(v2:Int):Option (Unit):=
 let v3:=IntKind.i64.wrap (v1+1)
 loopS (A:=Int×Unit) (fun s4=>
   let v4:=s4.1
 let v5:=decide (v4<v2)
 if v5=true then(
 loopS (A:=Int×Unit) (fun s6=>
   let v6:=s6.1
 let v7:=decide (v6>v1)
 let v8:=v7
 (if v8=true then(ixN v0 v6:Option Zah).bind fun v=>some (some v)else some none).bind fun v9=>
 (if v8=true then(v9:Option Zah).bind fun v=>some (some v)else some none).bind fun v10=>
 (if v8=true then some (some (IntKind.i64.wrap (v6 - 1)))else some none).bind fun v11=>
 (if v8=true then(v11.bind fun v11o2=>ixN v0 v11o2:Option Zah).bind fun v=>some (some v)else some none).bind fun v12=>
 (if v8=true then(v12:Option Zah).bind fun v=>some (some v)else some none).bind fun v13=>
 if v7=true then(
 (v10.bind fun v10o4=>some (v10o4.At):Option Int).bind fun v14=>
 (v13.bind fun v13o5=>some (v13o5.At):Option Int).bind fun v15=>
 let v16:=decide (v14<v15)
 if v16=true then(
 let v17:=IntKind.i64.wrap (v6 - 1)
 let v18:=IntKind.i64.wrap (v6 - 1)
 (ixN v0 v18).bind fun v19=>
 let v20:=v19
 (ixN v0 v6).bind fun v21=>
 let v22:=v21
 (ixN v0 v6).bind fun v23=>
 none)
 else(
 (v10.bind fun v10o6=>some (v10o6.At):Option Int).bind fun v17=>
 (v13.bind fun v13o7=>some (v13o7.At):Option Int).bind fun v18=>
 let v19:=decide (v17>v18)
 if v19=true then(
 (ZaV v4).bind fun r=>some (Sum.inr r))
 else(
 (ZaV v4).bind fun r=>some (Sum.inr r))))
 else(
 (ZaV v4).bind fun r=>some (Sum.inr r))
   ) (v4,()))
 else(
 some (Sum.inr ()))
   ) (v3,())
def t195:List (Nat×TC U):=(195,⟨[.li (.st 82),.ik .i64,.ik .i64],[],fun(a:(List Zah)×Int×Int×Unit)=>ZaG a.1 a.2.1 a.2.2.1⟩)::t53
theorem c195:Chain Tryz.prog U tab base l195 t195:=Chain.cons tb cfok c53 3 rfl rfl rfl (hs:=[])
 (fun(e:Int×Int×(List Zah)×Unit)=>ZaG e.2.2.1 e.2.1 e.1) (by kernel_rfl) (fun _=>rfl)
def ZcG (v10:Int)(v11:Int)(v2:Int)(v0:List Zah):Option ((Int×Unit)⊕((Int×Int×Unit)⊕(Unit))):=
 let v13:=IntKind.i64.wrap (v10+v11)
 let v14:=IntKind.i64.wrap (v2+v11)
 let v15:=IntKind.i64.wrap (v2+v11)
 (ixN v0 v15).bind fun v16=>
 let v17:=v16
 let v18:=IntKind.i64.wrap (v10+v11)
 (ixN v0 v18).bind fun v19=>
 let v20:=v19
 (ixN v0 v13).bind fun v21=>
 none
def Zd8 (v6:Int)(v7:Int):Option ((Int×Int×Unit)⊕(Unit)):=
 let v13:=IntKind.i64.wrap (v6 - v7)
 some (Sum.inl (v13,v7,()))
def Zd9 (v7:Int)(v6:Int):Option ((Int×Int×Unit)⊕(Unit)):=
 let v15:=IntKind.i64.wrap (v7 - v6)
 some (Sum.inl (v6,v15,()))
def Zea (v2:Int)(v6:Int)(v0:List Zah):Option (Unit):=
 let v9:=IntKind.i64.wrap (v2 - v6)
 loopS (A:=Int×Unit) (fun s10=>
   let v10:=s10.1
 let v11:=decide (v10<v6)
 if v11=true then(
 let v12:=IntKind.i64.wrap (v9+v10)
 let v13:=IntKind.i64.wrap (v2+v10)
 let v14:=IntKind.i64.wrap (v2+v10)
 (ixN v0 v14).bind fun v15=>
 let v16:=v15
 let v17:=IntKind.i64.wrap (v9+v10)
 (ixN v0 v17).bind fun v18=>
 let v19:=v18
 (ixN v0 v12).bind fun v20=>
 none)
 else(
 some (Sum.inr ()))
   ) (0,())
def l219:Ch:=(219,⟨pS32,pS27,pS22,[],true⟩,[(21902,⟨[10,11],[],[],[],[],[],[],0⟩),(23001,⟨[10],[],[],[],[],[],[],0⟩)])::l195
def Zb5 (v0:List Zah)(v1:Int)(v2:Int)(v3:Int):Option (Unit):=
 let v4:=IntKind.i64.wrap (v2 - v1)
 let v5:=IntKind.i64.wrap (v3 - v2)
 loopS (A:=Int×Int×Unit) (fun s6=>
   let v6:=s6.1
   let v7:=s6.2.1
 let v8:=v6 != v7
 if v8=true then(
 let v9:=decide (v6>v7)
 if v9=true then(
 let v10:=IntKind.i64.wrap (v2 - v6)
 loopS (A:=Int×Unit) (fun s11=>
   let v11:=s11.1
 let v12:=decide (v11<v7)
 if v12=true then(
 ZcG v10 v11 v2 v0)
 else(
 (Zd8 v6 v7).bind fun r=>some (Sum.inr r))
   ) (0,()))
 else(
 let v10:=IntKind.i64.wrap (v2 - v6)
 let v11:=IntKind.i64.wrap (v2+v7)
 let v12:=IntKind.i64.wrap (v11 - v6)
 loopS (A:=Int×Unit) (fun s13=>
   let v13:=s13.1
 let v14:=decide (v13<v6)
 if v14=true then(
 ZcG v10 v13 v12 v0)
 else(
 (Zd9 v7 v6).bind fun r=>some (Sum.inr r))
   ) (0,())))
 else(
 (Zea v2 v6 v0).bind fun r=>some (Sum.inr r))
   ) (v4,v5,())
def t219:List (Nat×TC U):=(219,⟨[.li (.st 82),.ik .i64,.ik .i64,.ik .i64],[],fun(a:(List Zah)×Int×Int×Int×Unit)=>Zb5 a.1 a.2.1 a.2.2.1 a.2.2.2.1⟩)::t195
theorem c219:Chain Tryz.prog U tab base l219 t219:=Chain.cons tb cfok c195 4 rfl rfl rfl (hs:=[])
 (fun(e:Int×Int×Int×(List Zah)×Unit)=>Zb5 e.2.2.2.1 e.2.2.1 e.2.1 e.1) (by kernel_rfl) (fun _=>rfl)
def Zct (v1:Int)(v6:Int)(v0:List Zah):Option (Unit):=
 loopS (A:=Int×Unit) (fun s9=>
   let v9:=s9.1
 let v10:=IntKind.i64.wrap (v6 - 1)
 let v11:=decide (v9<v10)
 if v11=true then(
 let v12:=IntKind.i64.wrap (v9+1)
 let v13:=IntKind.i64.wrap (v9+1)
 (ixN v0 v13).bind fun v14=>
 let v15:=v14
 (ixN v0 v9).bind fun v16=>
 let v17:=v16
 (ixN v0 v9).bind fun v18=>
 none)
 else(
 some (Sum.inr ()))
   ) (v1,())
def Za5 (v16:Zah)(v18:Zah)(v14:Int)(v9:Int):Option ((Int×Int×Unit)⊕(Unit)):=
 let v22:=v16.At
 let v23:=v18.At
 let v24:=decide (v22>v23)
 if v24=true then(
 let v25:=IntKind.i64.wrap (v14+1)
 some (Sum.inl (v25,v9,())))
 else(
 let v25:=IntKind.i64.wrap (v14+1)
 some (Sum.inl (v25,v9,())))
def Zcu (v2:Int)(v8:Int)(v0:List Zah):Option (Unit):=
 loopS (A:=Int×Unit) (fun s11=>
   let v11:=s11.1
 let v12:=decide (v11>v8)
 if v12=true then(
 let v13:=IntKind.i64.wrap (v11 - 1)
 let v14:=IntKind.i64.wrap (v11 - 1)
 (ixN v0 v14).bind fun v15=>
 let v16:=v15
 (ixN v0 v11).bind fun v17=>
 let v18:=v17
 (ixN v0 v11).bind fun v19=>
 none)
 else(
 some (Sum.inr ()))
   ) (v2,())
def ZaS (v16:Int)(v17:Int)(v15:Int)(v0:List Zah):Option ((Int×Int×Unit)⊕(Unit)):=
 let v19:=IntKind.i64.wrap (v16+v17)
 let v20:=IntKind.u64.wrap v19
 (if 0≤(1:Int)then some (Int.fdiv v20 (2 ^ (min ((1:Int)).toNat (IntKind.bits .u64))))else none:Option Int).bind fun v21=>
 let v22:=IntKind.i64.wrap v21
 let v23:=IntKind.i64.wrap (v15 - v22)
 (ixN v0 v23).bind fun v24=>
 let v25:=v24
 (ixN v0 v22).bind fun v26=>
 let v27:=v26
 let v28:=v25.At
 let v29:=v27.At
 let v30:=decide (v28<v29)
 if v30=true then(
 some (Sum.inl (v16,v22,())))
 else(
 Za5 v25 v27 v22 v17)
def Zbw (self:(List Zah)×Int×Int×Int×Unit→Option (Unit))(v0:List Zah)(v1:Int)(v16:Int)(v11:Int)(v19:Int)(v3:Int):Option (Unit):=
 (self (v0,v1,v16,v11,())).bind fun _=>
 let v28:=decide (v11<v19)
 let v29:=v28
 (if v29=true then some (some (decide (v19<v3)))else some none).bind fun v30=>
 (if v28=true then v30 else some false:Option Bool).bind fun v31=>
 if v31=true then(
 (self (v0,v11,v19,v3,())).bind fun _=>
 some ())
 else(
 some ())
def Za6 (self:(List Zah)×Int×Int×Int×Unit→Option (Unit))(v11:Int)(v19:Int)(v3:Int)(v0:List Zah):Option (Unit):=
 let v28:=decide (v11<v19)
 let v29:=v28
 (if v29=true then some (some (decide (v19<v3)))else some none).bind fun v30=>
 (if v28=true then v30 else some false:Option Bool).bind fun v31=>
 if v31=true then(
 (self (v0,v11,v19,v3,())).bind fun _=>
 some ())
 else(
 some ())
def ZdV (self:(List Zah)×Int×Int×Int×Unit→Option (Unit))(v0:List Zah)(v16:Int)(v2:Int)(v19:Int)(v1:Int)(v11:Int)(v3:Int):Option (Unit):=
 (Zb5 v0 v16 v2 v19).bind fun _=>
 let v24:=decide (v1<v16)
 let v25:=v24
 (if v25=true then some (some (decide (v16<v11)))else some none).bind fun v26=>
 (if v24=true then v26 else some false:Option Bool).bind fun v27=>
 if v27=true then(
 Zbw self v0 v1 v16 v11 v19 v3)
 else(
 Za6 self v11 v19 v3 v0)
def Zbx (self:(List Zah)×Int×Int×Int×Unit→Option (Unit))(v1:Int)(v16:Int)(v11:Int)(v0:List Zah)(v19:Int)(v3:Int):Option (Unit):=
 let v24:=decide (v1<v16)
 let v25:=v24
 (if v25=true then some (some (decide (v16<v11)))else some none).bind fun v26=>
 (if v24=true then v26 else some false:Option Bool).bind fun v27=>
 if v27=true then(
 Zbw self v0 v1 v16 v11 v19 v3)
 else(
 Za6 self v11 v19 v3 v0)
def Zby (self:(List Zah)×Int×Int×Int×Unit→Option (Unit))(v12:Int)(v16:Int)(v2:Int)(v0:List Zah)(v1:Int)(v11:Int)(v3:Int):Option (Unit):=
 let v19:=IntKind.i64.wrap (v12 - v16)
 let v20:=decide (v16<v2)
 let v21:=v20
 (if v21=true then some (some (decide (v2<v19)))else some none).bind fun v22=>
 (if v20=true then v22 else some false:Option Bool).bind fun v23=>
 if v23=true then(
 ZdV self v0 v16 v2 v19 v1 v11 v3)
 else(
 Zbx self v1 v16 v11 v0 v19 v3)
def ZaH (self:(List Zah)×Int×Int×Int×Unit→Option (Unit))(v12:Int)(v16:Int)(v2:Int)(v0:List Zah)(v1:Int)(v11:Int)(v3:Int):Option ((Int×Int×Unit)⊕(Unit)):=
 (Zby self v12 v16 v2 v0 v1 v11 v3).bind fun r=>some (Sum.inr r)
def l196:Ch:=(196,⟨pS32,pS27,pS22,[],true⟩,[(19603,⟨[10,11],[],[],[],[],[],[],0⟩),(19609,⟨[13],[],[],[],[],[],[],0⟩),(19615,⟨[14,15],[],[],[],[],[],[],0⟩),(19621,⟨[17],[],[],[],[],[],[],0⟩),(19633,⟨[20,21],[],[],[],[],[],[],0⟩),(7,⟨[],[],[],[],[],[],[],0⟩)])::l219
def ZaB (self:(List Zah)×Int×Int×Int×Unit→Option (Unit))(v0:List Zah)(v1:Int)(v2:Int)(v3:Int):Option (Unit):=
 let v4:=IntKind.i64.wrap (v2 - v1)
 let v5:=v4==1
 if v5=true then(
 loopS (A:=Int×Int×Unit) (fun s6=>
   let v6:=s6.1
   let v7:=s6.2.1
 let v8:=decide (v6<v7)
 if v8=true then(
 let v9:=IntKind.i64.wrap (v6+v7)
 let v10:=IntKind.u64.wrap v9
 (if 0≤(1:Int)then some (Int.fdiv v10 (2 ^ (min ((1:Int)).toNat (IntKind.bits .u64))))else none:Option Int).bind fun v11=>
 let v12:=IntKind.i64.wrap v11
 (ixN v0 v12).bind fun v13=>
 let v14:=v13
 (ixN v0 v1).bind fun v15=>
 let v16:=v15
 let v17:=v14.At
 let v18:=v16.At
 let v19:=decide (v17<v18)
 if v19=true then(
 let v20:=IntKind.i64.wrap (v12+1)
 some (Sum.inl (v20,v7,())))
 else(
 let v20:=v14.At
 let v21:=v16.At
 let v22:=decide (v20>v21)
 if v22=true then(
 some (Sum.inl (v6,v12,())))
 else(
 some (Sum.inl (v6,v12,())))))
 else(
 (Zct v1 v6 v0).bind fun r=>some (Sum.inr r))
   ) (v2,v3,()))
 else(
 let v6:=IntKind.i64.wrap (v3 - v2)
 let v7:=v6==1
 if v7=true then(
 loopS (A:=Int×Int×Unit) (fun s8=>
   let v8:=s8.1
   let v9:=s8.2.1
 let v10:=decide (v8<v9)
 if v10=true then(
 let v11:=IntKind.i64.wrap (v8+v9)
 let v12:=IntKind.u64.wrap v11
 (if 0≤(1:Int)then some (Int.fdiv v12 (2 ^ (min ((1:Int)).toNat (IntKind.bits .u64))))else none:Option Int).bind fun v13=>
 let v14:=IntKind.i64.wrap v13
 (ixN v0 v2).bind fun v15=>
 let v16:=v15
 (ixN v0 v14).bind fun v17=>
 let v18:=v17
 let v19:=v16.At
 let v20:=v18.At
 let v21:=decide (v19<v20)
 if v21=true then(
 some (Sum.inl (v8,v14,())))
 else(
 Za5 v16 v18 v14 v9))
 else(
 (Zcu v2 v8 v0).bind fun r=>some (Sum.inr r))
   ) (v1,v2,()))
 else(
 let v8:=IntKind.i64.wrap (v1+v3)
 let v9:=IntKind.u64.wrap v8
 (if 0≤(1:Int)then some (Int.fdiv v9 (2 ^ (min ((1:Int)).toNat (IntKind.bits .u64))))else none:Option Int).bind fun v10=>
 let v11:=IntKind.i64.wrap v10
 let v12:=IntKind.i64.wrap (v11+v2)
 let v13:=decide (v2>v11)
 if v13=true then(
 let v14:=IntKind.i64.wrap (v12 - v3)
 let v15:=IntKind.i64.wrap (v12 - 1)
 loopS (A:=Int×Int×Unit) (fun s16=>
   let v16:=s16.1
   let v17:=s16.2.1
 let v18:=decide (v16<v17)
 if v18=true then(
 ZaS v16 v17 v15 v0)
 else(
 ZaH self v12 v16 v2 v0 v1 v11 v3)
   ) (v14,v11,()))
 else(
 let v14:=IntKind.i64.wrap (v12 - 1)
 loopS (A:=Int×Int×Unit) (fun s15=>
   let v15:=s15.1
   let v16:=s15.2.1
 let v17:=decide (v15<v16)
 if v17=true then(
 ZaS v15 v16 v14 v0)
 else(
 ZaH self v12 v15 v2 v0 v1 v11 v3)
   ) (v1,v2,()))))
def ZcB:(List Zah)×Int×Int×Int×Unit→Option (Unit):=recF (fun self (a:(List Zah)×Int×Int×Int×Unit)=>ZaB self a.1 a.2.1 a.2.2.1 a.2.2.2.1)
def ZbQ (v0:List Zah)(v1:Int)(v2:Int)(v3:Int):Option (Unit):=ZcB (v0,v1,v2,v3,())
def t196:List (Nat×TC U):=(196,⟨[.li (.st 82),.ik .i64,.ik .i64,.ik .i64],[],ZcB⟩)::t219
theorem c196:Chain Tryz.prog U tab base l196 t196:=Chain.consR (ts:=[.li (.st 82),.ik .i64,.ik .i64,.ik .i64]) (us:=[]) tb cfok c219 4 rfl rfl rfl (hs:=[]) (fun self (a:(List Zah)×Int×Int×Int×Unit)=>ZaB self a.1 a.2.1 a.2.2.1 a.2.2.2.1)
 (fun self (e:Int×Int×Int×(List Zah)×Unit)=>ZaB self e.2.2.2.1 e.2.2.1 e.2.1 e.1) (fun _=>by kernel_rfl) (fun _ _=>rfl) rfl
def ZbG (v9:Int)(v5:Int)(v1:Int)(v0:List Zah):Option ((Int×Unit)⊕(Unit)):=
 let v11:=IntKind.i64.wrap (v9+v5)
 let v12:=decide (v11<v1)
 if v12=true then(
 (ZbQ v0 v9 v11 v1).bind fun _=>
 let v13:=IntKind.i64.wrap (v5 * 2)
 some (Sum.inl (v13,())))
 else(
 let v13:=IntKind.i64.wrap (v5 * 2)
 some (Sum.inl (v13,())))
def ZbH (v0:List Zah)(v3:Int)(v1:Int):Option (Unit):=
 (ZaG v0 v3 v1).bind fun _=>
 loopS (A:=Int×Unit) (fun s5=>
   let v5:=s5.1
 let v6:=decide (v5<v1)
 if v6=true then(
 let v7:=IntKind.i64.wrap (2 * v5)
 loopS (A:=Int×Int×Unit) (fun s8=>
   let v8:=s8.1
   let v9:=s8.2.1
 let v10:=decide (v8≤v1)
 if v10=true then(
 let v11:=IntKind.i64.wrap (v9+v5)
 (ZbQ v0 v9 v11 v8).bind fun _=>
 let v12:=IntKind.i64.wrap (2 * v5)
 let v13:=IntKind.i64.wrap (v8+v12)
 some (Sum.inl (v13,v8,())))
 else(
 (ZbG v9 v5 v1 v0).bind fun r=>some (Sum.inr r))
   ) (v7,0,()))
 else(
 some (Sum.inr ()))
   ) (20,())
def l163:Ch:=(163,⟨[.one (.v 0) (some (.w 1)),.one (.v 1) (some (.w 2)),.fn (.func 115) [] []],pS9,pS22,[],true⟩,[(16302,⟨[8,7],[],[],[],[],[],[],0⟩),(16307,⟨[6],[],[],[],[],[],[],0⟩),(16309,⟨[8,7],[],[],[],[],[],[],0⟩)])::l196
def Za3 (v0:List Zah)(v1:Int):Option (Unit):=
 loopS (A:=Int×Int×Unit) (fun s2=>
   let v2:=s2.1
   let v3:=s2.2.1
 let v4:=decide (v2≤v1)
 if v4=true then(
 (ZaG v0 v3 v2).bind fun _=>
 let v5:=IntKind.i64.wrap (v2+20)
 some (Sum.inl (v5,v2,())))
 else(
 (ZbH v0 v3 v1).bind fun r=>some (Sum.inr r))
   ) (20,0,())
def t163:List (Nat×TC U):=(163,⟨[.li (.st 82),.ik .i64],[],fun(a:(List Zah)×Int×Unit)=>Za3 a.1 a.2.1⟩)::t196
theorem c163:Chain Tryz.prog U tab base l163 t163:=Chain.cons tb cfok c196 2 rfl rfl rfl (hs:=[])
 (fun(e:Int×(List Zah)×Unit)=>Za3 e.2.1 e.1) (by kernel_rfl) (fun _=>rfl)
end
end Go.AW.M

namespace Go.AW.M
open Go.RowKit Go.Proofs
set_option maxRecDepth 100000
noncomputable section
def Zhc (v11:Int)(v8:Zah)(v5:List Zah)(v4:Int):Option ((Int×(List Zah)×Unit)⊕((List Zah)×Unit)):=
 let v16:=decide (v11≥0)
 if v16=true then(
 let v17:=[v8]
 (apN 24 v5 v17).bind fun v18=>
 let v19:=IntKind.i64.wrap (v4+1)
 some (Sum.inl (v19,v18,())))
 else(
 let v17:=IntKind.i64.wrap (v4+1)
 some (Sum.inl (v17,v5,())))
def Zhd (v4:Int)(v5:List Zah):Option ((Int×(List Zah)×Unit)⊕((List Zah)×Unit)):=
 let v13:=IntKind.i64.wrap (v4+1)
 some (Sum.inl (v13,v5,()))
def Zhe (v5:List Zah):Option ((List Zah)×Unit):=
 let v7:=((List.length v5:Nat):Int)
 (Za3 v5 v7).bind fun _=>
 some (v5,())
def l72:Ch:=(72,⟨[.agg (.v 0) 3 (.g 0 0) [],.one (.v 1) (some (.w 1))],pS33,pS0,pS1,false⟩,[(16202,⟨[8],[],[],[],[],[],[],0⟩),(7203,⟨[11,5],[],[(5,82)],[],[],[],[],0⟩)])::l163
def ZdP (v0:Zaf)(v1:List Int):Option ((List Zah)×Unit):=
 let v2:=v0.Calls
 let v3:=((List.length v2:Nat):Int)
 loopS (A:=Int×(List Zah)×Unit) (fun s4=>
   let v4:=s4.1
   let v5:=s4.2.1
 let v6:=decide (v4<v3)
 if v6=true then(
 (ixN v2 v4).bind fun v7=>
 let v8:=v7
 let v9:=v8.Port
 let v10:=((List.length v1:Nat):Int)
 loopS (A:=Int×Unit) (fun s11=>
   let v11:=s11.1
 let v12:=decide (v11<v10)
 if v12=true then(
 (ixN v1 v11).bind fun v13=>
 let v14:=v13
 let v15:=v9==v14
 if v15=true then(
 (Zhc v11 v8 v5 v4).bind fun r=>some (Sum.inr r))
 else(
 let v16:=IntKind.i64.wrap (v11+1)
 some (Sum.inl (v16,()))))
 else(
 (Zhd v4 v5).bind fun r=>some (Sum.inr r))
   ) (0,()))
 else(
 (Zhe v5).bind fun r=>some (Sum.inr r))
   ) (0,([]:List Zah),())
def t72:List (Nat×TC U):=(72,⟨[.st 43,.li (.ik .i64)],[.li (.st 82)],fun(a:Zaf×(List Int)×Unit)=>ZdP a.1 a.2.1⟩)::t163
theorem c72:Chain Tryz.prog U tab base l72 t72:=Chain.cons tb cfok c163 2 rfl rfl rfl (hs:=[⟨.li (.st 82),([]:List Zah)⟩])
 (fun(e:(List Int)×Zaf×Unit)=>ZdP e.2.1 e.1) (by kernel_rfl) (fun _=>rfl)
def l58:Ch:=(58,⟨pS23,pS15,pS0,pS1,false⟩,[])::l72
def ZgZ (v0:Zaf)(v1:Zac):Option (Int×Unit):=
 let v2:=v1.U.Ports
 (ZdP v0 v2).bind fun r3=>
 let v3:=r3.1
 let v4:=v1.State
 let v5:=v4 != 4
 let v6:=!v5
 (if v6=true then some (some (v1.Seen))else some none).bind fun v7=>
 (if v6=true then(v7.bind fun v7o1=>some (decide (v7o1<0)):Option Bool).bind fun v=>some (some v)else some none).bind fun v8=>
 (if v5=true then some true else(v8).bind fun y=>some y:Option Bool).bind fun v9=>
 let v10:=!v9
 (if v10=true then some (some (v1.Seen))else some none).bind fun v11=>
 (if v10=true then some (some (((List.length v3:Nat):Int)))else some none).bind fun v12=>
 (if v10=true then(v11.bind fun v11o2=>v12.bind fun v12o3=>some (decide (v11o2≥v12o3)):Option Bool).bind fun v=>some (some v)else some none).bind fun v13=>
 (if v9=true then some true else(v13).bind fun y=>some y:Option Bool).bind fun v14=>
 if v14=true then(
 some (1099511627776,()))
 else(
 let v15:=v1.Seen
 (ixN v3 v15).bind fun v16=>
 let v17:=v16
 let v18:=v17.At
 some (v18,()))
def t58:List (Nat×TC U):=(58,⟨[.st 43,.st 33],[.ik .i64],fun(a:Zaf×Zac×Unit)=>ZgZ a.1 a.2.1⟩)::t72
theorem c58:Chain Tryz.prog U tab base l58 t58:=Chain.cons tb cfok c72 2 rfl rfl rfl (hs:=[])
 (fun(e:Zac×Zaf×Unit)=>ZgZ e.2.1 e.1) (by kernel_rfl) (fun _=>rfl)
def l52:Ch:=(52,⟨pS19,pS20,pS6,pS10,true⟩,[])::l58
def Zf9 (v0:Zaf)(v1:Zac)(v2:Int):Option (Zac×Zab×Unit):=
 (Zbl v1).bind fun r3=>
 let v3:=r3.1
 let v4:=v1.U.Ports
 (ZdP v0 v4).bind fun r5=>
 let v5:=r5.1
 let v6:=v1.State
 let v7:=v6 != 4
 let v8:=!v7
 (if v8=true then some (some (v1.Seen))else some none).bind fun v9=>
 (if v8=true then(v9.bind fun v9o1=>some (decide (v9o1<0)):Option Bool).bind fun v=>some (some v)else some none).bind fun v10=>
 (if v7=true then some true else(v10).bind fun y=>some y:Option Bool).bind fun v11=>
 let v12:=!v11
 (if v12=true then some (some (v1.Seen))else some none).bind fun v13=>
 (if v12=true then some (some (((List.length v5:Nat):Int)))else some none).bind fun v14=>
 (if v12=true then(v13.bind fun v13o2=>v14.bind fun v14o3=>some (decide (v13o2≥v14o3)):Option Bool).bind fun v=>some (some v)else some none).bind fun v15=>
 (if v11=true then some true else(v15).bind fun y=>some y:Option Bool).bind fun v16=>
 if v16=true then(
 some (v3,(⟨[],[],[],false,false⟩:Zab),()))
 else(
 let v17:=v1.Seen
 (ixN v5 v17).bind fun v18=>
 let v19:=v18
 let v20:=v19.At
 let v21:=decide (v20>v2)
 if v21=true then(
 some (v3,(⟨[],[],[],false,false⟩:Zab),()))
 else(
 let v22:=v3.Seen
 let v23:=IntKind.i64.wrap (v22+1)
 let v24:=v3.Num
 let v25:=IntKind.i64.wrap (v24+1)
 let v26:=v3.Waits
 let v27:=((List.length v26:Nat):Int)
 let v28:=v3.U.Backlog
 let v29:=decide (v27≥v28)
 let v30:=!v29
 (if v30=true then some (some (decide (v27≥64)))else some none).bind fun v31=>
 (if v29=true then some true else(v31).bind fun y=>some y:Option Bool).bind fun v32=>
 if v32=true then(
 (itoaF v25).bind fun r33=>
 let v33:=r33.1
 (caN (⟨#[114,101,102,117,115,101,100,32]⟩:ByteArray) v33).bind fun v34=>
 let v35:=v3.Rows
 let v36:=IntKind.i64.wrap (v35+1)
 let v37:=v3.U.Name
 let v38:Zaq:={ z0 with Time:=v2 }
 let v39:Zaq:={ v38 with Unit_:=v37 }
 let v40:Zaq:={ v39 with N:=v36 }
 let v41:Zaq:={ v40 with Kind:=(4:Int) }
 let v42:Zaq:={ v41 with Text:=v34 }
 let v43:=[v42]
 (apN 56 ([]:List Zaq) v43).bind fun v44=>
 let v45:Zac:={ v3 with Seen:=v23 }
 let v46:Zac:={ v45 with Num:=v25 }
 let v47:Zac:={ v46 with Rows:=v36 }
 let v48:Zab:={ (⟨[],[],[],false,false⟩:Zab)with Rows:=v44 }
 some (v47,v48,()))
 else(
 let v33:=v3.Waits
 let v34:=v3.U.Name
 let v35:=v19.Takes
 let v36:Zao:={ z1 with Socket:=v34 }
 let v37:Zao:={ v36 with Num:=v25 }
 let v38:Zao:={ v37 with Takes:=v35 }
 let v39:=[v38]
 (apN 48 v33 v39).bind fun v40=>
 (itoaF v25).bind fun r41=>
 let v41:=r41.1
 (caN (⟨#[99,97,109,101,32]⟩:ByteArray) v41).bind fun v42=>
 let v43:=v3.Rows
 let v44:=IntKind.i64.wrap (v43+1)
 let v45:=v3.U.Name
 let v46:Zaq:={ z0 with Time:=v2 }
 let v47:Zaq:={ v46 with Unit_:=v45 }
 let v48:Zaq:={ v47 with N:=v44 }
 let v49:Zaq:={ v48 with Kind:=(4:Int) }
 let v50:Zaq:={ v49 with Text:=v42 }
 let v51:=[v50]
 (apN 56 ([]:List Zaq) v51).bind fun v52=>
 let v53:Zac:={ v3 with Seen:=v23 }
 let v54:Zac:={ v53 with Num:=v25 }
 let v55:Zac:={ v54 with Waits:=v40 }
 let v56:Zac:={ v55 with Rows:=v44 }
 let v57:Zab:={ (⟨[],[],[],false,false⟩:Zab)with Rows:=v52 }
 some (v56,v57,()))))
def t52:List (Nat×TC U):=(52,⟨[.st 43,.st 33,.ik .i64],[.st 33,.st 47],fun(a:Zaf×Zac×Int×Unit)=>Zf9 a.1 a.2.1 a.2.2.1⟩)::t58
theorem c52:Chain Tryz.prog U tab base l52 t52:=Chain.cons tb cfok c58 3 rfl rfl rfl (hs:=[hS0,hS0,hS8,⟨.li (.st 62),([]:List Zaq)⟩,hS0,⟨.st 105,z1⟩,hS8,⟨.li (.st 62),([]:List Zaq)⟩,hS0])
 (fun(e:Int×Zac×Zaf×Unit)=>Zf9 e.2.2.1 e.2.1 e.1) (by kernel_rfl) (fun _=>rfl)
def ZhC (v27:Zas):Option (Zac×Zab×Unit):=
 let v29:=v27.now
 let v30:=v27.out.Rows
 let v31:=v27.now
 let v32:=v27.c.Rows
 let v33:=IntKind.i64.wrap (v32+1)
 let v34:=v27.c.U.Name
 let v35:Zaq:={ z0 with Time:=v31 }
 let v36:Zaq:={ v35 with Unit_:=v34 }
 let v37:Zaq:={ v36 with N:=v33 }
 let v38:Zaq:={ v37 with Kind:=(2:Int) }
 let v39:Zaq:={ v38 with Text:=(⟨#[117,112]⟩:ByteArray) }
 let v40:=[v39]
 (apN 56 v30 v40).bind fun v41=>
 let v42:=v27.c
 let v43:=v27.out
 let v44:Zac:={ v42 with State:=(4:Int) }
 let v45:Zac:={ v44 with Since:=v29 }
 let v46:Zac:={ v45 with Rows:=v33 }
 let v47:Zab:={ v43 with Rows:=v41 }
 some (v46,v47,())
def ZhD (v28:Zas):Option (Zac×Zab×Unit):=
 let v30:=v28.now
 let v31:=v28.out.Rows
 let v32:=v28.now
 let v33:=v28.c.Rows
 let v34:=IntKind.i64.wrap (v33+1)
 let v35:=v28.c.U.Name
 let v36:Zaq:={ z0 with Time:=v32 }
 let v37:Zaq:={ v36 with Unit_:=v35 }
 let v38:Zaq:={ v37 with N:=v34 }
 let v39:Zaq:={ v38 with Kind:=(2:Int) }
 let v40:Zaq:={ v39 with Text:=(⟨#[100,111,119,110]⟩:ByteArray) }
 let v41:=[v40]
 (apN 56 v31 v41).bind fun v42=>
 let v43:=v28.c
 let v44:=v28.out
 let v45:Zac:={ v43 with Waits:=([]:List Zao) }
 let v46:Zac:={ v45 with State:=(0:Int) }
 let v47:Zac:={ v46 with Since:=v30 }
 let v48:Zac:={ v47 with Rows:=v34 }
 let v49:Zab:={ v44 with Rows:=v42 }
 some (v48,v49,())
def l37:Ch:=(37,⟨pS24,pS25,pS6,pS10,true⟩,[(3707,⟨[59],[5],[],[(5,(55,1000105)),(5,(56,1000105)),(5,(63,62))],[],[],[],0⟩),(3715,⟨[97],[5],[],[(5,(55,1000105)),(5,(63,62))],[],[(5,56)],[],0⟩)])::l52
def Zga (v0:Zaf)(v1:Zae)(v2:Zac)(v3:Int)(v4:Int):Option (Zac×Zab×Unit):=
 (Zbl v2).bind fun r5=>
 let v5:=r5.1
 let v6:=v3==1
 let v7:=v6
 (if v7=true then some (some (v2.State))else some none).bind fun v8=>
 (if v7=true then(v8.bind fun v8o1=>some (v8o1==0):Option Bool).bind fun v=>some (some v)else some none).bind fun v9=>
 (if v7=true then v9.bind fun v9o2=>some (!v9o2)else some false:Option Bool).bind fun v10=>
 (if v10=true then some (some (v2.State))else some none).bind fun v11=>
 (if v10=true then(v11.bind fun v11o3=>some (v11o3==9):Option Bool).bind fun v=>some (some v)else some none).bind fun v12=>
 (if v7=true then(v9.bind fun v9o4=>if v9o4=true then some true else(v12).bind fun y=>some y:Option Bool).bind fun v=>some (some v)else some none).bind fun v13=>
 (if v6=true then v13 else some false:Option Bool).bind fun v14=>
 if v14=true then(
 (ZcV v1).bind fun r15=>
 let v15:=r15.1
 let v16:=v5.Attempt
 let v17:=IntKind.i64.wrap (v16+1)
 let v18:=v1.Ports
 (ZdP v0 v18).bind fun r19=>
 let v19:=r19.1
 let v20:=((List.length v19:Nat):Int)
 let v21:Zas:={ z2 with c:=v5 }
 let v22:Zas:={ v21 with now:=v4 }
 let v23:Zas:={ v22 with c:={ v22.c with U:=v15 } }
 let v24:Zas:={ v23 with c:={ v23.c with Attempt:=v17 } }
 let v25:Zas:={ v24 with c:={ v24.c with Seen:=(0:Int) } }
 loopS (A:=Int×Zas×Unit) (fun s26=>
   let v26:=s26.1
   let v27:=s26.2.1
 let v28:=decide (v26<v20)
 if v28=true then(
 (ixN v19 v26).bind fun v29=>
 let v30:=v29
 let v31:=v30.At
 let v32:=decide (v31<v4)
 if v32=true then(
 let v33:=v27.c.Seen
 let v34:=IntKind.i64.wrap (v33+1)
 let v35:=IntKind.i64.wrap (v26+1)
 let v36:Zas:={ v27 with c:={ v27.c with Seen:=v34 } }
 some (Sum.inl (v35,v36,())))
 else(
 let v33:=IntKind.i64.wrap (v26+1)
 some (Sum.inl (v33,v27,()))))
 else(
 (ZhC v27).bind fun r=>some (Sum.inr r))
   ) (0,v25,()))
 else(
 let v15:=v3==2
 let v16:=!v15
 (if v16=true then some (some (v3==3))else some none).bind fun v17=>
 (if v15=true then some true else(v17).bind fun y=>some y:Option Bool).bind fun v18=>
 let v19:=v18
 (if v19=true then some (some (v2.State))else some none).bind fun v20=>
 (if v19=true then(v20.bind fun v20o5=>some (v20o5==4):Option Bool).bind fun v=>some (some v)else some none).bind fun v21=>
 (if v18=true then v21 else some false:Option Bool).bind fun v22=>
 if v22=true then(
 let v23:=v5.Waits
 let v24:=((List.length v23:Nat):Int)
 let v25:Zas:={ z2 with c:=v5 }
 let v26:Zas:={ v25 with now:=v4 }
 loopS (A:=Int×Zas×Unit) (fun s27=>
   let v27:=s27.1
   let v28:=s27.2.1
 let v29:=decide (v27<v24)
 if v29=true then(
 (ixN v23 v27).bind fun v30=>
 let v31:=v30
 let v32:=v31.Num
 (itoaF v32).bind fun r33=>
 let v33:=r33.1
 (caN (⟨#[100,114,111,112,112,101,100,32]⟩:ByteArray) v33).bind fun v34=>
 let v35:=v28.out.Rows
 let v36:=v28.now
 let v37:=v28.c.Rows
 let v38:=IntKind.i64.wrap (v37+1)
 let v39:=v28.c.U.Name
 let v40:Zaq:={ z0 with Time:=v36 }
 let v41:Zaq:={ v40 with Unit_:=v39 }
 let v42:Zaq:={ v41 with N:=v38 }
 let v43:Zaq:={ v42 with Kind:=(4:Int) }
 let v44:Zaq:={ v43 with Text:=v34 }
 let v45:=[v44]
 (apN 56 v35 v45).bind fun v46=>
 let v47:=IntKind.i64.wrap (v27+1)
 let v48:Zas:={ v28 with c:={ v28.c with Rows:=v38 } }
 let v49:Zas:={ v48 with out:={ v48.out with Rows:=v46 } }
 some (Sum.inl (v47,v49,())))
 else(
 (ZhD v28).bind fun r=>some (Sum.inr r))
   ) (0,v26,()))
 else(
 some (v5,(⟨[],[],[],false,false⟩:Zab),())))
def t37:List (Nat×TC U):=(37,⟨[.st 43,.st 28,.st 33,.ik .i64,.ik .i64],[.st 33,.st 47],fun(a:Zaf×Zae×Zac×Int×Int×Unit)=>Zga a.1 a.2.1 a.2.2.1 a.2.2.2.1 a.2.2.2.2.1⟩)::t52
theorem c37:Chain Tryz.prog U tab base l37 t37:=Chain.cons tb cfok c52 5 rfl rfl rfl (hs:=[⟨.st 100,z2⟩,hS8,⟨.st 100,z2⟩,hS8,hS8,hS10,hS0])
 (fun(e:Int×Int×Zac×Zae×Zaf×Unit)=>Zga e.2.2.2.2.1 e.2.2.2.1 e.2.2.1 e.2.1 e.1) (by kernel_rfl) (fun _=>rfl)
def l38:Ch:=(38,⟨pS24,pS25,pS6,pS10,true⟩,[])::l37
def ZfB (v0:Zaf)(v1:Zae)(v2:Zac)(v3:Int)(v4:Int):Option (Zac×Zab×Unit):=
 (Zbl v2).bind fun r5=>
 let v5:=r5.1
 let v6:=v3==1
 let v7:=v6
 (if v7=true then some (some (v5.State))else some none).bind fun v8=>
 (if v7=true then(v8.bind fun v8o1=>some (v8o1==0):Option Bool).bind fun v=>some (some v)else some none).bind fun v9=>
 (if v7=true then v9.bind fun v9o2=>some (!v9o2)else some false:Option Bool).bind fun v10=>
 (if v10=true then some (some (v5.State))else some none).bind fun v11=>
 (if v10=true then(v11.bind fun v11o3=>some (v11o3==9):Option Bool).bind fun v=>some (some v)else some none).bind fun v12=>
 (if v7=true then(v9.bind fun v9o4=>if v9o4=true then some true else(v12).bind fun y=>some y:Option Bool).bind fun v=>some (some v)else some none).bind fun v13=>
 (if v6=true then v13 else some false:Option Bool).bind fun v14=>
 if v14=true then(
 (ZcV v1).bind fun r15=>
 let v15:=r15.1
 let v16:=v5.Attempt
 let v17:=IntKind.i64.wrap (v16+1)
 let v18:=v5.Rows
 let v19:=IntKind.i64.wrap (v18+1)
 let v20:=v15.Name
 let v21:Zaq:={ z0 with Time:=v4 }
 let v22:Zaq:={ v21 with Unit_:=v20 }
 let v23:Zaq:={ v22 with N:=v19 }
 let v24:Zaq:={ v23 with Kind:=(2:Int) }
 let v25:Zaq:={ v24 with Text:=(⟨#[117,112]⟩:ByteArray) }
 let v26:=[v25]
 let v27:Zac:={ v5 with U:=v15 }
 let v28:Zac:={ v27 with Attempt:=v17 }
 let v29:Zac:={ v28 with State:=(4:Int) }
 let v30:Zac:={ v29 with Since:=v4 }
 let v31:Zac:={ v30 with Next:=(1099511627776:Int) }
 let v32:Zac:={ v31 with Rows:=v19 }
 let v33:Zab:={ (⟨[],[],[],false,false⟩:Zab)with Rows:=v26 }
 some (v32,v33,()))
 else(
 let v15:=v3==2
 let v16:=!v15
 (if v16=true then some (some (v3==3))else some none).bind fun v17=>
 (if v15=true then some true else(v17).bind fun y=>some y:Option Bool).bind fun v18=>
 let v19:=v18
 (if v19=true then some (some (v5.State))else some none).bind fun v20=>
 (if v19=true then(v20.bind fun v20o5=>some (v20o5==4):Option Bool).bind fun v=>some (some v)else some none).bind fun v21=>
 (if v18=true then v21 else some false:Option Bool).bind fun v22=>
 if v22=true then(
 let v23:=v5.Rows
 let v24:=IntKind.i64.wrap (v23+1)
 let v25:=v5.U.Name
 let v26:Zaq:={ z0 with Time:=v4 }
 let v27:Zaq:={ v26 with Unit_:=v25 }
 let v28:Zaq:={ v27 with N:=v24 }
 let v29:Zaq:={ v28 with Kind:=(2:Int) }
 let v30:Zaq:={ v29 with Text:=(⟨#[100,111,119,110]⟩:ByteArray) }
 let v31:=[v30]
 let v32:Zac:={ v5 with State:=(0:Int) }
 let v33:Zac:={ v32 with Since:=v4 }
 let v34:Zac:={ v33 with Next:=(1099511627776:Int) }
 let v35:Zac:={ v34 with Rows:=v24 }
 let v36:Zab:={ (⟨[],[],[],false,false⟩:Zab)with Rows:=v31 }
 some (v35,v36,()))
 else(
 some (v5,(⟨[],[],[],false,false⟩:Zab),())))
def t38:List (Nat×TC U):=(38,⟨[.st 43,.st 28,.st 33,.ik .i64,.ik .i64],[.st 33,.st 47],fun(a:Zaf×Zae×Zac×Int×Int×Unit)=>ZfB a.1 a.2.1 a.2.2.1 a.2.2.2.1 a.2.2.2.2.1⟩)::t37
theorem c38:Chain Tryz.prog U tab base l38 t38:=Chain.cons tb cfok c37 5 rfl rfl rfl (hs:=[hS8,hS0,hS8,hS0,hS0])
 (fun(e:Int×Int×Zac×Zae×Zaf×Unit)=>ZfB e.2.2.2.2.1 e.2.2.2.1 e.2.2.1 e.2.1 e.1) (by kernel_rfl) (fun _=>rfl)
def l34:Ch:=(34,⟨pS4,pS5,pS0,pS1,false⟩,[])::l38
def Zbo (v0:Int):Option (Bool×Unit):=
 let v1:=decide (v0≥0)
 let v2:=v1
 (if v2=true then some (some (decide (v0<6311433600)))else some none).bind fun v3=>
 (if v1=true then v3 else some false:Option Bool).bind fun v4=>
 some (v4,())
def t34:List (Nat×TC U):=(34,⟨[.ik .i64],[.bool],fun(a:Int×Unit)=>Zbo a.1⟩)::t38
theorem c34:Chain Tryz.prog U tab base l34 t34:=Chain.cons tb cfok c38 1 rfl rfl rfl (hs:=[])
 (fun(e:Int×Unit)=>Zbo e.1) (by kernel_rfl) (fun _=>rfl)
def l66:Ch:=(66,⟨pS4,pS5,pS0,pS1,false⟩,[])::l34
def Zbb (v0:Int):Option (Bool×Unit):=
 let v1:=decide (v0≥0)
 let v2:=v1
 (if v2=true then some (some (decide (v0≤6311433600)))else some none).bind fun v3=>
 (if v1=true then v3 else some false:Option Bool).bind fun v4=>
 let v5:=!v4
 (if v5=true then some (some (v0==1099511627776))else some none).bind fun v6=>
 (if v4=true then some true else(v6).bind fun y=>some y:Option Bool).bind fun v7=>
 some (v7,())
def t66:List (Nat×TC U):=(66,⟨[.ik .i64],[.bool],fun(a:Int×Unit)=>Zbb a.1⟩)::t34
theorem c66:Chain Tryz.prog U tab base l66 t66:=Chain.cons tb cfok c34 1 rfl rfl rfl (hs:=[])
 (fun(e:Int×Unit)=>Zbb e.1) (by kernel_rfl) (fun _=>rfl)
def l63:Ch:=(63,⟨[.agg (.v 0) 6 (.g 0 0) []],pS8,pS0,pS1,false⟩,[])::l66
def Zbp (v0:Zal):Option (Bool×Unit):=
 let v1:=v0.Part
 let v2:=decide (v1>0)
 some (v2,())
def t63:List (Nat×TC U):=(63,⟨[.st 30],[.bool],fun(a:Zal×Unit)=>Zbp a.1⟩)::t66
theorem c63:Chain Tryz.prog U tab base l63 t63:=Chain.cons tb cfok c66 1 rfl rfl rfl (hs:=[])
 (fun(e:Zal×Unit)=>Zbp e.1) (by kernel_rfl) (fun _=>rfl)
end
end Go.AW.M

namespace Go.AW.M
open Go.RowKit Go.Proofs
set_option maxRecDepth 100000
noncomputable section
def l151:Ch:=(151,⟨pS4,pS5,pS0,pS1,false⟩,[])::l63
def ZfC (v0:Int):Option (Int×Unit):=
 let v1:=decide (v0>6311433600)
 if v1=true then(
 some (1099511627776,()))
 else(
 let v2:=max v0 0
 some (v2,()))
def t151:List (Nat×TC U):=(151,⟨[.ik .i64],[.ik .i64],fun(a:Int×Unit)=>ZfC a.1⟩)::t63
theorem c151:Chain Tryz.prog U tab base l151 t151:=Chain.cons tb cfok c63 1 rfl rfl rfl (hs:=[])
 (fun(e:Int×Unit)=>ZfC e.1) (by kernel_rfl) (fun _=>rfl)
def l108:Ch:=(108,⟨pS13,pS9,pS0,pS1,false⟩,[])::l151
def ZcZ (v0:Int)(v1:Int):Option (Int×Unit):=
 (ZfC v0).bind fun r2=>
 let v2:=r2.1
 (ZfC v1).bind fun r3=>
 let v3:=r3.1
 let v4:=IntKind.i64.wrap (v2+v3)
 (ZfC v4).bind fun r5=>
 let v5:=r5.1
 some (v5,())
def t108:List (Nat×TC U):=(108,⟨[.ik .i64,.ik .i64],[.ik .i64],fun(a:Int×Int×Unit)=>ZcZ a.1 a.2.1⟩)::t151
theorem c108:Chain Tryz.prog U tab base l108 t108:=Chain.cons tb cfok c151 2 rfl rfl rfl (hs:=[])
 (fun(e:Int×Int×Unit)=>ZcZ e.2.1 e.1) (by kernel_rfl) (fun _=>rfl)
def Zho (v6:Int)(v7:Int):Option (Int×Int×Unit):=
 let v14:=v6==1099511627776
 if v14=true then(
 some (1099511627776,0,()))
 else(
 some (v6,v7,()))
def l201:Ch:=(201,⟨pS28,pS15,pS6,pS17,true⟩,[])::l108
def Zev (v0:Zam)(v1:Zal):Option (Int×Int×Unit):=
 let v2:=v1.Part
 let v3:=decide (v2≤0)
 if v3=true then(
 some (1099511627776,0,()))
 else(
 let v4:=v1.Begun
 let v5:=v0.Lasts
 (ZcZ v4 v5).bind fun r6=>
 let v6:=r6.1
 let v7:=v0.Code
 let v8:=v1.Told
 let v9:=decide (v8≥0)
 if v9=true then(
 let v10:=v1.Told
 let v11:=v0.Dies
 (ZcZ v10 v11).bind fun r12=>
 let v12:=r12.1
 let v13:=decide (v12<v6)
 if v13=true then(
 let v14:=v12==1099511627776
 if v14=true then(
 some (1099511627776,0,()))
 else(
 some (v12,0,())))
 else(
 Zho v6 v7))
 else(
 Zho v6 v7))
def t201:List (Nat×TC U):=(201,⟨[.st 89,.st 30],[.ik .i64,.ik .i64],fun(a:Zam×Zal×Unit)=>Zev a.1 a.2.1⟩)::t108
theorem c201:Chain Tryz.prog U tab base l201 t201:=Chain.cons tb cfok c108 2 rfl rfl rfl (hs:=[])
 (fun(e:Zal×Zam×Unit)=>Zev e.2.1 e.1) (by kernel_rfl) (fun _=>rfl)
def Zid (v0:Zam)(v1:Zal)(v23:Int):Option (Int×Int×Unit):=
 (Zev v0 v1).bind fun r25=>
 let v25:=r25.1
 let v26:=r25.2.1
 let v27:=decide (v25<v23)
 if v27=true then(
 some (v25,3,()))
 else(
 some (v23,2,()))
def Zie (v0:Zam)(v1:Zal)(v17:Int):Option (Int×Int×Unit):=
 (Zev v0 v1).bind fun r25=>
 let v25:=r25.1
 let v26:=r25.2.1
 let v27:=decide (v25<v17)
 if v27=true then(
 some (v25,3,()))
 else(
 some (v17,1,()))
def Zif (v0:Zam)(v1:Zal):Option (Int×Int×Unit):=
 (Zev v0 v1).bind fun r25=>
 let v25:=r25.1
 let v26:=r25.2.1
 let v27:=decide (v25<1099511627776)
 if v27=true then(
 some (v25,3,()))
 else(
 some (1099511627776,0,()))
def Zj9 (v1:Zal)(v0:Zam):Option (Int×Int×Unit):=
 let v21:=v1.Begun
 let v22:=v0.Ready
 (ZcZ v21 v22).bind fun r23=>
 let v23:=r23.1
 let v24:=decide (v23<1099511627776)
 if v24=true then(
 Zid v0 v1 v23)
 else(
 Zif v0 v1)
def Zig (v1:Zal)(v0:Zam):Option (Int×Int×Unit):=
 let v19:=v1.Ready
 let v20:=!v19
 if v20=true then(
 Zj9 v1 v0)
 else(
 Zif v0 v1)
def l198:Ch:=(198,⟨pS28,pS15,pS6,pS17,true⟩,[])::l201
def ZfD (v0:Zam)(v1:Zal):Option (Int×Int×Unit):=
 let v2:=v1.Part
 let v3:=decide (v2≤0)
 if v3=true then(
 some (1099511627776,0,()))
 else(
 let v4:=v1.Said
 let v5:=decide (v4≥0)
 let v6:=v5
 (if v6=true then some (some (v1.Said))else some none).bind fun v7=>
 (if v6=true then some (some (v0.Says))else some none).bind fun v8=>
 (if v6=true then(v8.bind fun v8o1=>some (((List.length v8o1:Nat):Int)):Option Int).bind fun v=>some (some v)else some none).bind fun v9=>
 (if v6=true then(v7.bind fun v7o2=>v9.bind fun v9o3=>some (decide (v7o2<v9o3)):Option Bool).bind fun v=>some (some v)else some none).bind fun v10=>
 (if v5=true then v10 else some false:Option Bool).bind fun v11=>
 if v11=true then(
 let v12:=v1.Begun
 let v13:=v0.Says
 let v14:=v1.Said
 (ixN v13 v14).bind fun v15=>
 let v16:=v15.After
 (ZcZ v12 v16).bind fun r17=>
 let v17:=r17.1
 let v18:=decide (v17<1099511627776)
 if v18=true then(
 let v19:=v1.Ready
 let v20:=!v19
 if v20=true then(
 let v21:=v1.Begun
 let v22:=v0.Ready
 (ZcZ v21 v22).bind fun r23=>
 let v23:=r23.1
 let v24:=decide (v23<v17)
 if v24=true then(
 Zid v0 v1 v23)
 else(
 Zie v0 v1 v17))
 else(
 Zie v0 v1 v17))
 else(
 Zig v1 v0))
 else(
 Zig v1 v0))
def t198:List (Nat×TC U):=(198,⟨[.st 89,.st 30],[.ik .i64,.ik .i64],fun(a:Zam×Zal×Unit)=>ZfD a.1 a.2.1⟩)::t201
theorem c198:Chain Tryz.prog U tab base l198 t198:=Chain.cons tb cfok c201 2 rfl rfl rfl (hs:=[])
 (fun(e:Zal×Zam×Unit)=>ZfD e.2.1 e.1) (by kernel_rfl) (fun _=>rfl)
def l200:Ch:=(200,⟨pS28,pS15,pS6,[(0,⟨none,.agg (.c []) 6 .d []⟩),(1,⟨none,.one (.c []) none⟩)],true⟩,[])::l198
def ZiL (v0:Zam)(v1:Zal):Option (Zal×ByteArray×Unit):=
 (ZfD v0 v1).bind fun r2=>
 let v2:=r2.1
 let v3:=r2.2.1
 let v4:=v3==1
 if v4=true then(
 let v5:=v1.Said
 let v6:=IntKind.i64.wrap (v5+1)
 let v7:=v0.Says
 let v8:=IntKind.i64.wrap (v6 - 1)
 (ixN v7 v8).bind fun v9=>
 let v10:=v9.Text
 let v11:Zal:={ v1 with Said:=v6 }
 some (v11,v10,()))
 else(
 let v5:=v3==2
 if v5=true then(
 let v6:Zal:={ v1 with Ready:=true }
 some (v6,(⟨#[]⟩:ByteArray),()))
 else(
 let v6:=v3==3
 if v6=true then(
 some (z3,(⟨#[]⟩:ByteArray),()))
 else(
 some (v1,(⟨#[]⟩:ByteArray),()))))
def t200:List (Nat×TC U):=(200,⟨[.st 89,.st 30],[.st 30,.str],fun(a:Zam×Zal×Unit)=>ZiL a.1 a.2.1⟩)::t198
theorem c200:Chain Tryz.prog U tab base l200 t200:=Chain.cons tb cfok c198 2 rfl rfl rfl (hs:=[hS3])
 (fun(e:Zal×Zam×Unit)=>ZiL e.2.1 e.1) (by kernel_rfl) (fun _=>rfl)
def ZhE (v11:Zam)(v27:List Zca):Option (Zam×Unit):=
 let v28:Zam:={ v11 with Says:=v27 }
 some (v28,())
def Zdx (v11:Zam):Option ((Int×Unit)⊕(Zam×Unit)):=
 let v26:=v11.Says
 (ZkN 24 v26).bind fun r27=>
 let v27:=r27.1
 (ZhE v11 v27).bind fun r=>some (Sum.inr r)
def Zfq (v1:Zae)(v2:Int)(v3:Int)(v4:Int):Option (Zam×Unit):=
 let v22:=v1.Name
 let v23:=v2==2
 let v24:=v23
 (if v24=true then some (some (v1.Type_))else some none).bind fun v25=>
 (if v24=true then(v25.bind fun v25o13=>some (v25o13 != 2):Option Bool).bind fun v=>some (some v)else some none).bind fun v26=>
 (if v23=true then v26 else some false:Option Bool).bind fun v27=>
 if v27=true then(
 let v28:Zam:={ z4 with Unit_:=v22 }
 let v29:Zam:={ v28 with Part:=v2 }
 let v30:Zam:={ v29 with Num:=v3 }
 let v31:Zam:={ v30 with Attempt:=v4 }
 let v32:Zam:={ v31 with Lasts:=(1099511627776:Int) }
 some (v32,()))
 else(
 let v28:Zam:={ z4 with Unit_:=v22 }
 let v29:Zam:={ v28 with Part:=v2 }
 let v30:Zam:={ v29 with Num:=v3 }
 let v31:Zam:={ v30 with Attempt:=v4 }
 some (v31,()))
def Zfr (v0:Zaf)(v5:ByteArray)(v2:Int)(v1:Zae)(v3:Int)(v4:Int):Option (Zam×Unit):=
 let v18:=v0.Acts
 let v19:=((List.length v18:Nat):Int)
 loopS (A:=Int×Unit) (fun s20=>
   let v20:=s20.1
 let v21:=decide (v20<v19)
 if v21=true then(
 (ixN v18 v20).bind fun v22=>
 let v23:=v22
 let v24:=v23.Unit_
 let v25:=(ByteArray.toList v24)==(ByteArray.toList v5)
 let v26:=v25
 (if v26=true then some (some (v23.Part))else some none).bind fun v27=>
 (if v26=true then(v27.bind fun v27o10=>some (v27o10==v2):Option Bool).bind fun v=>some (some v)else some none).bind fun v28=>
 (if v25=true then v28 else some false:Option Bool).bind fun v29=>
 let v30:=v29
 (if v30=true then some (some (v23.Num))else some none).bind fun v31=>
 (if v30=true then(v31.bind fun v31o11=>some (v31o11==(-1)):Option Bool).bind fun v=>some (some v)else some none).bind fun v32=>
 (if v29=true then v32 else some false:Option Bool).bind fun v33=>
 let v34:=v33
 (if v34=true then some (some (v23.Attempt))else some none).bind fun v35=>
 (if v34=true then(v35.bind fun v35o12=>some (v35o12==0):Option Bool).bind fun v=>some (some v)else some none).bind fun v36=>
 (if v33=true then v36 else some false:Option Bool).bind fun v37=>
 if v37=true then(
 Zdx v23)
 else(
 let v38:=IntKind.i64.wrap (v20+1)
 some (Sum.inl (v38,()))))
 else(
 (Zfq v1 v2 v3 v4).bind fun r=>some (Sum.inr r))
   ) (0,())
def Zfs (v0:Zaf)(v5:ByteArray)(v2:Int)(v3:Int)(v1:Zae)(v4:Int):Option (Zam×Unit):=
 let v14:=v0.Acts
 let v15:=((List.length v14:Nat):Int)
 loopS (A:=Int×Unit) (fun s16=>
   let v16:=s16.1
 let v17:=decide (v16<v15)
 if v17=true then(
 (ixN v14 v16).bind fun v18=>
 let v19:=v18
 let v20:=v19.Unit_
 let v21:=(ByteArray.toList v20)==(ByteArray.toList v5)
 let v22:=v21
 (if v22=true then some (some (v19.Part))else some none).bind fun v23=>
 (if v22=true then(v23.bind fun v23o7=>some (v23o7==v2):Option Bool).bind fun v=>some (some v)else some none).bind fun v24=>
 (if v21=true then v24 else some false:Option Bool).bind fun v25=>
 let v26:=v25
 (if v26=true then some (some (v19.Num))else some none).bind fun v27=>
 (if v26=true then(v27.bind fun v27o8=>some (v27o8==v3):Option Bool).bind fun v=>some (some v)else some none).bind fun v28=>
 (if v25=true then v28 else some false:Option Bool).bind fun v29=>
 let v30:=v29
 (if v30=true then some (some (v19.Attempt))else some none).bind fun v31=>
 (if v30=true then(v31.bind fun v31o9=>some (v31o9==0):Option Bool).bind fun v=>some (some v)else some none).bind fun v32=>
 (if v29=true then v32 else some false:Option Bool).bind fun v33=>
 if v33=true then(
 Zdx v19)
 else(
 let v34:=IntKind.i64.wrap (v16+1)
 some (Sum.inl (v34,()))))
 else(
 (Zfr v0 v5 v2 v1 v3 v4).bind fun r=>some (Sum.inr r))
   ) (0,())
def Zft (v0:Zaf)(v5:ByteArray)(v2:Int)(v4:Int)(v3:Int)(v1:Zae):Option (Zam×Unit):=
 let v10:=v0.Acts
 let v11:=((List.length v10:Nat):Int)
 loopS (A:=Int×Unit) (fun s12=>
   let v12:=s12.1
 let v13:=decide (v12<v11)
 if v13=true then(
 (ixN v10 v12).bind fun v14=>
 let v15:=v14
 let v16:=v15.Unit_
 let v17:=(ByteArray.toList v16)==(ByteArray.toList v5)
 let v18:=v17
 (if v18=true then some (some (v15.Part))else some none).bind fun v19=>
 (if v18=true then(v19.bind fun v19o4=>some (v19o4==v2):Option Bool).bind fun v=>some (some v)else some none).bind fun v20=>
 (if v17=true then v20 else some false:Option Bool).bind fun v21=>
 let v22:=v21
 (if v22=true then some (some (v15.Num))else some none).bind fun v23=>
 (if v22=true then(v23.bind fun v23o5=>some (v23o5==(-1)):Option Bool).bind fun v=>some (some v)else some none).bind fun v24=>
 (if v21=true then v24 else some false:Option Bool).bind fun v25=>
 let v26:=v25
 (if v26=true then some (some (v15.Attempt))else some none).bind fun v27=>
 (if v26=true then(v27.bind fun v27o6=>some (v27o6==v4):Option Bool).bind fun v=>some (some v)else some none).bind fun v28=>
 (if v25=true then v28 else some false:Option Bool).bind fun v29=>
 if v29=true then(
 Zdx v15)
 else(
 let v30:=IntKind.i64.wrap (v12+1)
 some (Sum.inl (v30,()))))
 else(
 (Zfs v0 v5 v2 v3 v1 v4).bind fun r=>some (Sum.inr r))
   ) (0,())
def l225:Ch:=(225,⟨[.agg (.v 0) 3 (.g 0 0) [],.agg (.v 1) 35 (.g 1 0) [],.one (.v 2) (some (.w 1)),.one (.v 3) (some (.w 2)),.one (.v 4) (some (.w 3))],pS34,pS0,pS35,false⟩,[(23602,⟨[],[],[],[],[],[],[],6⟩),(23605,⟨[31],[],[],[],[],[],[],0⟩)])::l200
def Zee (v0:Zaf)(v1:Zae)(v2:Int)(v3:Int)(v4:Int):Option (Zam×Unit):=
 let v5:=v1.Name
 let v6:=v0.Acts
 let v7:=((List.length v6:Nat):Int)
 loopS (A:=Int×Unit) (fun s8=>
   let v8:=s8.1
 let v9:=decide (v8<v7)
 if v9=true then(
 (ixN v6 v8).bind fun v10=>
 let v11:=v10
 let v12:=v11.Unit_
 let v13:=(ByteArray.toList v12)==(ByteArray.toList v5)
 let v14:=v13
 (if v14=true then some (some (v11.Part))else some none).bind fun v15=>
 (if v14=true then(v15.bind fun v15o1=>some (v15o1==v2):Option Bool).bind fun v=>some (some v)else some none).bind fun v16=>
 (if v13=true then v16 else some false:Option Bool).bind fun v17=>
 let v18:=v17
 (if v18=true then some (some (v11.Num))else some none).bind fun v19=>
 (if v18=true then(v19.bind fun v19o2=>some (v19o2==v3):Option Bool).bind fun v=>some (some v)else some none).bind fun v20=>
 (if v17=true then v20 else some false:Option Bool).bind fun v21=>
 let v22:=v21
 (if v22=true then some (some (v11.Attempt))else some none).bind fun v23=>
 (if v22=true then(v23.bind fun v23o3=>some (v23o3==v4):Option Bool).bind fun v=>some (some v)else some none).bind fun v24=>
 (if v21=true then v24 else some false:Option Bool).bind fun v25=>
 if v25=true then(
 Zdx v11)
 else(
 let v26:=IntKind.i64.wrap (v8+1)
 some (Sum.inl (v26,()))))
 else(
 (Zft v0 v5 v2 v4 v3 v1).bind fun r=>some (Sum.inr r))
   ) (0,())
def t225:List (Nat×TC U):=(225,⟨[.st 43,.st 28,.ik .i64,.ik .i64,.ik .i64],[.st 89],fun(a:Zaf×Zae×Int×Int×Int×Unit)=>Zee a.1 a.2.1 a.2.2.1 a.2.2.2.1 a.2.2.2.2.1⟩)::t200
theorem c225:Chain Tryz.prog U tab base l225 t225:=Chain.cons tb cfok c200 5 rfl rfl rfl (hs:=[⟨.st 89,z4⟩,⟨.st 89,z4⟩])
 (fun(e:Int×Int×Int×Zae×Zaf×Unit)=>Zee e.2.2.2.2.1 e.2.2.2.1 e.2.2.1 e.2.1 e.1) (by kernel_rfl) (fun _=>rfl)
end
end Go.AW.M
