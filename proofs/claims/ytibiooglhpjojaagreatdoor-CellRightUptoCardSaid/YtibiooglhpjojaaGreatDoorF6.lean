/- Typed functions and their chain. Printed by tfn.py. · Typed functions and their chain. Printed by tfn.py. · Typed functions and their chain. Printed by tfn.py. · Typed functions and their chain. Printed by tfn.py. · Typed functions and their chain. Printed by tfn.py. · Typed functions and their chain. Printed by tfn.py. · Typed functions and their chain. Printed by tfn.py. · Typed functions and their chain. Printed by tfn.py. -/
import Derived.Test.YtibiooglhpjojaaGreatDoorF5
set_option linter.unusedSimpArgs false
set_option linter.unusedVariables false
namespace Go.AW.M
open Go.RowKit Go.Proofs
set_option maxRecDepth 100000
noncomputable section
def l15:Ch:=(15,⟨pS16,pS8,pS0,pS1,false⟩,[(3202,⟨[9],[],[],[],[],[],[],0⟩)])::l57
def Zlz (v0:Zac):Option (Bool×Unit):=
 loopS (A:=Int×Unit) (fun s1=>
   let v1:=s1.1
 let v2:=decide (v1<2)
 if v2=true then(
 (ixN ([0,9]:List Int) v1).bind fun v3=>
 let v4:=v3
 let v5:=v0.State
 let v6:=v5==v4
 if v6=true then(
 some (Sum.inr (true,())))
 else(
 let v7:=IntKind.i64.wrap (v1+1)
 some (Sum.inl (v7,()))))
 else(
 some (Sum.inr (false,())))
   ) (0,())
def t15:List (Nat×TC U):=(15,⟨[.st 33],[.bool],fun(a:Zac×Unit)=>Zlz a.1⟩)::t57
theorem c15:Chain Tryz.prog U tab base l15 t15:=Chain.cons tb cfok c57 1 rfl rfl rfl (hs:=[⟨.li (.ik .i64),([0,9]:List Int)⟩])
 (fun(e:Zac×Unit)=>Zlz e.1) (by kernel_rfl) (fun _=>rfl)
def l16:Ch:=(16,⟨pS16,pS8,pS0,pS1,false⟩,[])::l15
def Zc6 (v0:Zac):Option (Bool×Unit):=
 let v1:=v0.State
 let v2:=v1==0
 let v3:=!v2
 (if v3=true then some (some (v0.State))else some none).bind fun v4=>
 (if v3=true then(v4.bind fun v4o1=>some (v4o1==9):Option Bool).bind fun v=>some (some v)else some none).bind fun v5=>
 (if v2=true then some true else(v5).bind fun y=>some y:Option Bool).bind fun v6=>
 some (v6,())
def t16:List (Nat×TC U):=(16,⟨[.st 33],[.bool],fun(a:Zac×Unit)=>Zc6 a.1⟩)::t15
theorem c16:Chain Tryz.prog U tab base l16 t16:=Chain.cons tb cfok c15 1 rfl rfl rfl (hs:=[])
 (fun(e:Zac×Unit)=>Zc6 e.1) (by kernel_rfl) (fun _=>rfl)
def l59:Ch:=(59,⟨pS23,pS15,pS0,pS1,false⟩,[])::l16
def ZhF (v0:Zaf)(v1:Zac):Option (Int×Unit):=
 let v2:=v1.State
 let v3:=v2 != 4
 if v3=true then(
 some (1099511627776,()))
 else(
 let v4:=v1.Next
 some (v4,()))
def t59:List (Nat×TC U):=(59,⟨[.st 43,.st 33],[.ik .i64],fun(a:Zaf×Zac×Unit)=>ZhF a.1 a.2.1⟩)::t16
theorem c59:Chain Tryz.prog U tab base l59 t59:=Chain.cons tb cfok c16 2 rfl rfl rfl (hs:=[])
 (fun(e:Zac×Zaf×Unit)=>ZhF e.2.1 e.1) (by kernel_rfl) (fun _=>rfl)
def l218:Ch:=(218,⟨pS13,pS9,pS0,pS1,false⟩,[])::l59
def ZfH (v0:Int)(v1:Int):Option (Bool×Unit):=
 let v2:=v1==2
 let v3:=!v2
 (if v3=true then some (some (v1==3))else some none).bind fun v4=>
 (if v2=true then some true else(v4).bind fun y=>some y:Option Bool).bind fun v5=>
 let v6:=v0==2
 if v6=true then(
 let v7:=v1==0
 some (v7,()))
 else(
 let v7:=v0==3
 if v7=true then(
 let v8:=!v5
 (if v8=true then some (some (v1==1))else some none).bind fun v9=>
 (if v5=true then some true else(v9).bind fun y=>some y:Option Bool).bind fun v10=>
 some (v10,()))
 else(
 let v8:=v0==4
 if v8=true then(
 some (v5,()))
 else(
 let v9:=v0==5
 if v9=true then(
 let v10:=!v5
 (if v10=true then some (some (v1==1))else some none).bind fun v11=>
 (if v5=true then some true else(v11).bind fun y=>some y:Option Bool).bind fun v12=>
 let v13:=!v12
 (if v13=true then some (some (v1==0))else some none).bind fun v14=>
 (if v12=true then some true else(v14).bind fun y=>some y:Option Bool).bind fun v15=>
 some (v15,()))
 else(
 some (false,())))))
def t218:List (Nat×TC U):=(218,⟨[.ik .i64,.ik .i64],[.bool],fun(a:Int×Int×Unit)=>ZfH a.1 a.2.1⟩)::t59
theorem c218:Chain Tryz.prog U tab base l218 t218:=Chain.cons tb cfok c59 2 rfl rfl rfl (hs:=[])
 (fun(e:Int×Int×Unit)=>ZfH e.2.1 e.1) (by kernel_rfl) (fun _=>rfl)
def l191:Ch:=(191,⟨[.agg (.v 0) 35 (.g 0 0) [],.one (.v 1) (some (.w 1)),.one (.v 2) (some (.w 2))],pS36,pS6,pS17,true⟩,[])::l218
def ZgE (v0:Zae)(v1:Int)(v2:Int):Option (Int×Bool×Unit):=
 let v3:=v0.Restart
 (ZfH v3 v1).bind fun r4=>
 let v4:=r4.1
 let v5:=!v4
 if v5=true then(
 some (0,false,()))
 else(
 let v6:=v0.Pause
 (ZcZ v2 v6).bind fun r7=>
 let v7:=r7.1
 some (v7,true,()))
def t191:List (Nat×TC U):=(191,⟨[.st 28,.ik .i64,.ik .i64],[.ik .i64,.bool],fun(a:Zae×Int×Int×Unit)=>ZgE a.1 a.2.1 a.2.2.1⟩)::t218
theorem c191:Chain Tryz.prog U tab base l191 t191:=Chain.cons tb cfok c218 3 rfl rfl rfl (hs:=[])
 (fun(e:Int×Int×Zae×Unit)=>ZgE e.2.2.1 e.2.1 e.1) (by kernel_rfl) (fun _=>rfl)
def l154:Ch:=(154,⟨[.agg (.v 0) 6 (.g 0 0) [],.one (.v 1) (some (.w 1))],pS33,pS0,pS37,false⟩,[])::l191
def ZhG (v0:Zal)(v1:Int):Option (Zal×Unit):=
 let v2:=v0.Part
 let v3:=decide (v2>0)
 let v4:=v3
 (if v4=true then some (some (v0.Told))else some none).bind fun v5=>
 (if v4=true then(v5.bind fun v5o1=>some (decide (v5o1<0)):Option Bool).bind fun v=>some (some v)else some none).bind fun v6=>
 (if v3=true then v6 else some false:Option Bool).bind fun v7=>
 if v7=true then(
 let v8:Zal:={ v0 with Told:=v1 }
 some (v8,()))
 else(
 some (v0,()))
def t154:List (Nat×TC U):=(154,⟨[.st 30,.ik .i64],[.st 30],fun(a:Zal×Int×Unit)=>ZhG a.1 a.2.1⟩)::t191
theorem c154:Chain Tryz.prog U tab base l154 t154:=Chain.cons tb cfok c191 2 rfl rfl rfl (hs:=[])
 (fun(e:Int×Zal×Unit)=>ZhG e.2.1 e.1) (by kernel_rfl) (fun _=>rfl)
def l155:Ch:=(155,⟨pS21,pS18,pS0,pS37,false⟩,[])::l154
def ZdI (v0:Int)(v1:Int)(v2:Int):Option (Zal×Unit):=
 let v3:Zal:={ z3 with Part:=v0 }
 let v4:Zal:={ v3 with Num:=v1 }
 let v5:Zal:={ v4 with Begun:=v2 }
 let v6:Zal:={ v5 with Told:=(-1:Int) }
 some (v6,())
def t155:List (Nat×TC U):=(155,⟨[.ik .i64,.ik .i64,.ik .i64],[.st 30],fun(a:Int×Int×Int×Unit)=>ZdI a.1 a.2.1 a.2.2.1⟩)::t154
theorem c155:Chain Tryz.prog U tab base l155 t155:=Chain.cons tb cfok c154 3 rfl rfl rfl (hs:=[hS3])
 (fun(e:Int×Int×Int×Unit)=>ZdI e.2.2.1 e.2.1 e.1) (by kernel_rfl) (fun _=>rfl)
def l150:Ch:=(150,⟨pS21,pS18,pS0,pS1,false⟩,[])::l155
def Zgj (v0:Int)(v1:Int)(v2:Int):Option (Bool×Unit):=
 let v3:=decide (v0≤v1)
 let v4:=v3
 (if v4=true then some (some (v2==1099511627776))else some none).bind fun v5=>
 (if v4=true then v5.bind fun v5o1=>some (!v5o1)else some false:Option Bool).bind fun v6=>
 (if v6=true then some (some (IntKind.i64.wrap (v1 - v2)))else some none).bind fun v7=>
 (if v6=true then(v7.bind fun v7o2=>some (decide (v0>v7o2)):Option Bool).bind fun v=>some (some v)else some none).bind fun v8=>
 (if v4=true then(v5.bind fun v5o3=>if v5o3=true then some true else(v8).bind fun y=>some y:Option Bool).bind fun v=>some (some v)else some none).bind fun v9=>
 (if v3=true then v9 else some false:Option Bool).bind fun v10=>
 some (v10,())
def t150:List (Nat×TC U):=(150,⟨[.ik .i64,.ik .i64,.ik .i64],[.bool],fun(a:Int×Int×Int×Unit)=>Zgj a.1 a.2.1 a.2.2.1⟩)::t155
theorem c150:Chain Tryz.prog U tab base l150 t150:=Chain.cons tb cfok c155 3 rfl rfl rfl (hs:=[])
 (fun(e:Int×Int×Int×Unit)=>Zgj e.2.2.1 e.2.1 e.1) (by kernel_rfl) (fun _=>rfl)
end
end Go.AW.M

namespace Go.AW.M
open Go.RowKit Go.Proofs
set_option maxRecDepth 100000
noncomputable section
def l186:Ch:=(186,⟨pS4,pS5,pS0,pS1,false⟩,[])::l150
def ZdR (v0:Int):Option (Bool×Unit):=
 let v1:=decide (v0≥0)
 let v2:=v1
 (if v2=true then some (some (decide (v0<6311433600)))else some none).bind fun v3=>
 (if v1=true then v3 else some false:Option Bool).bind fun v4=>
 some (v4,())
def t186:List (Nat×TC U):=(186,⟨[.ik .i64],[.bool],fun(a:Int×Unit)=>ZdR a.1⟩)::t150
theorem c186:Chain Tryz.prog U tab base l186 t186:=Chain.cons tb cfok c150 1 rfl rfl rfl (hs:=[])
 (fun(e:Int×Unit)=>ZdR e.1) (by kernel_rfl) (fun _=>rfl)
def l187:Ch:=(187,⟨pS4,pS5,pS0,pS1,false⟩,[])::l186
def Zfx (v0:Int):Option (Bool×Unit):=
 let v1:=decide (v0≥0)
 let v2:=v1
 (if v2=true then some (some (decide (v0≤6311433600)))else some none).bind fun v3=>
 (if v1=true then v3 else some false:Option Bool).bind fun v4=>
 let v5:=!v4
 (if v5=true then some (some (v0==1099511627776))else some none).bind fun v6=>
 (if v4=true then some true else(v6).bind fun y=>some y:Option Bool).bind fun v7=>
 some (v7,())
def t187:List (Nat×TC U):=(187,⟨[.ik .i64],[.bool],fun(a:Int×Unit)=>Zfx a.1⟩)::t186
theorem c187:Chain Tryz.prog U tab base l187 t187:=Chain.cons tb cfok c186 1 rfl rfl rfl (hs:=[])
 (fun(e:Int×Unit)=>Zfx e.1) (by kernel_rfl) (fun _=>rfl)
def l184:Ch:=(184,⟨pS4,pS5,pS0,pS1,false⟩,[])::l187
def ZcL (v0:Int):Option (Bool×Unit):=
 let v1:=decide (v0≥97)
 let v2:=v1
 (if v2=true then some (some (decide (v0≤122)))else some none).bind fun v3=>
 (if v1=true then v3 else some false:Option Bool).bind fun v4=>
 let v5:=!v4
 (if v5=true then some (some (decide (v0≥65)))else some none).bind fun v6=>
 (if v5=true then v6 else some false:Option Bool).bind fun v7=>
 (if v7=true then some (some (decide (v0≤90)))else some none).bind fun v8=>
 (if v5=true then(v6.bind fun v6o1=>if v6o1=true then v8 else some false:Option Bool).bind fun v=>some (some v)else some none).bind fun v9=>
 (if v4=true then some true else(v9).bind fun y=>some y:Option Bool).bind fun v10=>
 some (v10,())
def t184:List (Nat×TC U):=(184,⟨[.ik .u8],[.bool],fun(a:Int×Unit)=>ZcL a.1⟩)::t187
theorem c184:Chain Tryz.prog U tab base l184 t184:=Chain.cons tb cfok c187 1 rfl rfl rfl (hs:=[])
 (fun(e:Int×Unit)=>ZcL e.1) (by kernel_rfl) (fun _=>rfl)
def l185:Ch:=(185,⟨pS4,pS5,pS0,pS1,false⟩,[])::l184
def Zc7 (v0:Int):Option (Bool×Unit):=
 let v1:=decide (v0≥48)
 let v2:=v1
 (if v2=true then some (some (decide (v0≤57)))else some none).bind fun v3=>
 (if v1=true then v3 else some false:Option Bool).bind fun v4=>
 some (v4,())
def t185:List (Nat×TC U):=(185,⟨[.ik .u8],[.bool],fun(a:Int×Unit)=>Zc7 a.1⟩)::t184
theorem c185:Chain Tryz.prog U tab base l185 t185:=Chain.cons tb cfok c184 1 rfl rfl rfl (hs:=[])
 (fun(e:Int×Unit)=>Zc7 e.1) (by kernel_rfl) (fun _=>rfl)
def l147:Ch:=(147,⟨pS4,pS5,pS0,pS1,false⟩,[])::l185
def ZcM (v0:Int):Option (ByteArray×Unit):=
 let v1:=v0==1
 if v1=true then(
 some ((⟨#[115,101,114,118,105,99,101]⟩:ByteArray),()))
 else(
 let v2:=v0==2
 if v2=true then(
 some ((⟨#[115,111,99,107,101,116]⟩:ByteArray),()))
 else(
 let v3:=v0==3
 if v3=true then(
 some ((⟨#[116,105,109,101,114]⟩:ByteArray),()))
 else(
 let v4:=v0==4
 if v4=true then(
 some ((⟨#[116,97,114,103,101,116]⟩:ByteArray),()))
 else(
 some ((⟨#[]⟩:ByteArray),())))))
def t147:List (Nat×TC U):=(147,⟨[.ik .i64],[.str],fun(a:Int×Unit)=>ZcM a.1⟩)::t185
theorem c147:Chain Tryz.prog U tab base l147 t147:=Chain.cons tb cfok c185 1 rfl rfl rfl (hs:=[])
 (fun(e:Int×Unit)=>ZcM e.1) (by kernel_rfl) (fun _=>rfl)
def l148:Ch:=(148,⟨pS4,pS5,pS0,pS1,false⟩,[])::l147
def Zco (v0:Int):Option (Bool×Unit):=
 (ZcL v0).bind fun r1=>
 let v1:=r1.1
 let v2:=!v1
 (if v2=true then(Zc7 v0).bind fun r=>some (some r)else some none).bind fun r3=>
 let v3:Option Bool:=r3.map fun x=>x.1
 (if v1=true then some true else(v3).bind fun y=>some y:Option Bool).bind fun v4=>
 let v5:=!v4
 (if v5=true then some (some (v0==58))else some none).bind fun v6=>
 (if v4=true then some true else(v6).bind fun y=>some y:Option Bool).bind fun v7=>
 let v8:=!v7
 (if v8=true then some (some (v0==45))else some none).bind fun v9=>
 (if v7=true then some true else(v9).bind fun y=>some y:Option Bool).bind fun v10=>
 let v11:=!v10
 (if v11=true then some (some (v0==95))else some none).bind fun v12=>
 (if v10=true then some true else(v12).bind fun y=>some y:Option Bool).bind fun v13=>
 let v14:=!v13
 (if v14=true then some (some (v0==46))else some none).bind fun v15=>
 (if v13=true then some true else(v15).bind fun y=>some y:Option Bool).bind fun v16=>
 let v17:=!v16
 (if v17=true then some (some (v0==92))else some none).bind fun v18=>
 (if v16=true then some true else(v18).bind fun y=>some y:Option Bool).bind fun v19=>
 some (v19,())
def t148:List (Nat×TC U):=(148,⟨[.ik .u8],[.bool],fun(a:Int×Unit)=>Zco a.1⟩)::t147
theorem c148:Chain Tryz.prog U tab base l148 t148:=Chain.cons tb cfok c147 1 rfl rfl rfl (hs:=[])
 (fun(e:Int×Unit)=>Zco e.1) (by kernel_rfl) (fun _=>rfl)
def l35:Ch:=(35,⟨pS16,pS8,pS0,pS1,false⟩,[])::l148
def Zc8 (v0:Zac):Option (Bool×Unit):=
 let v1:=v0.Attempt
 let v2:=decide (v1≤1099511627776)
 let v3:=v2
 (if v3=true then some (some (v0.Rows))else some none).bind fun v4=>
 (if v3=true then(v4.bind fun v4o1=>some (decide (v4o1≥0)):Option Bool).bind fun v=>some (some v)else some none).bind fun v5=>
 (if v2=true then v5 else some false:Option Bool).bind fun v6=>
 let v7:=v6
 (if v7=true then some (some (v0.Rows))else some none).bind fun v8=>
 (if v7=true then(v8.bind fun v8o2=>some (decide (v8o2≤1099511627776)):Option Bool).bind fun v=>some (some v)else some none).bind fun v9=>
 (if v6=true then v9 else some false:Option Bool).bind fun v10=>
 let v11:=v10
 (if v11=true then some (some (v0.Num))else some none).bind fun v12=>
 (if v11=true then(v12.bind fun v12o3=>some (decide (v12o3≥0)):Option Bool).bind fun v=>some (some v)else some none).bind fun v13=>
 (if v10=true then v13 else some false:Option Bool).bind fun v14=>
 let v15:=v14
 (if v15=true then some (some (v0.Num))else some none).bind fun v16=>
 (if v15=true then(v16.bind fun v16o4=>some (decide (v16o4≤1099511627776)):Option Bool).bind fun v=>some (some v)else some none).bind fun v17=>
 (if v14=true then v17 else some false:Option Bool).bind fun v18=>
 let v19:=v18
 (if v19=true then some (some (v0.Seen))else some none).bind fun v20=>
 (if v19=true then(v20.bind fun v20o5=>some (decide (v20o5≤1099511627776)):Option Bool).bind fun v=>some (some v)else some none).bind fun v21=>
 (if v18=true then v21 else some false:Option Bool).bind fun v22=>
 some (v22,())
def t35:List (Nat×TC U):=(35,⟨[.st 33],[.bool],fun(a:Zac×Unit)=>Zc8 a.1⟩)::t148
theorem c35:Chain Tryz.prog U tab base l35 t35:=Chain.cons tb cfok c148 1 rfl rfl rfl (hs:=[])
 (fun(e:Zac×Unit)=>Zc8 e.1) (by kernel_rfl) (fun _=>rfl)
def ZdN (v19:ByteArray)(v20:Int):Option ((Int×Unit)⊕(Zai×Unit)):=
 (sxN v19 v20).bind fun v23=>
 (Zco v23).bind fun r24=>
 let v24:=r24.1
 let v25:=!v24
 if v25=true then(
 some (Sum.inr (z5,())))
 else(
 let v26:=IntKind.i64.wrap (v20+1)
 some (Sum.inl (v26,())))
def Zgx (v5:Zai)(v14:ByteArray)(v17:ByteArray):Option (Zai×Unit):=
 let v23:Zai:={ v5 with At:=true }
 let v24:Zai:={ v23 with Prefix:=v14 }
 let v25:Zai:={ v24 with Instance:=v17 }
 some (v25,())
def Zff (v14:ByteArray)(v17:ByteArray)(v5:Zai):Option (Zai×Unit):=
 let v18:=(ByteArray.toList v14)==(ByteArray.toList (⟨#[]⟩:ByteArray))
 if v18=true then(
 some (z5,()))
 else(
 (caN v14 v17).bind fun v19=>
 loopS (A:=Int×Unit) (fun s20=>
   let v20:=s20.1
 let v21:=((ByteArray.size v19:Nat):Int)
 let v22:=decide (v20<v21)
 if v22=true then(
 ZdN v19 v20)
 else(
 (Zgx v5 v14 v17).bind fun r=>some (Sum.inr r))
   ) (0,()))
def Zgy (v5:Zai)(v4:ByteArray):Option (Zai×Unit):=
 let v18:Zai:={ v5 with Prefix:=v4 }
 some (v18,())
def Zfg (v4:ByteArray)(v5:Zai):Option (Zai×Unit):=
 let v12:=(ByteArray.toList v4)==(ByteArray.toList (⟨#[]⟩:ByteArray))
 if v12=true then(
 some (z5,()))
 else(
 let v13:=v5.Instance
 (caN v4 v13).bind fun v14=>
 loopS (A:=Int×Unit) (fun s15=>
   let v15:=s15.1
 let v16:=((ByteArray.size v14:Nat):Int)
 let v17:=decide (v15<v16)
 if v17=true then(
 ZdN v14 v15)
 else(
 (Zgy v5 v4).bind fun r=>some (Sum.inr r))
   ) (0,()))
def Zfh (v5:Zai)(v4:ByteArray):Option (Zai×Unit):=
 let v7:=v5.Kind
 let v8:=v7==0
 if v8=true then(
 some (z5,()))
 else(
 loopS (A:=Int×Unit) (fun s9=>
   let v9:=s9.1
 let v10:=((ByteArray.size v4:Nat):Int)
 let v11:=decide (v9<v10)
 if v11=true then(
 (sxN v4 v9).bind fun v12=>
 let v13:=v12==64
 if v13=true then(
 (scN v4 0 v9).bind fun v14=>
 let v15:=IntKind.i64.wrap (v9+1)
 let v16:=((ByteArray.size v4:Nat):Int)
 (scN v4 v15 v16).bind fun v17=>
 (Zff v14 v17 v5).bind fun r=>some (Sum.inr r))
 else(
 let v14:=IntKind.i64.wrap (v9+1)
 some (Sum.inl (v14,()))))
 else(
 (Zfg v4 v5).bind fun r=>some (Sum.inr r))
   ) (0,()))
def l102:Ch:=(102,⟨pS4,pS5,pS0,[(0,⟨none,.agg (.c []) 4 .d []⟩)],false⟩,[(10206,⟨[5,4],[1],[],[],[],[],[],0⟩),(10215,⟨[7],[],[],[],[],[],[],0⟩),(10223,⟨[9],[],[],[],[],[],[],0⟩)])::l35
def Zc0 (v0:ByteArray):Option (Zai×Unit):=
 let v1:=((ByteArray.size v0:Nat):Int)
 let v2:=decide (v1>60)
 if v2=true then(
 some (z5,()))
 else(
 loopS (A:=Int×ByteArray×Zai×Unit) (fun s3=>
   let v3:=s3.1
   let v4:=s3.2.1
   let v5:=s3.2.2.1
 let v6:=decide (v3≤4)
 if v6=true then(
 (ZcM v3).bind fun r7=>
 let v7:=r7.1
 (caN (⟨#[46]⟩:ByteArray) v7).bind fun v8=>
 let v9:=((ByteArray.size v0:Nat):Int)
 let v10:=((ByteArray.size v8:Nat):Int)
 let v11:=decide (v9>v10)
 let v12:=v11
 (if v12=true then some (some (((ByteArray.size v0:Nat):Int)))else some none).bind fun v13=>
 (if v12=true then some (some (((ByteArray.size v8:Nat):Int)))else some none).bind fun v14=>
 (if v12=true then(v13.bind fun v13o1=>v14.bind fun v14o2=>some (IntKind.i64.wrap (v13o1 - v14o2)):Option Int).bind fun v=>some (some v)else some none).bind fun v15=>
 (if v12=true then some (some (((ByteArray.size v0:Nat):Int)))else some none).bind fun v16=>
 (if v12=true then(v15.bind fun v15o3=>v16.bind fun v16o4=>scN v0 v15o3 v16o4:Option ByteArray).bind fun v=>some (some v)else some none).bind fun v17=>
 (if v12=true then(v17.bind fun v17o5=>some ((ByteArray.toList v17o5)==(ByteArray.toList v8)):Option Bool).bind fun v=>some (some v)else some none).bind fun v18=>
 (if v11=true then v18 else some false:Option Bool).bind fun v19=>
 if v19=true then(
 let v20:=((ByteArray.size v0:Nat):Int)
 let v21:=((ByteArray.size v8:Nat):Int)
 let v22:=IntKind.i64.wrap (v20 - v21)
 (scN v0 0 v22).bind fun v23=>
 let v24:=IntKind.i64.wrap (v3+1)
 let v25:Zai:={ v5 with Kind:=v3 }
 some (Sum.inl (v24,v23,v25,())))
 else(
 let v20:=IntKind.i64.wrap (v3+1)
 some (Sum.inl (v20,v4,v5,()))))
 else(
 (Zfh v5 v4).bind fun r=>some (Sum.inr r))
   ) (1,(⟨#[]⟩:ByteArray),z5,()))
def t102:List (Nat×TC U):=(102,⟨[.str],[.st 131],fun(a:ByteArray×Unit)=>Zc0 a.1⟩)::t35
theorem c102:Chain Tryz.prog U tab base l102 t102:=Chain.cons tb cfok c35 1 rfl rfl rfl (hs:=[hS11,hS11,hS11,hS11,hS11,hS11,hS11])
 (fun(e:ByteArray×Unit)=>Zc0 e.1) (by kernel_rfl) (fun _=>rfl)
end
end Go.AW.M

namespace Go.AW.M
open Go.RowKit Go.Proofs
set_option maxRecDepth 100000
noncomputable section
def l67:Ch:=(67,⟨pS4,pS5,pS0,pS1,false⟩,[])::l102
def ZdJ (v0:ByteArray):Option (Bool×Unit):=
 (Zc0 v0).bind fun r1=>
 let v1:=r1.1
 let v2:=v1.Kind
 let v3:=decide (v2>0)
 some (v3,())
def t67:List (Nat×TC U):=(67,⟨[.str],[.bool],fun(a:ByteArray×Unit)=>ZdJ a.1⟩)::t102
theorem c67:Chain Tryz.prog U tab base l67 t67:=Chain.cons tb cfok c102 1 rfl rfl rfl (hs:=[])
 (fun(e:ByteArray×Unit)=>ZdJ e.1) (by kernel_rfl) (fun _=>rfl)
def Zds (v57:Int)(v60:Zca)(v0:Zam):Option ((Int×Unit)⊕(Bool×Unit)):=
 let v75:=decide (v57>0)
 let v76:=v75
 (if v76=true then some (some (v60.After))else some none).bind fun v77=>
 (if v76=true then some (some (v0.Says))else some none).bind fun v78=>
 (if v76=true then some (some (IntKind.i64.wrap (v57 - 1)))else some none).bind fun v79=>
 (if v76=true then(v78.bind fun v78o21=>v79.bind fun v79o22=>ixN v78o21 v79o22:Option Zca).bind fun v=>some (some v)else some none).bind fun v80=>
 (if v76=true then(v80.bind fun v80o23=>some (v80o23.After):Option Int).bind fun v=>some (some v)else some none).bind fun v81=>
 (if v76=true then(v77.bind fun v77o24=>v81.bind fun v81o25=>some (decide (v77o24<v81o25)):Option Bool).bind fun v=>some (some v)else some none).bind fun v82=>
 (if v75=true then v82 else some false:Option Bool).bind fun v83=>
 if v83=true then(
 some (Sum.inr (false,())))
 else(
 let v84:=IntKind.i64.wrap (v57+1)
 some (Sum.inl (v84,())))
def l65:Ch:=(65,⟨[.agg (.v 0) 9 (.g 0 0) []],pS8,pS0,pS1,false⟩,[(6506,⟨[75],[],[],[],[],[],[],0⟩),(10304,⟨[5],[],[],[],[],[],[],0⟩)])::l67
def Zb2 (v0:Zam):Option (Bool×Unit):=
 let v1:=v0.Unit_
 (Zc0 v1).bind fun r2=>
 let v2:=r2.1
 let v3:=v2.Kind
 let v4:=v3 != 1
 let v5:=!v4
 (if v5=true then some (some (v0.Part))else some none).bind fun v6=>
 (if v5=true then(v6.bind fun v6o1=>some (decide (v6o1<1)):Option Bool).bind fun v=>some (some v)else some none).bind fun v7=>
 (if v4=true then some true else(v7).bind fun y=>some y:Option Bool).bind fun v8=>
 let v9:=!v8
 (if v9=true then some (some (v0.Part))else some none).bind fun v10=>
 (if v9=true then(v10.bind fun v10o2=>some (decide (v10o2>5)):Option Bool).bind fun v=>some (some v)else some none).bind fun v11=>
 (if v8=true then some true else(v11).bind fun y=>some y:Option Bool).bind fun v12=>
 let v13:=!v12
 (if v13=true then some (some (v0.Num))else some none).bind fun v14=>
 (if v13=true then(v14.bind fun v14o3=>some (decide (v14o3<(-1))):Option Bool).bind fun v=>some (some v)else some none).bind fun v15=>
 (if v12=true then some true else(v15).bind fun y=>some y:Option Bool).bind fun v16=>
 let v17:=!v16
 (if v17=true then some (some (v0.Num))else some none).bind fun v18=>
 (if v17=true then(v18.bind fun v18o4=>some (decide (v18o4>15)):Option Bool).bind fun v=>some (some v)else some none).bind fun v19=>
 (if v16=true then some true else(v19).bind fun y=>some y:Option Bool).bind fun v20=>
 let v21:=!v20
 (if v21=true then some (some (v0.Attempt))else some none).bind fun v22=>
 (if v21=true then(v22.bind fun v22o5=>some (decide (v22o5<0)):Option Bool).bind fun v=>some (some v)else some none).bind fun v23=>
 (if v20=true then some true else(v23).bind fun y=>some y:Option Bool).bind fun v24=>
 let v25:=!v24
 (if v25=true then some (some (v0.Attempt))else some none).bind fun v26=>
 (if v25=true then(v26.bind fun v26o6=>some (decide (v26o6>1000)):Option Bool).bind fun v=>some (some v)else some none).bind fun v27=>
 (if v24=true then some true else(v27).bind fun y=>some y:Option Bool).bind fun v28=>
 if v28=true then(
 some (false,()))
 else(
 let v29:=v0.Lasts
 (Zbb v29).bind fun r30=>
 let v30:=r30.1
 let v31:=!v30
 let v32:=!v31
 (if v32=true then some (some (v0.Ready))else some none).bind fun v33=>
 (if v32=true then(v33.bind fun v33o7=>some (v33o7,())).bind fun a34=>(Zbb a34.1).bind fun r=>some (some r)else some none).bind fun r34=>
 let v34:Option Bool:=r34.map fun x=>x.1
 (if v32=true then(v34.bind fun v34o8=>some (!v34o8):Option Bool).bind fun v=>some (some v)else some none).bind fun v35=>
 (if v31=true then some true else(v35).bind fun y=>some y:Option Bool).bind fun v36=>
 let v37:=!v36
 (if v37=true then some (some (v0.Dies))else some none).bind fun v38=>
 (if v37=true then(v38.bind fun v38o9=>some (v38o9,())).bind fun a39=>(Zbb a39.1).bind fun r=>some (some r)else some none).bind fun r39=>
 let v39:Option Bool:=r39.map fun x=>x.1
 (if v37=true then(v39.bind fun v39o10=>some (!v39o10):Option Bool).bind fun v=>some (some v)else some none).bind fun v40=>
 (if v36=true then some true else(v40).bind fun y=>some y:Option Bool).bind fun v41=>
 let v42:=!v41
 (if v42=true then some (some (v0.Code))else some none).bind fun v43=>
 (if v42=true then(v43.bind fun v43o11=>some (decide (v43o11<0)):Option Bool).bind fun v=>some (some v)else some none).bind fun v44=>
 (if v41=true then some true else(v44).bind fun y=>some y:Option Bool).bind fun v45=>
 let v46:=!v45
 (if v46=true then some (some (v0.Code))else some none).bind fun v47=>
 (if v46=true then(v47.bind fun v47o12=>some (decide (v47o12>256)):Option Bool).bind fun v=>some (some v)else some none).bind fun v48=>
 (if v45=true then some true else(v48).bind fun y=>some y:Option Bool).bind fun v49=>
 let v50:=!v49
 (if v50=true then some (some (v0.Says))else some none).bind fun v51=>
 (if v50=true then(v51.bind fun v51o13=>some (((List.length v51o13:Nat):Int)):Option Int).bind fun v=>some (some v)else some none).bind fun v52=>
 (if v50=true then(v52.bind fun v52o14=>some (decide (v52o14>4)):Option Bool).bind fun v=>some (some v)else some none).bind fun v53=>
 (if v49=true then some true else(v53).bind fun y=>some y:Option Bool).bind fun v54=>
 if v54=true then(
 some (false,()))
 else(
 let v55:=v0.Says
 let v56:=((List.length v55:Nat):Int)
 loopS (A:=Int×Unit) (fun s57=>
   let v57:=s57.1
 let v58:=decide (v57<v56)
 if v58=true then(
 (ixN v55 v57).bind fun v59=>
 let v60:=v59
 let v61:=v60.After
 (Zbb v61).bind fun r62=>
 let v62:=r62.1
 let v63:=!v62
 let v64:=!v63
 (if v64=true then some (some (v60.After))else some none).bind fun v65=>
 (if v64=true then(v65.bind fun v65o15=>some (v65o15==1099511627776):Option Bool).bind fun v=>some (some v)else some none).bind fun v66=>
 (if v63=true then some true else(v66).bind fun y=>some y:Option Bool).bind fun v67=>
 let v68:=!v67
 (if v68=true then some (some (v60.Text))else some none).bind fun v69=>
 if v67=true then(
 some (Sum.inr (false,())))
 else(
 (v69.bind fun v69o16=>some (((ByteArray.size v69o16:Nat):Int)):Option Int).bind fun v70=>
 let v71:=decide (v70>100)
 if v71=true then(
 some (Sum.inr (false,())))
 else(
 loopS (A:=Int×Unit) (fun s72=>
   let v72:=s72.1
 (v69.bind fun v69o17=>some (((ByteArray.size v69o17:Nat):Int)):Option Int).bind fun v73=>
 let v74:=decide (v72<v73)
 if v74=true then(
 (v69.bind fun v69o18=>sxN v69o18 v72:Option Int).bind fun v75=>
 let v76:=decide (v75<32)
 let v77:=!v76
 (if v77=true then(v69.bind fun v69o19=>sxN v69o19 v72:Option Int).bind fun v=>some (some v)else some none).bind fun v78=>
 (if v77=true then(v78.bind fun v78o20=>some (decide (v78o20>126)):Option Bool).bind fun v=>some (some v)else some none).bind fun v79=>
 (if v76=true then some true else(v79).bind fun y=>some y:Option Bool).bind fun v80=>
 if v80=true then(
 (some (Sum.inr (false,()))).bind fun r=>some (Sum.inr r))
 else(
 let v81:=IntKind.i64.wrap (v72+1)
 some (Sum.inl (v81,()))))
 else(
 (Zds v57 v60 v0).bind fun r=>some (Sum.inr r))
   ) (0,()))))
 else(
 some (Sum.inr (true,())))
   ) (0,())))
def t65:List (Nat×TC U):=(65,⟨[.st 89],[.bool],fun(a:Zam×Unit)=>Zb2 a.1⟩)::t67
theorem c65:Chain Tryz.prog U tab base l65 t65:=Chain.cons tb cfok c67 1 rfl rfl rfl (hs:=[])
 (fun(e:Zam×Unit)=>Zb2 e.1) (by kernel_rfl) (fun _=>rfl)
def Zfo (v1:Int)(v2:Int):Option (Bool×Unit):=
 (Zbo v1).bind fun r6=>
 let v6:=r6.1
 let v7:=v6
 (if v7=true then(Zbb v2).bind fun r=>some (some r)else some none).bind fun r8=>
 let v8:Option Bool:=r8.map fun x=>x.1
 (if v6=true then v8 else some false:Option Bool).bind fun v9=>
 some (v9,())
def l146:Ch:=(146,⟨pS21,pS18,pS0,pS1,false⟩,[(14602,⟨[11],[],[],[],[],[],[],0⟩)])::l65
def Zcf (v0:List Int)(v1:Int)(v2:Int):Option (Bool×Unit):=
 let v3:=((List.length v0:Nat):Int)
 loopS (A:=Int×Unit) (fun s4=>
   let v4:=s4.1
 let v5:=decide (v4<v3)
 if v5=true then(
 (ixN v0 v4).bind fun v6=>
 let v7:=v6
 (Zbo v7).bind fun r8=>
 let v8:=r8.1
 let v9:=!v8
 if v9=true then(
 some (Sum.inr (false,())))
 else(
 let v10:=IntKind.i64.wrap (v4+1)
 some (Sum.inl (v10,()))))
 else(
 (Zfo v1 v2).bind fun r=>some (Sum.inr r))
   ) (0,())
def t146:List (Nat×TC U):=(146,⟨[.li (.ik .i64),.ik .i64,.ik .i64],[.bool],fun(a:(List Int)×Int×Int×Unit)=>Zcf a.1 a.2.1 a.2.2.1⟩)::t65
theorem c146:Chain Tryz.prog U tab base l146 t146:=Chain.cons tb cfok c65 3 rfl rfl rfl (hs:=[])
 (fun(e:Int×Int×(List Int)×Unit)=>Zcf e.2.2.1 e.2.1 e.1) (by kernel_rfl) (fun _=>rfl)
def l100:Ch:=(100,⟨pS21,pS18,pS0,pS1,false⟩,[(10005,⟨[17,7],[],[(7,3)],[],[],[],[],0⟩)])::l146
def Zb6 (v0:List Int)(v1:Int)(v2:Int):Option ((List Int)×Unit):=
 (Zcf v0 v1 v2).bind fun r3=>
 let v3:=r3.1
 let v4:=!v3
 if v4=true then(
 some (([]:List Int),()))
 else(
 let v5:=((List.length v0:Nat):Int)
 loopS (A:=Int×(List Int)×Unit) (fun s6=>
   let v6:=s6.1
   let v7:=s6.2.1
 let v8:=decide (v6<v5)
 if v8=true then(
 (ixN v0 v6).bind fun v9=>
 let v10:=v9
 let v11:=decide (v10≤v1)
 let v12:=v11
 (if v12=true then some (some (v2==1099511627776))else some none).bind fun v13=>
 (if v12=true then v13.bind fun v13o1=>some (!v13o1)else some false:Option Bool).bind fun v14=>
 (if v14=true then some (some (IntKind.i64.wrap (v1 - v10)))else some none).bind fun v15=>
 (if v14=true then(v15.bind fun v15o2=>some (decide (v15o2<v2)):Option Bool).bind fun v=>some (some v)else some none).bind fun v16=>
 (if v12=true then(v13.bind fun v13o3=>if v13o3=true then some true else(v16).bind fun y=>some y:Option Bool).bind fun v=>some (some v)else some none).bind fun v17=>
 (if v11=true then v17 else some false:Option Bool).bind fun v18=>
 if v18=true then(
 let v19:=[v10]
 (apN 8 v7 v19).bind fun v20=>
 let v21:=IntKind.i64.wrap (v6+1)
 some (Sum.inl (v21,v20,())))
 else(
 let v19:=IntKind.i64.wrap (v6+1)
 some (Sum.inl (v19,v7,()))))
 else(
 some (Sum.inr (v7,())))
   ) (0,([]:List Int),()))
def t100:List (Nat×TC U):=(100,⟨[.li (.ik .i64),.ik .i64,.ik .i64],[.li (.ik .i64)],fun(a:(List Int)×Int×Int×Unit)=>Zb6 a.1 a.2.1 a.2.2.1⟩)::t146
theorem c100:Chain Tryz.prog U tab base l100 t100:=Chain.cons tb cfok c146 3 rfl rfl rfl (hs:=[hS5,hS5])
 (fun(e:Int×Int×(List Int)×Unit)=>Zb6 e.2.2.1 e.2.1 e.1) (by kernel_rfl) (fun _=>rfl)
def l103:Ch:=(103,⟨pS13,pS9,pS0,pS1,false⟩,[(10304,⟨[5],[],[],[],[],[],[],0⟩)])::l100
def Zgb (v0:ByteArray)(v1:Int):Option (Bool×Unit):=
 let v2:=((ByteArray.size v0:Nat):Int)
 let v3:=decide (v2>v1)
 if v3=true then(
 some (false,()))
 else(
 loopS (A:=Int×Unit) (fun s4=>
   let v4:=s4.1
 let v5:=((ByteArray.size v0:Nat):Int)
 let v6:=decide (v4<v5)
 if v6=true then(
 (sxN v0 v4).bind fun v7=>
 let v8:=decide (v7<32)
 let v9:=!v8
 (if v9=true then(sxN v0 v4:Option Int).bind fun v=>some (some v)else some none).bind fun v10=>
 (if v9=true then(v10.bind fun v10o1=>some (decide (v10o1>126)):Option Bool).bind fun v=>some (some v)else some none).bind fun v11=>
 (if v8=true then some true else(v11).bind fun y=>some y:Option Bool).bind fun v12=>
 if v12=true then(
 some (Sum.inr (false,())))
 else(
 let v13:=IntKind.i64.wrap (v4+1)
 some (Sum.inl (v13,()))))
 else(
 some (Sum.inr (true,())))
   ) (0,()))
def t103:List (Nat×TC U):=(103,⟨[.str,.ik .i64],[.bool],fun(a:ByteArray×Int×Unit)=>Zgb a.1 a.2.1⟩)::t100
theorem c103:Chain Tryz.prog U tab base l103 t103:=Chain.cons tb cfok c100 2 rfl rfl rfl (hs:=[])
 (fun(e:Int×ByteArray×Unit)=>Zgb e.2.1 e.1) (by kernel_rfl) (fun _=>rfl)
def ZfR (v16:Int):Option ((Int×Unit)⊕(Bool×Unit)):=
 let v27:=IntKind.i64.wrap (v16+1)
 some (Sum.inl (v27,()))
def ZdZ (v0:Zaf):Option (Bool×Unit):=
 let v22:=v0.Asks
 let v23:=((List.length v22:Nat):Int)
 loopS (A:=Int×Unit) (fun s24=>
   let v24:=s24.1
 let v25:=decide (v24<v23)
 if v25=true then(
 (ixN v22 v24).bind fun v26=>
 let v27:=v26
 let v28:=v27.At
 (Zbo v28).bind fun r29=>
 let v29:=r29.1
 let v30:=!v29
 let v31:=!v30
 (if v31=true then some (some (v27.Unit_))else some none).bind fun v32=>
 (if v31=true then(v32.bind fun v32o22=>some (v32o22,())).bind fun a33=>(ZdJ a33.1).bind fun r=>some (some r)else some none).bind fun r33=>
 let v33:Option Bool:=r33.map fun x=>x.1
 (if v31=true then(v33.bind fun v33o23=>some (!v33o23):Option Bool).bind fun v=>some (some v)else some none).bind fun v34=>
 (if v30=true then some true else(v34).bind fun y=>some y:Option Bool).bind fun v35=>
 let v36:=!v35
 (if v36=true then some (some (v27.Type_))else some none).bind fun v37=>
 (if v36=true then(v37.bind fun v37o24=>some (decide (v37o24<1)):Option Bool).bind fun v=>some (some v)else some none).bind fun v38=>
 (if v35=true then some true else(v38).bind fun y=>some y:Option Bool).bind fun v39=>
 let v40:=!v39
 (if v40=true then some (some (v27.Type_))else some none).bind fun v41=>
 (if v40=true then(v41.bind fun v41o25=>some (decide (v41o25>4)):Option Bool).bind fun v=>some (some v)else some none).bind fun v42=>
 (if v39=true then some true else(v42).bind fun y=>some y:Option Bool).bind fun v43=>
 let v44:=!v43
 (if v44=true then some (some (decide (v24>0)))else some none).bind fun v45=>
 (if v44=true then v45 else some false:Option Bool).bind fun v46=>
 (if v46=true then some (some (v27.At))else some none).bind fun v47=>
 (if v46=true then some (some (v0.Asks))else some none).bind fun v48=>
 (if v46=true then some (some (IntKind.i64.wrap (v24 - 1)))else some none).bind fun v49=>
 (if v46=true then(v48.bind fun v48o26=>v49.bind fun v49o27=>ixN v48o26 v49o27:Option Zbu).bind fun v=>some (some v)else some none).bind fun v50=>
 (if v46=true then(v50.bind fun v50o28=>some (v50o28.At):Option Int).bind fun v=>some (some v)else some none).bind fun v51=>
 (if v46=true then(v47.bind fun v47o29=>v51.bind fun v51o30=>some (decide (v47o29<v51o30)):Option Bool).bind fun v=>some (some v)else some none).bind fun v52=>
 (if v44=true then(v45.bind fun v45o31=>if v45o31=true then v52 else some false:Option Bool).bind fun v=>some (some v)else some none).bind fun v53=>
 (if v43=true then some true else(v53).bind fun y=>some y:Option Bool).bind fun v54=>
 if v54=true then(
 some (Sum.inr (false,())))
 else(
 let v55:=IntKind.i64.wrap (v24+1)
 some (Sum.inl (v55,()))))
 else(
 some (Sum.inr (true,())))
   ) (0,())
def Zd0 (v0:Zaf):Option (Bool×Unit):=
 let v18:=v0.Calls
 let v19:=((List.length v18:Nat):Int)
 loopS (A:=Int×Unit) (fun s20=>
   let v20:=s20.1
 let v21:=decide (v20<v19)
 if v21=true then(
 (ixN v18 v20).bind fun v22=>
 let v23:=v22
 let v24:=v23.At
 (Zbo v24).bind fun r25=>
 let v25:=r25.1
 let v26:=!v25
 let v27:=!v26
 (if v27=true then some (some (v23.Port))else some none).bind fun v28=>
 (if v27=true then(v28.bind fun v28o11=>some (decide (v28o11<1)):Option Bool).bind fun v=>some (some v)else some none).bind fun v29=>
 (if v26=true then some true else(v29).bind fun y=>some y:Option Bool).bind fun v30=>
 let v31:=!v30
 (if v31=true then some (some (v23.Port))else some none).bind fun v32=>
 (if v31=true then(v32.bind fun v32o12=>some (decide (v32o12>65535)):Option Bool).bind fun v=>some (some v)else some none).bind fun v33=>
 (if v30=true then some true else(v33).bind fun y=>some y:Option Bool).bind fun v34=>
 let v35:=!v34
 (if v35=true then some (some (v23.Takes))else some none).bind fun v36=>
 (if v35=true then(v36.bind fun v36o13=>some (v36o13,())).bind fun a37=>(Zbb a37.1).bind fun r=>some (some r)else some none).bind fun r37=>
 let v37:Option Bool:=r37.map fun x=>x.1
 (if v35=true then(v37.bind fun v37o14=>some (!v37o14):Option Bool).bind fun v=>some (some v)else some none).bind fun v38=>
 (if v34=true then some true else(v38).bind fun y=>some y:Option Bool).bind fun v39=>
 let v40:=!v39
 (if v40=true then some (some (v23.Takes))else some none).bind fun v41=>
 (if v40=true then(v41.bind fun v41o15=>some (v41o15==1099511627776):Option Bool).bind fun v=>some (some v)else some none).bind fun v42=>
 (if v39=true then some true else(v42).bind fun y=>some y:Option Bool).bind fun v43=>
 let v44:=!v43
 (if v44=true then some (some (decide (v20>0)))else some none).bind fun v45=>
 (if v44=true then v45 else some false:Option Bool).bind fun v46=>
 (if v46=true then some (some (v23.At))else some none).bind fun v47=>
 (if v46=true then some (some (v0.Calls))else some none).bind fun v48=>
 (if v46=true then some (some (IntKind.i64.wrap (v20 - 1)))else some none).bind fun v49=>
 (if v46=true then(v48.bind fun v48o16=>v49.bind fun v49o17=>ixN v48o16 v49o17:Option Zah).bind fun v=>some (some v)else some none).bind fun v50=>
 (if v46=true then(v50.bind fun v50o18=>some (v50o18.At):Option Int).bind fun v=>some (some v)else some none).bind fun v51=>
 (if v46=true then(v47.bind fun v47o19=>v51.bind fun v51o20=>some (decide (v47o19<v51o20)):Option Bool).bind fun v=>some (some v)else some none).bind fun v52=>
 (if v44=true then(v45.bind fun v45o21=>if v45o21=true then v52 else some false:Option Bool).bind fun v=>some (some v)else some none).bind fun v53=>
 (if v43=true then some true else(v53).bind fun y=>some y:Option Bool).bind fun v54=>
 if v54=true then(
 some (Sum.inr (false,())))
 else(
 let v55:=IntKind.i64.wrap (v20+1)
 some (Sum.inl (v55,()))))
 else(
 (ZdZ v0).bind fun r=>some (Sum.inr r))
   ) (0,())
def l33:Ch:=(33,⟨[.agg (.v 0) 3 (.g 0 0) []],pS8,pS0,pS1,false⟩,[(3304,⟨[30],[],[],[],[],[],[],0⟩),(3309,⟨[43],[],[],[],[],[],[],0⟩),(3316,⟨[78],[],[],[],[],[],[],0⟩),(3322,⟨[128],[],[],[],[],[],[],0⟩)])::l103
def Zdt (v0:Zaf):Option (Bool×Unit):=
 let v1:=v0.Acts
 let v2:=((List.length v1:Nat):Int)
 let v3:=decide (v2>200)
 let v4:=!v3
 (if v4=true then some (some (v0.Calls))else some none).bind fun v5=>
 (if v4=true then(v5.bind fun v5o1=>some (((List.length v5o1:Nat):Int)):Option Int).bind fun v=>some (some v)else some none).bind fun v6=>
 (if v4=true then(v6.bind fun v6o2=>some (decide (v6o2>100)):Option Bool).bind fun v=>some (some v)else some none).bind fun v7=>
 (if v3=true then some true else(v7).bind fun y=>some y:Option Bool).bind fun v8=>
 let v9:=!v8
 (if v9=true then some (some (v0.Asks))else some none).bind fun v10=>
 (if v9=true then(v10.bind fun v10o3=>some (((List.length v10o3:Nat):Int)):Option Int).bind fun v=>some (some v)else some none).bind fun v11=>
 (if v9=true then(v11.bind fun v11o4=>some (decide (v11o4>100)):Option Bool).bind fun v=>some (some v)else some none).bind fun v12=>
 (if v8=true then some true else(v12).bind fun y=>some y:Option Bool).bind fun v13=>
 if v13=true then(
 some (false,()))
 else(
 let v14:=v0.Acts
 let v15:=((List.length v14:Nat):Int)
 loopS (A:=Int×Unit) (fun s16=>
   let v16:=s16.1
 let v17:=decide (v16<v15)
 if v17=true then(
 (ixN v14 v16).bind fun v18=>
 let v19:=v18
 (Zb2 v19).bind fun r20=>
 let v20:=r20.1
 let v21:=!v20
 if v21=true then(
 some (Sum.inr (false,())))
 else(
 let v22:=v0.Acts
 (ctN v22 0 v16).bind fun v23=>
 let v24:=((List.length v23:Nat):Int)
 loopS (A:=Int×Unit) (fun s25=>
   let v25:=s25.1
 let v26:=decide (v25<v24)
 if v26=true then(
 (ixN v23 v25).bind fun v27=>
 let v28:=v27
 let v29:=v19.Unit_
 let v30:=v28.Unit_
 let v31:=(ByteArray.toList v29)==(ByteArray.toList v30)
 let v32:=v31
 (if v32=true then some (some (v19.Part))else some none).bind fun v33=>
 (if v32=true then some (some (v28.Part))else some none).bind fun v34=>
 (if v32=true then(v33.bind fun v33o5=>v34.bind fun v34o6=>some (v33o5==v34o6):Option Bool).bind fun v=>some (some v)else some none).bind fun v35=>
 (if v31=true then v35 else some false:Option Bool).bind fun v36=>
 let v37:=v36
 (if v37=true then some (some (v19.Num))else some none).bind fun v38=>
 (if v37=true then some (some (v28.Num))else some none).bind fun v39=>
 (if v37=true then(v38.bind fun v38o7=>v39.bind fun v39o8=>some (v38o7==v39o8):Option Bool).bind fun v=>some (some v)else some none).bind fun v40=>
 (if v36=true then v40 else some false:Option Bool).bind fun v41=>
 let v42:=v41
 (if v42=true then some (some (v19.Attempt))else some none).bind fun v43=>
 (if v42=true then some (some (v28.Attempt))else some none).bind fun v44=>
 (if v42=true then(v43.bind fun v43o9=>v44.bind fun v44o10=>some (v43o9==v44o10):Option Bool).bind fun v=>some (some v)else some none).bind fun v45=>
 (if v41=true then v45 else some false:Option Bool).bind fun v46=>
 if v46=true then(
 (some (Sum.inr (false,()))).bind fun r=>some (Sum.inr r))
 else(
 let v47:=IntKind.i64.wrap (v25+1)
 some (Sum.inl (v47,()))))
 else(
 (ZfR v16).bind fun r=>some (Sum.inr r))
   ) (0,())))
 else(
 (Zd0 v0).bind fun r=>some (Sum.inr r))
   ) (0,()))
def t33:List (Nat×TC U):=(33,⟨[.st 43],[.bool],fun(a:Zaf×Unit)=>Zdt a.1⟩)::t103
theorem c33:Chain Tryz.prog U tab base l33 t33:=Chain.cons tb cfok c103 1 rfl rfl rfl (hs:=[])
 (fun(e:Zaf×Unit)=>Zdt e.1) (by kernel_rfl) (fun _=>rfl)
def l62:Ch:=(62,⟨pS16,pS8,pS0,pS1,false⟩,[])::l33
def Zcp (v0:Zac):Option (Bool×Unit):=
 let v1:=v0.State
 let v2:=v1==2
 let v3:=!v2
 (if v3=true then some (some (v1==3))else some none).bind fun v4=>
 (if v2=true then some true else(v4).bind fun y=>some y:Option Bool).bind fun v5=>
 let v6:=!v5
 (if v6=true then some (some (v1==4))else some none).bind fun v7=>
 (if v5=true then some true else(v7).bind fun y=>some y:Option Bool).bind fun v8=>
 let v9:=!v8
 (if v9=true then some (some (v1==5))else some none).bind fun v10=>
 (if v8=true then some true else(v10).bind fun y=>some y:Option Bool).bind fun v11=>
 let v12:=!v11
 (if v12=true then some (some (v1==6))else some none).bind fun v13=>
 (if v11=true then some true else(v13).bind fun y=>some y:Option Bool).bind fun v14=>
 let v15:=!v14
 (if v15=true then some (some (v1==7))else some none).bind fun v16=>
 (if v14=true then some true else(v16).bind fun y=>some y:Option Bool).bind fun v17=>
 let v18:=IntKind.i64.wrap (v1+0)
 let v19:=v1==6
 (if v19=true then some 4 else some 0:Option Int).bind fun v20=>
 let v21:=v1==5
 (if v21=true then some 5 else some v20:Option Int).bind fun v22=>
 let v23:=v1==3
 (if v23=true then some 3 else some v22:Option Int).bind fun v24=>
 let v25:=v1==1
 (if v25=true then some 1 else some v24:Option Int).bind fun v26=>
 let v27:=v0.Main
 (Zbp v27).bind fun r28=>
 let v28:=r28.1
 let v29:=v28
 (if v29=true then some (some (!v17))else some none).bind fun v30=>
 (if v29=true then v30.bind fun v30o1=>some (!v30o1)else some false:Option Bool).bind fun v31=>
 (if v31=true then some (some (v0.Main.Part))else some none).bind fun v32=>
 (if v31=true then(v32.bind fun v32o2=>some (v32o2 != 2):Option Bool).bind fun v=>some (some v)else some none).bind fun v33=>
 (if v29=true then(v30.bind fun v30o3=>if v30o3=true then some true else(v33).bind fun y=>some y:Option Bool).bind fun v=>some (some v)else some none).bind fun v34=>
 (if v29=true then v34.bind fun v34o4=>some (!v34o4)else some false:Option Bool).bind fun v35=>
 (if v35=true then some (some (v0.Main.Told))else some none).bind fun v36=>
 (if v35=true then(v36.bind fun v36o5=>some (decide (v36o5≥0)):Option Bool).bind fun v=>some (some v)else some none).bind fun v37=>
 (if v35=true then some (some (v1==7))else some none).bind fun v38=>
 (if v35=true then(v37.bind fun v37o6=>v38.bind fun v38o7=>some (!(v37o6==v38o7)):Option Bool).bind fun v=>some (some v)else some none).bind fun v39=>
 (if v29=true then(v34.bind fun v34o8=>if v34o8=true then some true else(v39).bind fun y=>some y:Option Bool).bind fun v=>some (some v)else some none).bind fun v40=>
 (if v28=true then v40 else some false:Option Bool).bind fun v41=>
 let v42:=!v41
 (if v42=true then some (some (v0.Main))else some none).bind fun v43=>
 (if v42=true then(v43.bind fun v43o9=>some (v43o9,())).bind fun a44=>(Zbp a44.1).bind fun r=>some (some r)else some none).bind fun r44=>
 let v44:Option Bool:=r44.map fun x=>x.1
 (if v42=true then(v44.bind fun v44o10=>some (!v44o10):Option Bool).bind fun v=>some (some v)else some none).bind fun v45=>
 (if v42=true then v45 else some false:Option Bool).bind fun v46=>
 (if v46=true then some (some (v1==7))else some none).bind fun v47=>
 (if v42=true then(v45.bind fun v45o11=>if v45o11=true then v47 else some false:Option Bool).bind fun v=>some (some v)else some none).bind fun v48=>
 (if v41=true then some true else(v48).bind fun y=>some y:Option Bool).bind fun v49=>
 if v49=true then(
 some (false,()))
 else(
 let v50:=v0.Aux
 (Zbp v50).bind fun r51=>
 let v51:=r51.1
 let v52:=decide (v26>0)
 let v53:=!(v51==v52)
 let v54:=!v53
 (if v54=true then some (some (v0.Aux))else some none).bind fun v55=>
 (if v54=true then(v55.bind fun v55o12=>some (v55o12,())).bind fun a56=>(Zbp a56.1).bind fun r=>some (some r)else some none).bind fun r56=>
 let v56:Option Bool:=r56.map fun x=>x.1
 (if v54=true then v56 else some false:Option Bool).bind fun v57=>
 (if v57=true then some (some (v0.Aux.Part))else some none).bind fun v58=>
 (if v57=true then(v58.bind fun v58o13=>some (v58o13 != v26):Option Bool).bind fun v=>some (some v)else some none).bind fun v59=>
 (if v54=true then(v56.bind fun v56o14=>if v56o14=true then v59 else some false:Option Bool).bind fun v=>some (some v)else some none).bind fun v60=>
 (if v53=true then some true else(v60).bind fun y=>some y:Option Bool).bind fun v61=>
 if v61=true then(
 some (false,()))
 else(
 let v62:=v0.Serves
 let v63:=((List.length v62:Nat):Int)
 let v64:=decide (v63>0)
 let v65:=v64
 (if v65=true then some (some (v1==0))else some none).bind fun v66=>
 (if v65=true then v66.bind fun v66o15=>some (!v66o15)else some false:Option Bool).bind fun v67=>
 (if v67=true then some (some (v1==8))else some none).bind fun v68=>
 (if v65=true then(v66.bind fun v66o16=>if v66o16=true then some true else(v68).bind fun y=>some y:Option Bool).bind fun v=>some (some v)else some none).bind fun v69=>
 (if v65=true then v69.bind fun v69o17=>some (!v69o17)else some false:Option Bool).bind fun v70=>
 (if v70=true then some (some (v1==9))else some none).bind fun v71=>
 (if v65=true then(v69.bind fun v69o18=>if v69o18=true then some true else(v71).bind fun y=>some y:Option Bool).bind fun v=>some (some v)else some none).bind fun v72=>
 (if v65=true then v72.bind fun v72o19=>some (!v72o19)else some false:Option Bool).bind fun v73=>
 (if v73=true then some (some (v1==1))else some none).bind fun v74=>
 (if v65=true then(v72.bind fun v72o20=>if v72o20=true then some true else(v74).bind fun y=>some y:Option Bool).bind fun v=>some (some v)else some none).bind fun v75=>
 (if v64=true then v75 else some false:Option Bool).bind fun v76=>
 if v76=true then(
 some (false,()))
 else(
 let v77:=v0.Begins
 let v78:=((List.length v77:Nat):Int)
 let v79:=decide (v78>0)
 let v80:=v79
 (if v80=true then(Zc6 v0).bind fun r=>some (some r)else some none).bind fun r81=>
 let v81:Option Bool:=r81.map fun x=>x.1
 (if v80=true then(v81.bind fun v81o21=>some (!v81o21):Option Bool).bind fun v=>some (some v)else some none).bind fun v82=>
 (if v79=true then v82 else some false:Option Bool).bind fun v83=>
 if v83=true then(
 let v84:=v0.Begins
 let v85:=v0.Begins
 let v86:=IntKind.i64.wrap (v78 - 1)
 (ixN v85 v86).bind fun v87=>
 let v88:=v87
 let v89:=v0.U.Every
 (Zb6 v84 v88 v89).bind fun r90=>
 let v90:=r90.1
 let v91:=((List.length v90:Nat):Int)
 let v92:=v0.U.Burst
 let v93:=max 1 v92
 let v94:=decide (v91≤v93)
 some (v94,()))
 else(
 some (true,())))))
def t62:List (Nat×TC U):=(62,⟨[.st 33],[.bool],fun(a:Zac×Unit)=>Zcp a.1⟩)::t33
theorem c62:Chain Tryz.prog U tab base l62 t62:=Chain.cons tb cfok c33 1 rfl rfl rfl (hs:=[])
 (fun(e:Zac×Unit)=>Zcp e.1) (by kernel_rfl) (fun _=>rfl)
def l30:Ch:=(30,⟨pS16,pS8,pS0,pS1,false⟩,[])::l62
def ZbF (v0:Zac):Option (Bool×Unit):=
 let v1:=v0.State
 let v2:=decide (v1<0)
 let v3:=!v2
 (if v3=true then some (some (v0.State))else some none).bind fun v4=>
 (if v3=true then(v4.bind fun v4o1=>some (decide (v4o1>9)):Option Bool).bind fun v=>some (some v)else some none).bind fun v5=>
 (if v2=true then some true else(v5).bind fun y=>some y:Option Bool).bind fun v6=>
 let v7:=!v6
 (if v7=true then some (some (v0.Result))else some none).bind fun v8=>
 (if v7=true then(v8.bind fun v8o2=>some (decide (v8o2<0)):Option Bool).bind fun v=>some (some v)else some none).bind fun v9=>
 (if v6=true then some true else(v9).bind fun y=>some y:Option Bool).bind fun v10=>
 let v11:=!v10
 (if v11=true then some (some (v0.Result))else some none).bind fun v12=>
 (if v11=true then(v12.bind fun v12o3=>some (decide (v12o3>4)):Option Bool).bind fun v=>some (some v)else some none).bind fun v13=>
 (if v10=true then some true else(v13).bind fun y=>some y:Option Bool).bind fun v14=>
 let v15:=!v14
 (if v15=true then some (some (v0.Attempt))else some none).bind fun v16=>
 (if v15=true then(v16.bind fun v16o4=>some (decide (v16o4<0)):Option Bool).bind fun v=>some (some v)else some none).bind fun v17=>
 (if v14=true then some true else(v17).bind fun y=>some y:Option Bool).bind fun v18=>
 let v19:=!v18
 (if v19=true then some (some (v0.Rows))else some none).bind fun v20=>
 (if v19=true then(v20.bind fun v20o5=>some (decide (v20o5<0)):Option Bool).bind fun v=>some (some v)else some none).bind fun v21=>
 (if v18=true then some true else(v21).bind fun y=>some y:Option Bool).bind fun v22=>
 if v22=true then(
 some (false,()))
 else(
 let v23:=v0.U.Kind
 let v24:=v23==1
 if v24=true then(
 (Zcp v0).bind fun r25=>
 let v25:=r25.1
 let v26:=v25
 (if v26=true then some (some (v0.Waits))else some none).bind fun v27=>
 (if v26=true then(v27.bind fun v27o6=>some (((List.length v27o6:Nat):Int)):Option Int).bind fun v=>some (some v)else some none).bind fun v28=>
 (if v26=true then(v28.bind fun v28o7=>some (v28o7==0):Option Bool).bind fun v=>some (some v)else some none).bind fun v29=>
 (if v25=true then v29 else some false:Option Bool).bind fun v30=>
 some (v30,()))
 else(
 let v25:=v0.State
 let v26:=v25==0
 let v27:=!v26
 (if v27=true then some (some (v0.State))else some none).bind fun v28=>
 (if v27=true then(v28.bind fun v28o8=>some (v28o8==4):Option Bool).bind fun v=>some (some v)else some none).bind fun v29=>
 (if v26=true then some true else(v29).bind fun y=>some y:Option Bool).bind fun v30=>
 let v31:=!v30
 (if v31=true then some (some (v0.State))else some none).bind fun v32=>
 (if v31=true then(v32.bind fun v32o9=>some (v32o9==9):Option Bool).bind fun v=>some (some v)else some none).bind fun v33=>
 (if v30=true then some true else(v33).bind fun y=>some y:Option Bool).bind fun v34=>
 let v35:=v34
 (if v35=true then some (some (v0.Main))else some none).bind fun v36=>
 (if v35=true then(v36.bind fun v36o10=>some (v36o10,())).bind fun a37=>(Zbp a37.1).bind fun r=>some (some r)else some none).bind fun r37=>
 let v37:Option Bool:=r37.map fun x=>x.1
 (if v35=true then(v37.bind fun v37o11=>some (!v37o11):Option Bool).bind fun v=>some (some v)else some none).bind fun v38=>
 (if v34=true then v38 else some false:Option Bool).bind fun v39=>
 let v40:=v39
 (if v40=true then some (some (v0.Aux))else some none).bind fun v41=>
 (if v40=true then(v41.bind fun v41o12=>some (v41o12,())).bind fun a42=>(Zbp a42.1).bind fun r=>some (some r)else some none).bind fun r42=>
 let v42:Option Bool:=r42.map fun x=>x.1
 (if v40=true then(v42.bind fun v42o13=>some (!v42o13):Option Bool).bind fun v=>some (some v)else some none).bind fun v43=>
 (if v39=true then v43 else some false:Option Bool).bind fun v44=>
 let v45:=v44
 (if v45=true then some (some (v0.Serves))else some none).bind fun v46=>
 (if v45=true then(v46.bind fun v46o14=>some (((List.length v46o14:Nat):Int)):Option Int).bind fun v=>some (some v)else some none).bind fun v47=>
 (if v45=true then(v47.bind fun v47o15=>some (v47o15==0):Option Bool).bind fun v=>some (some v)else some none).bind fun v48=>
 (if v44=true then v48 else some false:Option Bool).bind fun v49=>
 let v50:=v49
 (if v50=true then some (some (v0.U.Kind))else some none).bind fun v51=>
 (if v50=true then(v51.bind fun v51o16=>some (v51o16==2):Option Bool).bind fun v=>some (some v)else some none).bind fun v52=>
 (if v50=true then v52.bind fun v52o17=>some (!v52o17)else some false:Option Bool).bind fun v53=>
 (if v53=true then some (some (v0.Waits))else some none).bind fun v54=>
 (if v53=true then(v54.bind fun v54o18=>some (((List.length v54o18:Nat):Int)):Option Int).bind fun v=>some (some v)else some none).bind fun v55=>
 (if v53=true then(v55.bind fun v55o19=>some (v55o19==0):Option Bool).bind fun v=>some (some v)else some none).bind fun v56=>
 (if v50=true then(v52.bind fun v52o20=>if v52o20=true then some true else(v56).bind fun y=>some y:Option Bool).bind fun v=>some (some v)else some none).bind fun v57=>
 (if v49=true then v57 else some false:Option Bool).bind fun v58=>
 some (v58,())))
def t30:List (Nat×TC U):=(30,⟨[.st 33],[.bool],fun(a:Zac×Unit)=>ZbF a.1⟩)::t62
theorem c30:Chain Tryz.prog U tab base l30 t30:=Chain.cons tb cfok c62 1 rfl rfl rfl (hs:=[])
 (fun(e:Zac×Unit)=>ZbF e.1) (by kernel_rfl) (fun _=>rfl)
end
end Go.AW.M

namespace Go.AW.M
open Go.RowKit Go.Proofs
set_option maxRecDepth 100000
noncomputable section
def l21:Ch:=(21,⟨pS19,pS20,pS0,pS1,false⟩,[])::l30
def Zdu (v0:Zaf)(v1:Zac)(v2:Int):Option (Bool×Unit):=
 let v3:=v1.U
 let v4:=v3.Pre
 let v5:=((List.length v4:Nat):Int)
 let v6:=v3.Start
 let v7:=((List.length v6:Nat):Int)
 let v8:=IntKind.i64.wrap (v5+v7)
 let v9:=v3.Post
 let v10:=((List.length v9:Nat):Int)
 let v11:=IntKind.i64.wrap (v8+v10)
 let v12:=v3.Stop
 let v13:=((List.length v12:Nat):Int)
 let v14:=IntKind.i64.wrap (v11+v13)
 let v15:=v3.Reload
 let v16:=((List.length v15:Nat):Int)
 let v17:=IntKind.i64.wrap (v14+v16)
 let v18:=v3.Ports
 let v19:=((List.length v18:Nat):Int)
 let v20:=IntKind.i64.wrap (v17+v19)
 let v21:=v3.Boot
 let v22:=((List.length v21:Nat):Int)
 let v23:=IntKind.i64.wrap (v20+v22)
 let v24:=v3.Active
 let v25:=((List.length v24:Nat):Int)
 let v26:=IntKind.i64.wrap (v23+v25)
 let v27:=v3.Idle
 let v28:=((List.length v27:Nat):Int)
 let v29:=IntKind.i64.wrap (v26+v28)
 (Zdt v0).bind fun r30=>
 let v30:=r30.1
 let v31:=v30
 (if v31=true then(Zbo v2).bind fun r=>some (some r)else some none).bind fun r32=>
 let v32:Option Bool:=r32.map fun x=>x.1
 (if v30=true then v32 else some false:Option Bool).bind fun v33=>
 let v34:=v33
 (if v34=true then(ZbF v1).bind fun r=>some (some r)else some none).bind fun r35=>
 let v35:Option Bool:=r35.map fun x=>x.1
 (if v33=true then v35 else some false:Option Bool).bind fun v36=>
 let v37:=v36
 (if v37=true then(Zc8 v1).bind fun r=>some (some r)else some none).bind fun r38=>
 let v38:Option Bool:=r38.map fun x=>x.1
 (if v36=true then v38 else some false:Option Bool).bind fun v39=>
 let v40:=v39
 (if v40=true then some (some (decide (v29≤200)))else some none).bind fun v41=>
 (if v39=true then v41 else some false:Option Bool).bind fun v42=>
 let v43:=v42
 (if v43=true then some (some (v3.Calendar))else some none).bind fun v44=>
 (if v43=true then(v44.bind fun v44o1=>some (((List.length v44o1:Nat):Int)):Option Int).bind fun v=>some (some v)else some none).bind fun v45=>
 (if v43=true then(v45.bind fun v45o2=>some (decide (v45o2≤4)):Option Bool).bind fun v=>some (some v)else some none).bind fun v46=>
 (if v42=true then v46 else some false:Option Bool).bind fun v47=>
 let v48:=v47
 (if v48=true then some (some (v1.Serves))else some none).bind fun v49=>
 (if v48=true then(v49.bind fun v49o3=>some (((List.length v49o3:Nat):Int)):Option Int).bind fun v=>some (some v)else some none).bind fun v50=>
 (if v48=true then(v50.bind fun v50o4=>some (decide (v50o4≤64)):Option Bool).bind fun v=>some (some v)else some none).bind fun v51=>
 (if v47=true then v51 else some false:Option Bool).bind fun v52=>
 let v53:=v52
 (if v53=true then some (some (v1.Waits))else some none).bind fun v54=>
 (if v53=true then(v54.bind fun v54o5=>some (((List.length v54o5:Nat):Int)):Option Int).bind fun v=>some (some v)else some none).bind fun v55=>
 (if v53=true then(v55.bind fun v55o6=>some (decide (v55o6≤64)):Option Bool).bind fun v=>some (some v)else some none).bind fun v56=>
 (if v52=true then v56 else some false:Option Bool).bind fun v57=>
 some (v57,())
def t21:List (Nat×TC U):=(21,⟨[.st 43,.st 33,.ik .i64],[.bool],fun(a:Zaf×Zac×Int×Unit)=>Zdu a.1 a.2.1 a.2.2.1⟩)::t30
theorem c21:Chain Tryz.prog U tab base l21 t21:=Chain.cons tb cfok c30 3 rfl rfl rfl (hs:=[])
 (fun(e:Int×Zac×Zaf×Unit)=>Zdu e.2.2.1 e.2.1 e.1) (by kernel_rfl) (fun _=>rfl)
def l107:Ch:=(107,⟨[.ptr 0 0,.one (.v 0) (some (.w 1)),.one (.v 1) (some (.w 2))],⟨3,[⟨96,.v 2,71,(.g 0 0),[]⟩],3,1,[(.b 0 58,1000105),(.b 0 59,1000105),(.b 0 66,62),(.b 0 67,92),(.b 0 68,105)],[],[],[(.b 0 0,1,0),(.w 2,1,2),(.w 1,1,1)],[],[]⟩,pS7,[],true⟩,[])::l21
def Zan (v0:Int)(v1:ByteArray)(v2:Zaa):Option (Zaa×Unit):=
 let v3:=v2.out.Rows
 let v4:=v2.now
 let v5:=v2.c.Rows
 let v6:=IntKind.i64.wrap (v5+1)
 let v7:=v2.c.U.Name
 let v8:Zaq:={ z0 with Time:=v4 }
 let v9:Zaq:={ v8 with Unit_:=v7 }
 let v10:Zaq:={ v9 with N:=v6 }
 let v11:Zaq:={ v10 with Kind:=v0 }
 let v12:Zaq:={ v11 with Text:=v1 }
 let v13:=[v12]
 (apN 56 v3 v13).bind fun v14=>
 let v15:Zaa:={ v2 with c:={ v2.c with Rows:=v6 } }
 let v16:Zaa:={ v15 with out:={ v15.out with Rows:=v14 } }
 some (v16,())
def t107:List (Nat×TC U):=(107,⟨[.ik .i64,.str,.st 96],[.st 96],fun(a:Int×ByteArray×Zaa×Unit)=>Zan a.1 a.2.1 a.2.2.1⟩)::t21
theorem c107:Chain Tryz.prog U tab base l107 t107:=Chain.cons tb cfok c21 3 rfl rfl rfl (hs:=[hS8])
 (fun(e:Zaa×ByteArray×Int×Unit)=>Zan e.2.2.1 e.2.1 e.1) (by kernel_rfl) (fun _=>rfl)
def l106:Ch:=(106,⟨pS29,pS38,pS7,[],true⟩,[])::l107
def ZaE (v0:Int)(v1:Zaa):Option (Zaa×Unit):=
 let v2:=v1.now
 let v3:Zaa:={ v1 with c:={ v1.c with State:=v0 } }
 let v4:Zaa:={ v3 with c:={ v3.c with Since:=v2 } }
 some (v4,())
def t106:List (Nat×TC U):=(106,⟨[.ik .i64,.st 96],[.st 96],fun(a:Int×Zaa×Unit)=>ZaE a.1 a.2.1⟩)::t107
theorem c106:Chain Tryz.prog U tab base l106 t106:=Chain.cons tb cfok c107 2 rfl rfl rfl (hs:=[])
 (fun(e:Zaa×Int×Unit)=>ZaE e.2.1 e.1) (by kernel_rfl) (fun _=>rfl)
def l208:Ch:=(208,⟨pS29,pS38,pS7,[],true⟩,[])::l106
def ZbR (v0:ByteArray)(v1:Zaa):Option (Zaa×Unit):=
 (ZaE (4) v1).bind fun r2=>
 let v2:=r2.1
 let v3:Zaa:={ v2 with c:={ v2.c with Over:=(1099511627776:Int) } }
 (Zan (2) v0 v3).bind fun r4=>
 let v4:=r4.1
 some (v4,())
def t208:List (Nat×TC U):=(208,⟨[.str,.st 96],[.st 96],fun(a:ByteArray×Zaa×Unit)=>ZbR a.1 a.2.1⟩)::t106
theorem c208:Chain Tryz.prog U tab base l208 t208:=Chain.cons tb cfok c106 2 rfl rfl rfl (hs:=[])
 (fun(e:Zaa×ByteArray×Unit)=>ZbR e.2.1 e.1) (by kernel_rfl) (fun _=>rfl)
def Zcb (v7:Zaa):Option (Zaa×Unit):=
 let v19:Zaa:={ v7 with c:={ v7.c with Serves:=([]:List Zao) } }
 (ZaE (9) v19).bind fun r20=>
 let v20:=r20.1
 (Zan (2) ((⟨#[102,97,105,108,101,100]⟩:ByteArray)) v20).bind fun r21=>
 let v21:=r21.1
 let v22:=v21.out.Failed
 let v23:=!v22
 let v24:=v22
 let v25:Zaa:={ v21 with out:={ v21.out with Failed:=true } }
 some (v25,())
def Zc1 (v7:Zaa):Option (Zaa×Unit):=
 let v9:=v7.c.U
 let v10:=v7.c.Result
 let v11:=v7.now
 (ZgE v9 v10 v11).bind fun r12=>
 let v12:=r12.1
 let v13:=r12.2.1
 let v14:=v7.c.Wish
 let v15:=v14
 (if v15=true then some (some (v7.c.Result))else some none).bind fun v16=>
 (if v15=true then(v16.bind fun v16o1=>some (v16o1==3):Option Bool).bind fun v=>some (some v)else some none).bind fun v17=>
 (if v14=true then v17 else some false:Option Bool).bind fun v18=>
 if v18=true then(
 Zcb v7)
 else(
 let v19:=v7.c.Wish
 let v20:=!v19
 let v21:=v20
 (if v21=true then some (some (!v13))else some none).bind fun v22=>
 (if v20=true then v22 else some false:Option Bool).bind fun v23=>
 let v24:=v23
 (if v24=true then some (some (v7.c.Result))else some none).bind fun v25=>
 (if v24=true then(v25.bind fun v25o2=>some (v25o2 != 0):Option Bool).bind fun v=>some (some v)else some none).bind fun v26=>
 (if v23=true then v26 else some false:Option Bool).bind fun v27=>
 if v27=true then(
 Zcb v7)
 else(
 let v28:=v7.c.Wish
 let v29:=!v28
 let v30:=v29
 (if v29=true then some v13 else some false:Option Bool).bind fun v31=>
 if v31=true then(
 let v32:Zaa:={ v7 with c:={ v7.c with Serves:=([]:List Zao) } }
 let v33:Zaa:={ v32 with c:={ v32.c with Over:=v12 } }
 (ZaE (8) v33).bind fun r34=>
 let v34:=r34.1
 (Zan (2) ((⟨#[112,97,117,115,101]⟩:ByteArray)) v34).bind fun r35=>
 let v35:=r35.1
 let v36:=v35.out.Failed
 let v37:=!v36
 let v38:=v36
 let v39:Zaa:={ v35 with out:={ v35.out with Failed:=v36 } }
 some (v39,()))
 else(
 let v32:Zaa:={ v7 with c:={ v7.c with Serves:=([]:List Zao) } }
 (ZaE (0) v32).bind fun r33=>
 let v33:=r33.1
 (Zan (2) ((⟨#[100,111,119,110]⟩:ByteArray)) v33).bind fun r34=>
 let v34:=r34.1
 let v35:=v34.out.Failed
 let v36:=!v35
 let v37:=v35
 let v38:Zaa:={ v34 with out:={ v34.out with Failed:=v35 } }
 some (v38,()))))
def l153:Ch:=(153,⟨pS3,pS14,pS11,[],true⟩,[(15302,⟨[28],[0],[],[(0,(59,1000105)),(0,(68,105)),(0,(66,62)),(0,(67,92))],[],[(0,58)],[],0⟩)])::l208
def ZaR (v0:Zaa):Option (Zaa×Unit):=
 let v1:=v0.c.Serves
 let v2:=((List.length v1:Nat):Int)
 let v3:Zaa:={ v0 with c:={ v0.c with Main:=z3 } }
 let v4:Zaa:={ v3 with c:={ v3.c with Aux:=z3 } }
 let v5:Zaa:={ v4 with c:={ v4.c with Over:=(1099511627776:Int) } }
 loopS (A:=Int×Zaa×Unit) (fun s6=>
   let v6:=s6.1
   let v7:=s6.2.1
 let v8:=decide (v6<v2)
 if v8=true then(
 (ixN v1 v6).bind fun v9=>
 let v10:=v9
 let v11:=v7.out.Back
 let v12:Zao:={ v10 with Until:=(0:Int) }
 let v13:=[v12]
 (apN 48 v11 v13).bind fun v14=>
 let v15:=IntKind.i64.wrap (v6+1)
 let v16:Zaa:={ v7 with out:={ v7.out with Back:=v14 } }
 some (Sum.inl (v15,v16,())))
 else(
 (Zc1 v7).bind fun r=>some (Sum.inr r))
   ) (0,v5,())
def t153:List (Nat×TC U):=(153,⟨[.st 96],[.st 96],fun(a:Zaa×Unit)=>ZaR a.1⟩)::t208
theorem c153:Chain Tryz.prog U tab base l153 t153:=Chain.cons tb cfok c208 1 rfl rfl rfl (hs:=[hS3,hS3,hS10,hS10,hS10,hS10])
 (fun(e:Zaa×Unit)=>ZaR e.1) (by kernel_rfl) (fun _=>rfl)
def l110:Ch:=(110,⟨pS3,pS14,pS11,[],true⟩,[])::l153
def ZaL (v0:Zaa):Option (Zaa×Unit):=
 let v1:=v0.c.Main.Part
 let v2:=decide (v1≤0)
 if v2=true then(
 let v3:Zaa:={ v0 with c:={ v0.c with Aux:=z3 } }
 (ZaR v3).bind fun r4=>
 let v4:=r4.1
 some (v4,()))
 else(
 let v3:Zaa:={ v0 with c:={ v0.c with Aux:=z3 } }
 (ZaE (7) v3).bind fun r4=>
 let v4:=r4.1
 let v5:=v4.c.Main
 let v6:=v4.now
 (ZhG v5 v6).bind fun r7=>
 let v7:=r7.1
 let v8:=v4.now
 let v9:=v4.c.U.Down
 (ZcZ v8 v9).bind fun r10=>
 let v10:=r10.1
 let v11:Zaa:={ v4 with c:={ v4.c with Main:=v7 } }
 let v12:Zaa:={ v11 with c:={ v11.c with Over:=v10 } }
 (Zan (2) ((⟨#[101,110,100,115]⟩:ByteArray)) v12).bind fun r13=>
 let v13:=r13.1
 some (v13,()))
def t110:List (Nat×TC U):=(110,⟨[.st 96],[.st 96],fun(a:Zaa×Unit)=>ZaL a.1⟩)::t153
theorem c110:Chain Tryz.prog U tab base l110 t110:=Chain.cons tb cfok c153 1 rfl rfl rfl (hs:=[hS3,hS3])
 (fun(e:Zaa×Unit)=>ZaL e.1) (by kernel_rfl) (fun _=>rfl)
def l203:Ch:=(203,⟨pS3,pS14,pS11,[],true⟩,[])::l110
def ZbS (v0:Zaa):Option (Zaa×Unit):=
 let v1:=v0.c.U.Type_
 let v2:=v1==2
 let v3:=v2
 (if v3=true then some (some (v0.c.U.Remain))else some none).bind fun v4=>
 (if v3=true then(v4.bind fun v4o1=>some (!v4o1):Option Bool).bind fun v=>some (some v)else some none).bind fun v5=>
 (if v2=true then v5 else some false:Option Bool).bind fun v6=>
 if v6=true then(
 (ZaR v0).bind fun r7=>
 let v7:=r7.1
 some (v7,()))
 else(
 (ZbR ((⟨#[117,112]⟩:ByteArray)) v0).bind fun r7=>
 let v7:=r7.1
 some (v7,()))
def t203:List (Nat×TC U):=(203,⟨[.st 96],[.st 96],fun(a:Zaa×Unit)=>ZbS a.1⟩)::t110
theorem c203:Chain Tryz.prog U tab base l203 t203:=Chain.cons tb cfok c110 1 rfl rfl rfl (hs:=[])
 (fun(e:Zaa×Unit)=>ZbS e.1) (by kernel_rfl) (fun _=>rfl)
def l190:Ch:=(190,⟨pS3,pS14,pS11,[],true⟩,[])::l203
def Zbj (v0:Zaa):Option (Zaa×Unit):=
 let v1:=v0.c.U.Post
 let v2:=((List.length v1:Nat):Int)
 let v3:=v2==0
 if v3=true then(
 (ZbS v0).bind fun r4=>
 let v4:=r4.1
 some (v4,()))
 else(
 (ZaE (3) v0).bind fun r4=>
 let v4:=r4.1
 let v5:=v4.now
 (ZdI (3) (0) v5).bind fun r6=>
 let v6:=r6.1
 let v7:Zaa:={ v4 with c:={ v4.c with Aux:=v6 } }
 some (v7,()))
def t190:List (Nat×TC U):=(190,⟨[.st 96],[.st 96],fun(a:Zaa×Unit)=>Zbj a.1⟩)::t203
theorem c190:Chain Tryz.prog U tab base l190 t190:=Chain.cons tb cfok c203 1 rfl rfl rfl (hs:=[])
 (fun(e:Zaa×Unit)=>Zbj e.1) (by kernel_rfl) (fun _=>rfl)
end
end Go.AW.M

namespace Go.AW.M
open Go.RowKit Go.Proofs
set_option maxRecDepth 100000
noncomputable section
def l152:Ch:=(152,⟨pS3,pS12,pS7,[],true⟩,[])::l190
def ZbD (v0:Zaa):Option (Zaa×Unit):=
 (ZaE (2) v0).bind fun r1=>
 let v1:=r1.1
 let v2:=v1.now
 (ZdI (2) (0) v2).bind fun r3=>
 let v3:=r3.1
 let v4:=v1.c.U.Type_
 let v5:=v4==1
 if v5=true then(
 let v6:Zaa:={ v1 with c:={ v1.c with Main:=v3 } }
 (Zbj v6).bind fun r7=>
 let v7:=r7.1
 some (v7,()))
 else(
 let v6:Zaa:={ v1 with c:={ v1.c with Main:=v3 } }
 some (v6,()))
def t152:List (Nat×TC U):=(152,⟨[.st 96],[.st 96],fun(a:Zaa×Unit)=>ZbD a.1⟩)::t190
theorem c152:Chain Tryz.prog U tab base l152 t152:=Chain.cons tb cfok c190 1 rfl rfl rfl (hs:=[])
 (fun(e:Zaa×Unit)=>ZbD e.1) (by kernel_rfl) (fun _=>rfl)
def l109:Ch:=(109,⟨pS3,pS12,pS7,[],true⟩,[])::l152
def ZbB (v0:Zaa):Option (Zaa×Unit):=
 let v1:=v0.c.U.Pre
 let v2:=((List.length v1:Nat):Int)
 let v3:=v2==0
 if v3=true then(
 (ZbD v0).bind fun r4=>
 let v4:=r4.1
 some (v4,()))
 else(
 (ZaE (1) v0).bind fun r4=>
 let v4:=r4.1
 let v5:=v4.now
 (ZdI (1) (0) v5).bind fun r6=>
 let v6:=r6.1
 let v7:Zaa:={ v4 with c:={ v4.c with Aux:=v6 } }
 some (v7,()))
def t109:List (Nat×TC U):=(109,⟨[.st 96],[.st 96],fun(a:Zaa×Unit)=>ZbB a.1⟩)::t152
theorem c109:Chain Tryz.prog U tab base l109 t109:=Chain.cons tb cfok c152 1 rfl rfl rfl (hs:=[])
 (fun(e:Zaa×Unit)=>ZbB e.1) (by kernel_rfl) (fun _=>rfl)
def ZhH (v23:Int)(v20:List Int)(v19:Int):Option ((Int×(List Int)×Unit)⊕((List Int)×Unit)):=
 let v25:=[v23]
 (apN 8 v20 v25).bind fun v26=>
 let v27:=IntKind.i64.wrap (v19+1)
 some (Sum.inl (v27,v26,()))
def ZhI (v0:List Int)(v19:Int)(v1:Int)(v2:Int)(v20:List Int):Option ((Int×(List Int)×Unit)⊕((List Int)×Unit)):=
 (ixN v0 v19).bind fun v22=>
 let v23:=v22
 (Zgj v23 v1 v2).bind fun r24=>
 let v24:=r24.1
 if v24=true then(
 ZhH v23 v20 v19)
 else(
 let v25:=IntKind.i64.wrap (v19+1)
 some (Sum.inl (v25,v20,())))
def Zd1 (v0:List Int)(v1:Int)(v2:Int):Option ((List Int)×Unit):=
 let v18:=((List.length v0:Nat):Int)
 loopS (A:=Int×(List Int)×Unit) (fun s19=>
   let v19:=s19.1
   let v20:=s19.2.1
 let v21:=decide (v19<v18)
 if v21=true then(
 ZhI v0 v19 v1 v2 v20)
 else(
 some (Sum.inr (v20,())))
   ) (0,([]:List Int),())
def ZhJ (v9:Int)(v0:List Int)(v1:Int)(v2:Int):Option ((List Int)×Unit):=
 let v15:=decide (v9≥0)
 let v16:=!v15
 let v17:=!v16
 if v17=true then(
 some (([]:List Int),()))
 else(
 Zd1 v0 v1 v2)
def l104:Ch:=(104,⟨pS21,pS18,⟨[0],[],[(0,3)],[],[],[],[],0⟩,pS1,false⟩,[(21702,⟨[8],[],[],[],[],[],[],0⟩),(10405,⟨[18,7],[],[(7,3)],[],[],[],[],0⟩)])::l109
def Zdy (v0:List Int)(v1:Int)(v2:Int):Option ((List Int)×Unit):=
 (ZdR v1).bind fun r3=>
 let v3:=r3.1
 let v4:=v3
 (if v4=true then(Zfx v2).bind fun r=>some (some r)else some none).bind fun r5=>
 let v5:Option Bool:=r5.map fun x=>x.1
 (if v3=true then v5 else some false:Option Bool).bind fun v6=>
 let v7:=v6
 if v6=true then(
 let v8:=((List.length v0:Nat):Int)
 loopS (A:=Int×Unit) (fun s9=>
   let v9:=s9.1
 let v10:=decide (v9<v8)
 if v10=true then(
 (ixN v0 v9).bind fun v11=>
 let v12:=v11
 (ZdR v12).bind fun r13=>
 let v13:=r13.1
 let v14:=!v13
 if v14=true then(
 (ZhJ v9 v0 v1 v2).bind fun r=>some (Sum.inr r))
 else(
 let v15:=IntKind.i64.wrap (v9+1)
 some (Sum.inl (v15,()))))
 else(
 (Zd1 v0 v1 v2).bind fun r=>some (Sum.inr r))
   ) (0,()))
 else(
 some (([]:List Int),()))
def t104:List (Nat×TC U):=(104,⟨[.li (.ik .i64),.ik .i64,.ik .i64],[.li (.ik .i64)],fun(a:(List Int)×Int×Int×Unit)=>Zdy a.1 a.2.1 a.2.2.1⟩)::t109
theorem c104:Chain Tryz.prog U tab base l104 t104:=Chain.cons tb cfok c109 3 rfl rfl rfl (hs:=[hS5,hS5,hS5,hS5])
 (fun(e:Int×Int×(List Int)×Unit)=>Zdy e.2.2.1 e.2.1 e.1) (by kernel_rfl) (fun _=>rfl)
def ZfS (v0:List Int)(v1:Int)(v2:Int)(v3:Int):Option (Bool×Unit):=
 (Zdy v0 v1 v2).bind fun r19=>
 let v19:=r19.1
 let v20:=((List.length v19:Nat):Int)
 let v21:=decide (v20<v3)
 some (v21,())
def ZlA (v10:Int)(v0:List Int)(v1:Int)(v2:Int)(v3:Int):Option (Bool×Unit):=
 let v16:=decide (v10≥0)
 let v17:=!v16
 let v18:=v17
 if v17=true then(
 ZfS v0 v1 v2 v3)
 else(
 some (false,()))
def l105:Ch:=(105,⟨[.one (.v 0) (some (.w 1)),.one (.v 1) (some (.w 2)),.one (.v 2) (some (.w 3)),.one (.v 3) (some (.w 4))],pS27,pS0,pS1,false⟩,[(21702,⟨[8],[],[],[],[],[],[],0⟩)])::l104
def ZgF (v0:List Int)(v1:Int)(v2:Int)(v3:Int):Option (Bool×Unit):=
 (ZdR v1).bind fun r4=>
 let v4:=r4.1
 let v5:=v4
 (if v5=true then(Zfx v2).bind fun r=>some (some r)else some none).bind fun r6=>
 let v6:Option Bool:=r6.map fun x=>x.1
 (if v4=true then v6 else some false:Option Bool).bind fun v7=>
 let v8:=v7
 if v7=true then(
 let v9:=((List.length v0:Nat):Int)
 loopS (A:=Int×Unit) (fun s10=>
   let v10:=s10.1
 let v11:=decide (v10<v9)
 if v11=true then(
 (ixN v0 v10).bind fun v12=>
 let v13:=v12
 (ZdR v13).bind fun r14=>
 let v14:=r14.1
 let v15:=!v14
 if v15=true then(
 (ZlA v10 v0 v1 v2 v3).bind fun r=>some (Sum.inr r))
 else(
 let v16:=IntKind.i64.wrap (v10+1)
 some (Sum.inl (v16,()))))
 else(
 (ZfS v0 v1 v2 v3).bind fun r=>some (Sum.inr r))
   ) (0,()))
 else(
 some (false,()))
def t105:List (Nat×TC U):=(105,⟨[.li (.ik .i64),.ik .i64,.ik .i64,.ik .i64],[.bool],fun(a:(List Int)×Int×Int×Int×Unit)=>ZgF a.1 a.2.1 a.2.2.1 a.2.2.2.1⟩)::t104
theorem c105:Chain Tryz.prog U tab base l105 t105:=Chain.cons tb cfok c104 4 rfl rfl rfl (hs:=[])
 (fun(e:Int×Int×Int×(List Int)×Unit)=>ZgF e.2.2.2.1 e.2.2.1 e.2.1 e.1) (by kernel_rfl) (fun _=>rfl)
def l68:Ch:=(68,⟨[.ptr 0 0,.agg (.v 0) 35 (.g 0 0) []],⟨2,[⟨96,.v 1,71,(.g 1 0),[]⟩],1,2,[(.b 1 58,1000105),(.b 1 59,1000105),(.b 1 66,62),(.b 1 67,92),(.b 1 68,105)],[],[],[(.b 1 0,1,0)],[],[]⟩,pS7,[],true⟩,[])::l105
def Zb8 (v0:Zae)(v1:Zaa):Option (Zaa×Unit):=
 (ZcV v0).bind fun r2=>
 let v2:=r2.1
 let v3:=v1.c.Begins
 let v4:=v1.now
 let v5:=v0.Every
 (Zdy v3 v4 v5).bind fun r6=>
 let v6:=r6.1
 let v7:=v1.now
 let v8:=v0.Every
 let v9:=v0.Burst
 (ZgF v6 v7 v8 v9).bind fun r10=>
 let v10:=r10.1
 let v11:=!v10
 if v11=true then(
 let v12:Zaa:={ v1 with c:={ v1.c with U:=v2 } }
 let v13:Zaa:={ v12 with c:={ v12.c with Wish:=false } }
 let v14:Zaa:={ v13 with c:={ v13.c with Bad:=false } }
 let v15:Zaa:={ v14 with c:={ v14.c with Begins:=v6 } }
 let v16:Zaa:={ v15 with c:={ v15.c with Result:=(4:Int) } }
 let v17:Zaa:={ v16 with c:={ v16.c with Over:=(1099511627776:Int) } }
 (ZaE (9) v17).bind fun r18=>
 let v18:=r18.1
 (Zan (2) ((⟨#[108,105,109,105,116]⟩:ByteArray)) v18).bind fun r19=>
 let v19:=r19.1
 let v20:Zaa:={ v19 with out:={ v19.out with Failed:=true } }
 some (v20,()))
 else(
 let v12:=v1.c.Attempt
 let v13:=IntKind.i64.wrap (v12+1)
 let v14:=v1.now
 let v15:=[v14]
 (apN 8 v6 v15).bind fun v16=>
 let v17:=v1.now
 let v18:=v0.Up
 (ZcZ v17 v18).bind fun r19=>
 let v19:=r19.1
 let v20:Zaa:={ v1 with c:={ v1.c with U:=v2 } }
 let v21:Zaa:={ v20 with c:={ v20.c with Wish:=false } }
 let v22:Zaa:={ v21 with c:={ v21.c with Bad:=false } }
 let v23:Zaa:={ v22 with c:={ v22.c with Attempt:=v13 } }
 let v24:Zaa:={ v23 with c:={ v23.c with Begins:=v16 } }
 let v25:Zaa:={ v24 with c:={ v24.c with Result:=(0:Int) } }
 let v26:Zaa:={ v25 with c:={ v25.c with Over:=v19 } }
 (Zan (2) ((⟨#[98,101,103,105,110,115]⟩:ByteArray)) v26).bind fun r27=>
 let v27:=r27.1
 (ZbB v27).bind fun r28=>
 let v28:=r28.1
 some (v28,()))
def t68:List (Nat×TC U):=(68,⟨[.st 28,.st 96],[.st 96],fun(a:Zae×Zaa×Unit)=>Zb8 a.1 a.2.1⟩)::t105
theorem c68:Chain Tryz.prog U tab base l68 t68:=Chain.cons tb cfok c105 2 rfl rfl rfl (hs:=[])
 (fun(e:Zaa×Zae×Unit)=>Zb8 e.2.1 e.1) (by kernel_rfl) (fun _=>rfl)
def Zeb (v0:Zaa):Option (Zaa×Unit):=
 let v16:Zaa:={ v0 with c:={ v0.c with Wish:=true } }
 let v17:Zaa:={ v16 with c:={ v16.c with Aux:=z3 } }
 (ZaL v17).bind fun r18=>
 let v18:=r18.1
 some (v18,())
def Zec (v0:Zaa):Option (Zaa×Unit):=
 let v16:Zaa:={ v0 with c:={ v0.c with Wish:=true } }
 let v17:Zaa:={ v16 with c:={ v16.c with Aux:=z3 } }
 (ZaE (6) v17).bind fun r18=>
 let v18:=r18.1
 let v19:=v18.now
 (ZdI (4) (0) v19).bind fun r20=>
 let v20:=r20.1
 let v21:=v18.now
 let v22:=v18.c.U.Down
 (ZcZ v21 v22).bind fun r23=>
 let v23:=r23.1
 let v24:Zaa:={ v18 with c:={ v18.c with Aux:=v20 } }
 let v25:Zaa:={ v24 with c:={ v24.c with Over:=v23 } }
 (Zan (2) ((⟨#[115,116,111,112,115]⟩:ByteArray)) v25).bind fun r26=>
 let v26:=r26.1
 some (v26,())
def Zcs (v0:Zaa):Option (Zaa×Unit):=
 let v13:=v0.c.U.Stop
 let v14:=((List.length v13:Nat):Int)
 let v15:=v14==0
 if v15=true then(
 Zeb v0)
 else(
 Zec v0)
def l69:Ch:=(69,⟨pS3,pS12,pS7,[],true⟩,[])::l68
def Zcq (v0:Zaa):Option (Zaa×Unit):=
 let v1:=v0.c.State
 let v2:=v1==0
 let v3:=!v2
 (if v3=true then some (some (v0.c.State))else some none).bind fun v4=>
 (if v3=true then(v4.bind fun v4o1=>some (v4o1==9):Option Bool).bind fun v=>some (some v)else some none).bind fun v5=>
 (if v2=true then some true else(v5).bind fun y=>some y:Option Bool).bind fun v6=>
 if v6=true then(
 some (v0,()))
 else(
 let v7:=v0.c.State
 let v8:=v7==8
 if v8=true then(
 let v9:Zaa:={ v0 with c:={ v0.c with Wish:=true } }
 let v10:Zaa:={ v9 with c:={ v9.c with Over:=(1099511627776:Int) } }
 (ZaE (0) v10).bind fun r11=>
 let v11:=r11.1
 (Zan (2) ((⟨#[100,111,119,110]⟩:ByteArray)) v11).bind fun r12=>
 let v12:=r12.1
 some (v12,()))
 else(
 let v9:=v7==1
 if v9=true then(
 let v10:Zaa:={ v0 with c:={ v0.c with Wish:=true } }
 (ZaL v10).bind fun r11=>
 let v11:=r11.1
 some (v11,()))
 else(
 let v10:=v7==2
 if v10=true then(
 let v11:Zaa:={ v0 with c:={ v0.c with Wish:=true } }
 (ZaL v11).bind fun r12=>
 let v12:=r12.1
 some (v12,()))
 else(
 let v11:=v7==3
 if v11=true then(
 let v12:Zaa:={ v0 with c:={ v0.c with Wish:=true } }
 (ZaL v12).bind fun r13=>
 let v13:=r13.1
 some (v13,()))
 else(
 let v12:=v7==4
 if v12=true then(
 Zcs v0)
 else(
 let v13:=v7==5
 if v13=true then(
 Zcs v0)
 else(
 let v14:Zaa:={ v0 with c:={ v0.c with Wish:=true } }
 some (v14,()))))))))
def t69:List (Nat×TC U):=(69,⟨[.st 96],[.st 96],fun(a:Zaa×Unit)=>Zcq a.1⟩)::t68
theorem c69:Chain Tryz.prog U tab base l69 t69:=Chain.cons tb cfok c68 1 rfl rfl rfl (hs:=[hS3,hS3,hS3,hS3])
 (fun(e:Zaa×Unit)=>Zcq e.1) (by kernel_rfl) (fun _=>rfl)
def l70:Ch:=(70,⟨pS3,pS12,pS7,[],true⟩,[])::l69
def Zb0 (v0:Zaa):Option (Zaa×Unit):=
 let v1:=v0.c.U.Reload
 let v2:=((List.length v1:Nat):Int)
 let v3:=v2==0
 if v3=true then(
 let v4:Zaa:={ v0 with c:={ v0.c with Bad:=false } }
 some (v4,()))
 else(
 let v4:Zaa:={ v0 with c:={ v0.c with Bad:=false } }
 (ZaE (5) v4).bind fun r5=>
 let v5:=r5.1
 let v6:=v5.now
 (ZdI (5) (0) v6).bind fun r7=>
 let v7:=r7.1
 let v8:=v5.now
 let v9:=v5.c.U.Up
 (ZcZ v8 v9).bind fun r10=>
 let v10:=r10.1
 let v11:Zaa:={ v5 with c:={ v5.c with Aux:=v7 } }
 let v12:Zaa:={ v11 with c:={ v11.c with Over:=v10 } }
 (Zan (2) ((⟨#[114,101,108,111,97,100,115]⟩:ByteArray)) v12).bind fun r13=>
 let v13:=r13.1
 some (v13,()))
def t70:List (Nat×TC U):=(70,⟨[.st 96],[.st 96],fun(a:Zaa×Unit)=>Zb0 a.1⟩)::t69
theorem c70:Chain Tryz.prog U tab base l70 t70:=Chain.cons tb cfok c69 1 rfl rfl rfl (hs:=[])
 (fun(e:Zaa×Unit)=>Zb0 e.1) (by kernel_rfl) (fun _=>rfl)
def l36:Ch:=(36,⟨pS24,pS25,pS6,pS10,true⟩,[])::l70
def Zd2 (v0:Zaf)(v1:Zae)(v2:Zac)(v3:Int)(v4:Int):Option (Zac×Zab×Unit):=
 (Zbl v2).bind fun r5=>
 let v5:=r5.1
 let v6:=v2.State
 let v7:=v6==0
 let v8:=!v7
 (if v8=true then some (some (v2.State))else some none).bind fun v9=>
 (if v8=true then(v9.bind fun v9o1=>some (v9o1==8):Option Bool).bind fun v=>some (some v)else some none).bind fun v10=>
 (if v7=true then some true else(v10).bind fun y=>some y:Option Bool).bind fun v11=>
 let v12:=!v11
 (if v12=true then some (some (v2.State))else some none).bind fun v13=>
 (if v12=true then(v13.bind fun v13o2=>some (v13o2==9):Option Bool).bind fun v=>some (some v)else some none).bind fun v14=>
 (if v11=true then some true else(v14).bind fun y=>some y:Option Bool).bind fun v15=>
 let v16:=v3==1
 let v17:=v16
 (if v16=true then some v15 else some false:Option Bool).bind fun v18=>
 if v18=true then(
 let v19:Zaa:={ z6 with w:=v0 }
 let v20:Zaa:={ v19 with c:=v5 }
 let v21:Zaa:={ v20 with now:=v4 }
 (Zb8 v1 v21).bind fun r22=>
 let v22:=r22.1
 let v23:=v22.c
 let v24:=v22.out
 some (v23,v24,()))
 else(
 let v19:=v3==2
 let v20:=!v19
 (if v20=true then some (some (v3==3))else some none).bind fun v21=>
 (if v19=true then some true else(v21).bind fun y=>some y:Option Bool).bind fun v22=>
 if v22=true then(
 let v23:Zaa:={ z6 with w:=v0 }
 let v24:Zaa:={ v23 with c:=v5 }
 let v25:Zaa:={ v24 with now:=v4 }
 (Zcq v25).bind fun r26=>
 let v26:=r26.1
 let v27:=v26.c
 let v28:=v26.out
 some (v27,v28,()))
 else(
 let v23:=v3==4
 let v24:=v23
 (if v24=true then some (some (v2.State))else some none).bind fun v25=>
 (if v24=true then(v25.bind fun v25o3=>some (v25o3==4):Option Bool).bind fun v=>some (some v)else some none).bind fun v26=>
 (if v23=true then v26 else some false:Option Bool).bind fun v27=>
 if v27=true then(
 let v28:Zaa:={ z6 with w:=v0 }
 let v29:Zaa:={ v28 with c:=v5 }
 let v30:Zaa:={ v29 with now:=v4 }
 (Zb0 v30).bind fun r31=>
 let v31:=r31.1
 let v32:=v31.c
 let v33:=v31.out
 some (v32,v33,()))
 else(
 some (v5,(⟨[],[],[],false,false⟩:Zab),()))))
def t36:List (Nat×TC U):=(36,⟨[.st 43,.st 28,.st 33,.ik .i64,.ik .i64],[.st 33,.st 47],fun(a:Zaf×Zae×Zac×Int×Int×Unit)=>Zd2 a.1 a.2.1 a.2.2.1 a.2.2.2.1 a.2.2.2.2.1⟩)::t70
theorem c36:Chain Tryz.prog U tab base l36 t36:=Chain.cons tb cfok c70 5 rfl rfl rfl (hs:=[hS1,hS1,hS1,hS0])
 (fun(e:Int×Int×Zac×Zae×Zaf×Unit)=>Zd2 e.2.2.2.2.1 e.2.2.2.1 e.2.2.1 e.2.1 e.1) (by kernel_rfl) (fun _=>rfl)
end
end Go.AW.M

namespace Go.AW.M
open Go.RowKit Go.Proofs
set_option maxRecDepth 100000
noncomputable section
def Zd3 (v0:Int):Option (Int×Unit):=
 let v11:=v0==256
 if v11=true then(
 some (2,()))
 else(
 some (1,()))
def ZgG (v5:Int)(v0:Int):Option (Int×Unit):=
 let v10:=decide (v5≥0)
 if v10=true then(
 some (0,()))
 else(
 Zd3 v0)
def l209:Ch:=(209,⟨pS13,pS9,pS0,pS1,false⟩,[(16202,⟨[8],[],[],[],[],[],[],0⟩)])::l36
def ZdS (v0:Int)(v1:List Int):Option (Int×Unit):=
 let v2:=v0==0
 let v3:=!v2
 if v2=true then(
 some (0,()))
 else(
 let v4:=((List.length v1:Nat):Int)
 loopS (A:=Int×Unit) (fun s5=>
   let v5:=s5.1
 let v6:=decide (v5<v4)
 if v6=true then(
 (ixN v1 v5).bind fun v7=>
 let v8:=v7
 let v9:=v0==v8
 if v9=true then(
 (ZgG v5 v0).bind fun r=>some (Sum.inr r))
 else(
 let v10:=IntKind.i64.wrap (v5+1)
 some (Sum.inl (v10,()))))
 else(
 (Zd3 v0).bind fun r=>some (Sum.inr r))
   ) (0,()))
def t209:List (Nat×TC U):=(209,⟨[.ik .i64,.li (.ik .i64)],[.ik .i64],fun(a:Int×(List Int)×Unit)=>ZdS a.1 a.2.1⟩)::t36
theorem c209:Chain Tryz.prog U tab base l209 t209:=Chain.cons tb cfok c36 2 rfl rfl rfl (hs:=[])
 (fun(e:(List Int)×Int×Unit)=>ZdS e.2.1 e.1) (by kernel_rfl) (fun _=>rfl)
def ZhK (v9:Int):Option (Bool×Unit):=
 let v14:=decide (v9≥0)
 some (v14,())
def l204:Ch:=(204,⟨[.agg (.v 0) 2 (.g 0 0) [],.one (.v 1) (some (.w 1)),.one (.v 2) (some (.w 2))],pS36,pS0,pS1,false⟩,[(16202,⟨[8],[],[],[],[],[],[],0⟩)])::l209
def ZdT (v0:Zad)(v1:Int)(v2:List Int):Option (Bool×Unit):=
 let v3:=v0.Dash
 let v4:=!v3
 (if v4=true then some (some (v1==0))else some none).bind fun v5=>
 (if v3=true then some true else(v5).bind fun y=>some y:Option Bool).bind fun v6=>
 let v7:=!v6
 if v6=true then(
 some (true,()))
 else(
 let v8:=((List.length v2:Nat):Int)
 loopS (A:=Int×Unit) (fun s9=>
   let v9:=s9.1
 let v10:=decide (v9<v8)
 if v10=true then(
 (ixN v2 v9).bind fun v11=>
 let v12:=v11
 let v13:=v1==v12
 if v13=true then(
 (ZhK v9).bind fun r=>some (Sum.inr r))
 else(
 let v14:=IntKind.i64.wrap (v9+1)
 some (Sum.inl (v14,()))))
 else(
 some (Sum.inr (false,())))
   ) (0,()))
def t204:List (Nat×TC U):=(204,⟨[.st 158,.ik .i64,.li (.ik .i64)],[.bool],fun(a:Zad×Int×(List Int)×Unit)=>ZdT a.1 a.2.1 a.2.2.1⟩)::t209
theorem c204:Chain Tryz.prog U tab base l204 t204:=Chain.cons tb cfok c209 3 rfl rfl rfl (hs:=[])
 (fun(e:(List Int)×Int×Zad×Unit)=>ZdT e.2.2.1 e.2.1 e.1) (by kernel_rfl) (fun _=>rfl)
def l205:Ch:=(205,⟨pS13,pS9,pS0,[(0,⟨none,.agg (.c []) 2 .d []⟩)],false⟩,[])::l204
def ZcW (v0:List Zad)(v1:Int):Option (Zad×Unit):=
 let v2:=decide (v1<0)
 let v3:=!v2
 (if v3=true then some (some (((List.length v0:Nat):Int)))else some none).bind fun v4=>
 (if v3=true then(v4.bind fun v4o1=>some (decide (v1≥v4o1)):Option Bool).bind fun v=>some (some v)else some none).bind fun v5=>
 (if v2=true then some true else(v5).bind fun y=>some y:Option Bool).bind fun v6=>
 if v6=true then(
 some ((⟨false,[]⟩:Zad),()))
 else(
 (ixN v0 v1).bind fun v7=>
 let v8:=v7
 some (v8,()))
def t205:List (Nat×TC U):=(205,⟨[.li (.st 158),.ik .i64],[.st 158],fun(a:(List Zad)×Int×Unit)=>ZcW a.1 a.2.1⟩)::t204
theorem c205:Chain Tryz.prog U tab base l205 t205:=Chain.cons tb cfok c204 2 rfl rfl rfl (hs:=[hS6])
 (fun(e:Int×(List Zad)×Unit)=>ZcW e.2.1 e.1) (by kernel_rfl) (fun _=>rfl)
def l199:Ch:=(199,⟨[.ptr 0 0,.agg (.v 0) 6 (.g 0 0) []],⟨2,[⟨96,.v 1,71,(.g 1 0),[]⟩],1,2,[(.b 1 58,1000105),(.b 1 59,1000105)],[],[],[(.b 1 0,1,0)],[],[]⟩,pS30,pS35,false⟩,[])::l205
def ZaJ (v0:Zal)(v1:Zaa):Option (Zam×Unit):=
 let v2:=v1.w
 let v3:=v1.c.U
 let v4:=v0.Part
 let v5:=v0.Num
 let v6:=v1.c.Attempt
 (Zee v2 v3 v4 v5 v6).bind fun r7=>
 let v7:=r7.1
 some (v7,())
def t199:List (Nat×TC U):=(199,⟨[.st 30,.st 96],[.st 89],fun(a:Zal×Zaa×Unit)=>ZaJ a.1 a.2.1⟩)::t205
theorem c199:Chain Tryz.prog U tab base l199 t199:=Chain.cons tb cfok c205 2 rfl rfl rfl (hs:=[])
 (fun(e:Zaa×Zal×Unit)=>ZaJ e.2.1 e.1) (by kernel_rfl) (fun _=>rfl)
def l167:Ch:=(167,⟨pS3,pS26,pS39,pS17,true⟩,[])::l199
def Zbv (v0:Zaa):Option (Int×Int×Unit):=
 let v1:=v0.c.Aux
 (ZaJ v1 v0).bind fun r2=>
 let v2:=r2.1
 let v3:=v0.c.Aux
 (ZfD v2 v3).bind fun r4=>
 let v4:=r4.1
 let v5:=r4.2.1
 some (v4,v5,())
def t167:List (Nat×TC U):=(167,⟨[.st 96],[.ik .i64,.ik .i64],fun(a:Zaa×Unit)=>Zbv a.1⟩)::t199
theorem c167:Chain Tryz.prog U tab base l167 t167:=Chain.cons tb cfok c199 1 rfl rfl rfl (hs:=[])
 (fun(e:Zaa×Unit)=>Zbv e.1) (by kernel_rfl) (fun _=>rfl)
def l168:Ch:=(168,⟨pS3,pS26,pS39,pS17,true⟩,[])::l167
def Zbm (v0:Zaa):Option (Int×Int×Unit):=
 let v1:=v0.c.Main
 (ZaJ v1 v0).bind fun r2=>
 let v2:=r2.1
 let v3:=v0.c.Main
 (ZfD v2 v3).bind fun r4=>
 let v4:=r4.1
 let v5:=r4.2.1
 some (v4,v5,())
def t168:List (Nat×TC U):=(168,⟨[.st 96],[.ik .i64,.ik .i64],fun(a:Zaa×Unit)=>Zbm a.1⟩)::t167
theorem c168:Chain Tryz.prog U tab base l168 t168:=Chain.cons tb cfok c167 1 rfl rfl rfl (hs:=[])
 (fun(e:Zaa×Unit)=>Zbm e.1) (by kernel_rfl) (fun _=>rfl)
def l169:Ch:=(169,⟨pS3,pS12,pS7,[],true⟩,[])::l168
def ZaK (v0:Zaa):Option (Zaa×Unit):=
 let v1:=v0.c.Aux
 let v2:=v0.c.Aux
 (ZaJ v1 v0).bind fun r3=>
 let v3:=r3.1
 (ZiL v3 v2).bind fun r4=>
 let v4:=r4.1
 let v5:=r4.2.1
 let v6:Zaa:={ v0 with c:={ v0.c with Aux:=v4 } }
 (Zan (1) v5 v6).bind fun r7=>
 let v7:=r7.1
 some (v7,())
def t169:List (Nat×TC U):=(169,⟨[.st 96],[.st 96],fun(a:Zaa×Unit)=>ZaK a.1⟩)::t168
theorem c169:Chain Tryz.prog U tab base l169 t169:=Chain.cons tb cfok c168 1 rfl rfl rfl (hs:=[])
 (fun(e:Zaa×Unit)=>ZaK e.1) (by kernel_rfl) (fun _=>rfl)
def l170:Ch:=(170,⟨pS3,pS12,pS7,[],true⟩,[])::l169
def Zax (v0:Zaa):Option (Zaa×Unit):=
 let v1:=v0.c.Main
 let v2:=v0.c.Main
 (ZaJ v1 v0).bind fun r3=>
 let v3:=r3.1
 (ZiL v3 v2).bind fun r4=>
 let v4:=r4.1
 let v5:=r4.2.1
 let v6:Zaa:={ v0 with c:={ v0.c with Main:=v4 } }
 (Zan (1) v5 v6).bind fun r7=>
 let v7:=r7.1
 some (v7,())
def t170:List (Nat×TC U):=(170,⟨[.st 96],[.st 96],fun(a:Zaa×Unit)=>Zax a.1⟩)::t169
theorem c170:Chain Tryz.prog U tab base l170 t170:=Chain.cons tb cfok c169 1 rfl rfl rfl (hs:=[])
 (fun(e:Zaa×Unit)=>Zax e.1) (by kernel_rfl) (fun _=>rfl)
end
end Go.AW.M

namespace Go.AW.M
open Go.RowKit Go.Proofs
set_option maxRecDepth 100000
noncomputable section
def l171:Ch:=(171,⟨pS3,pS14,pS11,[],true⟩,[])::l170
def Zat (v0:Zaa):Option (Zaa×Unit):=
 let v1:=v0.c.Main
 (ZaJ v1 v0).bind fun r2=>
 let v2:=r2.1
 let v3:=v0.c.Main
 (ZiL v2 v3).bind fun r4=>
 let v4:=r4.1
 let v5:=r4.2.1
 let v6:=v0.c.U.Type_
 let v7:=v6==3
 let v8:=v7
 (if v8=true then some (some (v0.c.State))else some none).bind fun v9=>
 (if v8=true then(v9.bind fun v9o1=>some (v9o1==2):Option Bool).bind fun v=>some (some v)else some none).bind fun v10=>
 (if v7=true then v10 else some false:Option Bool).bind fun v11=>
 if v11=true then(
 let v12:Zaa:={ v0 with c:={ v0.c with Main:=v4 } }
 (Zbj v12).bind fun r13=>
 let v13:=r13.1
 some (v13,()))
 else(
 let v12:Zaa:={ v0 with c:={ v0.c with Main:=v4 } }
 some (v12,()))
def t171:List (Nat×TC U):=(171,⟨[.st 96],[.st 96],fun(a:Zaa×Unit)=>Zat a.1⟩)::t170
theorem c171:Chain Tryz.prog U tab base l171 t171:=Chain.cons tb cfok c170 1 rfl rfl rfl (hs:=[])
 (fun(e:Zaa×Unit)=>Zat e.1) (by kernel_rfl) (fun _=>rfl)
def l172:Ch:=(172,⟨pS3,pS12,pS7,[],true⟩,[])::l171
def Zay (v0:Zaa):Option (Zaa×Unit):=
 let v1:=v0.c.Aux
 (ZaJ v1 v0).bind fun r2=>
 let v2:=r2.1
 let v3:=v0.c.Aux
 (ZiL v2 v3).bind fun r4=>
 let v4:=r4.1
 let v5:=r4.2.1
 let v6:Zaa:={ v0 with c:={ v0.c with Aux:=v4 } }
 some (v6,())
def t172:List (Nat×TC U):=(172,⟨[.st 96],[.st 96],fun(a:Zaa×Unit)=>Zay a.1⟩)::t171
theorem c172:Chain Tryz.prog U tab base l172 t172:=Chain.cons tb cfok c171 1 rfl rfl rfl (hs:=[])
 (fun(e:Zaa×Unit)=>Zay e.1) (by kernel_rfl) (fun _=>rfl)
def l212:Ch:=(212,⟨pS29,⟨2,[⟨96,.v 1,71,(.g 0 0),[]⟩],2,1,[(.b 0 58,1000105),(.b 0 59,1000105),(.b 0 68,105),(.b 0 66,62),(.b 0 67,92)],[],[],[(.b 0 0,1,0),(.w 1,1,1)],[],[]⟩,pS11,[],true⟩,[])::l172
def ZaF (v0:Int)(v1:Zaa):Option (Zaa×Unit):=
 let v2:Zaa:={ v1 with c:={ v1.c with Result:=v0 } }
 (ZaL v2).bind fun r3=>
 let v3:=r3.1
 some (v3,())
def t212:List (Nat×TC U):=(212,⟨[.ik .i64,.st 96],[.st 96],fun(a:Int×Zaa×Unit)=>ZaF a.1 a.2.1⟩)::t172
theorem c212:Chain Tryz.prog U tab base l212 t212:=Chain.cons tb cfok c172 2 rfl rfl rfl (hs:=[])
 (fun(e:Zaa×Int×Unit)=>ZaF e.2.1 e.1) (by kernel_rfl) (fun _=>rfl)
def l206:Ch:=(206,⟨pS3,pS12,pS7,[],true⟩,[])::l212
def Zbd (v0:Zaa):Option (Zaa×Unit):=
 let v1:Zaa:={ v0 with c:={ v0.c with Aux:=z3 } }
 let v2:Zaa:={ v1 with c:={ v1.c with Bad:=true } }
 (ZbR ((⟨#[114,101,108,111,97,100,32,102,97,105,108,101,100]⟩:ByteArray)) v2).bind fun r3=>
 let v3:=r3.1
 some (v3,())
def t206:List (Nat×TC U):=(206,⟨[.st 96],[.st 96],fun(a:Zaa×Unit)=>Zbd a.1⟩)::t212
theorem c206:Chain Tryz.prog U tab base l206 t206:=Chain.cons tb cfok c212 1 rfl rfl rfl (hs:=[hS3])
 (fun(e:Zaa×Unit)=>Zbd e.1) (by kernel_rfl) (fun _=>rfl)
def l207:Ch:=(207,⟨[.ptr 0 0,.one (.v 0) (some (.w 1)),.one (.v 1) (some (.w 2)),.one (.v 2) (some (.w 3))],⟨4,[⟨96,.v 3,71,(.g 0 0),[]⟩],4,1,[(.b 0 58,1000105),(.b 0 59,1000105),(.b 0 66,62),(.b 0 67,92),(.b 0 68,105)],[],[],[(.b 0 0,1,0),(.w 3,1,3),(.w 2,1,2),(.w 1,1,1)],[],[]⟩,⟨[0],[0],[],[(0,(58,1000105)),(0,(59,1000105)),(0,(66,62)),(0,(67,92)),(0,(68,105))],[],[],[],0⟩,pS1,false⟩,[])::l206
def Zba (v0:List Zad)(v1:Int)(v2:Int)(v3:Zaa):Option (Bool×Zaa×Unit):=
 let v4:=decide (v2<(-1))
 let v5:=!v4
 (if v5=true then some (some (((List.length v0:Nat):Int)))else some none).bind fun v6=>
 (if v5=true then(v6.bind fun v6o1=>some (IntKind.i64.wrap (v6o1 - 1)):Option Int).bind fun v=>some (some v)else some none).bind fun v7=>
 (if v5=true then(v7.bind fun v7o2=>some (decide (v2≥v7o2)):Option Bool).bind fun v=>some (some v)else some none).bind fun v8=>
 (if v4=true then some true else(v8).bind fun y=>some y:Option Bool).bind fun v9=>
 if v9=true then(
 some (false,v3,()))
 else(
 let v10:=IntKind.i64.wrap (v2+1)
 let v11:=v3.now
 (ZdI v1 v10 v11).bind fun r12=>
 let v12:=r12.1
 let v13:Zaa:={ v3 with c:={ v3.c with Aux:=v12 } }
 some (true,v13,()))
def t207:List (Nat×TC U):=(207,⟨[.li (.st 158),.ik .i64,.ik .i64,.st 96],[.bool,.st 96],fun(a:(List Zad)×Int×Int×Zaa×Unit)=>Zba a.1 a.2.1 a.2.2.1 a.2.2.2.1⟩)::t206
theorem c207:Chain Tryz.prog U tab base l207 t207:=Chain.cons tb cfok c206 4 rfl rfl rfl (hs:=[])
 (fun(e:Zaa×Int×Int×(List Zad)×Unit)=>Zba e.2.2.2.1 e.2.2.1 e.2.1 e.1) (by kernel_rfl) (fun _=>rfl)
def ZbZ (v5:Int)(v0:Zaa):Option (Zaa×Unit):=
 (ZdS v5 (([]:List Int))).bind fun r14=>
 let v14:=r14.1
 let v15:Zaa:={ v0 with c:={ v0.c with Aux:=z3 } }
 (ZaF v14 v15).bind fun r16=>
 let v16:=r16.1
 some (v16,())
def l173:Ch:=(173,⟨pS3,pS14,pS11,[],true⟩,[])::l207
def ZaC (v0:Zaa):Option (Zaa×Unit):=
 let v1:=v0.c.Aux
 (ZaJ v1 v0).bind fun r2=>
 let v2:=r2.1
 let v3:=v0.c.Aux
 (Zev v2 v3).bind fun r4=>
 let v4:=r4.1
 let v5:=r4.2.1
 let v6:=v0.c.Aux.Num
 let v7:=v0.c.U
 let v8:=v0.c.State
 let v9:=v8==1
 if v9=true then(
 let v10:=v7.Pre
 (ZcW v10 v6).bind fun r11=>
 let v11:=r11.1
 (ZdT v11 v5 (([]:List Int))).bind fun r12=>
 let v12:=r12.1
 let v13:=!v12
 if v13=true then(
 ZbZ v5 v0)
 else(
 let v14:Zaa:={ v0 with c:={ v0.c with Aux:=z3 } }
 (Zba v10 (1) v6 v14).bind fun r15=>
 let v15:=r15.1
 let v16:=r15.2.1
 let v17:=!v15
 if v17=true then(
 (ZbD v16).bind fun r18=>
 let v18:=r18.1
 some (v18,()))
 else(
 some (v16,()))))
 else(
 let v10:=v8==3
 if v10=true then(
 let v11:=v7.Post
 (ZcW v11 v6).bind fun r12=>
 let v12:=r12.1
 (ZdT v12 v5 (([]:List Int))).bind fun r13=>
 let v13:=r13.1
 let v14:=!v13
 if v14=true then(
 ZbZ v5 v0)
 else(
 let v15:Zaa:={ v0 with c:={ v0.c with Aux:=z3 } }
 (Zba v11 (3) v6 v15).bind fun r16=>
 let v16:=r16.1
 let v17:=r16.2.1
 let v18:=!v16
 if v18=true then(
 (ZbS v17).bind fun r19=>
 let v19:=r19.1
 some (v19,()))
 else(
 some (v17,()))))
 else(
 let v11:=v8==5
 if v11=true then(
 let v12:=v7.Reload
 (ZcW v12 v6).bind fun r13=>
 let v13:=r13.1
 (ZdT v13 v5 (([]:List Int))).bind fun r14=>
 let v14:=r14.1
 let v15:=!v14
 if v15=true then(
 let v16:Zaa:={ v0 with c:={ v0.c with Aux:=z3 } }
 (Zbd v16).bind fun r17=>
 let v17:=r17.1
 some (v17,()))
 else(
 let v16:=v7.Reload
 let v17:Zaa:={ v0 with c:={ v0.c with Aux:=z3 } }
 (Zba v16 (5) v6 v17).bind fun r18=>
 let v18:=r18.1
 let v19:=r18.2.1
 let v20:=!v18
 if v20=true then(
 (ZbR ((⟨#[114,101,108,111,97,100,101,100]⟩:ByteArray)) v19).bind fun r21=>
 let v21:=r21.1
 some (v21,()))
 else(
 some (v19,()))))
 else(
 let v12:=v8==6
 if v12=true then(
 let v13:=v7.Stop
 let v14:Zaa:={ v0 with c:={ v0.c with Aux:=z3 } }
 (Zba v13 (4) v6 v14).bind fun r15=>
 let v15:=r15.1
 let v16:=r15.2.1
 let v17:=!v15
 if v17=true then(
 (ZaL v16).bind fun r18=>
 let v18:=r18.1
 some (v18,()))
 else(
 some (v16,())))
 else(
 let v13:Zaa:={ v0 with c:={ v0.c with Aux:=z3 } }
 some (v13,())))))
def t173:List (Nat×TC U):=(173,⟨[.st 96],[.st 96],fun(a:Zaa×Unit)=>ZaC a.1⟩)::t207
theorem c173:Chain Tryz.prog U tab base l173 t173:=Chain.cons tb cfok c207 1 rfl rfl rfl (hs:=[hS5,hS5,hS3,hS3,hS5,hS5,hS3,hS3,hS5,hS3,hS3,hS3,hS3])
 (fun(e:Zaa×Unit)=>ZaC e.1) (by kernel_rfl) (fun _=>rfl)
def ZdE (v6:Int)(v0:Zaa):Option (Zaa×Unit):=
 let v33:=IntKind.i64.wrap (v6+1)
 let v34:=v0.now
 (ZdI (2) v33 v34).bind fun r35=>
 let v35:=r35.1
 let v36:Zaa:={ v0 with c:={ v0.c with Main:=v35 } }
 some (v36,())
def ZbI (v6:Int)(v0:Zaa):Option (Zaa×Unit):=
 let v26:=decide (v6≥(-1))
 let v27:=v26
 (if v27=true then some (some (v0.c.U.Start))else some none).bind fun v28=>
 (if v27=true then(v28.bind fun v28o1=>some (((List.length v28o1:Nat):Int)):Option Int).bind fun v=>some (some v)else some none).bind fun v29=>
 (if v27=true then(v29.bind fun v29o2=>some (IntKind.i64.wrap (v29o2 - 1)):Option Int).bind fun v=>some (some v)else some none).bind fun v30=>
 (if v27=true then(v30.bind fun v30o3=>some (decide (v6<v30o3)):Option Bool).bind fun v=>some (some v)else some none).bind fun v31=>
 (if v26=true then v31 else some false:Option Bool).bind fun v32=>
 if v32=true then(
 ZdE v6 v0)
 else(
 let v33:Zaa:={ v0 with c:={ v0.c with Main:=z3 } }
 (Zbj v33).bind fun r34=>
 let v34:=r34.1
 some (v34,()))
def Zbg (v0:Zaa)(v13:Int):Option (Zaa×Unit):=
 let v17:=v0.c.State
 let v18:=v17 != 3
 let v19:Zaa:={ v0 with c:={ v0.c with Main:=z3 } }
 let v20:Zaa:={ v19 with out:={ v19.out with Fell:=v18 } }
 let v21:Zaa:={ v20 with c:={ v20.c with Aux:=z3 } }
 let v22:Zaa:={ v21 with c:={ v21.c with Result:=v13 } }
 (ZaR v22).bind fun r23=>
 let v23:=r23.1
 some (v23,())
def ZbJ (v14:Int)(v0:Zaa):Option (Zaa×Unit):=
 let v19:=v14==7
 if v19=true then(
 let v20:Zaa:={ v0 with c:={ v0.c with Main:=z3 } }
 (ZaR v20).bind fun r21=>
 let v21:=r21.1
 some (v21,()))
 else(
 let v20:Zaa:={ v0 with c:={ v0.c with Main:=z3 } }
 some (v20,()))
def Zbh (v0:Zaa):Option (Zaa×Unit):=
 let v15:=v0.c.State
 let v16:=v15 != 3
 let v17:Zaa:={ v0 with c:={ v0.c with Main:=z3 } }
 let v18:Zaa:={ v17 with out:={ v17.out with Fell:=v16 } }
 let v19:Zaa:={ v18 with c:={ v18.c with Aux:=z3 } }
 let v20:Zaa:={ v19 with c:={ v19.c with Result:=(0:Int) } }
 (ZaR v20).bind fun r21=>
 let v21:=r21.1
 some (v21,())
def l174:Ch:=(174,⟨pS3,pS14,pS11,[],true⟩,[])::l173
def Zaz (v0:Zaa):Option (Zaa×Unit):=
 let v1:=v0.c.Main
 (ZaJ v1 v0).bind fun r2=>
 let v2:=r2.1
 let v3:=v0.c.Main
 (Zev v2 v3).bind fun r4=>
 let v4:=r4.1
 let v5:=r4.2.1
 let v6:=v0.c.Main.Num
 let v7:=v0.c.U.Start
 (ZcW v7 v6).bind fun r8=>
 let v8:=r8.1
 let v9:=v0.c.U.Success
 (ZdT v8 v5 v9).bind fun r10=>
 let v10:=r10.1
 let v11:=!v10
 if v11=true then(
 let v12:=v0.c.U.Success
 (ZdS v5 v12).bind fun r13=>
 let v13:=r13.1
 let v14:=v0.c.State
 let v15:=v14==2
 if v15=true then(
 let v16:=v0.c.U.Type_
 let v17:=v16==2
 let v18:=!v17
 let v19:=v18
 (if v19=true then some (some (v13==0))else some none).bind fun v20=>
 (if v18=true then v20 else some false:Option Bool).bind fun v21=>
 if v21=true then(
 let v22:Zaa:={ v0 with c:={ v0.c with Main:=z3 } }
 (ZaF (1) v22).bind fun r23=>
 let v23:=r23.1
 some (v23,()))
 else(
 let v22:=!v17
 let v23:=!v22
 (if v23=true then some (some (!v10))else some none).bind fun v24=>
 (if v22=true then some true else(v24).bind fun y=>some y:Option Bool).bind fun v25=>
 if v25=true then(
 let v26:Zaa:={ v0 with c:={ v0.c with Main:=z3 } }
 (ZaF v13 v26).bind fun r27=>
 let v27:=r27.1
 some (v27,()))
 else(
 ZbI v6 v0)))
 else(
 let v16:=v14==3
 if v16=true then(
 Zbg v0 v13)
 else(
 let v17:=v14==4
 if v17=true then(
 Zbg v0 v13)
 else(
 let v18:=v14==5
 if v18=true then(
 Zbg v0 v13)
 else(
 ZbJ v14 v0)))))
 else(
 let v12:=v0.c.State
 let v13:=v12==2
 if v13=true then(
 let v14:=v0.c.U.Type_
 let v15:=v14==2
 let v16:=!v15
 let v17:=v16
 let v18:=v16
 if v16=true then(
 let v19:Zaa:={ v0 with c:={ v0.c with Main:=z3 } }
 (ZaF (1) v19).bind fun r20=>
 let v20:=r20.1
 some (v20,()))
 else(
 let v19:=!v15
 let v20:=!v19
 (if v20=true then some (some (!v10))else some none).bind fun v21=>
 (if v19=true then some true else(v21).bind fun y=>some y:Option Bool).bind fun v22=>
 if v22=true then(
 let v23:Zaa:={ v0 with c:={ v0.c with Main:=z3 } }
 (ZaF (0) v23).bind fun r24=>
 let v24:=r24.1
 some (v24,()))
 else(
 ZbI v6 v0)))
 else(
 let v14:=v12==3
 if v14=true then(
 Zbh v0)
 else(
 let v15:=v12==4
 if v15=true then(
 Zbh v0)
 else(
 let v16:=v12==5
 if v16=true then(
 Zbh v0)
 else(
 ZbJ v12 v0)))))
def t174:List (Nat×TC U):=(174,⟨[.st 96],[.st 96],fun(a:Zaa×Unit)=>Zaz a.1⟩)::t173
theorem c174:Chain Tryz.prog U tab base l174 t174:=Chain.cons tb cfok c173 1 rfl rfl rfl (hs:=[hS3,hS3,hS3,hS3,hS3,hS3,hS3,hS3,hS3,hS3,hS3,hS3,hS3,hS3,hS3,hS3,hS3,hS3,hS3,hS3,hS3,hS3])
 (fun(e:Zaa×Unit)=>Zaz e.1) (by kernel_rfl) (fun _=>rfl)
def l211:Ch:=(211,⟨pS3,pS26,pS30,pS1,false⟩,[(21103,⟨[13,3],[],[],[],[],[],[],0⟩)])::l174
def ZbE (v0:Zaa):Option (Int×Unit):=
 let v1:=v0.c.Serves
 let v2:=((List.length v1:Nat):Int)
 loopS (A:=Int×Int×Unit) (fun s3=>
   let v3:=s3.1
   let v4:=s3.2.1
 let v5:=decide (v3<v2)
 if v5=true then(
 (ixN v1 v3).bind fun v6=>
 let v7:=v6
 let v8:=v0.c.Serves
 (ixN v8 v4).bind fun v9=>
 let v10:=v9
 let v11:=v7.Until
 let v12:=v10.Until
 let v13:=decide (v11<v12)
 let v14:=!v13
 (if v14=true then some (some (v7.Until))else some none).bind fun v15=>
 (if v14=true then some (some (v10.Until))else some none).bind fun v16=>
 (if v14=true then(v15.bind fun v15o1=>v16.bind fun v16o2=>some (v15o1==v16o2):Option Bool).bind fun v=>some (some v)else some none).bind fun v17=>
 (if v14=true then v17 else some false:Option Bool).bind fun v18=>
 (if v18=true then some (some (v7.Socket))else some none).bind fun v19=>
 (if v18=true then some (some (v10.Socket))else some none).bind fun v20=>
 (if v18=true then(v19.bind fun v19o3=>v20.bind fun v20o4=>some (Op.bytesLess (ByteArray.toList v19o3) (ByteArray.toList v20o4)):Option Bool).bind fun v=>some (some v)else some none).bind fun v21=>
 (if v18=true then v21.bind fun v21o5=>some (!v21o5)else some false:Option Bool).bind fun v22=>
 (if v22=true then some (some (v7.Socket))else some none).bind fun v23=>
 (if v22=true then some (some (v10.Socket))else some none).bind fun v24=>
 (if v22=true then(v23.bind fun v23o6=>v24.bind fun v24o7=>some ((ByteArray.toList v23o6)==(ByteArray.toList v24o7)):Option Bool).bind fun v=>some (some v)else some none).bind fun v25=>
 (if v22=true then v25 else some false:Option Bool).bind fun v26=>
 (if v26=true then some (some (v7.Num))else some none).bind fun v27=>
 (if v26=true then some (some (v10.Num))else some none).bind fun v28=>
 (if v26=true then(v27.bind fun v27o8=>v28.bind fun v28o9=>some (decide (v27o8<v28o9)):Option Bool).bind fun v=>some (some v)else some none).bind fun v29=>
 (if v22=true then(v25.bind fun v25o10=>if v25o10=true then v29 else some false:Option Bool).bind fun v=>some (some v)else some none).bind fun v30=>
 (if v18=true then(v21.bind fun v21o11=>if v21o11=true then some true else(v30).bind fun y=>some y:Option Bool).bind fun v=>some (some v)else some none).bind fun v31=>
 (if v14=true then(v17.bind fun v17o12=>if v17o12=true then v31 else some false:Option Bool).bind fun v=>some (some v)else some none).bind fun v32=>
 (if v13=true then some true else(v32).bind fun y=>some y:Option Bool).bind fun v33=>
 if v33=true then(
 let v34:=IntKind.i64.wrap (v3+1)
 some (Sum.inl (v34,v3,())))
 else(
 let v34:=IntKind.i64.wrap (v3+1)
 some (Sum.inl (v34,v4,()))))
 else(
 some (Sum.inr (v4,())))
   ) (0,0,())
def t211:List (Nat×TC U):=(211,⟨[.st 96],[.ik .i64],fun(a:Zaa×Unit)=>ZbE a.1⟩)::t174
theorem c211:Chain Tryz.prog U tab base l211 t211:=Chain.cons tb cfok c174 1 rfl rfl rfl (hs:=[])
 (fun(e:Zaa×Unit)=>ZbE e.1) (by kernel_rfl) (fun _=>rfl)
end
end Go.AW.M

namespace Go.AW.M
open Go.RowKit Go.Proofs
set_option maxRecDepth 100000
noncomputable section
def l175:Ch:=(175,⟨pS3,pS26,pS30,pS1,false⟩,[])::l211
def Zbk (v0:Zaa):Option (Int×Unit):=
 let v1:=v0.c.Serves
 let v2:=((List.length v1:Nat):Int)
 let v3:=v2==0
 if v3=true then(
 some (1099511627776,()))
 else(
 let v4:=v0.c.Serves
 (ZbE v0).bind fun r5=>
 let v5:=r5.1
 (ixN v4 v5).bind fun v6=>
 let v7:=v6.Until
 some (v7,()))
def t175:List (Nat×TC U):=(175,⟨[.st 96],[.ik .i64],fun(a:Zaa×Unit)=>Zbk a.1⟩)::t211
theorem c175:Chain Tryz.prog U tab base l175 t175:=Chain.cons tb cfok c211 1 rfl rfl rfl (hs:=[])
 (fun(e:Zaa×Unit)=>Zbk e.1) (by kernel_rfl) (fun _=>rfl)
def l176:Ch:=(176,⟨pS3,pS12,pS7,[],true⟩,[])::l175
def Zaj (v0:Zaa):Option (Zaa×Unit):=
 (ZbE v0).bind fun r1=>
 let v1:=r1.1
 let v2:=v0.c.Serves
 (ixN v2 v1).bind fun v3=>
 let v4:=v3
 let v5:=v0.c.Serves
 (ixN v5 0).bind fun v6=>
 (ctN v5 0 v1).bind fun v7=>
 let v8:=v0.c.Serves
 let v9:=IntKind.i64.wrap (v1+1)
 let v10:=((List.length v8:Nat):Int)
 (ixN v8 0).bind fun v11=>
 (ctN v8 v9 v10).bind fun v12=>
 (apN 48 v7 v12).bind fun v13=>
 let v14:=v4.Socket
 (caN (⟨#[115,101,114,118,101,100,32]⟩:ByteArray) v14).bind fun v15=>
 (caN v15 (⟨#[32]⟩:ByteArray)).bind fun v16=>
 let v17:=v4.Num
 (itoaF v17).bind fun r18=>
 let v18:=r18.1
 (caN v16 v18).bind fun v19=>
 let v20:Zaa:={ v0 with c:={ v0.c with Serves:=v13 } }
 (Zan (4) v19 v20).bind fun r21=>
 let v21:=r21.1
 some (v21,())
def t176:List (Nat×TC U):=(176,⟨[.st 96],[.st 96],fun(a:Zaa×Unit)=>Zaj a.1⟩)::t175
theorem c176:Chain Tryz.prog U tab base l176 t176:=Chain.cons tb cfok c175 1 rfl rfl rfl (hs:=[])
 (fun(e:Zaa×Unit)=>Zaj e.1) (by kernel_rfl) (fun _=>rfl)
def l177:Ch:=(177,⟨pS3,pS14,pS11,[],true⟩,[])::l176
def Zag (v0:Zaa):Option (Zaa×Unit):=
 let v1:=v0.c.State
 let v2:=v1==1
 if v2=true then(
 (ZaF (3) v0).bind fun r3=>
 let v3:=r3.1
 some (v3,()))
 else(
 let v3:=v1==2
 if v3=true then(
 (ZaF (3) v0).bind fun r4=>
 let v4:=r4.1
 some (v4,()))
 else(
 let v4:=v1==3
 if v4=true then(
 (ZaF (3) v0).bind fun r5=>
 let v5:=r5.1
 some (v5,()))
 else(
 let v5:=v1==5
 if v5=true then(
 (Zbd v0).bind fun r6=>
 let v6:=r6.1
 some (v6,()))
 else(
 let v6:=v1==6
 if v6=true then(
 (ZaL v0).bind fun r7=>
 let v7:=r7.1
 some (v7,()))
 else(
 let v7:=v1==7
 if v7=true then(
 let v8:Zaa:={ v0 with c:={ v0.c with Result:=(3:Int) } }
 (ZaR v8).bind fun r9=>
 let v9:=r9.1
 some (v9,()))
 else(
 let v8:=v1==8
 if v8=true then(
 let v9:Zaa:={ v0 with c:={ v0.c with Over:=(1099511627776:Int) } }
 (ZaE (0) v9).bind fun r10=>
 let v10:=r10.1
 (Zan (2) ((⟨#[97,103,97,105,110]⟩:ByteArray)) v10).bind fun r11=>
 let v11:=r11.1
 let v12:=v11.out.Asks
 let v13:=v11.c.U.Name
 let v14:Zbu:={ (⟨0,(⟨#[]⟩:ByteArray),0⟩:Zbu)with Unit_:=v13 }
 let v15:Zbu:={ v14 with Type_:=(1:Int) }
 let v16:=[v15]
 (apN 32 v12 v16).bind fun v17=>
 let v18:Zaa:={ v11 with out:={ v11.out with Asks:=v17 } }
 some (v18,()))
 else(
 let v9:Zaa:={ v0 with c:={ v0.c with Over:=(1099511627776:Int) } }
 some (v9,()))))))))
def t177:List (Nat×TC U):=(177,⟨[.st 96],[.st 96],fun(a:Zaa×Unit)=>Zag a.1⟩)::t176
theorem c177:Chain Tryz.prog U tab base l177 t177:=Chain.cons tb cfok c176 1 rfl rfl rfl (hs:=[hS18])
 (fun(e:Zaa×Unit)=>Zag e.1) (by kernel_rfl) (fun _=>rfl)
end
end Go.AW.M
