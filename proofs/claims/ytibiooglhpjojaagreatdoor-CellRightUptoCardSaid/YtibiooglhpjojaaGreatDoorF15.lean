/- Typed functions and their chain. Printed by tfn.py. -/
import Derived.Test.YtibiooglhpjojaaGreatDoorF14
set_option linter.unusedSimpArgs false
set_option linter.unusedVariables false
namespace Go.AW.M
open Go.RowKit Go.Proofs
set_option maxRecDepth 100000
noncomputable section
def l22:Ch:=(22,⟨pS24,pS25,pS6,pS10,true⟩,[])::l51
def Zgc (v0:Zaf)(v1:Zae)(v2:Zac)(v3:Int)(v4:Int):Option (Zac×Zab×Unit):=
 let v5:=v1.Kind
 let v6:=v5==1
 if v6=true then(
 (Zd2 v0 v1 v2 v3 v4).bind fun r7=>
 let v7:=r7.1
 let v8:=r7.2.1
 some (v7,v8,()))
 else(
 let v7:=v5==2
 if v7=true then(
 (Zga v0 v1 v2 v3 v4).bind fun r8=>
 let v8:=r8.1
 let v9:=r8.2.1
 some (v8,v9,()))
 else(
 let v8:=v5==3
 if v8=true then(
 (ZfB v0 v1 v2 v3 v4).bind fun r9=>
 let v9:=r9.1
 let v10:=r9.2.1
 some (v9,v10,()))
 else(
 let v9:=v5==4
 if v9=true then(
 (Zfz v1 v2 v3 v4).bind fun r10=>
 let v10:=r10.1
 let v11:=r10.2.1
 some (v10,v11,()))
 else(
 (Zbl v2).bind fun r10=>
 let v10:=r10.1
 some (v10,(⟨[],[],[],false,false⟩:Zab),())))))
def t22:List (Nat×TC U):=(22,⟨[.st 43,.st 28,.st 33,.ik .i64,.ik .i64],[.st 33,.st 47],fun(a:Zaf×Zae×Zac×Int×Int×Unit)=>Zgc a.1 a.2.1 a.2.2.1 a.2.2.2.1 a.2.2.2.2.1⟩)::t51
theorem c22:Chain Tryz.prog U tab base l22 t22:=Chain.cons tb cfok c51 5 rfl rfl rfl (hs:=[hS0])
 (fun(e:Int×Int×Zac×Zae×Zaf×Unit)=>Zgc e.2.2.2.2.1 e.2.2.2.1 e.2.2.1 e.2.1 e.1) (by kernel_rfl) (fun _=>rfl)
def l26:Ch:=(26,⟨pS19,pS20,pS6,pS10,true⟩,[])::l22
def Zgd (v0:Zaf)(v1:Zac)(v2:Int):Option (Zac×Zab×Unit):=
 let v3:=v1.U.Kind
 let v4:=v3==1
 if v4=true then(
 (ZdD v0 v1 v2).bind fun r5=>
 let v5:=r5.1
 let v6:=r5.2.1
 some (v5,v6,()))
 else(
 let v5:=v3==2
 if v5=true then(
 (Zf9 v0 v1 v2).bind fun r6=>
 let v6:=r6.1
 let v7:=r6.2.1
 some (v6,v7,()))
 else(
 let v6:=v3==3
 if v6=true then(
 (ZfA v0 v1 v2).bind fun r7=>
 let v7:=r7.1
 let v8:=r7.2.1
 some (v7,v8,()))
 else(
 (Zbl v1).bind fun r7=>
 let v7:=r7.1
 some (v7,(⟨[],[],[],false,false⟩:Zab),()))))
def t26:List (Nat×TC U):=(26,⟨[.st 43,.st 33,.ik .i64],[.st 33,.st 47],fun(a:Zaf×Zac×Int×Unit)=>Zgd a.1 a.2.1 a.2.2.1⟩)::t22
theorem c26:Chain Tryz.prog U tab base l26 t26:=Chain.cons tb cfok c22 3 rfl rfl rfl (hs:=[hS0])
 (fun(e:Int×Zac×Zaf×Unit)=>Zgd e.2.2.1 e.2.1 e.1) (by kernel_rfl) (fun _=>rfl)
def l28:Ch:=(28,⟨pS23,pS15,pS0,pS1,false⟩,[])::l26
def Zg0 (v0:Zaf)(v1:Zac):Option (Int×Unit):=
 let v2:=v1.U.Kind
 let v3:=v2==1
 if v3=true then(
 (Zef v0 v1).bind fun r4=>
 let v4:=r4.1
 some (v4,()))
 else(
 let v4:=v2==2
 if v4=true then(
 (ZgZ v0 v1).bind fun r5=>
 let v5:=r5.1
 some (v5,()))
 else(
 let v5:=v2==3
 if v5=true then(
 (ZhF v0 v1).bind fun r6=>
 let v6:=r6.1
 some (v6,()))
 else(
 some (1099511627776,()))))
def t28:List (Nat×TC U):=(28,⟨[.st 43,.st 33],[.ik .i64],fun(a:Zaf×Zac×Unit)=>Zg0 a.1 a.2.1⟩)::t26
theorem c28:Chain Tryz.prog U tab base l28 t28:=Chain.cons tb cfok c26 2 rfl rfl rfl (hs:=[])
 (fun(e:Zac×Zaf×Unit)=>Zg0 e.2.1 e.1) (by kernel_rfl) (fun _=>rfl)
def Zb3 (v26:Zac):Option (Bool×Unit):=
 (ZbF v26).bind fun r32=>
 let v32:=r32.1
 some (v32,())
def l7:Ch:=(7,⟨[.agg (.v 0) 3 (.g 0 0) [],.agg (.v 1) 62 (.g 1 0) [],.one (.v 2) (some (.w 1)),.one (.v 3) (some (.w 2)),.one (.v 4) (some (.w 3))],pS34,pS0,pS1,false⟩,[(707,⟨[13],[2],[],[],[],[],[],0⟩)])::l28
def Zb1 (v0:Zaf)(v1:Zac)(v2:Int)(v3:Int)(v4:Int):Option (Bool×Unit):=
 (Zdw).bind fun r5=>
 let v5:=r5.1
 let v6:=!v5
 if v6=true then(
 some (false,()))
 else(
 (Zdu v0 v1 v3).bind fun r7=>
 let v7:=r7.1
 let v8:=!v7
 let v9:=!v8
 (if v9=true then some (some (v1.U.Kind))else some none).bind fun v10=>
 (if v9=true then(v10.bind fun v10o1=>some (v10o1==1):Option Bool).bind fun v=>some (some v)else some none).bind fun v11=>
 (if v9=true then v11 else some false:Option Bool).bind fun v12=>
 (if v12=true then some (some (v1.U.Start))else some none).bind fun v13=>
 (if v12=true then(v13.bind fun v13o2=>some (((List.length v13o2:Nat):Int)):Option Int).bind fun v=>some (some v)else some none).bind fun v14=>
 (if v12=true then(v14.bind fun v14o3=>some (v14o3==0):Option Bool).bind fun v=>some (some v)else some none).bind fun v15=>
 (if v9=true then(v11.bind fun v11o4=>if v11o4=true then v15 else some false:Option Bool).bind fun v=>some (some v)else some none).bind fun v16=>
 (if v8=true then some true else(v16).bind fun y=>some y:Option Bool).bind fun v17=>
 let v18:=!v17
 (if v18=true then some (some (decide (v4>60)))else some none).bind fun v19=>
 (if v17=true then some true else(v19).bind fun y=>some y:Option Bool).bind fun v20=>
 if v20=true then(
 some (true,()))
 else(
 let v21:=v1.U
 (Zgc v0 v21 v1 v2 v3).bind fun r22=>
 let v22:=r22.1
 let v23:=r22.2.1
 let v24:=v22
 loopS (A:=Int×Zac×Unit) (fun s25=>
   let v25:=s25.1
   let v26:=s25.2.1
 let v27:=decide (v25<v4)
 if v27=true then(
 (ZbF v26).bind fun r28=>
 let v28:=r28.1
 let v29:=!v28
 if v29=true then(
 some (Sum.inr (false,())))
 else(
 (Zg0 v0 v26).bind fun r30=>
 let v30:=r30.1
 let v31:=decide (v30≥6311433600)
 if v31=true then(
 (Zb3 v26).bind fun r=>some (Sum.inr r))
 else(
 let v32:=max v30 v3
 (Zgd v0 v26 v32).bind fun r33=>
 let v33:=r33.1
 let v34:=r33.2.1
 let v35:=IntKind.i64.wrap (v25+1)
 let v36:=v33
 some (Sum.inl (v35,v36,())))))
 else(
 (Zb3 v26).bind fun r=>some (Sum.inr r))
   ) (0,v24,())))
def t7:List (Nat×TC U):=(7,⟨[.st 43,.st 33,.ik .i64,.ik .i64,.ik .i64],[.bool],fun(a:Zaf×Zac×Int×Int×Int×Unit)=>Zb1 a.1 a.2.1 a.2.2.1 a.2.2.2.1 a.2.2.2.2.1⟩)::t28
theorem c7:Chain Tryz.prog U tab base l7 t7:=Chain.cons tb cfok c28 5 rfl rfl rfl (hs:=[⟨.st 33,z7⟩])
 (fun(e:Int×Int×Int×Zac×Zaf×Unit)=>Zb1 e.2.2.2.2.1 e.2.2.2.1 e.2.2.1 e.2.1 e.1) (by kernel_rfl) (fun _=>rfl)
end
end Go.AW.M
