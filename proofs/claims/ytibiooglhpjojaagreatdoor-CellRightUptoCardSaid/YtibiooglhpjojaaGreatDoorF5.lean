/- Typed functions and their chain. Printed by tfn.py. -/
import Derived.Test.YtibiooglhpjojaaGreatDoorF2
set_option linter.unusedSimpArgs false
set_option linter.unusedVariables false
namespace Go.AW.M
open Go.RowKit Go.Proofs
set_option maxRecDepth 100000
noncomputable section
def Zce (v32:Int):Option (Int×Unit):=
 let v36:=decide (v32<1099511627776)
 if v36=true then(
 some (v32,()))
 else(
 some (1099511627776,()))
def Zda (v32:Int)(v18:Int):Option (Int×Unit):=
 let v36:=decide (v32<v18)
 if v36=true then(
 some (v32,()))
 else(
 some (v18,()))
def ZdG (v18:Int)(v32:Int):Option (Int×Unit):=
 let v35:=decide (1099511627776<v18)
 if v35=true then(
 Zce v32)
 else(
 Zda v32 v18)
def Zf1 (v18:Int)(v9:Int)(v32:Int):Option (Int×Unit):=
 let v34:=decide (v18<v9)
 if v34=true then(
 ZdG v18 v32)
 else(
 ZdG v9 v32)
def Zew (v18:Int)(v32:Int):Option (Int×Unit):=
 let v34:=decide (v18<1099511627776)
 if v34=true then(
 ZdG v18 v32)
 else(
 Zce v32)
def Zf2 (v9:Int)(v18:Int)(v32:Int):Option (Int×Unit):=
 let v33:=decide (v9<1099511627776)
 if v33=true then(
 Zf1 v18 v9 v32)
 else(
 Zew v18 v32)
def ZdH (v18:Int)(v9:Int)(v32:Int):Option (Int×Unit):=
 let v34:=decide (v18<v9)
 if v34=true then(
 Zda v32 v18)
 else(
 Zda v32 v9)
def Zdb (v18:Int)(v32:Int):Option (Int×Unit):=
 let v34:=decide (v18<1099511627776)
 if v34=true then(
 Zda v32 v18)
 else(
 Zce v32)
def Zdc (v9:Int)(v18:Int)(v32:Int):Option (Int×Unit):=
 let v33:=decide (v9<1099511627776)
 if v33=true then(
 ZdH v18 v9 v32)
 else(
 Zdb v18 v32)
def Zdm (v28:Bool)(v9:Int)(v18:Int)(v32:Int):Option (Int×Unit):=
 if v28=true then(
 Zf2 v9 v18 v32)
 else(
 Zdc v9 v18 v32)
def ZdX (v28:Bool)(v9:Int)(v32:Int):Option (Int×Unit):=
 if v28=true then(
 Zew v9 v32)
 else(
 Zdb v9 v32)
def Zdn (v25:Bool)(v28:Bool)(v9:Int)(v18:Int)(v32:Int):Option (Int×Unit):=
 if v25=true then(
 Zdm v28 v9 v18 v32)
 else(
 ZdX v28 v9 v32)
def Zdo (v22:Bool)(v28:Bool)(v9:Int)(v18:Int)(v32:Int)(v25:Bool):Option (Int×Unit):=
 if v22=true then(
 Zdm v28 v9 v18 v32)
 else(
 Zdn v25 v28 v9 v18 v32)
def ZfE (v18:Int)(v9:Int)(v39:Int)(v40:Int):Option (Int×Unit):=
 let v42:=decide (v18<v9)
 if v42=true then(
 ZdH v39 v18 v40)
 else(
 ZdH v39 v9 v40)
def ZfF (v9:Int)(v18:Int)(v39:Int)(v40:Int):Option (Int×Unit):=
 let v41:=decide (v9<1099511627776)
 if v41=true then(
 ZfE v18 v9 v39 v40)
 else(
 Zdc v18 v39 v40)
def Zdp (v28:Bool)(v9:Int)(v18:Int)(v39:Int)(v40:Int):Option (Int×Unit):=
 if v28=true then(
 ZfF v9 v18 v39 v40)
 else(
 Zdc v9 v18 v40)
def ZdY (v28:Bool)(v9:Int)(v39:Int)(v40:Int):Option (Int×Unit):=
 if v28=true then(
 Zdc v9 v39 v40)
 else(
 Zdb v9 v40)
def Zdq (v25:Bool)(v28:Bool)(v9:Int)(v18:Int)(v39:Int)(v40:Int):Option (Int×Unit):=
 if v25=true then(
 Zdp v28 v9 v18 v39 v40)
 else(
 ZdY v28 v9 v39 v40)
def Zdr (v22:Bool)(v28:Bool)(v9:Int)(v18:Int)(v39:Int)(v40:Int)(v25:Bool):Option (Int×Unit):=
 if v22=true then(
 Zdp v28 v9 v18 v39 v40)
 else(
 Zdq v25 v28 v9 v18 v39 v40)
def ZfG (v32:List Zao)(v36:Int)(v1:Zac)(v20:Bool)(v21:Bool)(v28:Bool)(v9:Int)(v18:Int)(v22:Bool)(v25:Bool)(v23:Bool)(v24:Bool):Option (Int×Unit):=
 (ixN v32 v36).bind fun v38=>
 let v39:=v38.Until
 let v40:=v1.Over
 if v20=true then(
 if v21=true then(
 Zdp v28 v9 v18 v39 v40)
 else(
 Zdr v22 v28 v9 v18 v39 v40 v25))
 else(
 if v21=true then(
 Zdr v23 v28 v18 v9 v39 v40 v24)
 else(
 if v22=true then(
 Zdr v23 v28 v18 v9 v39 v40 v24)
 else(
 if v23=true then(
 Zdq v25 v28 v9 v18 v39 v40)
 else(
 if v24=true then(
 Zdq v25 v28 v9 v18 v39 v40)
 else(
 if v25=true then(
 ZdY v28 v18 v39 v40)
 else(
 if v28=true then(
 Zdb v39 v40)
 else(
 Zce v40)))))))
def l57:Ch:=(57,⟨pS23,pS15,pS0,pS1,false⟩,[(13005,⟨[],[],[],[],[],[],[],12⟩),(9003,⟨[],[],[],[],[],[],[],12⟩),(21103,⟨[13,3],[],[],[],[],[],[],0⟩)])::l225
def Zef (v0:Zaf)(v1:Zac):Option (Int×Unit):=
 let v2:=v1.Aux
 let v3:=v1.U
 let v4:=v2.Part
 let v5:=v2.Num
 let v6:=v1.Attempt
 (Zee v0 v3 v4 v5 v6).bind fun r7=>
 let v7:=r7.1
 let v8:=v1.Aux
 (ZfD v7 v8).bind fun r9=>
 let v9:=r9.1
 let v10:=r9.2.1
 let v11:=v1.Main
 let v12:=v1.U
 let v13:=v11.Part
 let v14:=v11.Num
 let v15:=v1.Attempt
 (Zee v0 v12 v13 v14 v15).bind fun r16=>
 let v16:=r16.1
 let v17:=v1.Main
 (ZfD v16 v17).bind fun r18=>
 let v18:=r18.1
 let v19:=r18.2.1
 let v20:=v10==1
 let v21:=v19==1
 let v22:=v19==2
 let v23:=v10==2
 let v24:=v10==3
 let v25:=v19==3
 let v26:=v1.Serves
 let v27:=((List.length v26:Nat):Int)
 let v28:=decide (v27>0)
 let v29:=v1.Serves
 let v30:=((List.length v29:Nat):Int)
 let v31:=v30==0
 if v31=true then(
 let v32:=v1.Over
 if v20=true then(
 if v21=true then(
 Zdm v28 v9 v18 v32)
 else(
 Zdo v22 v28 v9 v18 v32 v25))
 else(
 if v21=true then(
 Zdo v23 v28 v18 v9 v32 v24)
 else(
 if v22=true then(
 Zdo v23 v28 v18 v9 v32 v24)
 else(
 if v23=true then(
 Zdn v25 v28 v9 v18 v32)
 else(
 if v24=true then(
 Zdn v25 v28 v9 v18 v32)
 else(
 if v25=true then(
 ZdX v28 v18 v32)
 else(
 if v28=true then(
 Zce v32)
 else(
 Zce v32))))))))
 else(
 let v32:=v1.Serves
 let v33:=v1.Serves
 let v34:=((List.length v33:Nat):Int)
 loopS (A:=Int×Int×Unit) (fun s35=>
   let v35:=s35.1
   let v36:=s35.2.1
 let v37:=decide (v35<v34)
 if v37=true then(
 (ixN v33 v35).bind fun v38=>
 let v39:=v38
 let v40:=v1.Serves
 (ixN v40 v36).bind fun v41=>
 let v42:=v41
 let v43:=v39.Until
 let v44:=v42.Until
 let v45:=decide (v43<v44)
 let v46:=!v45
 (if v46=true then some (some (v39.Until))else some none).bind fun v47=>
 (if v46=true then some (some (v42.Until))else some none).bind fun v48=>
 (if v46=true then(v47.bind fun v47o1=>v48.bind fun v48o2=>some (v47o1==v48o2):Option Bool).bind fun v=>some (some v)else some none).bind fun v49=>
 (if v46=true then v49 else some false:Option Bool).bind fun v50=>
 (if v50=true then some (some (v39.Socket))else some none).bind fun v51=>
 (if v50=true then some (some (v42.Socket))else some none).bind fun v52=>
 (if v50=true then(v51.bind fun v51o3=>v52.bind fun v52o4=>some (Op.bytesLess (ByteArray.toList v51o3) (ByteArray.toList v52o4)):Option Bool).bind fun v=>some (some v)else some none).bind fun v53=>
 (if v50=true then v53.bind fun v53o5=>some (!v53o5)else some false:Option Bool).bind fun v54=>
 (if v54=true then some (some (v39.Socket))else some none).bind fun v55=>
 (if v54=true then some (some (v42.Socket))else some none).bind fun v56=>
 (if v54=true then(v55.bind fun v55o6=>v56.bind fun v56o7=>some ((ByteArray.toList v55o6)==(ByteArray.toList v56o7)):Option Bool).bind fun v=>some (some v)else some none).bind fun v57=>
 (if v54=true then v57 else some false:Option Bool).bind fun v58=>
 (if v58=true then some (some (v39.Num))else some none).bind fun v59=>
 (if v58=true then some (some (v42.Num))else some none).bind fun v60=>
 (if v58=true then(v59.bind fun v59o8=>v60.bind fun v60o9=>some (decide (v59o8<v60o9)):Option Bool).bind fun v=>some (some v)else some none).bind fun v61=>
 (if v54=true then(v57.bind fun v57o10=>if v57o10=true then v61 else some false:Option Bool).bind fun v=>some (some v)else some none).bind fun v62=>
 (if v50=true then(v53.bind fun v53o11=>if v53o11=true then some true else(v62).bind fun y=>some y:Option Bool).bind fun v=>some (some v)else some none).bind fun v63=>
 (if v46=true then(v49.bind fun v49o12=>if v49o12=true then v63 else some false:Option Bool).bind fun v=>some (some v)else some none).bind fun v64=>
 (if v45=true then some true else(v64).bind fun y=>some y:Option Bool).bind fun v65=>
 if v65=true then(
 let v66:=IntKind.i64.wrap (v35+1)
 some (Sum.inl (v66,v35,())))
 else(
 let v66:=IntKind.i64.wrap (v35+1)
 some (Sum.inl (v66,v36,()))))
 else(
 (ZfG v32 v36 v1 v20 v21 v28 v9 v18 v22 v25 v23 v24).bind fun r=>some (Sum.inr r))
   ) (0,0,()))
def t57:List (Nat×TC U):=(57,⟨[.st 43,.st 33],[.ik .i64],fun(a:Zaf×Zac×Unit)=>Zef a.1 a.2.1⟩)::t225
theorem c57:Chain Tryz.prog U tab base l57 t57:=Chain.cons tb cfok c225 2 rfl rfl rfl (hs:=[])
 (fun(e:Zac×Zaf×Unit)=>Zef e.2.1 e.1) (by kernel_rfl) (fun _=>rfl)
end
end Go.AW.M
