/- Typed functions and their chain. Printed by tfn.py. -/
import Derived.Test.YtibiooglhpjojaaGreatDoorF6
set_option linter.unusedSimpArgs false
set_option linter.unusedVariables false
namespace Go.AW.M
open Go.RowKit Go.Proofs
set_option maxRecDepth 100000
noncomputable section
def Zfi (v0:Zaf)(v3:Zac)(v2:Int):Option (Zac×Zab×Unit):=
 let v35:Zaa:={ z6 with w:=v0 }
 let v36:Zaa:={ v35 with c:=v3 }
 let v37:Zaa:={ v36 with now:=v2 }
 (Zag v37).bind fun r38=>
 let v38:=r38.1
 let v39:=v38.c
 let v40:=v38.out
 some (v39,v40,())
def Zbc (v27:Int)(v2:Int)(v0:Zaf)(v3:Zac):Option (Zac×Zab×Unit):=
 let v32:=decide (v27≤v2)
 let v33:=v32
 let v34:=v32
 if v32=true then(
 Zfi v0 v3 v2)
 else(
 some (v3,(⟨[],[],[],false,false⟩:Zab),()))
def Zfj (v0:Zaf)(v3:Zac)(v2:Int):Option (Zac×Zab×Unit):=
 let v35:Zaa:={ z6 with w:=v0 }
 let v36:Zaa:={ v35 with c:=v3 }
 let v37:Zaa:={ v36 with now:=v2 }
 (Zaj v37).bind fun r38=>
 let v38:=r38.1
 let v39:=v38.c
 let v40:=v38.out
 some (v39,v40,())
def Zfk (v26:Int)(v2:Int)(v0:Zaf)(v3:Zac):Option (Zac×Zab×Unit):=
 let v32:=decide (v26≤v2)
 let v33:=v32
 let v34:=v32
 if v32=true then(
 Zfj v0 v3 v2)
 else(
 some (v3,(⟨[],[],[],false,false⟩:Zab),()))
def Zbq (v27:Int)(v26:Int)(v2:Int)(v0:Zaf)(v3:Zac):Option (Zac×Zab×Unit):=
 let v31:=decide (v27<v26)
 if v31=true then(
 Zbc v27 v2 v0 v3)
 else(
 Zfk v26 v2 v0 v3)
def Zfl (v0:Zaf)(v3:Zac)(v2:Int):Option (Zac×Zab×Unit):=
 let v35:Zaa:={ z6 with w:=v0 }
 let v36:Zaa:={ v35 with c:=v3 }
 let v37:Zaa:={ v36 with now:=v2 }
 (Zax v37).bind fun r38=>
 let v38:=r38.1
 let v39:=v38.c
 let v40:=v38.out
 some (v39,v40,())
def Zfm (v12:Int)(v2:Int)(v0:Zaf)(v3:Zac):Option (Zac×Zab×Unit):=
 let v32:=decide (v12≤v2)
 let v33:=v32
 let v34:=v32
 if v32=true then(
 Zfl v0 v3 v2)
 else(
 some (v3,(⟨[],[],[],false,false⟩:Zab),()))
def Zb7 (v27:Int)(v12:Int)(v2:Int)(v0:Zaf)(v3:Zac):Option (Zac×Zab×Unit):=
 let v31:=decide (v27<v12)
 if v31=true then(
 Zbc v27 v2 v0 v3)
 else(
 Zfm v12 v2 v0 v3)
def Zcz (v26:Int)(v12:Int)(v27:Int)(v2:Int)(v0:Zaf)(v3:Zac):Option (Zac×Zab×Unit):=
 let v30:=decide (v26<v12)
 if v30=true then(
 Zbq v27 v26 v2 v0 v3)
 else(
 Zb7 v27 v12 v2 v0 v3)
def Zeg (v0:Zaf)(v3:Zac)(v2:Int):Option (Zac×Zab×Unit):=
 let v35:Zaa:={ z6 with w:=v0 }
 let v36:Zaa:={ v35 with c:=v3 }
 let v37:Zaa:={ v36 with now:=v2 }
 (ZaK v37).bind fun r38=>
 let v38:=r38.1
 let v39:=v38.c
 let v40:=v38.out
 some (v39,v40,())
def Zeh (v7:Int)(v2:Int)(v0:Zaf)(v3:Zac):Option (Zac×Zab×Unit):=
 let v32:=decide (v7≤v2)
 let v33:=v32
 let v34:=v32
 if v32=true then(
 Zeg v0 v3 v2)
 else(
 some (v3,(⟨[],[],[],false,false⟩:Zab),()))
def ZbT (v27:Int)(v7:Int)(v2:Int)(v0:Zaf)(v3:Zac):Option (Zac×Zab×Unit):=
 let v31:=decide (v27<v7)
 if v31=true then(
 Zbc v27 v2 v0 v3)
 else(
 Zeh v7 v2 v0 v3)
def Zcg (v26:Int)(v7:Int)(v27:Int)(v2:Int)(v0:Zaf)(v3:Zac):Option (Zac×Zab×Unit):=
 let v30:=decide (v26<v7)
 if v30=true then(
 Zbq v27 v26 v2 v0 v3)
 else(
 ZbT v27 v7 v2 v0 v3)
def Zei (v2:Int)(v3:Zac):Option (Zac×Zab×Unit):=
 let v32:=decide (1099511627776≤v2)
 let v33:=v32
 let v34:=v32
 some (v3,(⟨[],[],[],false,false⟩:Zab),())
def Za7 (v27:Int)(v2:Int)(v0:Zaf)(v3:Zac):Option (Zac×Zab×Unit):=
 let v31:=decide (v27<1099511627776)
 if v31=true then(
 Zbc v27 v2 v0 v3)
 else(
 Zei v2 v3)
def Zbe (v26:Int)(v27:Int)(v2:Int)(v0:Zaf)(v3:Zac):Option (Zac×Zab×Unit):=
 let v30:=decide (v26<1099511627776)
 if v30=true then(
 Zbq v27 v26 v2 v0 v3)
 else(
 Za7 v27 v2 v0 v3)
def Zdz (v12:Int)(v26:Int)(v27:Int)(v2:Int)(v0:Zaf)(v3:Zac):Option (Zac×Zab×Unit):=
 let v29:=decide (v12<1099511627776)
 if v29=true then(
 Zcz v26 v12 v27 v2 v0 v3)
 else(
 Zbe v26 v27 v2 v0 v3)
def ZdA (v12:Int)(v27:Int)(v2:Int)(v0:Zaf)(v3:Zac):Option (Zac×Zab×Unit):=
 let v29:=decide (v12<1099511627776)
 if v29=true then(
 Zb7 v27 v12 v2 v0 v3)
 else(
 Za7 v27 v2 v0 v3)
def Zej (v0:Zaf)(v3:Zac)(v2:Int):Option (Zac×Zab×Unit):=
 let v35:Zaa:={ z6 with w:=v0 }
 let v36:Zaa:={ v35 with c:=v3 }
 let v37:Zaa:={ v36 with now:=v2 }
 (Zat v37).bind fun r38=>
 let v38:=r38.1
 let v39:=v38.c
 let v40:=v38.out
 some (v39,v40,())
def Zek (v12:Int)(v2:Int)(v0:Zaf)(v3:Zac):Option (Zac×Zab×Unit):=
 let v32:=decide (v12≤v2)
 let v33:=v32
 let v34:=v32
 if v32=true then(
 Zej v0 v3 v2)
 else(
 some (v3,(⟨[],[],[],false,false⟩:Zab),()))
def ZbU (v27:Int)(v12:Int)(v2:Int)(v0:Zaf)(v3:Zac):Option (Zac×Zab×Unit):=
 let v31:=decide (v27<v12)
 if v31=true then(
 Zbc v27 v2 v0 v3)
 else(
 Zek v12 v2 v0 v3)
def Zch (v26:Int)(v12:Int)(v27:Int)(v2:Int)(v0:Zaf)(v3:Zac):Option (Zac×Zab×Unit):=
 let v30:=decide (v26<v12)
 if v30=true then(
 Zbq v27 v26 v2 v0 v3)
 else(
 ZbU v27 v12 v2 v0 v3)
def ZdB (v12:Int)(v26:Int)(v27:Int)(v2:Int)(v0:Zaf)(v3:Zac):Option (Zac×Zab×Unit):=
 let v29:=decide (v12<1099511627776)
 if v29=true then(
 Zch v26 v12 v27 v2 v0 v3)
 else(
 Zbe v26 v27 v2 v0 v3)
def ZdC (v12:Int)(v27:Int)(v2:Int)(v0:Zaf)(v3:Zac):Option (Zac×Zab×Unit):=
 let v29:=decide (v12<1099511627776)
 if v29=true then(
 ZbU v27 v12 v2 v0 v3)
 else(
 Za7 v27 v2 v0 v3)
def Zel (v0:Zaf)(v3:Zac)(v2:Int):Option (Zac×Zab×Unit):=
 let v35:Zaa:={ z6 with w:=v0 }
 let v36:Zaa:={ v35 with c:=v3 }
 let v37:Zaa:={ v36 with now:=v2 }
 (Zaz v37).bind fun r38=>
 let v38:=r38.1
 let v39:=v38.c
 let v40:=v38.out
 some (v39,v40,())
def Zem (v12:Int)(v2:Int)(v0:Zaf)(v3:Zac):Option (Zac×Zab×Unit):=
 let v32:=decide (v12≤v2)
 let v33:=v32
 let v34:=v32
 if v32=true then(
 Zel v0 v3 v2)
 else(
 some (v3,(⟨[],[],[],false,false⟩:Zab),()))
def ZbV (v27:Int)(v12:Int)(v2:Int)(v0:Zaf)(v3:Zac):Option (Zac×Zab×Unit):=
 let v31:=decide (v27<v12)
 if v31=true then(
 Zbc v27 v2 v0 v3)
 else(
 Zem v12 v2 v0 v3)
def Zci (v26:Int)(v12:Int)(v27:Int)(v2:Int)(v0:Zaf)(v3:Zac):Option (Zac×Zab×Unit):=
 let v30:=decide (v26<v12)
 if v30=true then(
 Zbq v27 v26 v2 v0 v3)
 else(
 ZbV v27 v12 v2 v0 v3)
def Zcj (v12:Int)(v26:Int)(v27:Int)(v2:Int)(v0:Zaf)(v3:Zac):Option (Zac×Zab×Unit):=
 let v29:=decide (v12<1099511627776)
 if v29=true then(
 Zci v26 v12 v27 v2 v0 v3)
 else(
 Zbe v26 v27 v2 v0 v3)
def Zck (v12:Int)(v27:Int)(v2:Int)(v0:Zaf)(v3:Zac):Option (Zac×Zab×Unit):=
 let v29:=decide (v12<1099511627776)
 if v29=true then(
 ZbV v27 v12 v2 v0 v3)
 else(
 Za7 v27 v2 v0 v3)
def Zen (v0:Zaf)(v3:Zac)(v2:Int):Option (Zac×Zab×Unit):=
 let v35:Zaa:={ z6 with w:=v0 }
 let v36:Zaa:={ v35 with c:=v3 }
 let v37:Zaa:={ v36 with now:=v2 }
 (Zay v37).bind fun r38=>
 let v38:=r38.1
 let v39:=v38.c
 let v40:=v38.out
 some (v39,v40,())
def Zeo (v7:Int)(v2:Int)(v0:Zaf)(v3:Zac):Option (Zac×Zab×Unit):=
 let v32:=decide (v7≤v2)
 let v33:=v32
 let v34:=v32
 if v32=true then(
 Zen v0 v3 v2)
 else(
 some (v3,(⟨[],[],[],false,false⟩:Zab),()))
def ZbW (v27:Int)(v7:Int)(v2:Int)(v0:Zaf)(v3:Zac):Option (Zac×Zab×Unit):=
 let v31:=decide (v27<v7)
 if v31=true then(
 Zbc v27 v2 v0 v3)
 else(
 Zeo v7 v2 v0 v3)
def Zcl (v26:Int)(v7:Int)(v27:Int)(v2:Int)(v0:Zaf)(v3:Zac):Option (Zac×Zab×Unit):=
 let v30:=decide (v26<v7)
 if v30=true then(
 Zbq v27 v26 v2 v0 v3)
 else(
 ZbW v27 v7 v2 v0 v3)
def ZcN (v7:Int)(v26:Int)(v27:Int)(v2:Int)(v0:Zaf)(v3:Zac):Option (Zac×Zab×Unit):=
 let v29:=decide (v7<1099511627776)
 if v29=true then(
 Zcl v26 v7 v27 v2 v0 v3)
 else(
 Zbe v26 v27 v2 v0 v3)
def ZcO (v7:Int)(v27:Int)(v2:Int)(v0:Zaf)(v3:Zac):Option (Zac×Zab×Unit):=
 let v29:=decide (v7<1099511627776)
 if v29=true then(
 ZbW v27 v7 v2 v0 v3)
 else(
 Za7 v27 v2 v0 v3)
def Zep (v0:Zaf)(v3:Zac)(v2:Int):Option (Zac×Zab×Unit):=
 let v35:Zaa:={ z6 with w:=v0 }
 let v36:Zaa:={ v35 with c:=v3 }
 let v37:Zaa:={ v36 with now:=v2 }
 (ZaC v37).bind fun r38=>
 let v38:=r38.1
 let v39:=v38.c
 let v40:=v38.out
 some (v39,v40,())
def Zeq (v7:Int)(v2:Int)(v0:Zaf)(v3:Zac):Option (Zac×Zab×Unit):=
 let v32:=decide (v7≤v2)
 let v33:=v32
 let v34:=v32
 if v32=true then(
 Zep v0 v3 v2)
 else(
 some (v3,(⟨[],[],[],false,false⟩:Zab),()))
def ZbX (v27:Int)(v7:Int)(v2:Int)(v0:Zaf)(v3:Zac):Option (Zac×Zab×Unit):=
 let v31:=decide (v27<v7)
 if v31=true then(
 Zbc v27 v2 v0 v3)
 else(
 Zeq v7 v2 v0 v3)
def Zcm (v26:Int)(v7:Int)(v27:Int)(v2:Int)(v0:Zaf)(v3:Zac):Option (Zac×Zab×Unit):=
 let v30:=decide (v26<v7)
 if v30=true then(
 Zbq v27 v26 v2 v0 v3)
 else(
 ZbX v27 v7 v2 v0 v3)
def ZcP (v7:Int)(v26:Int)(v27:Int)(v2:Int)(v0:Zaf)(v3:Zac):Option (Zac×Zab×Unit):=
 let v29:=decide (v7<1099511627776)
 if v29=true then(
 Zcm v26 v7 v27 v2 v0 v3)
 else(
 Zbe v26 v27 v2 v0 v3)
def ZcQ (v7:Int)(v27:Int)(v2:Int)(v0:Zaf)(v3:Zac):Option (Zac×Zab×Unit):=
 let v29:=decide (v7<1099511627776)
 if v29=true then(
 ZbX v27 v7 v2 v0 v3)
 else(
 Za7 v27 v2 v0 v3)
def l51:Ch:=(51,⟨pS19,pS20,pS6,pS10,true⟩,[(13005,⟨[],[],[],[],[],[],[],12⟩),(9003,⟨[],[],[],[],[],[],[],12⟩)])::l177
def ZdD (v0:Zaf)(v1:Zac)(v2:Int):Option (Zac×Zab×Unit):=
 (Zbl v1).bind fun r3=>
 let v3:=r3.1
 let v4:Zaa:={ z6 with w:=v0 }
 let v5:Zaa:={ v4 with c:=v3 }
 let v6:Zaa:={ v5 with now:=v2 }
 (Zbv v6).bind fun r7=>
 let v7:=r7.1
 let v8:=r7.2.1
 let v9:Zaa:={ z6 with w:=v0 }
 let v10:Zaa:={ v9 with c:=v3 }
 let v11:Zaa:={ v10 with now:=v2 }
 (Zbm v11).bind fun r12=>
 let v12:=r12.1
 let v13:=r12.2.1
 let v14:=v8==1
 let v15:=v13==1
 let v16:=v13==2
 let v17:=v8==2
 let v18:=v8==3
 let v19:=v13==3
 let v20:=v3.Serves
 let v21:=((List.length v20:Nat):Int)
 let v22:=decide (v21>0)
 let v23:Zaa:={ z6 with w:=v0 }
 let v24:Zaa:={ v23 with c:=v3 }
 let v25:Zaa:={ v24 with now:=v2 }
 (Zbk v25).bind fun r26=>
 let v26:=r26.1
 let v27:=v3.Over
 if v14=true then(
 if v15=true then(
 if v22=true then(
 let v28:=decide (v7<1099511627776)
 if v28=true then(
 let v29:=decide (v12<v7)
 if v29=true then(
 Zcz v26 v12 v27 v2 v0 v3)
 else(
 Zcg v26 v7 v27 v2 v0 v3))
 else(
 Zdz v12 v26 v27 v2 v0 v3))
 else(
 let v28:=decide (v7<1099511627776)
 if v28=true then(
 let v29:=decide (v12<v7)
 if v29=true then(
 Zb7 v27 v12 v2 v0 v3)
 else(
 ZbT v27 v7 v2 v0 v3))
 else(
 ZdA v12 v27 v2 v0 v3)))
 else(
 if v16=true then(
 if v22=true then(
 let v28:=decide (v7<1099511627776)
 if v28=true then(
 let v29:=decide (v12<v7)
 if v29=true then(
 Zch v26 v12 v27 v2 v0 v3)
 else(
 Zcg v26 v7 v27 v2 v0 v3))
 else(
 ZdB v12 v26 v27 v2 v0 v3))
 else(
 let v28:=decide (v7<1099511627776)
 if v28=true then(
 let v29:=decide (v12<v7)
 if v29=true then(
 ZbU v27 v12 v2 v0 v3)
 else(
 ZbT v27 v7 v2 v0 v3))
 else(
 ZdC v12 v27 v2 v0 v3)))
 else(
 if v19=true then(
 if v22=true then(
 let v28:=decide (v7<1099511627776)
 if v28=true then(
 let v29:=decide (v12<v7)
 if v29=true then(
 Zci v26 v12 v27 v2 v0 v3)
 else(
 Zcg v26 v7 v27 v2 v0 v3))
 else(
 Zcj v12 v26 v27 v2 v0 v3))
 else(
 let v28:=decide (v7<1099511627776)
 if v28=true then(
 let v29:=decide (v12<v7)
 if v29=true then(
 ZbV v27 v12 v2 v0 v3)
 else(
 ZbT v27 v7 v2 v0 v3))
 else(
 Zck v12 v27 v2 v0 v3)))
 else(
 if v22=true then(
 let v28:=decide (v7<1099511627776)
 if v28=true then(
 Zcg v26 v7 v27 v2 v0 v3)
 else(
 Zbe v26 v27 v2 v0 v3))
 else(
 let v28:=decide (v7<1099511627776)
 if v28=true then(
 ZbT v27 v7 v2 v0 v3)
 else(
 Za7 v27 v2 v0 v3))))))
 else(
 if v15=true then(
 if v17=true then(
 if v22=true then(
 let v28:=decide (v12<1099511627776)
 if v28=true then(
 let v29:=decide (v7<v12)
 if v29=true then(
 Zcl v26 v7 v27 v2 v0 v3)
 else(
 Zcz v26 v12 v27 v2 v0 v3))
 else(
 ZcN v7 v26 v27 v2 v0 v3))
 else(
 let v28:=decide (v12<1099511627776)
 if v28=true then(
 let v29:=decide (v7<v12)
 if v29=true then(
 ZbW v27 v7 v2 v0 v3)
 else(
 Zb7 v27 v12 v2 v0 v3))
 else(
 ZcO v7 v27 v2 v0 v3)))
 else(
 if v18=true then(
 if v22=true then(
 let v28:=decide (v12<1099511627776)
 if v28=true then(
 let v29:=decide (v7<v12)
 if v29=true then(
 Zcm v26 v7 v27 v2 v0 v3)
 else(
 Zcz v26 v12 v27 v2 v0 v3))
 else(
 ZcP v7 v26 v27 v2 v0 v3))
 else(
 let v28:=decide (v12<1099511627776)
 if v28=true then(
 let v29:=decide (v7<v12)
 if v29=true then(
 ZbX v27 v7 v2 v0 v3)
 else(
 Zb7 v27 v12 v2 v0 v3))
 else(
 ZcQ v7 v27 v2 v0 v3)))
 else(
 if v22=true then(
 Zdz v12 v26 v27 v2 v0 v3)
 else(
 ZdA v12 v27 v2 v0 v3))))
 else(
 if v16=true then(
 if v17=true then(
 if v22=true then(
 let v28:=decide (v12<1099511627776)
 if v28=true then(
 let v29:=decide (v7<v12)
 if v29=true then(
 Zcl v26 v7 v27 v2 v0 v3)
 else(
 Zch v26 v12 v27 v2 v0 v3))
 else(
 ZcN v7 v26 v27 v2 v0 v3))
 else(
 let v28:=decide (v12<1099511627776)
 if v28=true then(
 let v29:=decide (v7<v12)
 if v29=true then(
 ZbW v27 v7 v2 v0 v3)
 else(
 ZbU v27 v12 v2 v0 v3))
 else(
 ZcO v7 v27 v2 v0 v3)))
 else(
 if v18=true then(
 if v22=true then(
 let v28:=decide (v12<1099511627776)
 if v28=true then(
 let v29:=decide (v7<v12)
 if v29=true then(
 Zcm v26 v7 v27 v2 v0 v3)
 else(
 Zch v26 v12 v27 v2 v0 v3))
 else(
 ZcP v7 v26 v27 v2 v0 v3))
 else(
 let v28:=decide (v12<1099511627776)
 if v28=true then(
 let v29:=decide (v7<v12)
 if v29=true then(
 ZbX v27 v7 v2 v0 v3)
 else(
 ZbU v27 v12 v2 v0 v3))
 else(
 ZcQ v7 v27 v2 v0 v3)))
 else(
 if v22=true then(
 ZdB v12 v26 v27 v2 v0 v3)
 else(
 ZdC v12 v27 v2 v0 v3))))
 else(
 if v17=true then(
 if v19=true then(
 if v22=true then(
 let v28:=decide (v7<1099511627776)
 if v28=true then(
 let v29:=decide (v12<v7)
 if v29=true then(
 Zci v26 v12 v27 v2 v0 v3)
 else(
 Zcl v26 v7 v27 v2 v0 v3))
 else(
 Zcj v12 v26 v27 v2 v0 v3))
 else(
 let v28:=decide (v7<1099511627776)
 if v28=true then(
 let v29:=decide (v12<v7)
 if v29=true then(
 ZbV v27 v12 v2 v0 v3)
 else(
 ZbW v27 v7 v2 v0 v3))
 else(
 Zck v12 v27 v2 v0 v3)))
 else(
 if v22=true then(
 ZcN v7 v26 v27 v2 v0 v3)
 else(
 ZcO v7 v27 v2 v0 v3)))
 else(
 if v18=true then(
 if v19=true then(
 if v22=true then(
 let v28:=decide (v7<1099511627776)
 if v28=true then(
 let v29:=decide (v12<v7)
 if v29=true then(
 Zci v26 v12 v27 v2 v0 v3)
 else(
 Zcm v26 v7 v27 v2 v0 v3))
 else(
 Zcj v12 v26 v27 v2 v0 v3))
 else(
 let v28:=decide (v7<1099511627776)
 if v28=true then(
 let v29:=decide (v12<v7)
 if v29=true then(
 ZbV v27 v12 v2 v0 v3)
 else(
 ZbX v27 v7 v2 v0 v3))
 else(
 Zck v12 v27 v2 v0 v3)))
 else(
 if v22=true then(
 ZcP v7 v26 v27 v2 v0 v3)
 else(
 ZcQ v7 v27 v2 v0 v3)))
 else(
 if v19=true then(
 if v22=true then(
 Zcj v12 v26 v27 v2 v0 v3)
 else(
 Zck v12 v27 v2 v0 v3))
 else(
 if v22=true then(
 Zbe v26 v27 v2 v0 v3)
 else(
 Za7 v27 v2 v0 v3)))))))
def t51:List (Nat×TC U):=(51,⟨[.st 43,.st 33,.ik .i64],[.st 33,.st 47],fun(a:Zaf×Zac×Int×Unit)=>ZdD a.1 a.2.1 a.2.2.1⟩)::t177
theorem c51:Chain Tryz.prog U tab base l51 t51:=Chain.cons tb cfok c177 3 rfl rfl rfl (hs:=[hS1,hS1,hS1,hS1,hS0,hS1,hS0,hS1,hS0,hS1,hS0,hS1,hS0,hS1,hS0,hS1,hS0,hS1,hS0,hS1,hS0,hS1,hS0,hS1,hS0,hS1,hS0,hS1,hS0,hS1,hS0,hS1,hS0,hS0,hS1,hS0,hS1,hS0,hS1,hS0,hS1,hS0,hS1,hS0,hS1,hS0,hS1,hS0,hS0,hS1,hS0,hS1,hS0,hS1,hS0,hS1,hS0,hS1,hS0,hS1,hS0,hS1,hS0,hS1,hS0,hS1,hS0,hS1,hS0,hS1,hS0,hS1,hS0,hS1,hS0,hS1,hS0,hS1,hS0,hS0,hS1,hS0,hS1,hS0,hS1,hS0,hS1,hS0,hS1,hS0,hS1,hS0,hS1,hS0,hS0,hS1,hS0,hS1,hS0,hS1,hS0,hS1,hS0,hS1,hS0,hS1,hS0,hS1,hS0,hS1,hS0,hS1,hS0,hS1,hS0,hS1,hS0,hS1,hS0,hS1,hS0,hS1,hS0,hS1,hS0,hS0,hS1,hS0,hS1,hS0,hS1,hS0,hS1,hS0,hS1,hS0,hS1,hS0,hS1,hS0,hS0,hS1,hS0,hS1,hS0,hS1,hS0,hS1,hS0,hS1,hS0,hS1,hS0,hS1,hS0,hS0,hS1,hS0,hS1,hS0,hS1,hS0,hS0,hS1,hS0,hS1,hS0,hS1,hS0,hS1,hS0,hS1,hS0,hS1,hS0,hS1,hS0,hS1,hS0,hS1,hS0,hS1,hS0,hS1,hS0,hS1,hS0,hS1,hS0,hS1,hS0,hS1,hS0,hS0,hS1,hS0,hS1,hS0,hS1,hS0,hS1,hS0,hS1,hS0,hS1,hS0,hS1,hS0,hS0,hS1,hS0,hS1,hS0,hS1,hS0,hS1,hS0,hS1,hS0,hS1,hS0,hS1,hS0,hS1,hS0,hS1,hS0,hS1,hS0,hS1,hS0,hS1,hS0,hS1,hS0,hS1,hS0,hS1,hS0,hS0,hS1,hS0,hS1,hS0,hS1,hS0,hS1,hS0,hS1,hS0,hS1,hS0,hS1,hS0,hS0,hS1,hS0,hS1,hS0,hS1,hS0,hS1,hS0,hS1,hS0,hS1,hS0,hS1,hS0,hS0,hS1,hS0,hS1,hS0,hS1,hS0,hS0,hS1,hS0,hS1,hS0,hS1,hS0,hS1,hS0,hS1,hS0,hS1,hS0,hS1,hS0,hS1,hS0,hS1,hS0,hS1,hS0,hS1,hS0,hS1,hS0,hS1,hS0,hS1,hS0,hS1,hS0,hS0,hS1,hS0,hS1,hS0,hS1,hS0,hS1,hS0,hS1,hS0,hS1,hS0,hS1,hS0,hS0,hS1,hS0,hS1,hS0,hS1,hS0,hS1,hS0,hS1,hS0,hS1,hS0,hS1,hS0,hS1,hS0,hS1,hS0,hS1,hS0,hS1,hS0,hS1,hS0,hS1,hS0,hS1,hS0,hS1,hS0,hS0,hS1,hS0,hS1,hS0,hS1,hS0,hS1,hS0,hS1,hS0,hS1,hS0,hS1,hS0,hS0,hS1,hS0,hS1,hS0,hS1,hS0,hS1,hS0,hS1,hS0,hS1,hS0,hS1,hS0,hS0,hS1,hS0,hS1,hS0,hS1,hS0,hS0,hS1,hS0,hS1,hS0,hS1,hS0,hS1,hS0,hS1,hS0,hS1,hS0,hS1,hS0,hS1,hS0,hS1,hS0,hS1,hS0,hS1,hS0,hS1,hS0,hS1,hS0,hS1,hS0,hS1,hS0,hS0,hS1,hS0,hS1,hS0,hS1,hS0,hS1,hS0,hS1,hS0,hS1,hS0,hS1,hS0,hS0,hS1,hS0,hS1,hS0,hS1,hS0,hS1,hS0,hS1,hS0,hS1,hS0,hS1,hS0,hS0,hS1,hS0,hS1,hS0,hS1,hS0,hS0,hS1,hS0,hS1,hS0,hS1,hS0,hS1,hS0,hS1,hS0,hS1,hS0,hS1,hS0,hS1,hS0,hS1,hS0,hS1,hS0,hS1,hS0,hS1,hS0,hS1,hS0,hS1,hS0,hS1,hS0,hS0,hS1,hS0,hS1,hS0,hS1,hS0,hS1,hS0,hS1,hS0,hS1,hS0,hS1,hS0,hS0,hS1,hS0,hS1,hS0,hS1,hS0,hS1,hS0,hS1,hS0,hS1,hS0,hS1,hS0,hS0,hS1,hS0,hS1,hS0,hS1,hS0,hS0,hS1,hS0,hS1,hS0,hS1,hS0,hS1,hS0,hS1,hS0,hS1,hS0,hS1,hS0,hS0,hS1,hS0,hS1,hS0,hS1,hS0,hS0,hS1,hS0,hS1,hS0,hS1,hS0,hS0,hS1,hS0,hS0])
 (fun(e:Int×Zac×Zaf×Unit)=>ZdD e.2.2.1 e.2.1 e.1) (by kernel_rfl) (fun _=>rfl)
end
end Go.AW.M
