/- Typed functions and their chain. Printed by tfn.py. -/
import Derived.Test.YtibiooglhpjojaaGreatDoorT0
set_option linter.unusedSimpArgs false
set_option linter.unusedVariables false
namespace Go.AW.M
open Go.RowKit Go.Proofs
set_option maxRecDepth 100000
noncomputable section
def l251:Ch:=(251,⟨pS13,pS9,pS0,pS1,false⟩,[])::[]
def Zdv (v0:ByteArray)(v1:Int):Option (Int×Unit):=
 (idxF (v0,v1,())).bind fun r2=>
 let v2:=r2.1
 some (v2,())
def t251:List (Nat×TC U):=(251,⟨[.str,.ik .u8],[.ik .i64],fun(a:ByteArray×Int×Unit)=>Zdv a.1 a.2.1⟩)::t0
theorem c251:Chain Tryz.prog U tab base l251 t251:=Chain.cons tb cfok c0 2 rfl rfl rfl (hs:=[])
 (fun(e:Int×ByteArray×Unit)=>Zdv e.2.1 e.1) (by kernel_rfl) (fun _=>rfl)
def l8:Ch:=(8,⟨[],⟨0,[],1,0,[],[],[],[],[],[]⟩,pS0,pS1,false⟩,[(11801,⟨[],[],[],[],[],[],[],12⟩),(11901,⟨[],[],[],[],[],[],[],12⟩),(15801,⟨[],[],[],[],[],[],[],12⟩),(16101,⟨[],[],[],[],[],[],[],12⟩),(15603,⟨[],[],[],[],[],[],[],40⟩),(19203,⟨[],[],[],[],[],[],[],40⟩),(16503,⟨[],[],[],[],[],[],[],40⟩),(15903,⟨[],[],[],[],[],[],[],40⟩),(19403,⟨[],[],[],[],[],[],[],40⟩),(12103,⟨[],[],[],[],[],[],[],40⟩),(3202,⟨[],[],[],[],[],[],[],40⟩)])::l251
def Zdw:Option (Bool×Unit):=
 some (true,())
def t8:List (Nat×TC U):=(8,⟨[],[.bool],fun(a:Unit)=>Zdw⟩)::t251
theorem c8:Chain Tryz.prog U tab base l8 t8:=Chain.cons tb cfok c251 0 rfl rfl rfl (hs:=[])
 (fun(e:Unit)=>Zdw) (by kernel_rfl) (fun _=>rfl)
def Zjd (v18:Zad)(v21:Int)(v22:List ByteArray):Option ((Int×(List ByteArray)×Unit)⊕((Int×(List Zad)×Unit)⊕(Zac×Unit))):=
 let v28:=v18.Words
 (ixN v28 v21).bind fun v29=>
 let v30:=v29
 let v31:=[v30]
 (apN 16 v22 v31).bind fun v32=>
 let v33:=IntKind.i64.wrap (v21+1)
 some (Sum.inl (v33,v32,()))
def Zdf (v18:Zad)(v21:Int)(v22:List ByteArray):Option ((Int×(List ByteArray)×Unit)⊕((Int×(List Zad)×Unit)⊕(Zac×Unit))):=
 let v25:=v18.Words
 let v26:=((List.length v25:Nat):Int)
 let v27:=decide (v21<v26)
 if v27=true then(
 Zjd v18 v21 v22)
 else(
 (apN 16 v22 ([(⟨#[]⟩:ByteArray)]:List ByteArray)).bind fun v28=>
 let v29:=IntKind.i64.wrap (v21+1)
 some (Sum.inl (v29,v28,())))
def ZcI (v18:Zad)(v22:List ByteArray)(v10:List Zad)(v9:Int):Option ((Int×(List Zad)×Unit)⊕(Zac×Unit)):=
 let v25:Zad:={ v18 with Words:=v22 }
 let v26:=[v25]
 (apN 32 v10 v26).bind fun v27=>
 let v28:=IntKind.i64.wrap (v9+1)
 some (Sum.inl (v28,v27,()))
def Zdg (v18:Zad)(v22:List ByteArray)(v10:List Zad)(v9:Int):Option ((Int×(List ByteArray)×Unit)⊕((Int×(List Zad)×Unit)⊕(Zac×Unit))):=
 (ZcI v18 v22 v10 v9).bind fun r=>some (Sum.inr r)
def Zje (v16:Int)(v17:List ByteArray):Option ((Int×(List ByteArray)×Unit)⊕((Int×(List Zad)×Unit)⊕(Zac×Unit))):=
 (ixN ([]:List ByteArray) v16).bind fun v21=>
 let v22:=v21
 let v23:=[v22]
 (apN 16 v17 v23).bind fun v24=>
 let v25:=IntKind.i64.wrap (v16+1)
 some (Sum.inl (v25,v24,()))
def Zjf (v16:Int)(v17:List ByteArray):Option ((Int×(List ByteArray)×Unit)⊕((Int×(List Zad)×Unit)⊕(Zac×Unit))):=
 let v20:=decide (v16<0)
 if v20=true then(
 Zje v16 v17)
 else(
 (apN 16 v17 ([(⟨#[]⟩:ByteArray)]:List ByteArray)).bind fun v21=>
 let v22:=IntKind.i64.wrap (v16+1)
 some (Sum.inl (v22,v21,())))
def Zjg (v17:List ByteArray)(v10:List Zad)(v9:Int):Option ((Int×(List Zad)×Unit)⊕(Zac×Unit)):=
 let v20:Zad:={ (⟨false,[]⟩:Zad)with Words:=v17 }
 let v21:=[v20]
 (apN 32 v10 v21).bind fun v22=>
 let v23:=IntKind.i64.wrap (v9+1)
 some (Sum.inl (v23,v22,()))
def Zjh (v17:List ByteArray)(v10:List Zad)(v9:Int):Option ((Int×(List ByteArray)×Unit)⊕((Int×(List Zad)×Unit)⊕(Zac×Unit))):=
 (Zjg v17 v10 v9).bind fun r=>some (Sum.inr r)
def Zdh (v10:List Zad)(v9:Int):Option ((Int×(List Zad)×Unit)⊕(Zac×Unit)):=
 loopS (A:=Int×(List ByteArray)×Unit) (fun s16=>
   let v16:=s16.1
   let v17:=s16.2.1
 let v18:=decide (v16<0)
 let v19:=v18
 if v18=true then(
 Zjf v16 v17)
 else(
 Zjh v17 v10 v9)
   ) (0,([]:List ByteArray),())
def Zgv (v0:Zac)(v4:List Zau)(v10:List Zad)(v16:List Zad)(v22:List Zad)(v28:List Zad)(v34:List Zad)(v40:List Int)(v46:List Zav)(v52:List ByteArray)(v58:List Int)(v64:List Int)(v70:List Int)(v76:List Int)(v82:List ByteArray)(v88:List ByteArray)(v94:List ByteArray)(v100:List ByteArray)(v106:List ByteArray)(v112:List Int)(v118:List Zao)(v124:List Zao):Option (Zac×Unit):=
 let v127:Zac:={ v0 with U:={ v0.U with Rels:=v4 } }
 let v128:Zac:={ v127 with U:={ v127.U with Pre:=v10 } }
 let v129:Zac:={ v128 with U:={ v128.U with Start:=v16 } }
 let v130:Zac:={ v129 with U:={ v129.U with Post:=v22 } }
 let v131:Zac:={ v130 with U:={ v130.U with Stop:=v28 } }
 let v132:Zac:={ v131 with U:={ v131.U with Reload:=v34 } }
 let v133:Zac:={ v132 with U:={ v132.U with Success:=v40 } }
 let v134:Zac:={ v133 with U:={ v133.U with Env:=v46 } }
 let v135:Zac:={ v134 with U:={ v134.U with Sockets:=v52 } }
 let v136:Zac:={ v135 with U:={ v135.U with Ports:=v58 } }
 let v137:Zac:={ v136 with U:={ v136.U with Boot:=v64 } }
 let v138:Zac:={ v137 with U:={ v137.U with Active:=v70 } }
 let v139:Zac:={ v138 with U:={ v138.U with Idle:=v76 } }
 let v140:Zac:={ v139 with U:={ v139.U with Calendar:=v82 } }
 let v141:Zac:={ v140 with U:={ v140.U with WantedBy:=v88 } }
 let v142:Zac:={ v141 with U:={ v141.U with RequiredBy:=v94 } }
 let v143:Zac:={ v142 with U:={ v142.U with Alias:=v100 } }
 let v144:Zac:={ v143 with U:={ v143.U with Also:=v106 } }
 let v145:Zac:={ v144 with Begins:=v112 }
 let v146:Zac:={ v145 with Serves:=v118 }
 let v147:Zac:={ v146 with Waits:=v124 }
 some (v147,())
def ZeE (v0:Zac)(v4:List Zau)(v10:List Zad)(v16:List Zad)(v22:List Zad)(v28:List Zad)(v34:List Zad)(v40:List Int)(v46:List Zav)(v52:List ByteArray)(v58:List Int)(v64:List Int)(v70:List Int)(v76:List Int)(v82:List ByteArray)(v88:List ByteArray)(v94:List ByteArray)(v100:List ByteArray)(v106:List ByteArray)(v112:List Int)(v118:List Zao):Option (Zac×Unit):=
 let v121:=v0.Waits
 let v122:=((List.length v121:Nat):Int)
 loopS (A:=Int×(List Zao)×Unit) (fun s123=>
   let v123:=s123.1
   let v124:=s123.2.1
 let v125:=decide (v123<v122)
 let v126:=v125
 if v125=true then(
 let v127:=v0.Waits
 let v128:=((List.length v127:Nat):Int)
 let v129:=decide (v123<v128)
 if v129=true then(
 let v130:=v0.Waits
 (ixN v130 v123).bind fun v131=>
 let v132:=v131
 let v133:=[v132]
 (apN 48 v124 v133).bind fun v134=>
 let v135:=IntKind.i64.wrap (v123+1)
 some (Sum.inl (v135,v134,())))
 else(
 (apN 48 v124 ([(⟨(⟨#[]⟩:ByteArray),0,0,0,0⟩:Zao)]:List Zao)).bind fun v130=>
 let v131:=IntKind.i64.wrap (v123+1)
 some (Sum.inl (v131,v130,()))))
 else(
 (Zgv v0 v4 v10 v16 v22 v28 v34 v40 v46 v52 v58 v64 v70 v76 v82 v88 v94 v100 v106 v112 v118 v124).bind fun r=>some (Sum.inr r))
   ) (0,([]:List Zao),())
def ZeF (v0:Zac)(v4:List Zau)(v10:List Zad)(v16:List Zad)(v22:List Zad)(v28:List Zad)(v34:List Zad)(v40:List Int)(v46:List Zav)(v52:List ByteArray)(v58:List Int)(v64:List Int)(v70:List Int)(v76:List Int)(v82:List ByteArray)(v88:List ByteArray)(v94:List ByteArray)(v100:List ByteArray)(v106:List ByteArray)(v112:List Int):Option (Zac×Unit):=
 let v115:=v0.Serves
 let v116:=((List.length v115:Nat):Int)
 loopS (A:=Int×(List Zao)×Unit) (fun s117=>
   let v117:=s117.1
   let v118:=s117.2.1
 let v119:=decide (v117<v116)
 let v120:=v119
 if v119=true then(
 let v121:=v0.Serves
 let v122:=((List.length v121:Nat):Int)
 let v123:=decide (v117<v122)
 if v123=true then(
 let v124:=v0.Serves
 (ixN v124 v117).bind fun v125=>
 let v126:=v125
 let v127:=[v126]
 (apN 48 v118 v127).bind fun v128=>
 let v129:=IntKind.i64.wrap (v117+1)
 some (Sum.inl (v129,v128,())))
 else(
 (apN 48 v118 ([(⟨(⟨#[]⟩:ByteArray),0,0,0,0⟩:Zao)]:List Zao)).bind fun v124=>
 let v125:=IntKind.i64.wrap (v117+1)
 some (Sum.inl (v125,v124,()))))
 else(
 (ZeE v0 v4 v10 v16 v22 v28 v34 v40 v46 v52 v58 v64 v70 v76 v82 v88 v94 v100 v106 v112 v118).bind fun r=>some (Sum.inr r))
   ) (0,([]:List Zao),())
def ZeG (v0:Zac)(v4:List Zau)(v10:List Zad)(v16:List Zad)(v22:List Zad)(v28:List Zad)(v34:List Zad)(v40:List Int)(v46:List Zav)(v52:List ByteArray)(v58:List Int)(v64:List Int)(v70:List Int)(v76:List Int)(v82:List ByteArray)(v88:List ByteArray)(v94:List ByteArray)(v100:List ByteArray)(v106:List ByteArray):Option (Zac×Unit):=
 let v109:=v0.Begins
 let v110:=((List.length v109:Nat):Int)
 loopS (A:=Int×(List Int)×Unit) (fun s111=>
   let v111:=s111.1
   let v112:=s111.2.1
 let v113:=decide (v111<v110)
 let v114:=v113
 if v113=true then(
 let v115:=v0.Begins
 let v116:=((List.length v115:Nat):Int)
 let v117:=decide (v111<v116)
 if v117=true then(
 let v118:=v0.Begins
 (ixN v118 v111).bind fun v119=>
 let v120:=v119
 let v121:=[v120]
 (apN 8 v112 v121).bind fun v122=>
 let v123:=IntKind.i64.wrap (v111+1)
 some (Sum.inl (v123,v122,())))
 else(
 (apN 8 v112 ([0]:List Int)).bind fun v118=>
 let v119:=IntKind.i64.wrap (v111+1)
 some (Sum.inl (v119,v118,()))))
 else(
 (ZeF v0 v4 v10 v16 v22 v28 v34 v40 v46 v52 v58 v64 v70 v76 v82 v88 v94 v100 v106 v112).bind fun r=>some (Sum.inr r))
   ) (0,([]:List Int),())
def ZeH (v0:Zac)(v4:List Zau)(v10:List Zad)(v16:List Zad)(v22:List Zad)(v28:List Zad)(v34:List Zad)(v40:List Int)(v46:List Zav)(v52:List ByteArray)(v58:List Int)(v64:List Int)(v70:List Int)(v76:List Int)(v82:List ByteArray)(v88:List ByteArray)(v94:List ByteArray)(v100:List ByteArray):Option (Zac×Unit):=
 let v103:=v0.U.Also
 let v104:=((List.length v103:Nat):Int)
 loopS (A:=Int×(List ByteArray)×Unit) (fun s105=>
   let v105:=s105.1
   let v106:=s105.2.1
 let v107:=decide (v105<v104)
 let v108:=v107
 if v107=true then(
 let v109:=v0.U.Also
 let v110:=((List.length v109:Nat):Int)
 let v111:=decide (v105<v110)
 if v111=true then(
 let v112:=v0.U.Also
 (ixN v112 v105).bind fun v113=>
 let v114:=v113
 let v115:=[v114]
 (apN 16 v106 v115).bind fun v116=>
 let v117:=IntKind.i64.wrap (v105+1)
 some (Sum.inl (v117,v116,())))
 else(
 (apN 16 v106 ([(⟨#[]⟩:ByteArray)]:List ByteArray)).bind fun v112=>
 let v113:=IntKind.i64.wrap (v105+1)
 some (Sum.inl (v113,v112,()))))
 else(
 (ZeG v0 v4 v10 v16 v22 v28 v34 v40 v46 v52 v58 v64 v70 v76 v82 v88 v94 v100 v106).bind fun r=>some (Sum.inr r))
   ) (0,([]:List ByteArray),())
def ZeI (v0:Zac)(v4:List Zau)(v10:List Zad)(v16:List Zad)(v22:List Zad)(v28:List Zad)(v34:List Zad)(v40:List Int)(v46:List Zav)(v52:List ByteArray)(v58:List Int)(v64:List Int)(v70:List Int)(v76:List Int)(v82:List ByteArray)(v88:List ByteArray)(v94:List ByteArray):Option (Zac×Unit):=
 let v97:=v0.U.Alias
 let v98:=((List.length v97:Nat):Int)
 loopS (A:=Int×(List ByteArray)×Unit) (fun s99=>
   let v99:=s99.1
   let v100:=s99.2.1
 let v101:=decide (v99<v98)
 let v102:=v101
 if v101=true then(
 let v103:=v0.U.Alias
 let v104:=((List.length v103:Nat):Int)
 let v105:=decide (v99<v104)
 if v105=true then(
 let v106:=v0.U.Alias
 (ixN v106 v99).bind fun v107=>
 let v108:=v107
 let v109:=[v108]
 (apN 16 v100 v109).bind fun v110=>
 let v111:=IntKind.i64.wrap (v99+1)
 some (Sum.inl (v111,v110,())))
 else(
 (apN 16 v100 ([(⟨#[]⟩:ByteArray)]:List ByteArray)).bind fun v106=>
 let v107:=IntKind.i64.wrap (v99+1)
 some (Sum.inl (v107,v106,()))))
 else(
 (ZeH v0 v4 v10 v16 v22 v28 v34 v40 v46 v52 v58 v64 v70 v76 v82 v88 v94 v100).bind fun r=>some (Sum.inr r))
   ) (0,([]:List ByteArray),())
def ZeJ (v0:Zac)(v4:List Zau)(v10:List Zad)(v16:List Zad)(v22:List Zad)(v28:List Zad)(v34:List Zad)(v40:List Int)(v46:List Zav)(v52:List ByteArray)(v58:List Int)(v64:List Int)(v70:List Int)(v76:List Int)(v82:List ByteArray)(v88:List ByteArray):Option (Zac×Unit):=
 let v91:=v0.U.RequiredBy
 let v92:=((List.length v91:Nat):Int)
 loopS (A:=Int×(List ByteArray)×Unit) (fun s93=>
   let v93:=s93.1
   let v94:=s93.2.1
 let v95:=decide (v93<v92)
 let v96:=v95
 if v95=true then(
 let v97:=v0.U.RequiredBy
 let v98:=((List.length v97:Nat):Int)
 let v99:=decide (v93<v98)
 if v99=true then(
 let v100:=v0.U.RequiredBy
 (ixN v100 v93).bind fun v101=>
 let v102:=v101
 let v103:=[v102]
 (apN 16 v94 v103).bind fun v104=>
 let v105:=IntKind.i64.wrap (v93+1)
 some (Sum.inl (v105,v104,())))
 else(
 (apN 16 v94 ([(⟨#[]⟩:ByteArray)]:List ByteArray)).bind fun v100=>
 let v101:=IntKind.i64.wrap (v93+1)
 some (Sum.inl (v101,v100,()))))
 else(
 (ZeI v0 v4 v10 v16 v22 v28 v34 v40 v46 v52 v58 v64 v70 v76 v82 v88 v94).bind fun r=>some (Sum.inr r))
   ) (0,([]:List ByteArray),())
def ZeK (v0:Zac)(v4:List Zau)(v10:List Zad)(v16:List Zad)(v22:List Zad)(v28:List Zad)(v34:List Zad)(v40:List Int)(v46:List Zav)(v52:List ByteArray)(v58:List Int)(v64:List Int)(v70:List Int)(v76:List Int)(v82:List ByteArray):Option (Zac×Unit):=
 let v85:=v0.U.WantedBy
 let v86:=((List.length v85:Nat):Int)
 loopS (A:=Int×(List ByteArray)×Unit) (fun s87=>
   let v87:=s87.1
   let v88:=s87.2.1
 let v89:=decide (v87<v86)
 let v90:=v89
 if v89=true then(
 let v91:=v0.U.WantedBy
 let v92:=((List.length v91:Nat):Int)
 let v93:=decide (v87<v92)
 if v93=true then(
 let v94:=v0.U.WantedBy
 (ixN v94 v87).bind fun v95=>
 let v96:=v95
 let v97:=[v96]
 (apN 16 v88 v97).bind fun v98=>
 let v99:=IntKind.i64.wrap (v87+1)
 some (Sum.inl (v99,v98,())))
 else(
 (apN 16 v88 ([(⟨#[]⟩:ByteArray)]:List ByteArray)).bind fun v94=>
 let v95:=IntKind.i64.wrap (v87+1)
 some (Sum.inl (v95,v94,()))))
 else(
 (ZeJ v0 v4 v10 v16 v22 v28 v34 v40 v46 v52 v58 v64 v70 v76 v82 v88).bind fun r=>some (Sum.inr r))
   ) (0,([]:List ByteArray),())
def ZeL (v0:Zac)(v4:List Zau)(v10:List Zad)(v16:List Zad)(v22:List Zad)(v28:List Zad)(v34:List Zad)(v40:List Int)(v46:List Zav)(v52:List ByteArray)(v58:List Int)(v64:List Int)(v70:List Int)(v76:List Int):Option (Zac×Unit):=
 let v79:=v0.U.Calendar
 let v80:=((List.length v79:Nat):Int)
 loopS (A:=Int×(List ByteArray)×Unit) (fun s81=>
   let v81:=s81.1
   let v82:=s81.2.1
 let v83:=decide (v81<v80)
 let v84:=v83
 if v83=true then(
 let v85:=v0.U.Calendar
 let v86:=((List.length v85:Nat):Int)
 let v87:=decide (v81<v86)
 if v87=true then(
 let v88:=v0.U.Calendar
 (ixN v88 v81).bind fun v89=>
 let v90:=v89
 let v91:=[v90]
 (apN 16 v82 v91).bind fun v92=>
 let v93:=IntKind.i64.wrap (v81+1)
 some (Sum.inl (v93,v92,())))
 else(
 (apN 16 v82 ([(⟨#[]⟩:ByteArray)]:List ByteArray)).bind fun v88=>
 let v89:=IntKind.i64.wrap (v81+1)
 some (Sum.inl (v89,v88,()))))
 else(
 (ZeK v0 v4 v10 v16 v22 v28 v34 v40 v46 v52 v58 v64 v70 v76 v82).bind fun r=>some (Sum.inr r))
   ) (0,([]:List ByteArray),())
def ZeM (v0:Zac)(v4:List Zau)(v10:List Zad)(v16:List Zad)(v22:List Zad)(v28:List Zad)(v34:List Zad)(v40:List Int)(v46:List Zav)(v52:List ByteArray)(v58:List Int)(v64:List Int)(v70:List Int):Option (Zac×Unit):=
 let v73:=v0.U.Idle
 let v74:=((List.length v73:Nat):Int)
 loopS (A:=Int×(List Int)×Unit) (fun s75=>
   let v75:=s75.1
   let v76:=s75.2.1
 let v77:=decide (v75<v74)
 let v78:=v77
 if v77=true then(
 let v79:=v0.U.Idle
 let v80:=((List.length v79:Nat):Int)
 let v81:=decide (v75<v80)
 if v81=true then(
 let v82:=v0.U.Idle
 (ixN v82 v75).bind fun v83=>
 let v84:=v83
 let v85:=[v84]
 (apN 8 v76 v85).bind fun v86=>
 let v87:=IntKind.i64.wrap (v75+1)
 some (Sum.inl (v87,v86,())))
 else(
 (apN 8 v76 ([0]:List Int)).bind fun v82=>
 let v83:=IntKind.i64.wrap (v75+1)
 some (Sum.inl (v83,v82,()))))
 else(
 (ZeL v0 v4 v10 v16 v22 v28 v34 v40 v46 v52 v58 v64 v70 v76).bind fun r=>some (Sum.inr r))
   ) (0,([]:List Int),())
def ZeN (v0:Zac)(v4:List Zau)(v10:List Zad)(v16:List Zad)(v22:List Zad)(v28:List Zad)(v34:List Zad)(v40:List Int)(v46:List Zav)(v52:List ByteArray)(v58:List Int)(v64:List Int):Option (Zac×Unit):=
 let v67:=v0.U.Active
 let v68:=((List.length v67:Nat):Int)
 loopS (A:=Int×(List Int)×Unit) (fun s69=>
   let v69:=s69.1
   let v70:=s69.2.1
 let v71:=decide (v69<v68)
 let v72:=v71
 if v71=true then(
 let v73:=v0.U.Active
 let v74:=((List.length v73:Nat):Int)
 let v75:=decide (v69<v74)
 if v75=true then(
 let v76:=v0.U.Active
 (ixN v76 v69).bind fun v77=>
 let v78:=v77
 let v79:=[v78]
 (apN 8 v70 v79).bind fun v80=>
 let v81:=IntKind.i64.wrap (v69+1)
 some (Sum.inl (v81,v80,())))
 else(
 (apN 8 v70 ([0]:List Int)).bind fun v76=>
 let v77:=IntKind.i64.wrap (v69+1)
 some (Sum.inl (v77,v76,()))))
 else(
 (ZeM v0 v4 v10 v16 v22 v28 v34 v40 v46 v52 v58 v64 v70).bind fun r=>some (Sum.inr r))
   ) (0,([]:List Int),())
def ZeO (v0:Zac)(v4:List Zau)(v10:List Zad)(v16:List Zad)(v22:List Zad)(v28:List Zad)(v34:List Zad)(v40:List Int)(v46:List Zav)(v52:List ByteArray)(v58:List Int):Option (Zac×Unit):=
 let v61:=v0.U.Boot
 let v62:=((List.length v61:Nat):Int)
 loopS (A:=Int×(List Int)×Unit) (fun s63=>
   let v63:=s63.1
   let v64:=s63.2.1
 let v65:=decide (v63<v62)
 let v66:=v65
 if v65=true then(
 let v67:=v0.U.Boot
 let v68:=((List.length v67:Nat):Int)
 let v69:=decide (v63<v68)
 if v69=true then(
 let v70:=v0.U.Boot
 (ixN v70 v63).bind fun v71=>
 let v72:=v71
 let v73:=[v72]
 (apN 8 v64 v73).bind fun v74=>
 let v75:=IntKind.i64.wrap (v63+1)
 some (Sum.inl (v75,v74,())))
 else(
 (apN 8 v64 ([0]:List Int)).bind fun v70=>
 let v71:=IntKind.i64.wrap (v63+1)
 some (Sum.inl (v71,v70,()))))
 else(
 (ZeN v0 v4 v10 v16 v22 v28 v34 v40 v46 v52 v58 v64).bind fun r=>some (Sum.inr r))
   ) (0,([]:List Int),())
def ZeP (v0:Zac)(v4:List Zau)(v10:List Zad)(v16:List Zad)(v22:List Zad)(v28:List Zad)(v34:List Zad)(v40:List Int)(v46:List Zav)(v52:List ByteArray):Option (Zac×Unit):=
 let v55:=v0.U.Ports
 let v56:=((List.length v55:Nat):Int)
 loopS (A:=Int×(List Int)×Unit) (fun s57=>
   let v57:=s57.1
   let v58:=s57.2.1
 let v59:=decide (v57<v56)
 let v60:=v59
 if v59=true then(
 let v61:=v0.U.Ports
 let v62:=((List.length v61:Nat):Int)
 let v63:=decide (v57<v62)
 if v63=true then(
 let v64:=v0.U.Ports
 (ixN v64 v57).bind fun v65=>
 let v66:=v65
 let v67:=[v66]
 (apN 8 v58 v67).bind fun v68=>
 let v69:=IntKind.i64.wrap (v57+1)
 some (Sum.inl (v69,v68,())))
 else(
 (apN 8 v58 ([0]:List Int)).bind fun v64=>
 let v65:=IntKind.i64.wrap (v57+1)
 some (Sum.inl (v65,v64,()))))
 else(
 (ZeO v0 v4 v10 v16 v22 v28 v34 v40 v46 v52 v58).bind fun r=>some (Sum.inr r))
   ) (0,([]:List Int),())
def ZeQ (v0:Zac)(v4:List Zau)(v10:List Zad)(v16:List Zad)(v22:List Zad)(v28:List Zad)(v34:List Zad)(v40:List Int)(v46:List Zav):Option (Zac×Unit):=
 let v49:=v0.U.Sockets
 let v50:=((List.length v49:Nat):Int)
 loopS (A:=Int×(List ByteArray)×Unit) (fun s51=>
   let v51:=s51.1
   let v52:=s51.2.1
 let v53:=decide (v51<v50)
 let v54:=v53
 if v53=true then(
 let v55:=v0.U.Sockets
 let v56:=((List.length v55:Nat):Int)
 let v57:=decide (v51<v56)
 if v57=true then(
 let v58:=v0.U.Sockets
 (ixN v58 v51).bind fun v59=>
 let v60:=v59
 let v61:=[v60]
 (apN 16 v52 v61).bind fun v62=>
 let v63:=IntKind.i64.wrap (v51+1)
 some (Sum.inl (v63,v62,())))
 else(
 (apN 16 v52 ([(⟨#[]⟩:ByteArray)]:List ByteArray)).bind fun v58=>
 let v59:=IntKind.i64.wrap (v51+1)
 some (Sum.inl (v59,v58,()))))
 else(
 (ZeP v0 v4 v10 v16 v22 v28 v34 v40 v46 v52).bind fun r=>some (Sum.inr r))
   ) (0,([]:List ByteArray),())
def ZeR (v0:Zac)(v4:List Zau)(v10:List Zad)(v16:List Zad)(v22:List Zad)(v28:List Zad)(v34:List Zad)(v40:List Int):Option (Zac×Unit):=
 let v43:=v0.U.Env
 let v44:=((List.length v43:Nat):Int)
 loopS (A:=Int×(List Zav)×Unit) (fun s45=>
   let v45:=s45.1
   let v46:=s45.2.1
 let v47:=decide (v45<v44)
 let v48:=v47
 if v47=true then(
 let v49:=v0.U.Env
 let v50:=((List.length v49:Nat):Int)
 let v51:=decide (v45<v50)
 if v51=true then(
 let v52:=v0.U.Env
 (ixN v52 v45).bind fun v53=>
 let v54:=v53
 let v55:=[v54]
 (apN 32 v46 v55).bind fun v56=>
 let v57:=IntKind.i64.wrap (v45+1)
 some (Sum.inl (v57,v56,())))
 else(
 (apN 32 v46 ([(⟨(⟨#[]⟩:ByteArray),(⟨#[]⟩:ByteArray)⟩:Zav)]:List Zav)).bind fun v52=>
 let v53:=IntKind.i64.wrap (v45+1)
 some (Sum.inl (v53,v52,()))))
 else(
 (ZeQ v0 v4 v10 v16 v22 v28 v34 v40 v46).bind fun r=>some (Sum.inr r))
   ) (0,([]:List Zav),())
def ZeS (v0:Zac)(v4:List Zau)(v10:List Zad)(v16:List Zad)(v22:List Zad)(v28:List Zad)(v34:List Zad):Option (Zac×Unit):=
 let v37:=v0.U.Success
 let v38:=((List.length v37:Nat):Int)
 loopS (A:=Int×(List Int)×Unit) (fun s39=>
   let v39:=s39.1
   let v40:=s39.2.1
 let v41:=decide (v39<v38)
 let v42:=v41
 if v41=true then(
 let v43:=v0.U.Success
 let v44:=((List.length v43:Nat):Int)
 let v45:=decide (v39<v44)
 if v45=true then(
 let v46:=v0.U.Success
 (ixN v46 v39).bind fun v47=>
 let v48:=v47
 let v49:=[v48]
 (apN 8 v40 v49).bind fun v50=>
 let v51:=IntKind.i64.wrap (v39+1)
 some (Sum.inl (v51,v50,())))
 else(
 (apN 8 v40 ([0]:List Int)).bind fun v46=>
 let v47:=IntKind.i64.wrap (v39+1)
 some (Sum.inl (v47,v46,()))))
 else(
 (ZeR v0 v4 v10 v16 v22 v28 v34 v40).bind fun r=>some (Sum.inr r))
   ) (0,([]:List Int),())
def ZeT (v0:Zac)(v4:List Zau)(v10:List Zad)(v16:List Zad)(v22:List Zad)(v28:List Zad):Option (Zac×Unit):=
 let v31:=v0.U.Reload
 let v32:=((List.length v31:Nat):Int)
 loopS (A:=Int×(List Zad)×Unit) (fun s33=>
   let v33:=s33.1
   let v34:=s33.2.1
 let v35:=decide (v33<v32)
 let v36:=v35
 if v35=true then(
 let v37:=v0.U.Reload
 let v38:=((List.length v37:Nat):Int)
 let v39:=decide (v33<v38)
 if v39=true then(
 let v40:=v0.U.Reload
 (ixN v40 v33).bind fun v41=>
 let v42:=v41
 let v43:=v42.Words
 let v44:=((List.length v43:Nat):Int)
 loopS (A:=Int×(List ByteArray)×Unit) (fun s45=>
   let v45:=s45.1
   let v46:=s45.2.1
 let v47:=decide (v45<v44)
 let v48:=v47
 if v47=true then(
 Zdf v42 v45 v46)
 else(
 Zdg v42 v46 v34 v33)
   ) (0,([]:List ByteArray),()))
 else(
 Zdh v34 v33))
 else(
 (ZeS v0 v4 v10 v16 v22 v28 v34).bind fun r=>some (Sum.inr r))
   ) (0,([]:List Zad),())
def ZeU (v0:Zac)(v4:List Zau)(v10:List Zad)(v16:List Zad)(v22:List Zad):Option (Zac×Unit):=
 let v25:=v0.U.Stop
 let v26:=((List.length v25:Nat):Int)
 loopS (A:=Int×(List Zad)×Unit) (fun s27=>
   let v27:=s27.1
   let v28:=s27.2.1
 let v29:=decide (v27<v26)
 let v30:=v29
 if v29=true then(
 let v31:=v0.U.Stop
 let v32:=((List.length v31:Nat):Int)
 let v33:=decide (v27<v32)
 if v33=true then(
 let v34:=v0.U.Stop
 (ixN v34 v27).bind fun v35=>
 let v36:=v35
 let v37:=v36.Words
 let v38:=((List.length v37:Nat):Int)
 loopS (A:=Int×(List ByteArray)×Unit) (fun s39=>
   let v39:=s39.1
   let v40:=s39.2.1
 let v41:=decide (v39<v38)
 let v42:=v41
 if v41=true then(
 Zdf v36 v39 v40)
 else(
 Zdg v36 v40 v28 v27)
   ) (0,([]:List ByteArray),()))
 else(
 Zdh v28 v27))
 else(
 (ZeT v0 v4 v10 v16 v22 v28).bind fun r=>some (Sum.inr r))
   ) (0,([]:List Zad),())
def ZeV (v0:Zac)(v4:List Zau)(v10:List Zad)(v16:List Zad):Option (Zac×Unit):=
 let v19:=v0.U.Post
 let v20:=((List.length v19:Nat):Int)
 loopS (A:=Int×(List Zad)×Unit) (fun s21=>
   let v21:=s21.1
   let v22:=s21.2.1
 let v23:=decide (v21<v20)
 let v24:=v23
 if v23=true then(
 let v25:=v0.U.Post
 let v26:=((List.length v25:Nat):Int)
 let v27:=decide (v21<v26)
 if v27=true then(
 let v28:=v0.U.Post
 (ixN v28 v21).bind fun v29=>
 let v30:=v29
 let v31:=v30.Words
 let v32:=((List.length v31:Nat):Int)
 loopS (A:=Int×(List ByteArray)×Unit) (fun s33=>
   let v33:=s33.1
   let v34:=s33.2.1
 let v35:=decide (v33<v32)
 let v36:=v35
 if v35=true then(
 Zdf v30 v33 v34)
 else(
 Zdg v30 v34 v22 v21)
   ) (0,([]:List ByteArray),()))
 else(
 Zdh v22 v21))
 else(
 (ZeU v0 v4 v10 v16 v22).bind fun r=>some (Sum.inr r))
   ) (0,([]:List Zad),())
def ZeW (v0:Zac)(v4:List Zau)(v10:List Zad):Option (Zac×Unit):=
 let v13:=v0.U.Start
 let v14:=((List.length v13:Nat):Int)
 loopS (A:=Int×(List Zad)×Unit) (fun s15=>
   let v15:=s15.1
   let v16:=s15.2.1
 let v17:=decide (v15<v14)
 let v18:=v17
 if v17=true then(
 let v19:=v0.U.Start
 let v20:=((List.length v19:Nat):Int)
 let v21:=decide (v15<v20)
 if v21=true then(
 let v22:=v0.U.Start
 (ixN v22 v15).bind fun v23=>
 let v24:=v23
 let v25:=v24.Words
 let v26:=((List.length v25:Nat):Int)
 loopS (A:=Int×(List ByteArray)×Unit) (fun s27=>
   let v27:=s27.1
   let v28:=s27.2.1
 let v29:=decide (v27<v26)
 let v30:=v29
 if v29=true then(
 Zdf v24 v27 v28)
 else(
 Zdg v24 v28 v16 v15)
   ) (0,([]:List ByteArray),()))
 else(
 Zdh v16 v15))
 else(
 (ZeV v0 v4 v10 v16).bind fun r=>some (Sum.inr r))
   ) (0,([]:List Zad),())
def ZeX (v0:Zac)(v4:List Zau):Option (Zac×Unit):=
 let v7:=v0.U.Pre
 let v8:=((List.length v7:Nat):Int)
 loopS (A:=Int×(List Zad)×Unit) (fun s9=>
   let v9:=s9.1
   let v10:=s9.2.1
 let v11:=decide (v9<v8)
 let v12:=v11
 if v11=true then(
 let v13:=v0.U.Pre
 let v14:=((List.length v13:Nat):Int)
 let v15:=decide (v9<v14)
 if v15=true then(
 let v16:=v0.U.Pre
 (ixN v16 v9).bind fun v17=>
 let v18:=v17
 let v19:=v18.Words
 let v20:=((List.length v19:Nat):Int)
 loopS (A:=Int×(List ByteArray)×Unit) (fun s21=>
   let v21:=s21.1
   let v22:=s21.2.1
 let v23:=decide (v21<v20)
 let v24:=v23
 if v23=true then(
 Zdf v18 v21 v22)
 else(
 Zdg v18 v22 v10 v9)
   ) (0,([]:List ByteArray),()))
 else(
 Zdh v10 v9))
 else(
 (ZeW v0 v4 v10).bind fun r=>some (Sum.inr r))
   ) (0,([]:List Zad),())
def l40:Ch:=(40,⟨pS16,pS8,⟨[0],[],[],[],[(0,(55,1000105)),(0,(56,1000105))],[],[],0⟩,[(0,⟨none,.agg (.c []) 62 .d []⟩)],false⟩,[(11801,⟨[],[],[],[],[],[],[],12⟩),(11901,⟨[],[],[],[],[],[],[],12⟩),(15801,⟨[],[],[],[],[],[],[],12⟩),(16101,⟨[],[],[],[],[],[],[],12⟩),(15603,⟨[8,7],[],[(7,162)],[],[],[],[],0⟩),(19403,⟨[8,7],[],[(7,9)],[],[],[],[],0⟩),(19203,⟨[8,7],[],[(7,158)],[],[],[],[],0⟩),(16503,⟨[8,7],[],[(7,3)],[],[],[],[],0⟩),(15903,⟨[8,7],[],[(7,160)],[],[],[],[],0⟩),(12103,⟨[8,7],[],[(7,1000105)],[],[],[],[],0⟩)])::l8
def Zbl (v0:Zac):Option (Zac×Unit):=
 let v1:=v0.U.Rels
 let v2:=((List.length v1:Nat):Int)
 loopS (A:=Int×(List Zau)×Unit) (fun s3=>
   let v3:=s3.1
   let v4:=s3.2.1
 let v5:=decide (v3<v2)
 let v6:=v5
 if v5=true then(
 let v7:=v0.U.Rels
 let v8:=((List.length v7:Nat):Int)
 let v9:=decide (v3<v8)
 if v9=true then(
 let v10:=v0.U.Rels
 (ixN v10 v3).bind fun v11=>
 let v12:=v11
 let v13:=[v12]
 (apN 24 v4 v13).bind fun v14=>
 let v15:=IntKind.i64.wrap (v3+1)
 some (Sum.inl (v15,v14,())))
 else(
 (apN 24 v4 ([(⟨0,(⟨#[]⟩:ByteArray)⟩:Zau)]:List Zau)).bind fun v10=>
 let v11:=IntKind.i64.wrap (v3+1)
 some (Sum.inl (v11,v10,()))))
 else(
 (ZeX v0 v4).bind fun r=>some (Sum.inr r))
   ) (0,([]:List Zau),())
def t40:List (Nat×TC U):=(40,⟨[.st 33],[.st 33],fun(a:Zac×Unit)=>Zbl a.1⟩)::t8
theorem c40:Chain Tryz.prog U tab base l40 t40:=Chain.cons tb cfok c8 1 rfl rfl rfl (hs:=[⟨.li (.st 162),([]:List Zau)⟩,hS13,hS9,hS2,hS4,hS2,hS2,hS4,hS6,hS9,hS2,hS4,hS2,hS2,hS4,hS6,hS9,hS2,hS4,hS2,hS2,hS4,hS6,hS9,hS2,hS4,hS2,hS2,hS4,hS6,hS9,hS2,hS4,hS2,hS2,hS4,hS6,hS5,hS7,⟨.li (.st 160),([]:List Zav)⟩,hS15,hS2,hS4,hS5,hS7,hS5,hS7,hS5,hS7,hS5,hS7,hS2,hS4,hS2,hS4,hS2,hS4,hS2,hS4,hS2,hS4,hS5,hS7,hS10,hS16,hS10,hS16])
 (fun(e:Zac×Unit)=>Zbl e.1) (by kernel_rfl) (fun _=>rfl)
def Zji (v18:Zad)(v21:Int)(v22:List ByteArray):Option ((Int×(List ByteArray)×Unit)⊕((Int×(List Zad)×Unit)⊕(Zae×Unit))):=
 let v28:=v18.Words
 (ixN v28 v21).bind fun v29=>
 let v30:=v29
 let v31:=[v30]
 (apN 16 v22 v31).bind fun v32=>
 let v33:=IntKind.i64.wrap (v21+1)
 some (Sum.inl (v33,v32,()))
def Zdi (v18:Zad)(v21:Int)(v22:List ByteArray):Option ((Int×(List ByteArray)×Unit)⊕((Int×(List Zad)×Unit)⊕(Zae×Unit))):=
 let v25:=v18.Words
 let v26:=((List.length v25:Nat):Int)
 let v27:=decide (v21<v26)
 if v27=true then(
 Zji v18 v21 v22)
 else(
 (apN 16 v22 ([(⟨#[]⟩:ByteArray)]:List ByteArray)).bind fun v28=>
 let v29:=IntKind.i64.wrap (v21+1)
 some (Sum.inl (v29,v28,())))
def ZcJ (v18:Zad)(v22:List ByteArray)(v10:List Zad)(v9:Int):Option ((Int×(List Zad)×Unit)⊕(Zae×Unit)):=
 let v25:Zad:={ v18 with Words:=v22 }
 let v26:=[v25]
 (apN 32 v10 v26).bind fun v27=>
 let v28:=IntKind.i64.wrap (v9+1)
 some (Sum.inl (v28,v27,()))
def Zdj (v18:Zad)(v22:List ByteArray)(v10:List Zad)(v9:Int):Option ((Int×(List ByteArray)×Unit)⊕((Int×(List Zad)×Unit)⊕(Zae×Unit))):=
 (ZcJ v18 v22 v10 v9).bind fun r=>some (Sum.inr r)
def Zjj (v16:Int)(v17:List ByteArray):Option ((Int×(List ByteArray)×Unit)⊕((Int×(List Zad)×Unit)⊕(Zae×Unit))):=
 (ixN ([]:List ByteArray) v16).bind fun v21=>
 let v22:=v21
 let v23:=[v22]
 (apN 16 v17 v23).bind fun v24=>
 let v25:=IntKind.i64.wrap (v16+1)
 some (Sum.inl (v25,v24,()))
def Zjk (v16:Int)(v17:List ByteArray):Option ((Int×(List ByteArray)×Unit)⊕((Int×(List Zad)×Unit)⊕(Zae×Unit))):=
 let v20:=decide (v16<0)
 if v20=true then(
 Zjj v16 v17)
 else(
 (apN 16 v17 ([(⟨#[]⟩:ByteArray)]:List ByteArray)).bind fun v21=>
 let v22:=IntKind.i64.wrap (v16+1)
 some (Sum.inl (v22,v21,())))
def Zjl (v17:List ByteArray)(v10:List Zad)(v9:Int):Option ((Int×(List Zad)×Unit)⊕(Zae×Unit)):=
 let v20:Zad:={ (⟨false,[]⟩:Zad)with Words:=v17 }
 let v21:=[v20]
 (apN 32 v10 v21).bind fun v22=>
 let v23:=IntKind.i64.wrap (v9+1)
 some (Sum.inl (v23,v22,()))
def Zjm (v17:List ByteArray)(v10:List Zad)(v9:Int):Option ((Int×(List ByteArray)×Unit)⊕((Int×(List Zad)×Unit)⊕(Zae×Unit))):=
 (Zjl v17 v10 v9).bind fun r=>some (Sum.inr r)
def Zdk (v10:List Zad)(v9:Int):Option ((Int×(List Zad)×Unit)⊕(Zae×Unit)):=
 loopS (A:=Int×(List ByteArray)×Unit) (fun s16=>
   let v16:=s16.1
   let v17:=s16.2.1
 let v18:=decide (v16<0)
 let v19:=v18
 if v18=true then(
 Zjk v16 v17)
 else(
 Zjm v17 v10 v9)
   ) (0,([]:List ByteArray),())
def Zgw (v0:Zae)(v4:List Zau)(v10:List Zad)(v16:List Zad)(v22:List Zad)(v28:List Zad)(v34:List Zad)(v40:List Int)(v46:List Zav)(v52:List ByteArray)(v58:List Int)(v64:List Int)(v70:List Int)(v76:List Int)(v82:List ByteArray)(v88:List ByteArray)(v94:List ByteArray)(v100:List ByteArray)(v106:List ByteArray):Option (Zae×Unit):=
 let v109:Zae:={ v0 with Rels:=v4 }
 let v110:Zae:={ v109 with Pre:=v10 }
 let v111:Zae:={ v110 with Start:=v16 }
 let v112:Zae:={ v111 with Post:=v22 }
 let v113:Zae:={ v112 with Stop:=v28 }
 let v114:Zae:={ v113 with Reload:=v34 }
 let v115:Zae:={ v114 with Success:=v40 }
 let v116:Zae:={ v115 with Env:=v46 }
 let v117:Zae:={ v116 with Sockets:=v52 }
 let v118:Zae:={ v117 with Ports:=v58 }
 let v119:Zae:={ v118 with Boot:=v64 }
 let v120:Zae:={ v119 with Active:=v70 }
 let v121:Zae:={ v120 with Idle:=v76 }
 let v122:Zae:={ v121 with Calendar:=v82 }
 let v123:Zae:={ v122 with WantedBy:=v88 }
 let v124:Zae:={ v123 with RequiredBy:=v94 }
 let v125:Zae:={ v124 with Alias:=v100 }
 let v126:Zae:={ v125 with Also:=v106 }
 some (v126,())
def ZeY (v0:Zae)(v4:List Zau)(v10:List Zad)(v16:List Zad)(v22:List Zad)(v28:List Zad)(v34:List Zad)(v40:List Int)(v46:List Zav)(v52:List ByteArray)(v58:List Int)(v64:List Int)(v70:List Int)(v76:List Int)(v82:List ByteArray)(v88:List ByteArray)(v94:List ByteArray)(v100:List ByteArray):Option (Zae×Unit):=
 let v103:=v0.Also
 let v104:=((List.length v103:Nat):Int)
 loopS (A:=Int×(List ByteArray)×Unit) (fun s105=>
   let v105:=s105.1
   let v106:=s105.2.1
 let v107:=decide (v105<v104)
 let v108:=v107
 if v107=true then(
 let v109:=v0.Also
 let v110:=((List.length v109:Nat):Int)
 let v111:=decide (v105<v110)
 if v111=true then(
 let v112:=v0.Also
 (ixN v112 v105).bind fun v113=>
 let v114:=v113
 let v115:=[v114]
 (apN 16 v106 v115).bind fun v116=>
 let v117:=IntKind.i64.wrap (v105+1)
 some (Sum.inl (v117,v116,())))
 else(
 (apN 16 v106 ([(⟨#[]⟩:ByteArray)]:List ByteArray)).bind fun v112=>
 let v113:=IntKind.i64.wrap (v105+1)
 some (Sum.inl (v113,v112,()))))
 else(
 (Zgw v0 v4 v10 v16 v22 v28 v34 v40 v46 v52 v58 v64 v70 v76 v82 v88 v94 v100 v106).bind fun r=>some (Sum.inr r))
   ) (0,([]:List ByteArray),())
def ZeZ (v0:Zae)(v4:List Zau)(v10:List Zad)(v16:List Zad)(v22:List Zad)(v28:List Zad)(v34:List Zad)(v40:List Int)(v46:List Zav)(v52:List ByteArray)(v58:List Int)(v64:List Int)(v70:List Int)(v76:List Int)(v82:List ByteArray)(v88:List ByteArray)(v94:List ByteArray):Option (Zae×Unit):=
 let v97:=v0.Alias
 let v98:=((List.length v97:Nat):Int)
 loopS (A:=Int×(List ByteArray)×Unit) (fun s99=>
   let v99:=s99.1
   let v100:=s99.2.1
 let v101:=decide (v99<v98)
 let v102:=v101
 if v101=true then(
 let v103:=v0.Alias
 let v104:=((List.length v103:Nat):Int)
 let v105:=decide (v99<v104)
 if v105=true then(
 let v106:=v0.Alias
 (ixN v106 v99).bind fun v107=>
 let v108:=v107
 let v109:=[v108]
 (apN 16 v100 v109).bind fun v110=>
 let v111:=IntKind.i64.wrap (v99+1)
 some (Sum.inl (v111,v110,())))
 else(
 (apN 16 v100 ([(⟨#[]⟩:ByteArray)]:List ByteArray)).bind fun v106=>
 let v107:=IntKind.i64.wrap (v99+1)
 some (Sum.inl (v107,v106,()))))
 else(
 (ZeY v0 v4 v10 v16 v22 v28 v34 v40 v46 v52 v58 v64 v70 v76 v82 v88 v94 v100).bind fun r=>some (Sum.inr r))
   ) (0,([]:List ByteArray),())
def Ze0 (v0:Zae)(v4:List Zau)(v10:List Zad)(v16:List Zad)(v22:List Zad)(v28:List Zad)(v34:List Zad)(v40:List Int)(v46:List Zav)(v52:List ByteArray)(v58:List Int)(v64:List Int)(v70:List Int)(v76:List Int)(v82:List ByteArray)(v88:List ByteArray):Option (Zae×Unit):=
 let v91:=v0.RequiredBy
 let v92:=((List.length v91:Nat):Int)
 loopS (A:=Int×(List ByteArray)×Unit) (fun s93=>
   let v93:=s93.1
   let v94:=s93.2.1
 let v95:=decide (v93<v92)
 let v96:=v95
 if v95=true then(
 let v97:=v0.RequiredBy
 let v98:=((List.length v97:Nat):Int)
 let v99:=decide (v93<v98)
 if v99=true then(
 let v100:=v0.RequiredBy
 (ixN v100 v93).bind fun v101=>
 let v102:=v101
 let v103:=[v102]
 (apN 16 v94 v103).bind fun v104=>
 let v105:=IntKind.i64.wrap (v93+1)
 some (Sum.inl (v105,v104,())))
 else(
 (apN 16 v94 ([(⟨#[]⟩:ByteArray)]:List ByteArray)).bind fun v100=>
 let v101:=IntKind.i64.wrap (v93+1)
 some (Sum.inl (v101,v100,()))))
 else(
 (ZeZ v0 v4 v10 v16 v22 v28 v34 v40 v46 v52 v58 v64 v70 v76 v82 v88 v94).bind fun r=>some (Sum.inr r))
   ) (0,([]:List ByteArray),())
def Ze1 (v0:Zae)(v4:List Zau)(v10:List Zad)(v16:List Zad)(v22:List Zad)(v28:List Zad)(v34:List Zad)(v40:List Int)(v46:List Zav)(v52:List ByteArray)(v58:List Int)(v64:List Int)(v70:List Int)(v76:List Int)(v82:List ByteArray):Option (Zae×Unit):=
 let v85:=v0.WantedBy
 let v86:=((List.length v85:Nat):Int)
 loopS (A:=Int×(List ByteArray)×Unit) (fun s87=>
   let v87:=s87.1
   let v88:=s87.2.1
 let v89:=decide (v87<v86)
 let v90:=v89
 if v89=true then(
 let v91:=v0.WantedBy
 let v92:=((List.length v91:Nat):Int)
 let v93:=decide (v87<v92)
 if v93=true then(
 let v94:=v0.WantedBy
 (ixN v94 v87).bind fun v95=>
 let v96:=v95
 let v97:=[v96]
 (apN 16 v88 v97).bind fun v98=>
 let v99:=IntKind.i64.wrap (v87+1)
 some (Sum.inl (v99,v98,())))
 else(
 (apN 16 v88 ([(⟨#[]⟩:ByteArray)]:List ByteArray)).bind fun v94=>
 let v95:=IntKind.i64.wrap (v87+1)
 some (Sum.inl (v95,v94,()))))
 else(
 (Ze0 v0 v4 v10 v16 v22 v28 v34 v40 v46 v52 v58 v64 v70 v76 v82 v88).bind fun r=>some (Sum.inr r))
   ) (0,([]:List ByteArray),())
def Ze2 (v0:Zae)(v4:List Zau)(v10:List Zad)(v16:List Zad)(v22:List Zad)(v28:List Zad)(v34:List Zad)(v40:List Int)(v46:List Zav)(v52:List ByteArray)(v58:List Int)(v64:List Int)(v70:List Int)(v76:List Int):Option (Zae×Unit):=
 let v79:=v0.Calendar
 let v80:=((List.length v79:Nat):Int)
 loopS (A:=Int×(List ByteArray)×Unit) (fun s81=>
   let v81:=s81.1
   let v82:=s81.2.1
 let v83:=decide (v81<v80)
 let v84:=v83
 if v83=true then(
 let v85:=v0.Calendar
 let v86:=((List.length v85:Nat):Int)
 let v87:=decide (v81<v86)
 if v87=true then(
 let v88:=v0.Calendar
 (ixN v88 v81).bind fun v89=>
 let v90:=v89
 let v91:=[v90]
 (apN 16 v82 v91).bind fun v92=>
 let v93:=IntKind.i64.wrap (v81+1)
 some (Sum.inl (v93,v92,())))
 else(
 (apN 16 v82 ([(⟨#[]⟩:ByteArray)]:List ByteArray)).bind fun v88=>
 let v89:=IntKind.i64.wrap (v81+1)
 some (Sum.inl (v89,v88,()))))
 else(
 (Ze1 v0 v4 v10 v16 v22 v28 v34 v40 v46 v52 v58 v64 v70 v76 v82).bind fun r=>some (Sum.inr r))
   ) (0,([]:List ByteArray),())
def Ze3 (v0:Zae)(v4:List Zau)(v10:List Zad)(v16:List Zad)(v22:List Zad)(v28:List Zad)(v34:List Zad)(v40:List Int)(v46:List Zav)(v52:List ByteArray)(v58:List Int)(v64:List Int)(v70:List Int):Option (Zae×Unit):=
 let v73:=v0.Idle
 let v74:=((List.length v73:Nat):Int)
 loopS (A:=Int×(List Int)×Unit) (fun s75=>
   let v75:=s75.1
   let v76:=s75.2.1
 let v77:=decide (v75<v74)
 let v78:=v77
 if v77=true then(
 let v79:=v0.Idle
 let v80:=((List.length v79:Nat):Int)
 let v81:=decide (v75<v80)
 if v81=true then(
 let v82:=v0.Idle
 (ixN v82 v75).bind fun v83=>
 let v84:=v83
 let v85:=[v84]
 (apN 8 v76 v85).bind fun v86=>
 let v87:=IntKind.i64.wrap (v75+1)
 some (Sum.inl (v87,v86,())))
 else(
 (apN 8 v76 ([0]:List Int)).bind fun v82=>
 let v83:=IntKind.i64.wrap (v75+1)
 some (Sum.inl (v83,v82,()))))
 else(
 (Ze2 v0 v4 v10 v16 v22 v28 v34 v40 v46 v52 v58 v64 v70 v76).bind fun r=>some (Sum.inr r))
   ) (0,([]:List Int),())
def Ze4 (v0:Zae)(v4:List Zau)(v10:List Zad)(v16:List Zad)(v22:List Zad)(v28:List Zad)(v34:List Zad)(v40:List Int)(v46:List Zav)(v52:List ByteArray)(v58:List Int)(v64:List Int):Option (Zae×Unit):=
 let v67:=v0.Active
 let v68:=((List.length v67:Nat):Int)
 loopS (A:=Int×(List Int)×Unit) (fun s69=>
   let v69:=s69.1
   let v70:=s69.2.1
 let v71:=decide (v69<v68)
 let v72:=v71
 if v71=true then(
 let v73:=v0.Active
 let v74:=((List.length v73:Nat):Int)
 let v75:=decide (v69<v74)
 if v75=true then(
 let v76:=v0.Active
 (ixN v76 v69).bind fun v77=>
 let v78:=v77
 let v79:=[v78]
 (apN 8 v70 v79).bind fun v80=>
 let v81:=IntKind.i64.wrap (v69+1)
 some (Sum.inl (v81,v80,())))
 else(
 (apN 8 v70 ([0]:List Int)).bind fun v76=>
 let v77:=IntKind.i64.wrap (v69+1)
 some (Sum.inl (v77,v76,()))))
 else(
 (Ze3 v0 v4 v10 v16 v22 v28 v34 v40 v46 v52 v58 v64 v70).bind fun r=>some (Sum.inr r))
   ) (0,([]:List Int),())
def Ze5 (v0:Zae)(v4:List Zau)(v10:List Zad)(v16:List Zad)(v22:List Zad)(v28:List Zad)(v34:List Zad)(v40:List Int)(v46:List Zav)(v52:List ByteArray)(v58:List Int):Option (Zae×Unit):=
 let v61:=v0.Boot
 let v62:=((List.length v61:Nat):Int)
 loopS (A:=Int×(List Int)×Unit) (fun s63=>
   let v63:=s63.1
   let v64:=s63.2.1
 let v65:=decide (v63<v62)
 let v66:=v65
 if v65=true then(
 let v67:=v0.Boot
 let v68:=((List.length v67:Nat):Int)
 let v69:=decide (v63<v68)
 if v69=true then(
 let v70:=v0.Boot
 (ixN v70 v63).bind fun v71=>
 let v72:=v71
 let v73:=[v72]
 (apN 8 v64 v73).bind fun v74=>
 let v75:=IntKind.i64.wrap (v63+1)
 some (Sum.inl (v75,v74,())))
 else(
 (apN 8 v64 ([0]:List Int)).bind fun v70=>
 let v71:=IntKind.i64.wrap (v63+1)
 some (Sum.inl (v71,v70,()))))
 else(
 (Ze4 v0 v4 v10 v16 v22 v28 v34 v40 v46 v52 v58 v64).bind fun r=>some (Sum.inr r))
   ) (0,([]:List Int),())
def Ze6 (v0:Zae)(v4:List Zau)(v10:List Zad)(v16:List Zad)(v22:List Zad)(v28:List Zad)(v34:List Zad)(v40:List Int)(v46:List Zav)(v52:List ByteArray):Option (Zae×Unit):=
 let v55:=v0.Ports
 let v56:=((List.length v55:Nat):Int)
 loopS (A:=Int×(List Int)×Unit) (fun s57=>
   let v57:=s57.1
   let v58:=s57.2.1
 let v59:=decide (v57<v56)
 let v60:=v59
 if v59=true then(
 let v61:=v0.Ports
 let v62:=((List.length v61:Nat):Int)
 let v63:=decide (v57<v62)
 if v63=true then(
 let v64:=v0.Ports
 (ixN v64 v57).bind fun v65=>
 let v66:=v65
 let v67:=[v66]
 (apN 8 v58 v67).bind fun v68=>
 let v69:=IntKind.i64.wrap (v57+1)
 some (Sum.inl (v69,v68,())))
 else(
 (apN 8 v58 ([0]:List Int)).bind fun v64=>
 let v65:=IntKind.i64.wrap (v57+1)
 some (Sum.inl (v65,v64,()))))
 else(
 (Ze5 v0 v4 v10 v16 v22 v28 v34 v40 v46 v52 v58).bind fun r=>some (Sum.inr r))
   ) (0,([]:List Int),())
def Ze7 (v0:Zae)(v4:List Zau)(v10:List Zad)(v16:List Zad)(v22:List Zad)(v28:List Zad)(v34:List Zad)(v40:List Int)(v46:List Zav):Option (Zae×Unit):=
 let v49:=v0.Sockets
 let v50:=((List.length v49:Nat):Int)
 loopS (A:=Int×(List ByteArray)×Unit) (fun s51=>
   let v51:=s51.1
   let v52:=s51.2.1
 let v53:=decide (v51<v50)
 let v54:=v53
 if v53=true then(
 let v55:=v0.Sockets
 let v56:=((List.length v55:Nat):Int)
 let v57:=decide (v51<v56)
 if v57=true then(
 let v58:=v0.Sockets
 (ixN v58 v51).bind fun v59=>
 let v60:=v59
 let v61:=[v60]
 (apN 16 v52 v61).bind fun v62=>
 let v63:=IntKind.i64.wrap (v51+1)
 some (Sum.inl (v63,v62,())))
 else(
 (apN 16 v52 ([(⟨#[]⟩:ByteArray)]:List ByteArray)).bind fun v58=>
 let v59:=IntKind.i64.wrap (v51+1)
 some (Sum.inl (v59,v58,()))))
 else(
 (Ze6 v0 v4 v10 v16 v22 v28 v34 v40 v46 v52).bind fun r=>some (Sum.inr r))
   ) (0,([]:List ByteArray),())
def Ze8 (v0:Zae)(v4:List Zau)(v10:List Zad)(v16:List Zad)(v22:List Zad)(v28:List Zad)(v34:List Zad)(v40:List Int):Option (Zae×Unit):=
 let v43:=v0.Env
 let v44:=((List.length v43:Nat):Int)
 loopS (A:=Int×(List Zav)×Unit) (fun s45=>
   let v45:=s45.1
   let v46:=s45.2.1
 let v47:=decide (v45<v44)
 let v48:=v47
 if v47=true then(
 let v49:=v0.Env
 let v50:=((List.length v49:Nat):Int)
 let v51:=decide (v45<v50)
 if v51=true then(
 let v52:=v0.Env
 (ixN v52 v45).bind fun v53=>
 let v54:=v53
 let v55:=[v54]
 (apN 32 v46 v55).bind fun v56=>
 let v57:=IntKind.i64.wrap (v45+1)
 some (Sum.inl (v57,v56,())))
 else(
 (apN 32 v46 ([(⟨(⟨#[]⟩:ByteArray),(⟨#[]⟩:ByteArray)⟩:Zav)]:List Zav)).bind fun v52=>
 let v53:=IntKind.i64.wrap (v45+1)
 some (Sum.inl (v53,v52,()))))
 else(
 (Ze7 v0 v4 v10 v16 v22 v28 v34 v40 v46).bind fun r=>some (Sum.inr r))
   ) (0,([]:List Zav),())
def Ze9 (v0:Zae)(v4:List Zau)(v10:List Zad)(v16:List Zad)(v22:List Zad)(v28:List Zad)(v34:List Zad):Option (Zae×Unit):=
 let v37:=v0.Success
 let v38:=((List.length v37:Nat):Int)
 loopS (A:=Int×(List Int)×Unit) (fun s39=>
   let v39:=s39.1
   let v40:=s39.2.1
 let v41:=decide (v39<v38)
 let v42:=v41
 if v41=true then(
 let v43:=v0.Success
 let v44:=((List.length v43:Nat):Int)
 let v45:=decide (v39<v44)
 if v45=true then(
 let v46:=v0.Success
 (ixN v46 v39).bind fun v47=>
 let v48:=v47
 let v49:=[v48]
 (apN 8 v40 v49).bind fun v50=>
 let v51:=IntKind.i64.wrap (v39+1)
 some (Sum.inl (v51,v50,())))
 else(
 (apN 8 v40 ([0]:List Int)).bind fun v46=>
 let v47:=IntKind.i64.wrap (v39+1)
 some (Sum.inl (v47,v46,()))))
 else(
 (Ze8 v0 v4 v10 v16 v22 v28 v34 v40).bind fun r=>some (Sum.inr r))
   ) (0,([]:List Int),())
def Zfa (v0:Zae)(v4:List Zau)(v10:List Zad)(v16:List Zad)(v22:List Zad)(v28:List Zad):Option (Zae×Unit):=
 let v31:=v0.Reload
 let v32:=((List.length v31:Nat):Int)
 loopS (A:=Int×(List Zad)×Unit) (fun s33=>
   let v33:=s33.1
   let v34:=s33.2.1
 let v35:=decide (v33<v32)
 let v36:=v35
 if v35=true then(
 let v37:=v0.Reload
 let v38:=((List.length v37:Nat):Int)
 let v39:=decide (v33<v38)
 if v39=true then(
 let v40:=v0.Reload
 (ixN v40 v33).bind fun v41=>
 let v42:=v41
 let v43:=v42.Words
 let v44:=((List.length v43:Nat):Int)
 loopS (A:=Int×(List ByteArray)×Unit) (fun s45=>
   let v45:=s45.1
   let v46:=s45.2.1
 let v47:=decide (v45<v44)
 let v48:=v47
 if v47=true then(
 Zdi v42 v45 v46)
 else(
 Zdj v42 v46 v34 v33)
   ) (0,([]:List ByteArray),()))
 else(
 Zdk v34 v33))
 else(
 (Ze9 v0 v4 v10 v16 v22 v28 v34).bind fun r=>some (Sum.inr r))
   ) (0,([]:List Zad),())
def Zfb (v0:Zae)(v4:List Zau)(v10:List Zad)(v16:List Zad)(v22:List Zad):Option (Zae×Unit):=
 let v25:=v0.Stop
 let v26:=((List.length v25:Nat):Int)
 loopS (A:=Int×(List Zad)×Unit) (fun s27=>
   let v27:=s27.1
   let v28:=s27.2.1
 let v29:=decide (v27<v26)
 let v30:=v29
 if v29=true then(
 let v31:=v0.Stop
 let v32:=((List.length v31:Nat):Int)
 let v33:=decide (v27<v32)
 if v33=true then(
 let v34:=v0.Stop
 (ixN v34 v27).bind fun v35=>
 let v36:=v35
 let v37:=v36.Words
 let v38:=((List.length v37:Nat):Int)
 loopS (A:=Int×(List ByteArray)×Unit) (fun s39=>
   let v39:=s39.1
   let v40:=s39.2.1
 let v41:=decide (v39<v38)
 let v42:=v41
 if v41=true then(
 Zdi v36 v39 v40)
 else(
 Zdj v36 v40 v28 v27)
   ) (0,([]:List ByteArray),()))
 else(
 Zdk v28 v27))
 else(
 (Zfa v0 v4 v10 v16 v22 v28).bind fun r=>some (Sum.inr r))
   ) (0,([]:List Zad),())
def Zfc (v0:Zae)(v4:List Zau)(v10:List Zad)(v16:List Zad):Option (Zae×Unit):=
 let v19:=v0.Post
 let v20:=((List.length v19:Nat):Int)
 loopS (A:=Int×(List Zad)×Unit) (fun s21=>
   let v21:=s21.1
   let v22:=s21.2.1
 let v23:=decide (v21<v20)
 let v24:=v23
 if v23=true then(
 let v25:=v0.Post
 let v26:=((List.length v25:Nat):Int)
 let v27:=decide (v21<v26)
 if v27=true then(
 let v28:=v0.Post
 (ixN v28 v21).bind fun v29=>
 let v30:=v29
 let v31:=v30.Words
 let v32:=((List.length v31:Nat):Int)
 loopS (A:=Int×(List ByteArray)×Unit) (fun s33=>
   let v33:=s33.1
   let v34:=s33.2.1
 let v35:=decide (v33<v32)
 let v36:=v35
 if v35=true then(
 Zdi v30 v33 v34)
 else(
 Zdj v30 v34 v22 v21)
   ) (0,([]:List ByteArray),()))
 else(
 Zdk v22 v21))
 else(
 (Zfb v0 v4 v10 v16 v22).bind fun r=>some (Sum.inr r))
   ) (0,([]:List Zad),())
def Zfd (v0:Zae)(v4:List Zau)(v10:List Zad):Option (Zae×Unit):=
 let v13:=v0.Start
 let v14:=((List.length v13:Nat):Int)
 loopS (A:=Int×(List Zad)×Unit) (fun s15=>
   let v15:=s15.1
   let v16:=s15.2.1
 let v17:=decide (v15<v14)
 let v18:=v17
 if v17=true then(
 let v19:=v0.Start
 let v20:=((List.length v19:Nat):Int)
 let v21:=decide (v15<v20)
 if v21=true then(
 let v22:=v0.Start
 (ixN v22 v15).bind fun v23=>
 let v24:=v23
 let v25:=v24.Words
 let v26:=((List.length v25:Nat):Int)
 loopS (A:=Int×(List ByteArray)×Unit) (fun s27=>
   let v27:=s27.1
   let v28:=s27.2.1
 let v29:=decide (v27<v26)
 let v30:=v29
 if v29=true then(
 Zdi v24 v27 v28)
 else(
 Zdj v24 v28 v16 v15)
   ) (0,([]:List ByteArray),()))
 else(
 Zdk v16 v15))
 else(
 (Zfc v0 v4 v10 v16).bind fun r=>some (Sum.inr r))
   ) (0,([]:List Zad),())
def Zfe (v0:Zae)(v4:List Zau):Option (Zae×Unit):=
 let v7:=v0.Pre
 let v8:=((List.length v7:Nat):Int)
 loopS (A:=Int×(List Zad)×Unit) (fun s9=>
   let v9:=s9.1
   let v10:=s9.2.1
 let v11:=decide (v9<v8)
 let v12:=v11
 if v11=true then(
 let v13:=v0.Pre
 let v14:=((List.length v13:Nat):Int)
 let v15:=decide (v9<v14)
 if v15=true then(
 let v16:=v0.Pre
 (ixN v16 v9).bind fun v17=>
 let v18:=v17
 let v19:=v18.Words
 let v20:=((List.length v19:Nat):Int)
 loopS (A:=Int×(List ByteArray)×Unit) (fun s21=>
   let v21:=s21.1
   let v22:=s21.2.1
 let v23:=decide (v21<v20)
 let v24:=v23
 if v23=true then(
 Zdi v18 v21 v22)
 else(
 Zdj v18 v22 v10 v9)
   ) (0,([]:List ByteArray),()))
 else(
 Zdk v10 v9))
 else(
 (Zfd v0 v4 v10).bind fun r=>some (Sum.inr r))
   ) (0,([]:List Zad),())
def l71:Ch:=(71,⟨[.agg (.v 0) 35 (.g 0 0) []],pS8,pS0,[(0,⟨none,.agg (.c []) 35 .d []⟩)],false⟩,[(11801,⟨[],[],[],[],[],[],[],12⟩),(11901,⟨[],[],[],[],[],[],[],12⟩),(15801,⟨[],[],[],[],[],[],[],12⟩),(16101,⟨[],[],[],[],[],[],[],12⟩),(15603,⟨[8,7],[],[(7,162)],[],[],[],[],0⟩),(19403,⟨[8,7],[],[(7,9)],[],[],[],[],0⟩),(19203,⟨[8,7],[],[(7,158)],[],[],[],[],0⟩),(16503,⟨[8,7],[],[(7,3)],[],[],[],[],0⟩),(15903,⟨[8,7],[],[(7,160)],[],[],[],[],0⟩)])::l40
def ZcV (v0:Zae):Option (Zae×Unit):=
 let v1:=v0.Rels
 let v2:=((List.length v1:Nat):Int)
 loopS (A:=Int×(List Zau)×Unit) (fun s3=>
   let v3:=s3.1
   let v4:=s3.2.1
 let v5:=decide (v3<v2)
 let v6:=v5
 if v5=true then(
 let v7:=v0.Rels
 let v8:=((List.length v7:Nat):Int)
 let v9:=decide (v3<v8)
 if v9=true then(
 let v10:=v0.Rels
 (ixN v10 v3).bind fun v11=>
 let v12:=v11
 let v13:=[v12]
 (apN 24 v4 v13).bind fun v14=>
 let v15:=IntKind.i64.wrap (v3+1)
 some (Sum.inl (v15,v14,())))
 else(
 (apN 24 v4 ([(⟨0,(⟨#[]⟩:ByteArray)⟩:Zau)]:List Zau)).bind fun v10=>
 let v11:=IntKind.i64.wrap (v3+1)
 some (Sum.inl (v11,v10,()))))
 else(
 (Zfe v0 v4).bind fun r=>some (Sum.inr r))
   ) (0,([]:List Zau),())
def t71:List (Nat×TC U):=(71,⟨[.st 28],[.st 28],fun(a:Zae×Unit)=>ZcV a.1⟩)::t40
theorem c71:Chain Tryz.prog U tab base l71 t71:=Chain.cons tb cfok c40 1 rfl rfl rfl (hs:=[⟨.li (.st 162),([]:List Zau)⟩,hS13,hS9,hS2,hS4,hS2,hS2,hS4,hS6,hS9,hS2,hS4,hS2,hS2,hS4,hS6,hS9,hS2,hS4,hS2,hS2,hS4,hS6,hS9,hS2,hS4,hS2,hS2,hS4,hS6,hS9,hS2,hS4,hS2,hS2,hS4,hS6,hS5,hS7,⟨.li (.st 160),([]:List Zav)⟩,hS15,hS2,hS4,hS5,hS7,hS5,hS7,hS5,hS7,hS5,hS7,hS2,hS4,hS2,hS4,hS2,hS4,hS2,hS4,hS2,hS4])
 (fun(e:Zae×Unit)=>ZcV e.1) (by kernel_rfl) (fun _=>rfl)
def l226:Ch:=(226,⟨pS13,pS9,pS0,pS1,false⟩,[(22602,⟨[5],[],[],[],[],[],[],0⟩)])::l71
def Zaw (v0:ByteArray)(v1:Int):Option (Int×Unit):=
 let v2:=((ByteArray.size v0:Nat):Int)
 let v3:=IntKind.i64.wrap (v2 - 1)
 loopS (A:=Int×Unit) (fun s4=>
   let v4:=s4.1
 let v5:=decide (v4≥0)
 if v5=true then(
 (sxN v0 v4).bind fun v6=>
 let v7:=v6==v1
 if v7=true then(
 some (Sum.inr (v4,())))
 else(
 let v8:=IntKind.i64.wrap (v4 - 1)
 some (Sum.inl (v8,()))))
 else(
 some (Sum.inr ((-1),())))
   ) (v3,())
def t226:List (Nat×TC U):=(226,⟨[.str,.ik .u8],[.ik .i64],fun(a:ByteArray×Int×Unit)=>Zaw a.1 a.2.1⟩)::t71
theorem c226:Chain Tryz.prog U tab base l226 t226:=Chain.cons tb cfok c71 2 rfl rfl rfl (hs:=[])
 (fun(e:Int×ByteArray×Unit)=>Zaw e.2.1 e.1) (by kernel_rfl) (fun _=>rfl)
def l229:Ch:=(229,⟨pS4,pS5,pS0,pS1,false⟩,[(24902,⟨[],[],[],[],[],[],[],6⟩),(23902,⟨[8],[],[],[],[],[],[],0⟩)])::l226
def ZcK (v0:ByteArray):Option (Bool×Unit):=
 let v1:=((ByteArray.size v0:Nat):Int)
 loopS (A:=Int×Unit) (fun s2=>
   let v2:=s2.1
 let v3:=decide (v2<v1)
 if v3=true then(
 (sxN v0 v2).bind fun v4=>
 let v5:=decide (v4≥97)
 let v6:=v5
 (if v6=true then some (some (decide (v4≤122)))else some none).bind fun v7=>
 (if v5=true then v7 else some false:Option Bool).bind fun v8=>
 let v9:=!v8
 (if v9=true then some (some (decide (v4≥65)))else some none).bind fun v10=>
 (if v9=true then v10 else some false:Option Bool).bind fun v11=>
 (if v11=true then some (some (decide (v4≤90)))else some none).bind fun v12=>
 (if v9=true then(v10.bind fun v10o1=>if v10o1=true then v12 else some false:Option Bool).bind fun v=>some (some v)else some none).bind fun v13=>
 (if v8=true then some true else(v13).bind fun y=>some y:Option Bool).bind fun v14=>
 if v14=true then(
 let v15:=IntKind.i64.wrap (v2+1)
 some (Sum.inl (v15,())))
 else(
 let v15:=decide (v4≥48)
 let v16:=v15
 (if v16=true then some (some (decide (v4≤57)))else some none).bind fun v17=>
 (if v15=true then v17 else some false:Option Bool).bind fun v18=>
 if v18=true then(
 let v19:=IntKind.i64.wrap (v2+1)
 some (Sum.inl (v19,())))
 else(
 (Zdv ((⟨#[58,45,95,46,92]⟩:ByteArray)) v4).bind fun r19=>
 let v19:=r19.1
 let v20:=decide (v19≥0)
 if v20=true then(
 let v21:=IntKind.i64.wrap (v2+1)
 some (Sum.inl (v21,())))
 else(
 some (Sum.inr (false,()))))))
 else(
 some (Sum.inr (true,())))
   ) (0,())
def t229:List (Nat×TC U):=(229,⟨[.str],[.bool],fun(a:ByteArray×Unit)=>ZcK a.1⟩)::t226
theorem c229:Chain Tryz.prog U tab base l229 t229:=Chain.cons tb cfok c226 1 rfl rfl rfl (hs:=[])
 (fun(e:ByteArray×Unit)=>ZcK e.1) (by kernel_rfl) (fun _=>rfl)
def ZiD (v6:ByteArray)(v26:Int):Option ((Int×Unit)⊕(Int×Unit)):=
 let v29:=(ByteArray.toList (⟨#[115,101,114,118,105,99,101]⟩:ByteArray))==(ByteArray.toList v6)
 if v29=true then(
 some (Sum.inr (v26,())))
 else(
 let v30:=IntKind.i64.wrap (v26+1)
 some (Sum.inl (v30,())))
def ZiE (v6:ByteArray)(v26:Int):Option ((Int×Unit)⊕(Int×Unit)):=
 let v30:=(ByteArray.toList (⟨#[115,111,99,107,101,116]⟩:ByteArray))==(ByteArray.toList v6)
 if v30=true then(
 some (Sum.inr (v26,())))
 else(
 let v31:=IntKind.i64.wrap (v26+1)
 some (Sum.inl (v31,())))
def ZiF (v6:ByteArray)(v26:Int):Option ((Int×Unit)⊕(Int×Unit)):=
 let v31:=(ByteArray.toList (⟨#[116,105,109,101,114]⟩:ByteArray))==(ByteArray.toList v6)
 if v31=true then(
 some (Sum.inr (v26,())))
 else(
 let v32:=IntKind.i64.wrap (v26+1)
 some (Sum.inl (v32,())))
def ZiG (v6:ByteArray)(v26:Int):Option ((Int×Unit)⊕(Int×Unit)):=
 let v32:=(ByteArray.toList (⟨#[116,97,114,103,101,116]⟩:ByteArray))==(ByteArray.toList v6)
 if v32=true then(
 some (Sum.inr (v26,())))
 else(
 let v33:=IntKind.i64.wrap (v26+1)
 some (Sum.inl (v33,())))
def ZiH (v6:ByteArray)(v26:Int):Option ((Int×Unit)⊕(Int×Unit)):=
 let v32:=(ByteArray.toList (⟨#[]⟩:ByteArray))==(ByteArray.toList v6)
 if v32=true then(
 some (Sum.inr (v26,())))
 else(
 let v33:=IntKind.i64.wrap (v26+1)
 some (Sum.inl (v33,())))
def ZiI (v26:Int)(v6:ByteArray):Option ((Int×Unit)⊕(Int×Unit)):=
 let v31:=v26==4
 if v31=true then(
 ZiG v6 v26)
 else(
 ZiH v6 v26)
def ZiJ (v26:Int)(v6:ByteArray):Option ((Int×Unit)⊕(Int×Unit)):=
 let v30:=v26==3
 if v30=true then(
 ZiF v6 v26)
 else(
 ZiI v26 v6)
def ZiK (v26:Int)(v6:ByteArray):Option ((Int×Unit)⊕(Int×Unit)):=
 let v29:=v26==2
 if v29=true then(
 ZiE v6 v26)
 else(
 ZiJ v26 v6)
def ZfQ (v26:Int)(v6:ByteArray):Option ((Int×Unit)⊕(Int×Unit)):=
 let v28:=v26==1
 if v28=true then(
 ZiD v6 v26)
 else(
 ZiK v26 v6)
def ZdW (v6:ByteArray):Option (Int×Unit):=
 loopS (A:=Int×Unit) (fun s26=>
   let v26:=s26.1
 let v27:=decide (v26≤4)
 if v27=true then(
 ZfQ v26 v6)
 else(
 some (Sum.inr (0,())))
   ) (1,())
def l214:Ch:=(214,⟨pS4,pS5,pS0,pS1,false⟩,[(21406,⟨[8],[],[],[],[],[],[],0⟩)])::l229
def Zdl (v0:ByteArray):Option (Int×Unit):=
 (Zaw v0 (46)).bind fun r1=>
 let v1:=r1.1
 let v2:=decide (v1<0)
 if v2=true then(
 (ix1F ((⟨#[]⟩:ByteArray),(⟨#[64]⟩:ByteArray),())).bind fun r3=>
 let v3:=r3.1
 let v4:=decide (v3≥0)
 if v4=true then(
 (scN (⟨#[]⟩:ByteArray) 0 v3).bind fun v5=>
 let v6:=IntKind.i64.wrap (v3+1)
 (scN (⟨#[]⟩:ByteArray) v6 0).bind fun v7=>
 let v8:=((ByteArray.size v0:Nat):Int)
 let v9:=decide (v8>60)
 let v10:=!v9
 (if v10=true then some (some ((ByteArray.toList v5)==(ByteArray.toList (⟨#[]⟩:ByteArray))))else some none).bind fun v11=>
 (if v9=true then some true else(v11).bind fun y=>some y:Option Bool).bind fun v12=>
 let v13:=!v12
 (if v13=true then(ZcK v5).bind fun r=>some (some r)else some none).bind fun r14=>
 let v14:Option Bool:=r14.map fun x=>x.1
 (if v13=true then(v14.bind fun v14o1=>some (!v14o1):Option Bool).bind fun v=>some (some v)else some none).bind fun v15=>
 (if v12=true then some true else(v15).bind fun y=>some y:Option Bool).bind fun v16=>
 let v17:=!v16
 (if v17=true then(ZcK v7).bind fun r=>some (some r)else some none).bind fun r18=>
 let v18:Option Bool:=r18.map fun x=>x.1
 (if v17=true then(v18.bind fun v18o2=>some (!v18o2):Option Bool).bind fun v=>some (some v)else some none).bind fun v19=>
 (if v16=true then some true else(v19).bind fun y=>some y:Option Bool).bind fun v20=>
 if v20=true then(
 some (0,()))
 else(
 loopS (A:=Int×Unit) (fun s21=>
   let v21:=s21.1
 let v22:=decide (v21≤4)
 if v22=true then(
 let v23:=v21==1
 if v23=true then(
 let v24:=IntKind.i64.wrap (v21+1)
 some (Sum.inl (v24,())))
 else(
 let v24:=v21==2
 if v24=true then(
 let v25:=IntKind.i64.wrap (v21+1)
 some (Sum.inl (v25,())))
 else(
 let v25:=v21==3
 if v25=true then(
 let v26:=IntKind.i64.wrap (v21+1)
 some (Sum.inl (v26,())))
 else(
 let v26:=v21==4
 if v26=true then(
 let v27:=IntKind.i64.wrap (v21+1)
 some (Sum.inl (v27,())))
 else(
 some (Sum.inr (v21,())))))))
 else(
 some (Sum.inr (0,())))
   ) (1,())))
 else(
 let v5:=((ByteArray.size v0:Nat):Int)
 let v6:=decide (v5>60)
 let v7:=!v6
 let v8:=v6
 some (0,())))
 else(
 (scN v0 0 v1).bind fun v3=>
 let v4:=IntKind.i64.wrap (v1+1)
 let v5:=((ByteArray.size v0:Nat):Int)
 (scN v0 v4 v5).bind fun v6=>
 (ix1F (v3,(⟨#[64]⟩:ByteArray),())).bind fun r7=>
 let v7:=r7.1
 let v8:=decide (v7≥0)
 if v8=true then(
 (scN v3 0 v7).bind fun v9=>
 let v10:=IntKind.i64.wrap (v7+1)
 let v11:=((ByteArray.size v3:Nat):Int)
 (scN v3 v10 v11).bind fun v12=>
 let v13:=((ByteArray.size v0:Nat):Int)
 let v14:=decide (v13>60)
 let v15:=!v14
 (if v15=true then some (some ((ByteArray.toList v9)==(ByteArray.toList (⟨#[]⟩:ByteArray))))else some none).bind fun v16=>
 (if v14=true then some true else(v16).bind fun y=>some y:Option Bool).bind fun v17=>
 let v18:=!v17
 (if v18=true then(ZcK v9).bind fun r=>some (some r)else some none).bind fun r19=>
 let v19:Option Bool:=r19.map fun x=>x.1
 (if v18=true then(v19.bind fun v19o3=>some (!v19o3):Option Bool).bind fun v=>some (some v)else some none).bind fun v20=>
 (if v17=true then some true else(v20).bind fun y=>some y:Option Bool).bind fun v21=>
 let v22:=!v21
 (if v22=true then(ZcK v12).bind fun r=>some (some r)else some none).bind fun r23=>
 let v23:Option Bool:=r23.map fun x=>x.1
 (if v22=true then(v23.bind fun v23o4=>some (!v23o4):Option Bool).bind fun v=>some (some v)else some none).bind fun v24=>
 (if v21=true then some true else(v24).bind fun y=>some y:Option Bool).bind fun v25=>
 if v25=true then(
 some (0,()))
 else(
 ZdW v6))
 else(
 let v9:=((ByteArray.size v0:Nat):Int)
 let v10:=decide (v9>60)
 let v11:=!v10
 (if v11=true then some (some ((ByteArray.toList v3)==(ByteArray.toList (⟨#[]⟩:ByteArray))))else some none).bind fun v12=>
 (if v10=true then some true else(v12).bind fun y=>some y:Option Bool).bind fun v13=>
 let v14:=!v13
 (if v14=true then(ZcK v3).bind fun r=>some (some r)else some none).bind fun r15=>
 let v15:Option Bool:=r15.map fun x=>x.1
 (if v14=true then(v15.bind fun v15o5=>some (!v15o5):Option Bool).bind fun v=>some (some v)else some none).bind fun v16=>
 (if v13=true then some true else(v16).bind fun y=>some y:Option Bool).bind fun v17=>
 let v18:=!v17
 (if v18=true then(ZcK ((⟨#[]⟩:ByteArray))).bind fun r=>some (some r)else some none).bind fun r19=>
 let v19:Option Bool:=r19.map fun x=>x.1
 (if v18=true then(v19.bind fun v19o6=>some (!v19o6):Option Bool).bind fun v=>some (some v)else some none).bind fun v20=>
 (if v17=true then some true else(v20).bind fun y=>some y:Option Bool).bind fun v21=>
 if v21=true then(
 some (0,()))
 else(
 ZdW v6)))
def t214:List (Nat×TC U):=(214,⟨[.str],[.ik .i64],fun(a:ByteArray×Unit)=>Zdl a.1⟩)::t229
theorem c214:Chain Tryz.prog U tab base l214 t214:=Chain.cons tb cfok c229 1 rfl rfl rfl (hs:=[])
 (fun(e:ByteArray×Unit)=>Zdl e.1) (by kernel_rfl) (fun _=>rfl)
def l178:Ch:=(178,⟨pS4,pS5,pS6,pS17,true⟩,[])::l214
def ZhB (v0:ByteArray):Option (ByteArray×ByteArray×Unit):=
 (Zaw v0 (46)).bind fun r1=>
 let v1:=r1.1
 let v2:=decide (v1<0)
 if v2=true then(
 some ((⟨#[]⟩:ByteArray),(⟨#[]⟩:ByteArray),()))
 else(
 (scN v0 0 v1).bind fun v3=>
 let v4:=IntKind.i64.wrap (v1+1)
 let v5:=((ByteArray.size v0:Nat):Int)
 (scN v0 v4 v5).bind fun v6=>
 some (v3,v6,()))
def t178:List (Nat×TC U):=(178,⟨[.str],[.str,.str],fun(a:ByteArray×Unit)=>ZhB a.1⟩)::t214
theorem c178:Chain Tryz.prog U tab base l178 t178:=Chain.cons tb cfok c214 1 rfl rfl rfl (hs:=[])
 (fun(e:ByteArray×Unit)=>ZhB e.1) (by kernel_rfl) (fun _=>rfl)
end
end Go.AW.M
