/- Typed functions and their chain. Printed by tfn.py. -/
import Derived.Test.YtibiooglhpjojaaGreatDoorF5
set_option linter.unusedSimpArgs false
set_option linter.unusedVariables false
namespace Go.AW.M
open Go.RowKit Go.Proofs
set_option maxRecDepth 100000
noncomputable def matinsref22_Plain (v0 : ByteArray) (v1 : Int) : Option (Bool × Unit) :=
 let v2 : Int := ((ByteArray.size v0 : Nat) : Int)
 let v3 : Bool := decide (v2 > v1)
 if v3 = true then (
 some (false, ()))
 else (
 loopS (A := Int × Unit) (fun s4 =>
   let v4 : Int := s4.1
 let v5 : Int := ((ByteArray.size v0 : Nat) : Int)
 let v6 : Bool := decide (v4 < v5)
 if v6 = true then (
 (if 0 ≤ v4 ∧ v4 < ((ByteArray.size v0 : Nat) : Int) then some ((((v0).data.toList.getD (v4).toNat 0).toNat : Nat) : Int) else none : Option Int).bind fun v7 =>
 let v8 : Bool := decide (v7 < (32 : Int))
 let v9 : Bool := !v8
 (if v9 = true then (if 0 ≤ v4 ∧ v4 < ((ByteArray.size v0 : Nat) : Int) then some ((((v0).data.toList.getD (v4).toNat 0).toNat : Nat) : Int) else none : Option Int).bind fun v => some (some v) else some none).bind fun v10 =>
 (if v9 = true then (v10.bind fun v10o1 => some (decide (v10o1 > (126 : Int))) : Option Bool).bind fun v => some (some v) else some none).bind fun v11 =>
 (if v8 = true then some true else (v11).bind fun y => some y : Option Bool).bind fun v12 =>
 if v12 = true then (
 some (Sum.inr (false, ())))
 else (
 let v13 : Int := IntKind.i64.wrap (v4 + (1 : Int))
 some (Sum.inl (v13, ()))))
 else (
 some (Sum.inr (true, ())))
   ) ((0 : Int), ()))
def l103 : Ch := (103, ⟨[.one (.v 0) (some (.w 1)), .one (.v 1) (some (.w 2))], ⟨2, [], 3, 0, [], [], [], [(.w 2, 1, 2), (.w 1, 1, 1)]⟩, ⟨[0], [], [], [], [], 0⟩, [(0, ⟨none, .one (.c []) none⟩)], false⟩, [(11801, ⟨[], [], [], [], [], 12⟩), (11901, ⟨[], [], [], [], [], 12⟩), (15801, ⟨[], [], [], [], [], 12⟩), (16101, ⟨[], [], [], [], [], 12⟩), (10304, ⟨[5], [], [], [], [], 0⟩)]) :: l100
noncomputable def t103 : List (Nat × TC U) := (103, ⟨[.str, .ik .i64], [.bool], fun (a : ByteArray × Int × Unit) => matinsref22_Plain a.1 a.2.1⟩) :: t100
theorem c103 : Chain Tryz.prog U tab base l103 t103 := Chain.cons tb cfok c100 2 rfl rfl rfl (hs := [])
 (fun (e : Int × ByteArray × Unit) => matinsref22_Plain e.2.1 e.1) (by kernel_rfl) (fun _ => rfl)
noncomputable def matinsref22_May_e1 : Option ((Int × Unit) ⊕ (Bool × Unit)) :=
 some (Sum.inr (false, ()))
noncomputable def matinsref22_May_e2 (v16 : Int) : Option ((Int × Unit) ⊕ (Bool × Unit)) :=
 let v27 : Int := IntKind.i64.wrap (v16 + (1 : Int))
 some (Sum.inl (v27, ()))
noncomputable def matinsref22_May_e3 (v0 : api_World) : Option (Bool × Unit) :=
 let v22 : List api_Ask := v0.Asks
 let v23 : Int := ((List.length v22 : Nat) : Int)
 loopS (A := Int × Unit) (fun s24 =>
   let v24 : Int := s24.1
 let v25 : Bool := decide (v24 < v23)
 if v25 = true then (
 (if 0 ≤ v24 ∧ v24 < ((List.length v22 : Nat) : Int) then (v22)[(v24).toNat]? else none : Option api_Ask).bind fun v26 =>
 let v27 : api_Ask := v26
 let v28 : Int := v27.At
 (matinsref22_Time v28).bind fun r29 =>
 let v29 : Bool := r29.1
 let v30 : Bool := !v29
 let v31 : Bool := !v30
 (if v31 = true then some (some (v27.Unit_)) else some none).bind fun v32 =>
 (if v31 = true then (v32.bind fun v32o22 => some (v32o22, ())).bind fun a33 => (matinsref1_May a33.1).bind fun r => some (some r) else some none).bind fun r33 =>
 let v33 : Option Bool := r33.map fun x => x.1
 (if v31 = true then (v33.bind fun v33o23 => some (!v33o23) : Option Bool).bind fun v => some (some v) else some none).bind fun v34 =>
 (if v30 = true then some true else (v34).bind fun y => some y : Option Bool).bind fun v35 =>
 let v36 : Bool := !v35
 (if v36 = true then some (some (v27.Type_)) else some none).bind fun v37 =>
 (if v36 = true then (v37.bind fun v37o24 => some (decide (v37o24 < (1 : Int))) : Option Bool).bind fun v => some (some v) else some none).bind fun v38 =>
 (if v35 = true then some true else (v38).bind fun y => some y : Option Bool).bind fun v39 =>
 let v40 : Bool := !v39
 (if v40 = true then some (some (v27.Type_)) else some none).bind fun v41 =>
 (if v40 = true then (v41.bind fun v41o25 => some (decide (v41o25 > (4 : Int))) : Option Bool).bind fun v => some (some v) else some none).bind fun v42 =>
 (if v39 = true then some true else (v42).bind fun y => some y : Option Bool).bind fun v43 =>
 let v44 : Bool := !v43
 (if v44 = true then some (some (decide (v24 > (0 : Int)))) else some none).bind fun v45 =>
 (if v44 = true then v45 else some false : Option Bool).bind fun v46 =>
 (if v46 = true then some (some (v27.At)) else some none).bind fun v47 =>
 (if v46 = true then some (some (v0.Asks)) else some none).bind fun v48 =>
 (if v46 = true then some (some (IntKind.i64.wrap (v24 - (1 : Int)))) else some none).bind fun v49 =>
 (if v46 = true then (v48.bind fun v48o26 => v49.bind fun v49o27 => if 0 ≤ v49o27 ∧ v49o27 < ((List.length v48o26 : Nat) : Int) then (v48o26)[(v49o27).toNat]? else none : Option api_Ask).bind fun v => some (some v) else some none).bind fun v50 =>
 (if v46 = true then (v50.bind fun v50o28 => some (v50o28.At) : Option Int).bind fun v => some (some v) else some none).bind fun v51 =>
 (if v46 = true then (v47.bind fun v47o29 => v51.bind fun v51o30 => some (decide (v47o29 < v51o30)) : Option Bool).bind fun v => some (some v) else some none).bind fun v52 =>
 (if v44 = true then (v45.bind fun v45o31 => if v45o31 = true then v52 else some false : Option Bool).bind fun v => some (some v) else some none).bind fun v53 =>
 (if v43 = true then some true else (v53).bind fun y => some y : Option Bool).bind fun v54 =>
 if v54 = true then (
 some (Sum.inr (false, ())))
 else (
 let v55 : Int := IntKind.i64.wrap (v24 + (1 : Int))
 some (Sum.inl (v55, ()))))
 else (
 some (Sum.inr (true, ())))
   ) ((0 : Int), ())
noncomputable def matinsref22_May_e4 (v0 : api_World) : Option (Bool × Unit) :=
 let v18 : List api_Call := v0.Calls
 let v19 : Int := ((List.length v18 : Nat) : Int)
 loopS (A := Int × Unit) (fun s20 =>
   let v20 : Int := s20.1
 let v21 : Bool := decide (v20 < v19)
 if v21 = true then (
 (if 0 ≤ v20 ∧ v20 < ((List.length v18 : Nat) : Int) then (v18)[(v20).toNat]? else none : Option api_Call).bind fun v22 =>
 let v23 : api_Call := v22
 let v24 : Int := v23.At
 (matinsref22_Time v24).bind fun r25 =>
 let v25 : Bool := r25.1
 let v26 : Bool := !v25
 let v27 : Bool := !v26
 (if v27 = true then some (some (v23.Port)) else some none).bind fun v28 =>
 (if v27 = true then (v28.bind fun v28o11 => some (decide (v28o11 < (1 : Int))) : Option Bool).bind fun v => some (some v) else some none).bind fun v29 =>
 (if v26 = true then some true else (v29).bind fun y => some y : Option Bool).bind fun v30 =>
 let v31 : Bool := !v30
 (if v31 = true then some (some (v23.Port)) else some none).bind fun v32 =>
 (if v31 = true then (v32.bind fun v32o12 => some (decide (v32o12 > (65535 : Int))) : Option Bool).bind fun v => some (some v) else some none).bind fun v33 =>
 (if v30 = true then some true else (v33).bind fun y => some y : Option Bool).bind fun v34 =>
 let v35 : Bool := !v34
 (if v35 = true then some (some (v23.Takes)) else some none).bind fun v36 =>
 (if v35 = true then (v36.bind fun v36o13 => some (v36o13, ())).bind fun a37 => (matinsref22_Span a37.1).bind fun r => some (some r) else some none).bind fun r37 =>
 let v37 : Option Bool := r37.map fun x => x.1
 (if v35 = true then (v37.bind fun v37o14 => some (!v37o14) : Option Bool).bind fun v => some (some v) else some none).bind fun v38 =>
 (if v34 = true then some true else (v38).bind fun y => some y : Option Bool).bind fun v39 =>
 let v40 : Bool := !v39
 (if v40 = true then some (some (v23.Takes)) else some none).bind fun v41 =>
 (if v40 = true then (v41.bind fun v41o15 => some (v41o15 == (1099511627776 : Int)) : Option Bool).bind fun v => some (some v) else some none).bind fun v42 =>
 (if v39 = true then some true else (v42).bind fun y => some y : Option Bool).bind fun v43 =>
 let v44 : Bool := !v43
 (if v44 = true then some (some (decide (v20 > (0 : Int)))) else some none).bind fun v45 =>
 (if v44 = true then v45 else some false : Option Bool).bind fun v46 =>
 (if v46 = true then some (some (v23.At)) else some none).bind fun v47 =>
 (if v46 = true then some (some (v0.Calls)) else some none).bind fun v48 =>
 (if v46 = true then some (some (IntKind.i64.wrap (v20 - (1 : Int)))) else some none).bind fun v49 =>
 (if v46 = true then (v48.bind fun v48o16 => v49.bind fun v49o17 => if 0 ≤ v49o17 ∧ v49o17 < ((List.length v48o16 : Nat) : Int) then (v48o16)[(v49o17).toNat]? else none : Option api_Call).bind fun v => some (some v) else some none).bind fun v50 =>
 (if v46 = true then (v50.bind fun v50o18 => some (v50o18.At) : Option Int).bind fun v => some (some v) else some none).bind fun v51 =>
 (if v46 = true then (v47.bind fun v47o19 => v51.bind fun v51o20 => some (decide (v47o19 < v51o20)) : Option Bool).bind fun v => some (some v) else some none).bind fun v52 =>
 (if v44 = true then (v45.bind fun v45o21 => if v45o21 = true then v52 else some false : Option Bool).bind fun v => some (some v) else some none).bind fun v53 =>
 (if v43 = true then some true else (v53).bind fun y => some y : Option Bool).bind fun v54 =>
 if v54 = true then (
 some (Sum.inr (false, ())))
 else (
 let v55 : Int := IntKind.i64.wrap (v20 + (1 : Int))
 some (Sum.inl (v55, ()))))
 else (
 (matinsref22_May_e3 v0).bind fun r => some (Sum.inr r))
   ) ((0 : Int), ())
noncomputable def matinsref22_May (v0 : api_World) : Option (Bool × Unit) :=
 let v1 : List api_Act := v0.Acts
 let v2 : Int := ((List.length v1 : Nat) : Int)
 let v3 : Bool := decide (v2 > (200 : Int))
 let v4 : Bool := !v3
 (if v4 = true then some (some (v0.Calls)) else some none).bind fun v5 =>
 (if v4 = true then (v5.bind fun v5o1 => some (((List.length v5o1 : Nat) : Int)) : Option Int).bind fun v => some (some v) else some none).bind fun v6 =>
 (if v4 = true then (v6.bind fun v6o2 => some (decide (v6o2 > (100 : Int))) : Option Bool).bind fun v => some (some v) else some none).bind fun v7 =>
 (if v3 = true then some true else (v7).bind fun y => some y : Option Bool).bind fun v8 =>
 let v9 : Bool := !v8
 (if v9 = true then some (some (v0.Asks)) else some none).bind fun v10 =>
 (if v9 = true then (v10.bind fun v10o3 => some (((List.length v10o3 : Nat) : Int)) : Option Int).bind fun v => some (some v) else some none).bind fun v11 =>
 (if v9 = true then (v11.bind fun v11o4 => some (decide (v11o4 > (100 : Int))) : Option Bool).bind fun v => some (some v) else some none).bind fun v12 =>
 (if v8 = true then some true else (v12).bind fun y => some y : Option Bool).bind fun v13 =>
 if v13 = true then (
 some (false, ()))
 else (
 let v14 : List api_Act := v0.Acts
 let v15 : Int := ((List.length v14 : Nat) : Int)
 loopS (A := Int × Unit) (fun s16 =>
   let v16 : Int := s16.1
 let v17 : Bool := decide (v16 < v15)
 if v17 = true then (
 (if 0 ≤ v16 ∧ v16 < ((List.length v14 : Nat) : Int) then (v14)[(v16).toNat]? else none : Option api_Act).bind fun v18 =>
 let v19 : api_Act := v18
 (matinsref22_mayAct v19).bind fun r20 =>
 let v20 : Bool := r20.1
 let v21 : Bool := !v20
 if v21 = true then (
 some (Sum.inr (false, ())))
 else (
 let v22 : List api_Act := v0.Acts
 (if 0 ≤ (0 : Int) ∧ (0 : Int) ≤ v16 ∧ v16 ≤ ((List.length v22 : Nat) : Int) then some (List.drop ((0 : Int)).toNat (List.take (v16).toNat v22)) else none : Option (List api_Act)).bind fun v23 =>
 let v24 : Int := ((List.length v23 : Nat) : Int)
 loopS (A := Int × Unit) (fun s25 =>
   let v25 : Int := s25.1
 let v26 : Bool := decide (v25 < v24)
 if v26 = true then (
 (if 0 ≤ v25 ∧ v25 < ((List.length v23 : Nat) : Int) then (v23)[(v25).toNat]? else none : Option api_Act).bind fun v27 =>
 let v28 : api_Act := v27
 let v29 : ByteArray := v19.Unit_
 let v30 : ByteArray := v28.Unit_
 let v31 : Bool := (ByteArray.toList v29) == (ByteArray.toList v30)
 let v32 : Bool := v31
 (if v32 = true then some (some (v19.Part)) else some none).bind fun v33 =>
 (if v32 = true then some (some (v28.Part)) else some none).bind fun v34 =>
 (if v32 = true then (v33.bind fun v33o5 => v34.bind fun v34o6 => some (v33o5 == v34o6) : Option Bool).bind fun v => some (some v) else some none).bind fun v35 =>
 (if v31 = true then v35 else some false : Option Bool).bind fun v36 =>
 let v37 : Bool := v36
 (if v37 = true then some (some (v19.Num)) else some none).bind fun v38 =>
 (if v37 = true then some (some (v28.Num)) else some none).bind fun v39 =>
 (if v37 = true then (v38.bind fun v38o7 => v39.bind fun v39o8 => some (v38o7 == v39o8) : Option Bool).bind fun v => some (some v) else some none).bind fun v40 =>
 (if v36 = true then v40 else some false : Option Bool).bind fun v41 =>
 let v42 : Bool := v41
 (if v42 = true then some (some (v19.Attempt)) else some none).bind fun v43 =>
 (if v42 = true then some (some (v28.Attempt)) else some none).bind fun v44 =>
 (if v42 = true then (v43.bind fun v43o9 => v44.bind fun v44o10 => some (v43o9 == v44o10) : Option Bool).bind fun v => some (some v) else some none).bind fun v45 =>
 (if v41 = true then v45 else some false : Option Bool).bind fun v46 =>
 if v46 = true then (
 (matinsref22_May_e1).bind fun r => some (Sum.inr r))
 else (
 let v47 : Int := IntKind.i64.wrap (v25 + (1 : Int))
 some (Sum.inl (v47, ()))))
 else (
 (matinsref22_May_e2 v16).bind fun r => some (Sum.inr r))
   ) ((0 : Int), ())))
 else (
 (matinsref22_May_e4 v0).bind fun r => some (Sum.inr r))
   ) ((0 : Int), ()))
def l33 : Ch := (33, ⟨[.agg (.v 0) 3 (.g 0 0) []], ⟨1, [], 1, 1, [], [], [], []⟩, ⟨[0], [], [], [], [], 0⟩, [(0, ⟨none, .one (.c []) none⟩)], false⟩, [(11801, ⟨[], [], [], [], [], 12⟩), (11901, ⟨[], [], [], [], [], 12⟩), (15801, ⟨[], [], [], [], [], 12⟩), (16101, ⟨[], [], [], [], [], 12⟩), (3304, ⟨[30], [], [], [], [], 0⟩), (3309, ⟨[43], [], [], [], [], 0⟩), (3316, ⟨[78], [], [], [], [], 0⟩), (3322, ⟨[128], [], [], [], [], 0⟩)]) :: l103
noncomputable def t33 : List (Nat × TC U) := (33, ⟨[.st 43], [.bool], fun (a : api_World × Unit) => matinsref22_May a.1⟩) :: t103
theorem c33 : Chain Tryz.prog U tab base l33 t33 := Chain.cons tb cfok c103 1 rfl rfl rfl (hs := [])
 (fun (e : api_World × Unit) => matinsref22_May e.1) (by kernel_rfl) (fun _ => rfl)
noncomputable def matinsref39_service (v0 : api_Cell) : Option (Bool × Unit) :=
 let v1 : Int := v0.State
 let v2 : Bool := v1 == (2 : Int)
 let v3 : Bool := !v2
 (if v3 = true then some (some (v1 == (3 : Int))) else some none).bind fun v4 =>
 (if v2 = true then some true else (v4).bind fun y => some y : Option Bool).bind fun v5 =>
 let v6 : Bool := !v5
 (if v6 = true then some (some (v1 == (4 : Int))) else some none).bind fun v7 =>
 (if v5 = true then some true else (v7).bind fun y => some y : Option Bool).bind fun v8 =>
 let v9 : Bool := !v8
 (if v9 = true then some (some (v1 == (5 : Int))) else some none).bind fun v10 =>
 (if v8 = true then some true else (v10).bind fun y => some y : Option Bool).bind fun v11 =>
 let v12 : Bool := !v11
 (if v12 = true then some (some (v1 == (6 : Int))) else some none).bind fun v13 =>
 (if v11 = true then some true else (v13).bind fun y => some y : Option Bool).bind fun v14 =>
 let v15 : Bool := !v14
 (if v15 = true then some (some (v1 == (7 : Int))) else some none).bind fun v16 =>
 (if v14 = true then some true else (v16).bind fun y => some y : Option Bool).bind fun v17 =>
 let v18 : Int := IntKind.i64.wrap (v1 + (0 : Int))
 let v19 : Bool := v1 == (6 : Int)
 (if v19 = true then some (4 : Int) else some (0 : Int) : Option Int).bind fun v20 =>
 let v21 : Bool := v1 == (5 : Int)
 (if v21 = true then some (5 : Int) else some v20 : Option Int).bind fun v22 =>
 let v23 : Bool := v1 == (3 : Int)
 (if v23 = true then some (3 : Int) else some v22 : Option Int).bind fun v24 =>
 let v25 : Bool := v1 == (1 : Int)
 (if v25 = true then some (1 : Int) else some v24 : Option Int).bind fun v26 =>
 let v27 : api_Run := v0.Main
 (matinsref39_runs v27).bind fun r28 =>
 let v28 : Bool := r28.1
 let v29 : Bool := v28
 (if v29 = true then some (some (!v17)) else some none).bind fun v30 =>
 (if v29 = true then v30.bind fun v30o1 => some (!v30o1) else some false : Option Bool).bind fun v31 =>
 (if v31 = true then some (some (v0.Main.Part)) else some none).bind fun v32 =>
 (if v31 = true then (v32.bind fun v32o2 => some (v32o2 != (2 : Int)) : Option Bool).bind fun v => some (some v) else some none).bind fun v33 =>
 (if v29 = true then (v30.bind fun v30o3 => if v30o3 = true then some true else (v33).bind fun y => some y : Option Bool).bind fun v => some (some v) else some none).bind fun v34 =>
 (if v29 = true then v34.bind fun v34o4 => some (!v34o4) else some false : Option Bool).bind fun v35 =>
 (if v35 = true then some (some (v0.Main.Told)) else some none).bind fun v36 =>
 (if v35 = true then (v36.bind fun v36o5 => some (decide (v36o5 ≥ (0 : Int))) : Option Bool).bind fun v => some (some v) else some none).bind fun v37 =>
 (if v35 = true then some (some (v1 == (7 : Int))) else some none).bind fun v38 =>
 (if v35 = true then (v37.bind fun v37o6 => v38.bind fun v38o7 => some (!(v37o6 == v38o7)) : Option Bool).bind fun v => some (some v) else some none).bind fun v39 =>
 (if v29 = true then (v34.bind fun v34o8 => if v34o8 = true then some true else (v39).bind fun y => some y : Option Bool).bind fun v => some (some v) else some none).bind fun v40 =>
 (if v28 = true then v40 else some false : Option Bool).bind fun v41 =>
 let v42 : Bool := !v41
 (if v42 = true then some (some (v0.Main)) else some none).bind fun v43 =>
 (if v42 = true then (v43.bind fun v43o9 => some (v43o9, ())).bind fun a44 => (matinsref39_runs a44.1).bind fun r => some (some r) else some none).bind fun r44 =>
 let v44 : Option Bool := r44.map fun x => x.1
 (if v42 = true then (v44.bind fun v44o10 => some (!v44o10) : Option Bool).bind fun v => some (some v) else some none).bind fun v45 =>
 (if v42 = true then v45 else some false : Option Bool).bind fun v46 =>
 (if v46 = true then some (some (v1 == (7 : Int))) else some none).bind fun v47 =>
 (if v42 = true then (v45.bind fun v45o11 => if v45o11 = true then v47 else some false : Option Bool).bind fun v => some (some v) else some none).bind fun v48 =>
 (if v41 = true then some true else (v48).bind fun y => some y : Option Bool).bind fun v49 =>
 if v49 = true then (
 some (false, ()))
 else (
 let v50 : api_Run := v0.Aux
 (matinsref39_runs v50).bind fun r51 =>
 let v51 : Bool := r51.1
 let v52 : Bool := decide (v26 > (0 : Int))
 let v53 : Bool := !(v51 == v52)
 let v54 : Bool := !v53
 (if v54 = true then some (some (v0.Aux)) else some none).bind fun v55 =>
 (if v54 = true then (v55.bind fun v55o12 => some (v55o12, ())).bind fun a56 => (matinsref39_runs a56.1).bind fun r => some (some r) else some none).bind fun r56 =>
 let v56 : Option Bool := r56.map fun x => x.1
 (if v54 = true then v56 else some false : Option Bool).bind fun v57 =>
 (if v57 = true then some (some (v0.Aux.Part)) else some none).bind fun v58 =>
 (if v57 = true then (v58.bind fun v58o13 => some (v58o13 != v26) : Option Bool).bind fun v => some (some v) else some none).bind fun v59 =>
 (if v54 = true then (v56.bind fun v56o14 => if v56o14 = true then v59 else some false : Option Bool).bind fun v => some (some v) else some none).bind fun v60 =>
 (if v53 = true then some true else (v60).bind fun y => some y : Option Bool).bind fun v61 =>
 if v61 = true then (
 some (false, ()))
 else (
 let v62 : List api_Conn := v0.Serves
 let v63 : Int := ((List.length v62 : Nat) : Int)
 let v64 : Bool := decide (v63 > (0 : Int))
 let v65 : Bool := v64
 (if v65 = true then some (some (v1 == (0 : Int))) else some none).bind fun v66 =>
 (if v65 = true then v66.bind fun v66o15 => some (!v66o15) else some false : Option Bool).bind fun v67 =>
 (if v67 = true then some (some (v1 == (8 : Int))) else some none).bind fun v68 =>
 (if v65 = true then (v66.bind fun v66o16 => if v66o16 = true then some true else (v68).bind fun y => some y : Option Bool).bind fun v => some (some v) else some none).bind fun v69 =>
 (if v65 = true then v69.bind fun v69o17 => some (!v69o17) else some false : Option Bool).bind fun v70 =>
 (if v70 = true then some (some (v1 == (9 : Int))) else some none).bind fun v71 =>
 (if v65 = true then (v69.bind fun v69o18 => if v69o18 = true then some true else (v71).bind fun y => some y : Option Bool).bind fun v => some (some v) else some none).bind fun v72 =>
 (if v65 = true then v72.bind fun v72o19 => some (!v72o19) else some false : Option Bool).bind fun v73 =>
 (if v73 = true then some (some (v1 == (1 : Int))) else some none).bind fun v74 =>
 (if v65 = true then (v72.bind fun v72o20 => if v72o20 = true then some true else (v74).bind fun y => some y : Option Bool).bind fun v => some (some v) else some none).bind fun v75 =>
 (if v64 = true then v75 else some false : Option Bool).bind fun v76 =>
 if v76 = true then (
 some (false, ()))
 else (
 let v77 : List Int := v0.Begins
 let v78 : Int := ((List.length v77 : Nat) : Int)
 let v79 : Bool := decide (v78 > (0 : Int))
 let v80 : Bool := v79
 (if v80 = true then (matinsref27_Rest v0).bind fun r => some (some r) else some none).bind fun r81 =>
 let v81 : Option Bool := r81.map fun x => x.1
 (if v80 = true then (v81.bind fun v81o21 => some (!v81o21) : Option Bool).bind fun v => some (some v) else some none).bind fun v82 =>
 (if v79 = true then v82 else some false : Option Bool).bind fun v83 =>
 if v83 = true then (
 let v84 : List Int := v0.Begins
 let v85 : List Int := v0.Begins
 let v86 : Int := IntKind.i64.wrap (v78 - (1 : Int))
 (if 0 ≤ v86 ∧ v86 < ((List.length v85 : Nat) : Int) then (v85)[(v86).toNat]? else none : Option Int).bind fun v87 =>
 let v88 : Int := v87
 let v89 : Int := v0.U.Every
 (matinsref22_Keep v84 v88 v89).bind fun r90 =>
 let v90 : List Int := r90.1
 let v91 : Int := ((List.length v90 : Nat) : Int)
 let v92 : Int := v0.U.Burst
 let v93 : Int := max (1 : Int) v92
 let v94 : Bool := decide (v91 ≤ v93)
 some (v94, ()))
 else (
 some (true, ())))))
def l62 : Ch := (62, ⟨[.agg (.v 0) 62 (.g 0 0) []], ⟨1, [], 1, 1, [], [], [], []⟩, ⟨[0], [], [], [], [], 0⟩, [(0, ⟨none, .one (.c []) none⟩)], false⟩, [(11801, ⟨[], [], [], [], [], 12⟩), (11901, ⟨[], [], [], [], [], 12⟩), (15801, ⟨[], [], [], [], [], 12⟩), (16101, ⟨[], [], [], [], [], 12⟩)]) :: l33
noncomputable def t62 : List (Nat × TC U) := (62, ⟨[.st 33], [.bool], fun (a : api_Cell × Unit) => matinsref39_service a.1⟩) :: t33
theorem c62 : Chain Tryz.prog U tab base l62 t62 := Chain.cons tb cfok c33 1 rfl rfl rfl (hs := [])
 (fun (e : api_Cell × Unit) => matinsref39_service e.1) (by kernel_rfl) (fun _ => rfl)
noncomputable def matinsref39_Cell (v0 : api_Cell) : Option (Bool × Unit) :=
 let v1 : Int := v0.State
 let v2 : Bool := decide (v1 < (0 : Int))
 let v3 : Bool := !v2
 (if v3 = true then some (some (v0.State)) else some none).bind fun v4 =>
 (if v3 = true then (v4.bind fun v4o1 => some (decide (v4o1 > (9 : Int))) : Option Bool).bind fun v => some (some v) else some none).bind fun v5 =>
 (if v2 = true then some true else (v5).bind fun y => some y : Option Bool).bind fun v6 =>
 let v7 : Bool := !v6
 (if v7 = true then some (some (v0.Result)) else some none).bind fun v8 =>
 (if v7 = true then (v8.bind fun v8o2 => some (decide (v8o2 < (0 : Int))) : Option Bool).bind fun v => some (some v) else some none).bind fun v9 =>
 (if v6 = true then some true else (v9).bind fun y => some y : Option Bool).bind fun v10 =>
 let v11 : Bool := !v10
 (if v11 = true then some (some (v0.Result)) else some none).bind fun v12 =>
 (if v11 = true then (v12.bind fun v12o3 => some (decide (v12o3 > (4 : Int))) : Option Bool).bind fun v => some (some v) else some none).bind fun v13 =>
 (if v10 = true then some true else (v13).bind fun y => some y : Option Bool).bind fun v14 =>
 let v15 : Bool := !v14
 (if v15 = true then some (some (v0.Attempt)) else some none).bind fun v16 =>
 (if v15 = true then (v16.bind fun v16o4 => some (decide (v16o4 < (0 : Int))) : Option Bool).bind fun v => some (some v) else some none).bind fun v17 =>
 (if v14 = true then some true else (v17).bind fun y => some y : Option Bool).bind fun v18 =>
 let v19 : Bool := !v18
 (if v19 = true then some (some (v0.Rows)) else some none).bind fun v20 =>
 (if v19 = true then (v20.bind fun v20o5 => some (decide (v20o5 < (0 : Int))) : Option Bool).bind fun v => some (some v) else some none).bind fun v21 =>
 (if v18 = true then some true else (v21).bind fun y => some y : Option Bool).bind fun v22 =>
 if v22 = true then (
 some (false, ()))
 else (
 let v23 : Int := v0.U.Kind
 let v24 : Bool := v23 == (1 : Int)
 if v24 = true then (
 (matinsref39_service v0).bind fun r25 =>
 let v25 : Bool := r25.1
 let v26 : Bool := v25
 (if v26 = true then some (some (v0.Waits)) else some none).bind fun v27 =>
 (if v26 = true then (v27.bind fun v27o6 => some (((List.length v27o6 : Nat) : Int)) : Option Int).bind fun v => some (some v) else some none).bind fun v28 =>
 (if v26 = true then (v28.bind fun v28o7 => some (v28o7 == (0 : Int)) : Option Bool).bind fun v => some (some v) else some none).bind fun v29 =>
 (if v25 = true then v29 else some false : Option Bool).bind fun v30 =>
 some (v30, ()))
 else (
 let v25 : Int := v0.State
 let v26 : Bool := v25 == (0 : Int)
 let v27 : Bool := !v26
 (if v27 = true then some (some (v0.State)) else some none).bind fun v28 =>
 (if v27 = true then (v28.bind fun v28o8 => some (v28o8 == (4 : Int)) : Option Bool).bind fun v => some (some v) else some none).bind fun v29 =>
 (if v26 = true then some true else (v29).bind fun y => some y : Option Bool).bind fun v30 =>
 let v31 : Bool := !v30
 (if v31 = true then some (some (v0.State)) else some none).bind fun v32 =>
 (if v31 = true then (v32.bind fun v32o9 => some (v32o9 == (9 : Int)) : Option Bool).bind fun v => some (some v) else some none).bind fun v33 =>
 (if v30 = true then some true else (v33).bind fun y => some y : Option Bool).bind fun v34 =>
 let v35 : Bool := v34
 (if v35 = true then some (some (v0.Main)) else some none).bind fun v36 =>
 (if v35 = true then (v36.bind fun v36o10 => some (v36o10, ())).bind fun a37 => (matinsref39_runs a37.1).bind fun r => some (some r) else some none).bind fun r37 =>
 let v37 : Option Bool := r37.map fun x => x.1
 (if v35 = true then (v37.bind fun v37o11 => some (!v37o11) : Option Bool).bind fun v => some (some v) else some none).bind fun v38 =>
 (if v34 = true then v38 else some false : Option Bool).bind fun v39 =>
 let v40 : Bool := v39
 (if v40 = true then some (some (v0.Aux)) else some none).bind fun v41 =>
 (if v40 = true then (v41.bind fun v41o12 => some (v41o12, ())).bind fun a42 => (matinsref39_runs a42.1).bind fun r => some (some r) else some none).bind fun r42 =>
 let v42 : Option Bool := r42.map fun x => x.1
 (if v40 = true then (v42.bind fun v42o13 => some (!v42o13) : Option Bool).bind fun v => some (some v) else some none).bind fun v43 =>
 (if v39 = true then v43 else some false : Option Bool).bind fun v44 =>
 let v45 : Bool := v44
 (if v45 = true then some (some (v0.Serves)) else some none).bind fun v46 =>
 (if v45 = true then (v46.bind fun v46o14 => some (((List.length v46o14 : Nat) : Int)) : Option Int).bind fun v => some (some v) else some none).bind fun v47 =>
 (if v45 = true then (v47.bind fun v47o15 => some (v47o15 == (0 : Int)) : Option Bool).bind fun v => some (some v) else some none).bind fun v48 =>
 (if v44 = true then v48 else some false : Option Bool).bind fun v49 =>
 let v50 : Bool := v49
 (if v50 = true then some (some (v0.U.Kind)) else some none).bind fun v51 =>
 (if v50 = true then (v51.bind fun v51o16 => some (v51o16 == (2 : Int)) : Option Bool).bind fun v => some (some v) else some none).bind fun v52 =>
 (if v50 = true then v52.bind fun v52o17 => some (!v52o17) else some false : Option Bool).bind fun v53 =>
 (if v53 = true then some (some (v0.Waits)) else some none).bind fun v54 =>
 (if v53 = true then (v54.bind fun v54o18 => some (((List.length v54o18 : Nat) : Int)) : Option Int).bind fun v => some (some v) else some none).bind fun v55 =>
 (if v53 = true then (v55.bind fun v55o19 => some (v55o19 == (0 : Int)) : Option Bool).bind fun v => some (some v) else some none).bind fun v56 =>
 (if v50 = true then (v52.bind fun v52o20 => if v52o20 = true then some true else (v56).bind fun y => some y : Option Bool).bind fun v => some (some v) else some none).bind fun v57 =>
 (if v49 = true then v57 else some false : Option Bool).bind fun v58 =>
 some (v58, ())))
def l30 : Ch := (30, ⟨[.agg (.v 0) 62 (.g 0 0) []], ⟨1, [], 1, 1, [], [], [], []⟩, ⟨[0], [], [], [], [], 0⟩, [(0, ⟨none, .one (.c []) none⟩)], false⟩, [(11801, ⟨[], [], [], [], [], 12⟩), (11901, ⟨[], [], [], [], [], 12⟩), (15801, ⟨[], [], [], [], [], 12⟩), (16101, ⟨[], [], [], [], [], 12⟩)]) :: l62
noncomputable def t30 : List (Nat × TC U) := (30, ⟨[.st 33], [.bool], fun (a : api_Cell × Unit) => matinsref39_Cell a.1⟩) :: t62
theorem c30 : Chain Tryz.prog U tab base l30 t30 := Chain.cons tb cfok c62 1 rfl rfl rfl (hs := [])
 (fun (e : api_Cell × Unit) => matinsref39_Cell e.1) (by kernel_rfl) (fun _ => rfl)
noncomputable def matinslaw34_may (v0 : api_World) (v1 : api_Cell) (v2 : Int) : Option (Bool × Unit) :=
 let v3 : api_Unit := v1.U
 let v4 : List api_Exec := v3.Pre
 let v5 : Int := ((List.length v4 : Nat) : Int)
 let v6 : List api_Exec := v3.Start
 let v7 : Int := ((List.length v6 : Nat) : Int)
 let v8 : Int := IntKind.i64.wrap (v5 + v7)
 let v9 : List api_Exec := v3.Post
 let v10 : Int := ((List.length v9 : Nat) : Int)
 let v11 : Int := IntKind.i64.wrap (v8 + v10)
 let v12 : List api_Exec := v3.Stop
 let v13 : Int := ((List.length v12 : Nat) : Int)
 let v14 : Int := IntKind.i64.wrap (v11 + v13)
 let v15 : List api_Exec := v3.Reload
 let v16 : Int := ((List.length v15 : Nat) : Int)
 let v17 : Int := IntKind.i64.wrap (v14 + v16)
 let v18 : List Int := v3.Ports
 let v19 : Int := ((List.length v18 : Nat) : Int)
 let v20 : Int := IntKind.i64.wrap (v17 + v19)
 let v21 : List Int := v3.Boot
 let v22 : Int := ((List.length v21 : Nat) : Int)
 let v23 : Int := IntKind.i64.wrap (v20 + v22)
 let v24 : List Int := v3.Active
 let v25 : Int := ((List.length v24 : Nat) : Int)
 let v26 : Int := IntKind.i64.wrap (v23 + v25)
 let v27 : List Int := v3.Idle
 let v28 : Int := ((List.length v27 : Nat) : Int)
 let v29 : Int := IntKind.i64.wrap (v26 + v28)
 (matinsref22_May v0).bind fun r30 =>
 let v30 : Bool := r30.1
 let v31 : Bool := v30
 (if v31 = true then (matinsref22_Time v2).bind fun r => some (some r) else some none).bind fun r32 =>
 let v32 : Option Bool := r32.map fun x => x.1
 (if v30 = true then v32 else some false : Option Bool).bind fun v33 =>
 let v34 : Bool := v33
 (if v34 = true then (matinsref39_Cell v1).bind fun r => some (some r) else some none).bind fun r35 =>
 let v35 : Option Bool := r35.map fun x => x.1
 (if v33 = true then v35 else some false : Option Bool).bind fun v36 =>
 let v37 : Bool := v36
 (if v37 = true then (matinslaw34_sane v1).bind fun r => some (some r) else some none).bind fun r38 =>
 let v38 : Option Bool := r38.map fun x => x.1
 (if v36 = true then v38 else some false : Option Bool).bind fun v39 =>
 let v40 : Bool := v39
 (if v40 = true then some (some (decide (v29 ≤ (200 : Int)))) else some none).bind fun v41 =>
 (if v39 = true then v41 else some false : Option Bool).bind fun v42 =>
 let v43 : Bool := v42
 (if v43 = true then some (some (v3.Calendar)) else some none).bind fun v44 =>
 (if v43 = true then (v44.bind fun v44o1 => some (((List.length v44o1 : Nat) : Int)) : Option Int).bind fun v => some (some v) else some none).bind fun v45 =>
 (if v43 = true then (v45.bind fun v45o2 => some (decide (v45o2 ≤ (4 : Int))) : Option Bool).bind fun v => some (some v) else some none).bind fun v46 =>
 (if v42 = true then v46 else some false : Option Bool).bind fun v47 =>
 let v48 : Bool := v47
 (if v48 = true then some (some (v1.Serves)) else some none).bind fun v49 =>
 (if v48 = true then (v49.bind fun v49o3 => some (((List.length v49o3 : Nat) : Int)) : Option Int).bind fun v => some (some v) else some none).bind fun v50 =>
 (if v48 = true then (v50.bind fun v50o4 => some (decide (v50o4 ≤ (64 : Int))) : Option Bool).bind fun v => some (some v) else some none).bind fun v51 =>
 (if v47 = true then v51 else some false : Option Bool).bind fun v52 =>
 let v53 : Bool := v52
 (if v53 = true then some (some (v1.Waits)) else some none).bind fun v54 =>
 (if v53 = true then (v54.bind fun v54o5 => some (((List.length v54o5 : Nat) : Int)) : Option Int).bind fun v => some (some v) else some none).bind fun v55 =>
 (if v53 = true then (v55.bind fun v55o6 => some (decide (v55o6 ≤ (64 : Int))) : Option Bool).bind fun v => some (some v) else some none).bind fun v56 =>
 (if v52 = true then v56 else some false : Option Bool).bind fun v57 =>
 some (v57, ())
def l21 : Ch := (21, ⟨[.agg (.v 0) 3 (.g 0 0) [], .agg (.v 1) 62 (.g 1 0) [], .one (.v 2) (some (.w 1))], ⟨3, [], 2, 2, [], [], [], [(.w 1, 1, 1)]⟩, ⟨[0], [], [], [], [], 0⟩, [(0, ⟨none, .one (.c []) none⟩)], false⟩, [(11801, ⟨[], [], [], [], [], 12⟩), (11901, ⟨[], [], [], [], [], 12⟩), (15801, ⟨[], [], [], [], [], 12⟩), (16101, ⟨[], [], [], [], [], 12⟩)]) :: l30
noncomputable def t21 : List (Nat × TC U) := (21, ⟨[.st 43, .st 33, .ik .i64], [.bool], fun (a : api_World × api_Cell × Int × Unit) => matinslaw34_may a.1 a.2.1 a.2.2.1⟩) :: t30
theorem c21 : Chain Tryz.prog U tab base l21 t21 := Chain.cons tb cfok c30 3 rfl rfl rfl (hs := [])
 (fun (e : Int × api_Cell × api_World × Unit) => matinslaw34_may e.2.2.1 e.2.1 e.1) (by kernel_rfl) (fun _ => rfl)
noncomputable def service_course_row (v0 : Int) (v1 : ByteArray) (v2 : service_course) : Option (service_course × Unit) :=
 let v3 : List api_Row := v2.out.Rows
 let v4 : Int := v2.now
 let v5 : Int := v2.c.Rows
 let v6 : Int := IntKind.i64.wrap (v5 + (1 : Int))
 let v7 : ByteArray := v2.c.U.Name
 let v8 : api_Row := { (⟨(0 : Int), (⟨#[]⟩ : ByteArray), (0 : Int), (0 : Int), (⟨#[]⟩ : ByteArray)⟩ : api_Row) with Time := v4 }
 let v9 : api_Row := { v8 with Unit_ := v7 }
 let v10 : api_Row := { v9 with N := v6 }
 let v11 : api_Row := { v10 with Kind := v0 }
 let v12 : api_Row := { v11 with Text := v1 }
 let v13 : List api_Row := [v12]
 (if List.length v3 + List.length v13 ≤ 9223372036854775807 ∧ (List.length v3 + List.length v13) * 56 ≤ 140737488355328 then some (v3 ++ v13) else none : Option (List api_Row)).bind fun v14 =>
 let v15 : service_course := { v2 with c := { v2.c with Rows := v6 } }
 let v16 : service_course := { v15 with out := { v15.out with Rows := v14 } }
 some (v16, ())
def l107 : Ch := (107, ⟨[.ptr 0 0, .one (.v 0) (some (.w 1)), .one (.v 1) (some (.w 2))], ⟨3, [⟨96, .v 2, 71, (.g 0 0), []⟩], 3, 1, [(.b 0 66, 62), (.b 0 67, 92), (.b 0 68, 105)], [], [], [(.b 0 0, 1, 0), (.w 2, 1, 2), (.w 1, 1, 1)]⟩, ⟨[], [0], [], [(0, (66, 62)), (0, (67, 92)), (0, (68, 105))], [], 0⟩, [], true⟩, [(11801, ⟨[], [], [], [], [], 12⟩), (11901, ⟨[], [], [], [], [], 12⟩), (15801, ⟨[], [], [], [], [], 12⟩), (16101, ⟨[], [], [], [], [], 12⟩)]) :: l21
noncomputable def t107 : List (Nat × TC U) := (107, ⟨[.ik .i64, .str, .st 96], [.st 96], fun (a : Int × ByteArray × service_course × Unit) => service_course_row a.1 a.2.1 a.2.2.1⟩) :: t21
theorem c107 : Chain Tryz.prog U tab base l107 t107 := Chain.cons tb cfok c21 3 rfl rfl rfl (hs := [⟨.st 62, ((⟨(0 : Int), (⟨#[]⟩ : ByteArray), (0 : Int), (0 : Int), (⟨#[]⟩ : ByteArray)⟩ : api_Row) : api_Row)⟩])
 (fun (e : service_course × ByteArray × Int × Unit) => service_course_row e.2.2.1 e.2.1 e.1) (by kernel_rfl) (fun _ => rfl)
noncomputable def service_course_to (v0 : Int) (v1 : service_course) : Option (service_course × Unit) :=
 let v2 : Int := v1.now
 let v3 : service_course := { v1 with c := { v1.c with State := v0 } }
 let v4 : service_course := { v3 with c := { v3.c with Since := v2 } }
 some (v4, ())
def l106 : Ch := (106, ⟨[.ptr 0 0, .one (.v 0) (some (.w 1))], ⟨2, [⟨96, .v 1, 71, (.g 0 0), []⟩], 2, 1, [(.b 0 66, 62), (.b 0 67, 92), (.b 0 68, 105)], [], [], [(.b 0 0, 1, 0), (.w 1, 1, 1)]⟩, ⟨[], [0], [], [(0, (66, 62)), (0, (67, 92)), (0, (68, 105))], [], 0⟩, [], true⟩, [(11801, ⟨[], [], [], [], [], 12⟩), (11901, ⟨[], [], [], [], [], 12⟩), (15801, ⟨[], [], [], [], [], 12⟩), (16101, ⟨[], [], [], [], [], 12⟩)]) :: l107
noncomputable def t106 : List (Nat × TC U) := (106, ⟨[.ik .i64, .st 96], [.st 96], fun (a : Int × service_course × Unit) => service_course_to a.1 a.2.1⟩) :: t107
theorem c106 : Chain Tryz.prog U tab base l106 t106 := Chain.cons tb cfok c107 2 rfl rfl rfl (hs := [])
 (fun (e : service_course × Int × Unit) => service_course_to e.2.1 e.1) (by kernel_rfl) (fun _ => rfl)
noncomputable def service_course_up (v0 : ByteArray) (v1 : service_course) : Option (service_course × Unit) :=
 (service_course_to ((4 : Int)) v1).bind fun r2 =>
 let v2 : service_course := r2.1
 let v3 : service_course := { v2 with c := { v2.c with Over := (1099511627776 : Int) } }
 (service_course_row ((2 : Int)) v0 v3).bind fun r4 =>
 let v4 : service_course := r4.1
 some (v4, ())
def l208 : Ch := (208, ⟨[.ptr 0 0, .one (.v 0) (some (.w 1))], ⟨2, [⟨96, .v 1, 71, (.g 0 0), []⟩], 2, 1, [(.b 0 66, 62), (.b 0 67, 92), (.b 0 68, 105)], [], [], [(.b 0 0, 1, 0), (.w 1, 1, 1)]⟩, ⟨[], [0], [], [(0, (66, 62)), (0, (67, 92)), (0, (68, 105))], [], 0⟩, [], true⟩, [(11801, ⟨[], [], [], [], [], 12⟩), (11901, ⟨[], [], [], [], [], 12⟩), (15801, ⟨[], [], [], [], [], 12⟩), (16101, ⟨[], [], [], [], [], 12⟩)]) :: l106
noncomputable def t208 : List (Nat × TC U) := (208, ⟨[.str, .st 96], [.st 96], fun (a : ByteArray × service_course × Unit) => service_course_up a.1 a.2.1⟩) :: t106
theorem c208 : Chain Tryz.prog U tab base l208 t208 := Chain.cons tb cfok c106 2 rfl rfl rfl (hs := [])
 (fun (e : service_course × ByteArray × Unit) => service_course_up e.2.1 e.1) (by kernel_rfl) (fun _ => rfl)
noncomputable def service_course_rests_e1 (v7 : service_course) : Option (service_course × Unit) :=
 let v9 : api_Unit := v7.c.U
 let v10 : Int := v7.c.Result
 let v11 : Int := v7.now
 (retry_Due v9 v10 v11).bind fun r12 =>
 let v12 : Int := r12.1
 let v13 : Bool := r12.2.1
 let v14 : Bool := v7.c.Wish
 let v15 : Bool := v14
 (if v15 = true then some (some (v7.c.Result)) else some none).bind fun v16 =>
 (if v15 = true then (v16.bind fun v16o1 => some (v16o1 == (3 : Int)) : Option Bool).bind fun v => some (some v) else some none).bind fun v17 =>
 (if v14 = true then v17 else some false : Option Bool).bind fun v18 =>
 if v18 = true then (
 let v19 : service_course := { v7 with c := { v7.c with Serves := ([] : List api_Conn) } }
 (service_course_to ((9 : Int)) v19).bind fun r20 =>
 let v20 : service_course := r20.1
 (service_course_row ((2 : Int)) ((⟨#[102, 97, 105, 108, 101, 100]⟩ : ByteArray)) v20).bind fun r21 =>
 let v21 : service_course := r21.1
 let v22 : Bool := v21.out.Failed
 let v23 : Bool := !v22
 (if v22 = true then some true else some true : Option Bool).bind fun v24 =>
 let v25 : service_course := { v21 with out := { v21.out with Failed := v24 } }
 some (v25, ()))
 else (
 let v19 : Bool := v7.c.Wish
 let v20 : Bool := !v19
 let v21 : Bool := v20
 (if v21 = true then some (some (!v13)) else some none).bind fun v22 =>
 (if v20 = true then v22 else some false : Option Bool).bind fun v23 =>
 let v24 : Bool := v23
 (if v24 = true then some (some (v7.c.Result)) else some none).bind fun v25 =>
 (if v24 = true then (v25.bind fun v25o2 => some (v25o2 != (0 : Int)) : Option Bool).bind fun v => some (some v) else some none).bind fun v26 =>
 (if v23 = true then v26 else some false : Option Bool).bind fun v27 =>
 if v27 = true then (
 let v28 : service_course := { v7 with c := { v7.c with Serves := ([] : List api_Conn) } }
 (service_course_to ((9 : Int)) v28).bind fun r29 =>
 let v29 : service_course := r29.1
 (service_course_row ((2 : Int)) ((⟨#[102, 97, 105, 108, 101, 100]⟩ : ByteArray)) v29).bind fun r30 =>
 let v30 : service_course := r30.1
 let v31 : Bool := v30.out.Failed
 let v32 : Bool := !v31
 (if v31 = true then some true else some true : Option Bool).bind fun v33 =>
 let v34 : service_course := { v30 with out := { v30.out with Failed := v33 } }
 some (v34, ()))
 else (
 let v28 : Bool := v7.c.Wish
 let v29 : Bool := !v28
 let v30 : Bool := v29
 (if v29 = true then some v13 else some false : Option Bool).bind fun v31 =>
 if v31 = true then (
 let v32 : service_course := { v7 with c := { v7.c with Serves := ([] : List api_Conn) } }
 let v33 : service_course := { v32 with c := { v32.c with Over := v12 } }
 (service_course_to ((8 : Int)) v33).bind fun r34 =>
 let v34 : service_course := r34.1
 (service_course_row ((2 : Int)) ((⟨#[112, 97, 117, 115, 101]⟩ : ByteArray)) v34).bind fun r35 =>
 let v35 : service_course := r35.1
 let v36 : Bool := v35.out.Failed
 let v37 : Bool := !v36
 (if v36 = true then some true else some false : Option Bool).bind fun v38 =>
 let v39 : service_course := { v35 with out := { v35.out with Failed := v38 } }
 some (v39, ()))
 else (
 let v32 : service_course := { v7 with c := { v7.c with Serves := ([] : List api_Conn) } }
 (service_course_to ((0 : Int)) v32).bind fun r33 =>
 let v33 : service_course := r33.1
 (service_course_row ((2 : Int)) ((⟨#[100, 111, 119, 110]⟩ : ByteArray)) v33).bind fun r34 =>
 let v34 : service_course := r34.1
 let v35 : Bool := v34.out.Failed
 let v36 : Bool := !v35
 (if v35 = true then some true else some false : Option Bool).bind fun v37 =>
 let v38 : service_course := { v34 with out := { v34.out with Failed := v37 } }
 some (v38, ()))))
noncomputable def service_course_rests (v0 : service_course) : Option (service_course × Unit) :=
 let v1 : List api_Conn := v0.c.Serves
 let v2 : Int := ((List.length v1 : Nat) : Int)
 let v3 : service_course := { v0 with c := { v0.c with Main := (⟨(0 : Int), (0 : Int), (0 : Int), (0 : Int), (0 : Int), false⟩ : api_Run) } }
 let v4 : service_course := { v3 with c := { v3.c with Aux := (⟨(0 : Int), (0 : Int), (0 : Int), (0 : Int), (0 : Int), false⟩ : api_Run) } }
 let v5 : service_course := { v4 with c := { v4.c with Over := (1099511627776 : Int) } }
 loopS (A := Int × service_course × Unit) (fun s6 =>
   let v6 : Int := s6.1
   let v7 : service_course := s6.2.1
 let v8 : Bool := decide (v6 < v2)
 if v8 = true then (
 (if 0 ≤ v6 ∧ v6 < ((List.length v1 : Nat) : Int) then (v1)[(v6).toNat]? else none : Option api_Conn).bind fun v9 =>
 let v10 : api_Conn := v9
 let v11 : List api_Conn := v7.out.Back
 let v12 : api_Conn := { v10 with Until := (0 : Int) }
 let v13 : List api_Conn := [v12]
 (if List.length v11 + List.length v13 ≤ 9223372036854775807 ∧ (List.length v11 + List.length v13) * 48 ≤ 140737488355328 then some (v11 ++ v13) else none : Option (List api_Conn)).bind fun v14 =>
 let v15 : Int := IntKind.i64.wrap (v6 + (1 : Int))
 let v16 : service_course := { v7 with out := { v7.out with Back := v14 } }
 some (Sum.inl (v15, v16, ())))
 else (
 (service_course_rests_e1 v7).bind fun r => some (Sum.inr r))
   ) ((0 : Int), v5, ())
def l153 : Ch := (153, ⟨[.ptr 0 0], ⟨1, [⟨96, .v 0, 71, (.g 0 0), []⟩], 1, 1, [(.b 0 68, 105), (.b 0 66, 62), (.b 0 67, 92)], [], [], [(.b 0 0, 1, 0)]⟩, ⟨[], [0], [], [(0, (68, 105)), (0, (66, 62)), (0, (67, 92))], [], 0⟩, [], true⟩, [(11801, ⟨[], [], [], [], [], 12⟩), (11901, ⟨[], [], [], [], [], 12⟩), (15801, ⟨[], [], [], [], [], 12⟩), (16101, ⟨[], [], [], [], [], 12⟩), (15302, ⟨[28], [0], [], [(0, (68, 105)), (0, (66, 62)), (0, (67, 92))], [], 0⟩)]) :: l208
noncomputable def t153 : List (Nat × TC U) := (153, ⟨[.st 96], [.st 96], fun (a : service_course × Unit) => service_course_rests a.1⟩) :: t208
theorem c153 : Chain Tryz.prog U tab base l153 t153 := Chain.cons tb cfok c208 1 rfl rfl rfl (hs := [⟨.st 30, ((⟨(0 : Int), (0 : Int), (0 : Int), (0 : Int), (0 : Int), false⟩ : api_Run) : api_Run)⟩, ⟨.st 30, ((⟨(0 : Int), (0 : Int), (0 : Int), (0 : Int), (0 : Int), false⟩ : api_Run) : api_Run)⟩, ⟨.li (.st 105), ([] : List api_Conn)⟩, ⟨.li (.st 105), ([] : List api_Conn)⟩, ⟨.li (.st 105), ([] : List api_Conn)⟩, ⟨.li (.st 105), ([] : List api_Conn)⟩])
 (fun (e : service_course × Unit) => service_course_rests e.1) (by kernel_rfl) (fun _ => rfl)
noncomputable def service_course_ends (v0 : service_course) : Option (service_course × Unit) :=
 let v1 : Int := v0.c.Main.Part
 let v2 : Bool := decide (v1 ≤ (0 : Int))
 if v2 = true then (
 let v3 : service_course := { v0 with c := { v0.c with Aux := (⟨(0 : Int), (0 : Int), (0 : Int), (0 : Int), (0 : Int), false⟩ : api_Run) } }
 (service_course_rests v3).bind fun r4 =>
 let v4 : service_course := r4.1
 some (v4, ()))
 else (
 let v3 : service_course := { v0 with c := { v0.c with Aux := (⟨(0 : Int), (0 : Int), (0 : Int), (0 : Int), (0 : Int), false⟩ : api_Run) } }
 (service_course_to ((7 : Int)) v3).bind fun r4 =>
 let v4 : service_course := r4.1
 let v5 : api_Run := v4.c.Main
 let v6 : Int := v4.now
 (run_Tell v5 v6).bind fun r7 =>
 let v7 : api_Run := r7.1
 let v8 : Int := v4.now
 let v9 : Int := v4.c.U.Down
 (span_Sum v8 v9).bind fun r10 =>
 let v10 : Int := r10.1
 let v11 : service_course := { v4 with c := { v4.c with Main := v7 } }
 let v12 : service_course := { v11 with c := { v11.c with Over := v10 } }
 (service_course_row ((2 : Int)) ((⟨#[101, 110, 100, 115]⟩ : ByteArray)) v12).bind fun r13 =>
 let v13 : service_course := r13.1
 some (v13, ()))
def l110 : Ch := (110, ⟨[.ptr 0 0], ⟨1, [⟨96, .v 0, 71, (.g 0 0), []⟩], 1, 1, [(.b 0 68, 105), (.b 0 66, 62), (.b 0 67, 92)], [], [], [(.b 0 0, 1, 0)]⟩, ⟨[], [0], [], [(0, (68, 105)), (0, (66, 62)), (0, (67, 92))], [], 0⟩, [], true⟩, [(11801, ⟨[], [], [], [], [], 12⟩), (11901, ⟨[], [], [], [], [], 12⟩), (15801, ⟨[], [], [], [], [], 12⟩), (16101, ⟨[], [], [], [], [], 12⟩)]) :: l153
noncomputable def t110 : List (Nat × TC U) := (110, ⟨[.st 96], [.st 96], fun (a : service_course × Unit) => service_course_ends a.1⟩) :: t153
theorem c110 : Chain Tryz.prog U tab base l110 t110 := Chain.cons tb cfok c153 1 rfl rfl rfl (hs := [⟨.st 30, ((⟨(0 : Int), (0 : Int), (0 : Int), (0 : Int), (0 : Int), false⟩ : api_Run) : api_Run)⟩, ⟨.st 30, ((⟨(0 : Int), (0 : Int), (0 : Int), (0 : Int), (0 : Int), false⟩ : api_Run) : api_Run)⟩])
 (fun (e : service_course × Unit) => service_course_ends e.1) (by kernel_rfl) (fun _ => rfl)
noncomputable def service_course_isUp (v0 : service_course) : Option (service_course × Unit) :=
 let v1 : Int := v0.c.U.Type_
 let v2 : Bool := v1 == (2 : Int)
 let v3 : Bool := v2
 (if v3 = true then some (some (v0.c.U.Remain)) else some none).bind fun v4 =>
 (if v3 = true then (v4.bind fun v4o1 => some (!v4o1) : Option Bool).bind fun v => some (some v) else some none).bind fun v5 =>
 (if v2 = true then v5 else some false : Option Bool).bind fun v6 =>
 if v6 = true then (
 (service_course_rests v0).bind fun r7 =>
 let v7 : service_course := r7.1
 some (v7, ()))
 else (
 (service_course_up ((⟨#[117, 112]⟩ : ByteArray)) v0).bind fun r7 =>
 let v7 : service_course := r7.1
 some (v7, ()))
def l203 : Ch := (203, ⟨[.ptr 0 0], ⟨1, [⟨96, .v 0, 71, (.g 0 0), []⟩], 1, 1, [(.b 0 68, 105), (.b 0 66, 62), (.b 0 67, 92)], [], [], [(.b 0 0, 1, 0)]⟩, ⟨[], [0], [], [(0, (68, 105)), (0, (66, 62)), (0, (67, 92))], [], 0⟩, [], true⟩, [(11801, ⟨[], [], [], [], [], 12⟩), (11901, ⟨[], [], [], [], [], 12⟩), (15801, ⟨[], [], [], [], [], 12⟩), (16101, ⟨[], [], [], [], [], 12⟩)]) :: l110
noncomputable def t203 : List (Nat × TC U) := (203, ⟨[.st 96], [.st 96], fun (a : service_course × Unit) => service_course_isUp a.1⟩) :: t110
theorem c203 : Chain Tryz.prog U tab base l203 t203 := Chain.cons tb cfok c110 1 rfl rfl rfl (hs := [])
 (fun (e : service_course × Unit) => service_course_isUp e.1) (by kernel_rfl) (fun _ => rfl)
noncomputable def service_course_posts (v0 : service_course) : Option (service_course × Unit) :=
 let v1 : List api_Exec := v0.c.U.Post
 let v2 : Int := ((List.length v1 : Nat) : Int)
 let v3 : Bool := v2 == (0 : Int)
 if v3 = true then (
 (service_course_isUp v0).bind fun r4 =>
 let v4 : service_course := r4.1
 some (v4, ()))
 else (
 (service_course_to ((3 : Int)) v0).bind fun r4 =>
 let v4 : service_course := r4.1
 let v5 : Int := v4.now
 (run_Begin ((3 : Int)) ((0 : Int)) v5).bind fun r6 =>
 let v6 : api_Run := r6.1
 let v7 : service_course := { v4 with c := { v4.c with Aux := v6 } }
 some (v7, ()))
def l190 : Ch := (190, ⟨[.ptr 0 0], ⟨1, [⟨96, .v 0, 71, (.g 0 0), []⟩], 1, 1, [(.b 0 68, 105), (.b 0 66, 62), (.b 0 67, 92)], [], [], [(.b 0 0, 1, 0)]⟩, ⟨[], [0], [], [(0, (68, 105)), (0, (66, 62)), (0, (67, 92))], [], 0⟩, [], true⟩, [(11801, ⟨[], [], [], [], [], 12⟩), (11901, ⟨[], [], [], [], [], 12⟩), (15801, ⟨[], [], [], [], [], 12⟩), (16101, ⟨[], [], [], [], [], 12⟩)]) :: l203
noncomputable def t190 : List (Nat × TC U) := (190, ⟨[.st 96], [.st 96], fun (a : service_course × Unit) => service_course_posts a.1⟩) :: t203
theorem c190 : Chain Tryz.prog U tab base l190 t190 := Chain.cons tb cfok c203 1 rfl rfl rfl (hs := [])
 (fun (e : service_course × Unit) => service_course_posts e.1) (by kernel_rfl) (fun _ => rfl)
end Go.AW.M
