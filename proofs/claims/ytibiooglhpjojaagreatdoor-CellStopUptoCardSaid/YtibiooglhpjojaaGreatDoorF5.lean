/- Typed functions and their chain. Printed by tfn.py. -/
import Derived.Test.YtibiooglhpjojaaGreatDoorF4
set_option linter.unusedSimpArgs false
set_option linter.unusedVariables false
namespace Go.AW.M
open Go.RowKit Go.Proofs
set_option maxRecDepth 100000
noncomputable def matinsref10_sameInts (v0 : List Int) (v1 : List Int) : Option (Bool × Unit) :=
 let v2 : Int := ((List.length v0 : Nat) : Int)
 let v3 : Int := ((List.length v1 : Nat) : Int)
 let v4 : Bool := v2 != v3
 if v4 = true then (
 some (false, ()))
 else (
 let v5 : Int := ((List.length v0 : Nat) : Int)
 loopS (A := Int × Unit) (fun s6 =>
   let v6 : Int := s6.1
 let v7 : Bool := decide (v6 < v5)
 if v7 = true then (
 (if 0 ≤ v6 ∧ v6 < ((List.length v0 : Nat) : Int) then (v0)[(v6).toNat]? else none : Option Int).bind fun v8 =>
 let v9 : Int := v8
 (if 0 ≤ v6 ∧ v6 < ((List.length v1 : Nat) : Int) then (v1)[(v6).toNat]? else none : Option Int).bind fun v10 =>
 let v11 : Int := v10
 let v12 : Bool := v9 != v11
 if v12 = true then (
 some (Sum.inr (false, ())))
 else (
 let v13 : Int := IntKind.i64.wrap (v6 + (1 : Int))
 some (Sum.inl (v13, ()))))
 else (
 some (Sum.inr (true, ())))
   ) ((0 : Int), ()))
def l78 : Ch := (78, ⟨[.one (.v 0) (some (.w 1)), .one (.v 1) (some (.w 2))], ⟨2, [], 3, 0, [], [], [], [(.w 2, 1, 2), (.w 1, 1, 1)]⟩, ⟨[0], [], [], [], [], 0⟩, [(0, ⟨none, .one (.c []) none⟩)], false⟩, [(11801, ⟨[], [], [], [], [], 12⟩), (11901, ⟨[], [], [], [], [], 12⟩), (15801, ⟨[], [], [], [], [], 12⟩), (16101, ⟨[], [], [], [], [], 12⟩), (7804, ⟨[13], [], [], [], [], 0⟩)]) :: l79
noncomputable def t78 : List (Nat × TC U) := (78, ⟨[.li (.ik .i64), .li (.ik .i64)], [.bool], fun (a : (List Int) × (List Int) × Unit) => matinsref10_sameInts a.1 a.2.1⟩) :: t79
theorem c78 : Chain Tryz.prog U tab base l78 t78 := Chain.cons tb cfok c79 2 rfl rfl rfl (hs := [])
 (fun (e : (List Int) × (List Int) × Unit) => matinsref10_sameInts e.2.1 e.1) (by kernel_rfl) (fun _ => rfl)
noncomputable def matinsref10_sameExecs (v0 : List api_Exec) (v1 : List api_Exec) : Option (Bool × Unit) :=
 let v2 : Int := ((List.length v0 : Nat) : Int)
 let v3 : Int := ((List.length v1 : Nat) : Int)
 let v4 : Bool := v2 != v3
 if v4 = true then (
 some (false, ()))
 else (
 let v5 : Int := ((List.length v0 : Nat) : Int)
 loopS (A := Int × Unit) (fun s6 =>
   let v6 : Int := s6.1
 let v7 : Bool := decide (v6 < v5)
 if v7 = true then (
 (if 0 ≤ v6 ∧ v6 < ((List.length v0 : Nat) : Int) then (v0)[(v6).toNat]? else none : Option api_Exec).bind fun v8 =>
 let v9 : Bool := v8.Dash
 (if 0 ≤ v6 ∧ v6 < ((List.length v1 : Nat) : Int) then (v1)[(v6).toNat]? else none : Option api_Exec).bind fun v10 =>
 let v11 : Bool := v10.Dash
 let v12 : Bool := !(v9 == v11)
 let v13 : Bool := !v12
 (if v13 = true then (if 0 ≤ v6 ∧ v6 < ((List.length v0 : Nat) : Int) then (v0)[(v6).toNat]? else none : Option api_Exec).bind fun v => some (some v) else some none).bind fun v14 =>
 (if v13 = true then (v14.bind fun v14o1 => some (v14o1.Words) : Option (List ByteArray)).bind fun v => some (some v) else some none).bind fun v15 =>
 (if v13 = true then (if 0 ≤ v6 ∧ v6 < ((List.length v1 : Nat) : Int) then (v1)[(v6).toNat]? else none : Option api_Exec).bind fun v => some (some v) else some none).bind fun v16 =>
 (if v13 = true then (v16.bind fun v16o2 => some (v16o2.Words) : Option (List ByteArray)).bind fun v => some (some v) else some none).bind fun v17 =>
 (if v13 = true then (v15.bind fun v15o5 => (v17.bind fun v17o3 => some (v17o3, ())).bind fun y4 => some (v15o5, y4)).bind fun a18 => (matinsref5_Same a18.1 a18.2.1).bind fun r => some (some r) else some none).bind fun r18 =>
 let v18 : Option Bool := r18.map fun x => x.1
 (if v13 = true then (v18.bind fun v18o6 => some (!v18o6) : Option Bool).bind fun v => some (some v) else some none).bind fun v19 =>
 (if v12 = true then some true else (v19).bind fun y => some y : Option Bool).bind fun v20 =>
 if v20 = true then (
 some (Sum.inr (false, ())))
 else (
 let v21 : Int := IntKind.i64.wrap (v6 + (1 : Int))
 some (Sum.inl (v21, ()))))
 else (
 some (Sum.inr (true, ())))
   ) ((0 : Int), ()))
def l77 : Ch := (77, ⟨[.one (.v 0) (some (.w 1)), .one (.v 1) (some (.w 2))], ⟨2, [], 3, 0, [], [], [], [(.w 2, 1, 2), (.w 1, 1, 1)]⟩, ⟨[0], [], [], [], [], 0⟩, [(0, ⟨none, .one (.c []) none⟩)], false⟩, [(11801, ⟨[], [], [], [], [], 12⟩), (11901, ⟨[], [], [], [], [], 12⟩), (15801, ⟨[], [], [], [], [], 12⟩), (16101, ⟨[], [], [], [], [], 12⟩), (7704, ⟨[13], [], [], [], [], 0⟩)]) :: l78
noncomputable def t77 : List (Nat × TC U) := (77, ⟨[.li (.st 158), .li (.st 158)], [.bool], fun (a : (List api_Exec) × (List api_Exec) × Unit) => matinsref10_sameExecs a.1 a.2.1⟩) :: t78
theorem c77 : Chain Tryz.prog U tab base l77 t77 := Chain.cons tb cfok c78 2 rfl rfl rfl (hs := [])
 (fun (e : (List api_Exec) × (List api_Exec) × Unit) => matinsref10_sameExecs e.2.1 e.1) (by kernel_rfl) (fun _ => rfl)
noncomputable def matinsref10_samePairs (v0 : List api_Pair) (v1 : List api_Pair) : Option (Bool × Unit) :=
 let v2 : Int := ((List.length v0 : Nat) : Int)
 let v3 : Int := ((List.length v1 : Nat) : Int)
 let v4 : Bool := v2 != v3
 if v4 = true then (
 some (false, ()))
 else (
 let v5 : Int := ((List.length v0 : Nat) : Int)
 loopS (A := Int × Unit) (fun s6 =>
   let v6 : Int := s6.1
 let v7 : Bool := decide (v6 < v5)
 if v7 = true then (
 (if 0 ≤ v6 ∧ v6 < ((List.length v0 : Nat) : Int) then (v0)[(v6).toNat]? else none : Option api_Pair).bind fun v8 =>
 let v9 : api_Pair := v8
 (if 0 ≤ v6 ∧ v6 < ((List.length v1 : Nat) : Int) then (v1)[(v6).toNat]? else none : Option api_Pair).bind fun v10 =>
 let v11 : api_Pair := v10
 let v12 : Bool := api_Pair.same v9 v11 != true
 if v12 = true then (
 some (Sum.inr (false, ())))
 else (
 let v13 : Int := IntKind.i64.wrap (v6 + (1 : Int))
 some (Sum.inl (v13, ()))))
 else (
 some (Sum.inr (true, ())))
   ) ((0 : Int), ()))
def l80 : Ch := (80, ⟨[.one (.v 0) (some (.w 1)), .one (.v 1) (some (.w 2))], ⟨2, [], 3, 0, [], [], [], [(.w 2, 1, 2), (.w 1, 1, 1)]⟩, ⟨[0], [], [], [], [], 0⟩, [(0, ⟨none, .one (.c []) none⟩)], false⟩, [(11801, ⟨[], [], [], [], [], 12⟩), (11901, ⟨[], [], [], [], [], 12⟩), (15801, ⟨[], [], [], [], [], 12⟩), (16101, ⟨[], [], [], [], [], 12⟩), (8004, ⟨[13], [], [], [], [], 0⟩)]) :: l77
noncomputable def t80 : List (Nat × TC U) := (80, ⟨[.li (.st 160), .li (.st 160)], [.bool], fun (a : (List api_Pair) × (List api_Pair) × Unit) => matinsref10_samePairs a.1 a.2.1⟩) :: t77
theorem c80 : Chain Tryz.prog U tab base l80 t80 := Chain.cons tb cfok c77 2 rfl rfl rfl (hs := [])
 (fun (e : (List api_Pair) × (List api_Pair) × Unit) => matinsref10_samePairs e.2.1 e.1) (by kernel_rfl) (fun _ => rfl)
noncomputable def matinsref10_sameRels (v0 : List api_Rel) (v1 : List api_Rel) : Option (Bool × Unit) :=
 let v2 : Int := ((List.length v0 : Nat) : Int)
 let v3 : Int := ((List.length v1 : Nat) : Int)
 let v4 : Bool := v2 != v3
 if v4 = true then (
 some (false, ()))
 else (
 let v5 : Int := ((List.length v0 : Nat) : Int)
 loopS (A := Int × Unit) (fun s6 =>
   let v6 : Int := s6.1
 let v7 : Bool := decide (v6 < v5)
 if v7 = true then (
 (if 0 ≤ v6 ∧ v6 < ((List.length v0 : Nat) : Int) then (v0)[(v6).toNat]? else none : Option api_Rel).bind fun v8 =>
 let v9 : api_Rel := v8
 (if 0 ≤ v6 ∧ v6 < ((List.length v1 : Nat) : Int) then (v1)[(v6).toNat]? else none : Option api_Rel).bind fun v10 =>
 let v11 : api_Rel := v10
 let v12 : Bool := api_Rel.same v9 v11 != true
 if v12 = true then (
 some (Sum.inr (false, ())))
 else (
 let v13 : Int := IntKind.i64.wrap (v6 + (1 : Int))
 some (Sum.inl (v13, ()))))
 else (
 some (Sum.inr (true, ())))
   ) ((0 : Int), ()))
def l81 : Ch := (81, ⟨[.one (.v 0) (some (.w 1)), .one (.v 1) (some (.w 2))], ⟨2, [], 3, 0, [], [], [], [(.w 2, 1, 2), (.w 1, 1, 1)]⟩, ⟨[0], [], [], [], [], 0⟩, [(0, ⟨none, .one (.c []) none⟩)], false⟩, [(11801, ⟨[], [], [], [], [], 12⟩), (11901, ⟨[], [], [], [], [], 12⟩), (15801, ⟨[], [], [], [], [], 12⟩), (16101, ⟨[], [], [], [], [], 12⟩), (8104, ⟨[13], [], [], [], [], 0⟩)]) :: l80
noncomputable def t81 : List (Nat × TC U) := (81, ⟨[.li (.st 162), .li (.st 162)], [.bool], fun (a : (List api_Rel) × (List api_Rel) × Unit) => matinsref10_sameRels a.1 a.2.1⟩) :: t80
theorem c81 : Chain Tryz.prog U tab base l81 t81 := Chain.cons tb cfok c80 2 rfl rfl rfl (hs := [])
 (fun (e : (List api_Rel) × (List api_Rel) × Unit) => matinsref10_sameRels e.2.1 e.1) (by kernel_rfl) (fun _ => rfl)
noncomputable def matinsref10_Same (v0 : api_Unit) (v1 : api_Unit) : Option (Bool × Unit) :=
 let v2 : ByteArray := v0.Name
 let v3 : ByteArray := v1.Name
 let v4 : Bool := (ByteArray.toList v2) == (ByteArray.toList v3)
 let v5 : Bool := v4
 (if v5 = true then some (some (v0.Kind)) else some none).bind fun v6 =>
 (if v5 = true then some (some (v1.Kind)) else some none).bind fun v7 =>
 (if v5 = true then (v6.bind fun v6o1 => v7.bind fun v7o2 => some (v6o1 == v7o2) : Option Bool).bind fun v => some (some v) else some none).bind fun v8 =>
 (if v4 = true then v8 else some false : Option Bool).bind fun v9 =>
 let v10 : Bool := v9
 (if v10 = true then some (some (v0.Desc)) else some none).bind fun v11 =>
 (if v10 = true then some (some (v1.Desc)) else some none).bind fun v12 =>
 (if v10 = true then (v11.bind fun v11o3 => v12.bind fun v12o4 => some ((ByteArray.toList v11o3) == (ByteArray.toList v12o4)) : Option Bool).bind fun v => some (some v) else some none).bind fun v13 =>
 (if v9 = true then v13 else some false : Option Bool).bind fun v14 =>
 let v15 : Bool := v14
 (if v15 = true then some (some (v0.Default)) else some none).bind fun v16 =>
 (if v15 = true then some (some (v1.Default)) else some none).bind fun v17 =>
 (if v15 = true then (v16.bind fun v16o5 => v17.bind fun v17o6 => some (v16o5 == v17o6) : Option Bool).bind fun v => some (some v) else some none).bind fun v18 =>
 (if v14 = true then v18 else some false : Option Bool).bind fun v19 =>
 let v20 : Bool := v19
 (if v20 = true then some (some (v0.Every)) else some none).bind fun v21 =>
 (if v20 = true then some (some (v1.Every)) else some none).bind fun v22 =>
 (if v20 = true then (v21.bind fun v21o7 => v22.bind fun v22o8 => some (v21o7 == v22o8) : Option Bool).bind fun v => some (some v) else some none).bind fun v23 =>
 (if v19 = true then v23 else some false : Option Bool).bind fun v24 =>
 let v25 : Bool := v24
 (if v25 = true then some (some (v0.Burst)) else some none).bind fun v26 =>
 (if v25 = true then some (some (v1.Burst)) else some none).bind fun v27 =>
 (if v25 = true then (v26.bind fun v26o9 => v27.bind fun v27o10 => some (v26o9 == v27o10) : Option Bool).bind fun v => some (some v) else some none).bind fun v28 =>
 (if v24 = true then v28 else some false : Option Bool).bind fun v29 =>
 let v30 : Bool := v29
 (if v30 = true then some (some (v0.Type_)) else some none).bind fun v31 =>
 (if v30 = true then some (some (v1.Type_)) else some none).bind fun v32 =>
 (if v30 = true then (v31.bind fun v31o11 => v32.bind fun v32o12 => some (v31o11 == v32o12) : Option Bool).bind fun v => some (some v) else some none).bind fun v33 =>
 (if v29 = true then v33 else some false : Option Bool).bind fun v34 =>
 let v35 : Bool := v34
 (if v35 = true then some (some (v0.Remain)) else some none).bind fun v36 =>
 (if v35 = true then some (some (v1.Remain)) else some none).bind fun v37 =>
 (if v35 = true then (v36.bind fun v36o13 => v37.bind fun v37o14 => some (v36o13 == v37o14) : Option Bool).bind fun v => some (some v) else some none).bind fun v38 =>
 (if v34 = true then v38 else some false : Option Bool).bind fun v39 =>
 let v40 : Bool := v39
 (if v40 = true then some (some (v0.Restart)) else some none).bind fun v41 =>
 (if v40 = true then some (some (v1.Restart)) else some none).bind fun v42 =>
 (if v40 = true then (v41.bind fun v41o15 => v42.bind fun v42o16 => some (v41o15 == v42o16) : Option Bool).bind fun v => some (some v) else some none).bind fun v43 =>
 (if v39 = true then v43 else some false : Option Bool).bind fun v44 =>
 let v45 : Bool := v44
 (if v45 = true then some (some (v0.Pause)) else some none).bind fun v46 =>
 (if v45 = true then some (some (v1.Pause)) else some none).bind fun v47 =>
 (if v45 = true then (v46.bind fun v46o17 => v47.bind fun v47o18 => some (v46o17 == v47o18) : Option Bool).bind fun v => some (some v) else some none).bind fun v48 =>
 (if v44 = true then v48 else some false : Option Bool).bind fun v49 =>
 let v50 : Bool := v49
 (if v50 = true then some (some (v0.Up)) else some none).bind fun v51 =>
 (if v50 = true then some (some (v1.Up)) else some none).bind fun v52 =>
 (if v50 = true then (v51.bind fun v51o19 => v52.bind fun v52o20 => some (v51o19 == v52o20) : Option Bool).bind fun v => some (some v) else some none).bind fun v53 =>
 (if v49 = true then v53 else some false : Option Bool).bind fun v54 =>
 let v55 : Bool := v54
 (if v55 = true then some (some (v0.Down)) else some none).bind fun v56 =>
 (if v55 = true then some (some (v1.Down)) else some none).bind fun v57 =>
 (if v55 = true then (v56.bind fun v56o21 => v57.bind fun v57o22 => some (v56o21 == v57o22) : Option Bool).bind fun v => some (some v) else some none).bind fun v58 =>
 (if v54 = true then v58 else some false : Option Bool).bind fun v59 =>
 let v60 : Bool := v59
 (if v60 = true then some (some (v0.Backlog)) else some none).bind fun v61 =>
 (if v60 = true then some (some (v1.Backlog)) else some none).bind fun v62 =>
 (if v60 = true then (v61.bind fun v61o23 => v62.bind fun v62o24 => some (v61o23 == v62o24) : Option Bool).bind fun v => some (some v) else some none).bind fun v63 =>
 (if v59 = true then v63 else some false : Option Bool).bind fun v64 =>
 let v65 : Bool := v64
 (if v65 = true then some (some (v0.FdName)) else some none).bind fun v66 =>
 (if v65 = true then some (some (v1.FdName)) else some none).bind fun v67 =>
 (if v65 = true then (v66.bind fun v66o25 => v67.bind fun v67o26 => some ((ByteArray.toList v66o25) == (ByteArray.toList v67o26)) : Option Bool).bind fun v => some (some v) else some none).bind fun v68 =>
 (if v64 = true then v68 else some false : Option Bool).bind fun v69 =>
 let v70 : Bool := v69
 (if v70 = true then some (some (v0.Unit_)) else some none).bind fun v71 =>
 (if v70 = true then some (some (v1.Unit_)) else some none).bind fun v72 =>
 (if v70 = true then (v71.bind fun v71o27 => v72.bind fun v72o28 => some ((ByteArray.toList v71o27) == (ByteArray.toList v72o28)) : Option Bool).bind fun v => some (some v) else some none).bind fun v73 =>
 (if v69 = true then v73 else some false : Option Bool).bind fun v74 =>
 let v75 : Bool := v74
 (if v75 = true then some (some (v0.Persistent)) else some none).bind fun v76 =>
 (if v75 = true then some (some (v1.Persistent)) else some none).bind fun v77 =>
 (if v75 = true then (v76.bind fun v76o29 => v77.bind fun v77o30 => some (v76o29 == v77o30) : Option Bool).bind fun v => some (some v) else some none).bind fun v78 =>
 (if v74 = true then v78 else some false : Option Bool).bind fun v79 =>
 let v80 : Bool := v79
 (if v80 = true then some (some (v0.Instance)) else some none).bind fun v81 =>
 (if v80 = true then some (some (v1.Instance)) else some none).bind fun v82 =>
 (if v80 = true then (v81.bind fun v81o31 => v82.bind fun v82o32 => some ((ByteArray.toList v81o31) == (ByteArray.toList v82o32)) : Option Bool).bind fun v => some (some v) else some none).bind fun v83 =>
 (if v79 = true then v83 else some false : Option Bool).bind fun v84 =>
 let v85 : List api_Exec := v0.Pre
 let v86 : List api_Exec := v1.Pre
 (matinsref10_sameExecs v85 v86).bind fun r87 =>
 let v87 : Bool := r87.1
 let v88 : Bool := v87
 (if v88 = true then some (some (v0.Start)) else some none).bind fun v89 =>
 (if v88 = true then some (some (v1.Start)) else some none).bind fun v90 =>
 (if v88 = true then (v89.bind fun v89o35 => (v90.bind fun v90o33 => some (v90o33, ())).bind fun y34 => some (v89o35, y34)).bind fun a91 => (matinsref10_sameExecs a91.1 a91.2.1).bind fun r => some (some r) else some none).bind fun r91 =>
 let v91 : Option Bool := r91.map fun x => x.1
 (if v87 = true then v91 else some false : Option Bool).bind fun v92 =>
 let v93 : Bool := v92
 (if v93 = true then some (some (v0.Post)) else some none).bind fun v94 =>
 (if v93 = true then some (some (v1.Post)) else some none).bind fun v95 =>
 (if v93 = true then (v94.bind fun v94o38 => (v95.bind fun v95o36 => some (v95o36, ())).bind fun y37 => some (v94o38, y37)).bind fun a96 => (matinsref10_sameExecs a96.1 a96.2.1).bind fun r => some (some r) else some none).bind fun r96 =>
 let v96 : Option Bool := r96.map fun x => x.1
 (if v92 = true then v96 else some false : Option Bool).bind fun v97 =>
 let v98 : Bool := v97
 (if v98 = true then some (some (v0.Stop)) else some none).bind fun v99 =>
 (if v98 = true then some (some (v1.Stop)) else some none).bind fun v100 =>
 (if v98 = true then (v99.bind fun v99o41 => (v100.bind fun v100o39 => some (v100o39, ())).bind fun y40 => some (v99o41, y40)).bind fun a101 => (matinsref10_sameExecs a101.1 a101.2.1).bind fun r => some (some r) else some none).bind fun r101 =>
 let v101 : Option Bool := r101.map fun x => x.1
 (if v97 = true then v101 else some false : Option Bool).bind fun v102 =>
 let v103 : Bool := v102
 (if v103 = true then some (some (v0.Reload)) else some none).bind fun v104 =>
 (if v103 = true then some (some (v1.Reload)) else some none).bind fun v105 =>
 (if v103 = true then (v104.bind fun v104o44 => (v105.bind fun v105o42 => some (v105o42, ())).bind fun y43 => some (v104o44, y43)).bind fun a106 => (matinsref10_sameExecs a106.1 a106.2.1).bind fun r => some (some r) else some none).bind fun r106 =>
 let v106 : Option Bool := r106.map fun x => x.1
 (if v102 = true then v106 else some false : Option Bool).bind fun v107 =>
 let v108 : List Int := v0.Success
 let v109 : List Int := v1.Success
 (matinsref10_sameInts v108 v109).bind fun r110 =>
 let v110 : Bool := r110.1
 let v111 : Bool := v110
 (if v111 = true then some (some (v0.Ports)) else some none).bind fun v112 =>
 (if v111 = true then some (some (v1.Ports)) else some none).bind fun v113 =>
 (if v111 = true then (v112.bind fun v112o47 => (v113.bind fun v113o45 => some (v113o45, ())).bind fun y46 => some (v112o47, y46)).bind fun a114 => (matinsref10_sameInts a114.1 a114.2.1).bind fun r => some (some r) else some none).bind fun r114 =>
 let v114 : Option Bool := r114.map fun x => x.1
 (if v110 = true then v114 else some false : Option Bool).bind fun v115 =>
 let v116 : Bool := v115
 (if v116 = true then some (some (v0.Boot)) else some none).bind fun v117 =>
 (if v116 = true then some (some (v1.Boot)) else some none).bind fun v118 =>
 (if v116 = true then (v117.bind fun v117o50 => (v118.bind fun v118o48 => some (v118o48, ())).bind fun y49 => some (v117o50, y49)).bind fun a119 => (matinsref10_sameInts a119.1 a119.2.1).bind fun r => some (some r) else some none).bind fun r119 =>
 let v119 : Option Bool := r119.map fun x => x.1
 (if v115 = true then v119 else some false : Option Bool).bind fun v120 =>
 let v121 : Bool := v120
 (if v121 = true then some (some (v0.Active)) else some none).bind fun v122 =>
 (if v121 = true then some (some (v1.Active)) else some none).bind fun v123 =>
 (if v121 = true then (v122.bind fun v122o53 => (v123.bind fun v123o51 => some (v123o51, ())).bind fun y52 => some (v122o53, y52)).bind fun a124 => (matinsref10_sameInts a124.1 a124.2.1).bind fun r => some (some r) else some none).bind fun r124 =>
 let v124 : Option Bool := r124.map fun x => x.1
 (if v120 = true then v124 else some false : Option Bool).bind fun v125 =>
 let v126 : Bool := v125
 (if v126 = true then some (some (v0.Idle)) else some none).bind fun v127 =>
 (if v126 = true then some (some (v1.Idle)) else some none).bind fun v128 =>
 (if v126 = true then (v127.bind fun v127o56 => (v128.bind fun v128o54 => some (v128o54, ())).bind fun y55 => some (v127o56, y55)).bind fun a129 => (matinsref10_sameInts a129.1 a129.2.1).bind fun r => some (some r) else some none).bind fun r129 =>
 let v129 : Option Bool := r129.map fun x => x.1
 (if v125 = true then v129 else some false : Option Bool).bind fun v130 =>
 let v131 : List ByteArray := v0.Sockets
 let v132 : List ByteArray := v1.Sockets
 (matinsref5_Same v131 v132).bind fun r133 =>
 let v133 : Bool := r133.1
 let v134 : Bool := v133
 (if v134 = true then some (some (v0.Calendar)) else some none).bind fun v135 =>
 (if v134 = true then some (some (v1.Calendar)) else some none).bind fun v136 =>
 (if v134 = true then (v135.bind fun v135o59 => (v136.bind fun v136o57 => some (v136o57, ())).bind fun y58 => some (v135o59, y58)).bind fun a137 => (matinsref5_Same a137.1 a137.2.1).bind fun r => some (some r) else some none).bind fun r137 =>
 let v137 : Option Bool := r137.map fun x => x.1
 (if v133 = true then v137 else some false : Option Bool).bind fun v138 =>
 let v139 : Bool := v138
 (if v139 = true then some (some (v0.WantedBy)) else some none).bind fun v140 =>
 (if v139 = true then some (some (v1.WantedBy)) else some none).bind fun v141 =>
 (if v139 = true then (v140.bind fun v140o62 => (v141.bind fun v141o60 => some (v141o60, ())).bind fun y61 => some (v140o62, y61)).bind fun a142 => (matinsref5_Same a142.1 a142.2.1).bind fun r => some (some r) else some none).bind fun r142 =>
 let v142 : Option Bool := r142.map fun x => x.1
 (if v138 = true then v142 else some false : Option Bool).bind fun v143 =>
 let v144 : Bool := v143
 (if v144 = true then some (some (v0.RequiredBy)) else some none).bind fun v145 =>
 (if v144 = true then some (some (v1.RequiredBy)) else some none).bind fun v146 =>
 (if v144 = true then (v145.bind fun v145o65 => (v146.bind fun v146o63 => some (v146o63, ())).bind fun y64 => some (v145o65, y64)).bind fun a147 => (matinsref5_Same a147.1 a147.2.1).bind fun r => some (some r) else some none).bind fun r147 =>
 let v147 : Option Bool := r147.map fun x => x.1
 (if v143 = true then v147 else some false : Option Bool).bind fun v148 =>
 let v149 : Bool := v148
 (if v149 = true then some (some (v0.Alias)) else some none).bind fun v150 =>
 (if v149 = true then some (some (v1.Alias)) else some none).bind fun v151 =>
 (if v149 = true then (v150.bind fun v150o68 => (v151.bind fun v151o66 => some (v151o66, ())).bind fun y67 => some (v150o68, y67)).bind fun a152 => (matinsref5_Same a152.1 a152.2.1).bind fun r => some (some r) else some none).bind fun r152 =>
 let v152 : Option Bool := r152.map fun x => x.1
 (if v148 = true then v152 else some false : Option Bool).bind fun v153 =>
 let v154 : Bool := v153
 (if v154 = true then some (some (v0.Also)) else some none).bind fun v155 =>
 (if v154 = true then some (some (v1.Also)) else some none).bind fun v156 =>
 (if v154 = true then (v155.bind fun v155o71 => (v156.bind fun v156o69 => some (v156o69, ())).bind fun y70 => some (v155o71, y70)).bind fun a157 => (matinsref5_Same a157.1 a157.2.1).bind fun r => some (some r) else some none).bind fun r157 =>
 let v157 : Option Bool := r157.map fun x => x.1
 (if v153 = true then v157 else some false : Option Bool).bind fun v158 =>
 let v159 : Bool := v84
 (if v84 = true then some v107 else some false : Option Bool).bind fun v160 =>
 let v161 : Bool := v160
 (if v160 = true then some v130 else some false : Option Bool).bind fun v162 =>
 let v163 : Bool := v162
 (if v162 = true then some v158 else some false : Option Bool).bind fun v164 =>
 let v165 : Bool := v164
 (if v165 = true then some (some (v0.Env)) else some none).bind fun v166 =>
 (if v165 = true then some (some (v1.Env)) else some none).bind fun v167 =>
 (if v165 = true then (v166.bind fun v166o74 => (v167.bind fun v167o72 => some (v167o72, ())).bind fun y73 => some (v166o74, y73)).bind fun a168 => (matinsref10_samePairs a168.1 a168.2.1).bind fun r => some (some r) else some none).bind fun r168 =>
 let v168 : Option Bool := r168.map fun x => x.1
 (if v164 = true then v168 else some false : Option Bool).bind fun v169 =>
 let v170 : Bool := v169
 (if v170 = true then some (some (v0.Rels)) else some none).bind fun v171 =>
 (if v170 = true then some (some (v1.Rels)) else some none).bind fun v172 =>
 (if v170 = true then (v171.bind fun v171o77 => (v172.bind fun v172o75 => some (v172o75, ())).bind fun y76 => some (v171o77, y76)).bind fun a173 => (matinsref10_sameRels a173.1 a173.2.1).bind fun r => some (some r) else some none).bind fun r173 =>
 let v173 : Option Bool := r173.map fun x => x.1
 (if v169 = true then v173 else some false : Option Bool).bind fun v174 =>
 some (v174, ())
def l41 : Ch := (41, ⟨[.agg (.v 0) 35 (.g 0 0) [], .agg (.v 1) 35 (.g 1 0) []], ⟨2, [], 1, 2, [], [], [], []⟩, ⟨[0], [], [], [], [], 0⟩, [(0, ⟨none, .one (.c []) none⟩)], false⟩, [(11801, ⟨[], [], [], [], [], 12⟩), (11901, ⟨[], [], [], [], [], 12⟩), (15801, ⟨[], [], [], [], [], 12⟩), (16101, ⟨[], [], [], [], [], 12⟩)]) :: l81
noncomputable def t41 : List (Nat × TC U) := (41, ⟨[.st 28, .st 28], [.bool], fun (a : api_Unit × api_Unit × Unit) => matinsref10_Same a.1 a.2.1⟩) :: t81
theorem c41 : Chain Tryz.prog U tab base l41 t41 := Chain.cons tb cfok c81 2 rfl rfl rfl (hs := [])
 (fun (e : api_Unit × api_Unit × Unit) => matinsref10_Same e.2.1 e.1) (by kernel_rfl) (fun _ => rfl)
noncomputable def matinsref27_SameOut (v0 : api_Out) (v1 : api_Out) : Option (Bool × Unit) :=
 let v2 : List api_Row := v0.Rows
 let v3 : List api_Row := v1.Rows
 (matinsref27_SameRows v2 v3).bind fun r4 =>
 let v4 : Bool := r4.1
 let v5 : Bool := v4
 (if v5 = true then some (some (v0.Asks)) else some none).bind fun v6 =>
 (if v5 = true then some (some (v1.Asks)) else some none).bind fun v7 =>
 (if v5 = true then (v6.bind fun v6o3 => (v7.bind fun v7o1 => some (v7o1, ())).bind fun y2 => some (v6o3, y2)).bind fun a8 => (matinsref22_SameAsks a8.1 a8.2.1).bind fun r => some (some r) else some none).bind fun r8 =>
 let v8 : Option Bool := r8.map fun x => x.1
 (if v4 = true then v8 else some false : Option Bool).bind fun v9 =>
 let v10 : Bool := v9
 (if v10 = true then some (some (v0.Back)) else some none).bind fun v11 =>
 (if v10 = true then some (some (v1.Back)) else some none).bind fun v12 =>
 (if v10 = true then (v11.bind fun v11o6 => (v12.bind fun v12o4 => some (v12o4, ())).bind fun y5 => some (v11o6, y5)).bind fun a13 => (matinsref27_SameConns a13.1 a13.2.1).bind fun r => some (some r) else some none).bind fun r13 =>
 let v13 : Option Bool := r13.map fun x => x.1
 (if v9 = true then v13 else some false : Option Bool).bind fun v14 =>
 let v15 : Bool := v14
 (if v15 = true then some (some (v0.Fell)) else some none).bind fun v16 =>
 (if v15 = true then some (some (v1.Fell)) else some none).bind fun v17 =>
 (if v15 = true then (v16.bind fun v16o7 => v17.bind fun v17o8 => some (v16o7 == v17o8) : Option Bool).bind fun v => some (some v) else some none).bind fun v18 =>
 (if v14 = true then v18 else some false : Option Bool).bind fun v19 =>
 let v20 : Bool := v19
 (if v20 = true then some (some (v0.Failed)) else some none).bind fun v21 =>
 (if v20 = true then some (some (v1.Failed)) else some none).bind fun v22 =>
 (if v20 = true then (v21.bind fun v21o9 => v22.bind fun v22o10 => some (v21o9 == v22o10) : Option Bool).bind fun v => some (some v) else some none).bind fun v23 =>
 (if v19 = true then v23 else some false : Option Bool).bind fun v24 =>
 some (v24, ())
def l24 : Ch := (24, ⟨[.agg (.v 0) 5 (.g 0 0) [], .agg (.v 1) 5 (.g 1 0) []], ⟨2, [], 1, 2, [], [], [], []⟩, ⟨[0], [], [], [], [], 0⟩, [(0, ⟨none, .one (.c []) none⟩)], false⟩, [(11801, ⟨[], [], [], [], [], 12⟩), (11901, ⟨[], [], [], [], [], 12⟩), (15801, ⟨[], [], [], [], [], 12⟩), (16101, ⟨[], [], [], [], [], 12⟩)]) :: l41
noncomputable def t24 : List (Nat × TC U) := (24, ⟨[.st 47, .st 47], [.bool], fun (a : api_Out × api_Out × Unit) => matinsref27_SameOut a.1 a.2.1⟩) :: t41
theorem c24 : Chain Tryz.prog U tab base l24 t24 := Chain.cons tb cfok c41 2 rfl rfl rfl (hs := [])
 (fun (e : api_Out × api_Out × Unit) => matinsref27_SameOut e.2.1 e.1) (by kernel_rfl) (fun _ => rfl)
noncomputable def matinsref27_SameCell (v0 : api_Cell) (v1 : api_Cell) : Option (Bool × Unit) :=
 let v2 : api_Unit := v0.U
 let v3 : api_Unit := v1.U
 (matinsref10_Same v2 v3).bind fun r4 =>
 let v4 : Bool := r4.1
 let v5 : Bool := !v4
 let v6 : Bool := !v5
 (if v6 = true then some (some (v0.State)) else some none).bind fun v7 =>
 (if v6 = true then some (some (v1.State)) else some none).bind fun v8 =>
 (if v6 = true then (v7.bind fun v7o1 => v8.bind fun v8o2 => some (v7o1 != v8o2) : Option Bool).bind fun v => some (some v) else some none).bind fun v9 =>
 (if v5 = true then some true else (v9).bind fun y => some y : Option Bool).bind fun v10 =>
 let v11 : Bool := !v10
 (if v11 = true then some (some (v0.Since)) else some none).bind fun v12 =>
 (if v11 = true then some (some (v1.Since)) else some none).bind fun v13 =>
 (if v11 = true then (v12.bind fun v12o3 => v13.bind fun v13o4 => some (v12o3 != v13o4) : Option Bool).bind fun v => some (some v) else some none).bind fun v14 =>
 (if v10 = true then some true else (v14).bind fun y => some y : Option Bool).bind fun v15 =>
 let v16 : Bool := !v15
 (if v16 = true then some (some (v0.Attempt)) else some none).bind fun v17 =>
 (if v16 = true then some (some (v1.Attempt)) else some none).bind fun v18 =>
 (if v16 = true then (v17.bind fun v17o5 => v18.bind fun v18o6 => some (v17o5 != v18o6) : Option Bool).bind fun v => some (some v) else some none).bind fun v19 =>
 (if v15 = true then some true else (v19).bind fun y => some y : Option Bool).bind fun v20 =>
 let v21 : Bool := !v20
 (if v21 = true then some (some (v0.Begins)) else some none).bind fun v22 =>
 (if v21 = true then some (some (v1.Begins)) else some none).bind fun v23 =>
 (if v21 = true then (v22.bind fun v22o9 => (v23.bind fun v23o7 => some (v23o7, ())).bind fun y8 => some (v22o9, y8)).bind fun a24 => (matinsref22_SameInts a24.1 a24.2.1).bind fun r => some (some r) else some none).bind fun r24 =>
 let v24 : Option Bool := r24.map fun x => x.1
 (if v21 = true then (v24.bind fun v24o10 => some (!v24o10) : Option Bool).bind fun v => some (some v) else some none).bind fun v25 =>
 (if v20 = true then some true else (v25).bind fun y => some y : Option Bool).bind fun v26 =>
 let v27 : Bool := !v26
 (if v27 = true then some (some (v0.Result)) else some none).bind fun v28 =>
 (if v27 = true then some (some (v1.Result)) else some none).bind fun v29 =>
 (if v27 = true then (v28.bind fun v28o11 => v29.bind fun v29o12 => some (v28o11 != v29o12) : Option Bool).bind fun v => some (some v) else some none).bind fun v30 =>
 (if v26 = true then some true else (v30).bind fun y => some y : Option Bool).bind fun v31 =>
 let v32 : Bool := !v31
 (if v32 = true then some (some (v0.Main)) else some none).bind fun v33 =>
 (if v32 = true then some (some (v1.Main)) else some none).bind fun v34 =>
 (if v32 = true then (v33.bind fun v33o13 => v34.bind fun v34o14 => some (api_Run.same v33o13 v34o14 != true) : Option Bool).bind fun v => some (some v) else some none).bind fun v35 =>
 (if v31 = true then some true else (v35).bind fun y => some y : Option Bool).bind fun v36 =>
 let v37 : Bool := !v36
 (if v37 = true then some (some (v0.Aux)) else some none).bind fun v38 =>
 (if v37 = true then some (some (v1.Aux)) else some none).bind fun v39 =>
 (if v37 = true then (v38.bind fun v38o15 => v39.bind fun v39o16 => some (api_Run.same v38o15 v39o16 != true) : Option Bool).bind fun v => some (some v) else some none).bind fun v40 =>
 (if v36 = true then some true else (v40).bind fun y => some y : Option Bool).bind fun v41 =>
 if v41 = true then (
 some (false, ()))
 else (
 let v42 : Int := v0.Over
 let v43 : Int := v1.Over
 let v44 : Bool := v42 == v43
 let v45 : Bool := v44
 (if v45 = true then some (some (v0.Wish)) else some none).bind fun v46 =>
 (if v45 = true then some (some (v1.Wish)) else some none).bind fun v47 =>
 (if v45 = true then (v46.bind fun v46o17 => v47.bind fun v47o18 => some (v46o17 == v47o18) : Option Bool).bind fun v => some (some v) else some none).bind fun v48 =>
 (if v44 = true then v48 else some false : Option Bool).bind fun v49 =>
 let v50 : Bool := v49
 (if v50 = true then some (some (v0.Bad)) else some none).bind fun v51 =>
 (if v50 = true then some (some (v1.Bad)) else some none).bind fun v52 =>
 (if v50 = true then (v51.bind fun v51o19 => v52.bind fun v52o20 => some (v51o19 == v52o20) : Option Bool).bind fun v => some (some v) else some none).bind fun v53 =>
 (if v49 = true then v53 else some false : Option Bool).bind fun v54 =>
 let v55 : Bool := v54
 (if v55 = true then some (some (v0.Serves)) else some none).bind fun v56 =>
 (if v55 = true then some (some (v1.Serves)) else some none).bind fun v57 =>
 (if v55 = true then (v56.bind fun v56o23 => (v57.bind fun v57o21 => some (v57o21, ())).bind fun y22 => some (v56o23, y22)).bind fun a58 => (matinsref27_SameConns a58.1 a58.2.1).bind fun r => some (some r) else some none).bind fun r58 =>
 let v58 : Option Bool := r58.map fun x => x.1
 (if v54 = true then v58 else some false : Option Bool).bind fun v59 =>
 let v60 : Bool := v59
 (if v60 = true then some (some (v0.Waits)) else some none).bind fun v61 =>
 (if v60 = true then some (some (v1.Waits)) else some none).bind fun v62 =>
 (if v60 = true then (v61.bind fun v61o26 => (v62.bind fun v62o24 => some (v62o24, ())).bind fun y25 => some (v61o26, y25)).bind fun a63 => (matinsref27_SameConns a63.1 a63.2.1).bind fun r => some (some r) else some none).bind fun r63 =>
 let v63 : Option Bool := r63.map fun x => x.1
 (if v59 = true then v63 else some false : Option Bool).bind fun v64 =>
 let v65 : Bool := v64
 (if v65 = true then some (some (v0.Seen)) else some none).bind fun v66 =>
 (if v65 = true then some (some (v1.Seen)) else some none).bind fun v67 =>
 (if v65 = true then (v66.bind fun v66o27 => v67.bind fun v67o28 => some (v66o27 == v67o28) : Option Bool).bind fun v => some (some v) else some none).bind fun v68 =>
 (if v64 = true then v68 else some false : Option Bool).bind fun v69 =>
 let v70 : Bool := v69
 (if v70 = true then some (some (v0.Num)) else some none).bind fun v71 =>
 (if v70 = true then some (some (v1.Num)) else some none).bind fun v72 =>
 (if v70 = true then (v71.bind fun v71o29 => v72.bind fun v72o30 => some (v71o29 == v72o30) : Option Bool).bind fun v => some (some v) else some none).bind fun v73 =>
 (if v69 = true then v73 else some false : Option Bool).bind fun v74 =>
 let v75 : Bool := v74
 (if v75 = true then some (some (v0.Last)) else some none).bind fun v76 =>
 (if v75 = true then some (some (v1.Last)) else some none).bind fun v77 =>
 (if v75 = true then (v76.bind fun v76o31 => v77.bind fun v77o32 => some (v76o31 == v77o32) : Option Bool).bind fun v => some (some v) else some none).bind fun v78 =>
 (if v74 = true then v78 else some false : Option Bool).bind fun v79 =>
 let v80 : Bool := v79
 (if v80 = true then some (some (v0.Next)) else some none).bind fun v81 =>
 (if v80 = true then some (some (v1.Next)) else some none).bind fun v82 =>
 (if v80 = true then (v81.bind fun v81o33 => v82.bind fun v82o34 => some (v81o33 == v82o34) : Option Bool).bind fun v => some (some v) else some none).bind fun v83 =>
 (if v79 = true then v83 else some false : Option Bool).bind fun v84 =>
 let v85 : Bool := v84
 (if v85 = true then some (some (v0.Rows)) else some none).bind fun v86 =>
 (if v85 = true then some (some (v1.Rows)) else some none).bind fun v87 =>
 (if v85 = true then (v86.bind fun v86o35 => v87.bind fun v87o36 => some (v86o35 == v87o36) : Option Bool).bind fun v => some (some v) else some none).bind fun v88 =>
 (if v84 = true then v88 else some false : Option Bool).bind fun v89 =>
 some (v89, ()))
def l23 : Ch := (23, ⟨[.agg (.v 0) 62 (.g 0 0) [], .agg (.v 1) 62 (.g 1 0) []], ⟨2, [], 1, 2, [], [], [], []⟩, ⟨[0], [], [], [], [], 0⟩, [(0, ⟨none, .one (.c []) none⟩)], false⟩, [(11801, ⟨[], [], [], [], [], 12⟩), (11901, ⟨[], [], [], [], [], 12⟩), (15801, ⟨[], [], [], [], [], 12⟩), (16101, ⟨[], [], [], [], [], 12⟩)]) :: l24
noncomputable def t23 : List (Nat × TC U) := (23, ⟨[.st 33, .st 33], [.bool], fun (a : api_Cell × api_Cell × Unit) => matinsref27_SameCell a.1 a.2.1⟩) :: t24
theorem c23 : Chain Tryz.prog U tab base l23 t23 := Chain.cons tb cfok c24 2 rfl rfl rfl (hs := [])
 (fun (e : api_Cell × api_Cell × Unit) => matinsref27_SameCell e.2.1 e.1) (by kernel_rfl) (fun _ => rfl)
noncomputable def matinsref1_Of_e1 (v5 : matinsref1_Cut) (v14 : ByteArray) (v17 : ByteArray) : Option (matinsref1_Cut × Unit) :=
 let v23 : matinsref1_Cut := { v5 with At := true }
 let v24 : matinsref1_Cut := { v23 with Prefix := v14 }
 let v25 : matinsref1_Cut := { v24 with Instance := v17 }
 some (v25, ())
noncomputable def matinsref1_Of_e2 (v5 : matinsref1_Cut) (v14 : ByteArray) (v17 : ByteArray) : Option (matinsref1_Cut × Unit) :=
 let v18 : Bool := (ByteArray.toList v14) == (ByteArray.toList (⟨#[]⟩ : ByteArray))
 if v18 = true then (
 some ((⟨(0 : Int), (⟨#[]⟩ : ByteArray), (⟨#[]⟩ : ByteArray), false⟩ : matinsref1_Cut), ()))
 else (
 (if v14.size + v17.size ≤ 9223372036854775807 then some (v14 ++ v17) else none : Option ByteArray).bind fun v19 =>
 loopS (A := Int × Unit) (fun s20 =>
   let v20 : Int := s20.1
 let v21 : Int := ((ByteArray.size v19 : Nat) : Int)
 let v22 : Bool := decide (v20 < v21)
 if v22 = true then (
 (if 0 ≤ v20 ∧ v20 < ((ByteArray.size v19 : Nat) : Int) then some ((((v19).data.toList.getD (v20).toNat 0).toNat : Nat) : Int) else none : Option Int).bind fun v23 =>
 (matinsref1_nameByte v23).bind fun r24 =>
 let v24 : Bool := r24.1
 let v25 : Bool := !v24
 if v25 = true then (
 some (Sum.inr ((⟨(0 : Int), (⟨#[]⟩ : ByteArray), (⟨#[]⟩ : ByteArray), false⟩ : matinsref1_Cut), ())))
 else (
 let v26 : Int := IntKind.i64.wrap (v20 + (1 : Int))
 some (Sum.inl (v26, ()))))
 else (
 (matinsref1_Of_e1 v5 v14 v17).bind fun r => some (Sum.inr r))
   ) ((0 : Int), ()))
noncomputable def matinsref1_Of_e3 (v4 : ByteArray) (v5 : matinsref1_Cut) : Option (matinsref1_Cut × Unit) :=
 let v18 : matinsref1_Cut := { v5 with Prefix := v4 }
 some (v18, ())
noncomputable def matinsref1_Of_e4 (v4 : ByteArray) (v5 : matinsref1_Cut) : Option (matinsref1_Cut × Unit) :=
 let v12 : Bool := (ByteArray.toList v4) == (ByteArray.toList (⟨#[]⟩ : ByteArray))
 if v12 = true then (
 some ((⟨(0 : Int), (⟨#[]⟩ : ByteArray), (⟨#[]⟩ : ByteArray), false⟩ : matinsref1_Cut), ()))
 else (
 let v13 : ByteArray := v5.Instance
 (if v4.size + v13.size ≤ 9223372036854775807 then some (v4 ++ v13) else none : Option ByteArray).bind fun v14 =>
 loopS (A := Int × Unit) (fun s15 =>
   let v15 : Int := s15.1
 let v16 : Int := ((ByteArray.size v14 : Nat) : Int)
 let v17 : Bool := decide (v15 < v16)
 if v17 = true then (
 (if 0 ≤ v15 ∧ v15 < ((ByteArray.size v14 : Nat) : Int) then some ((((v14).data.toList.getD (v15).toNat 0).toNat : Nat) : Int) else none : Option Int).bind fun v18 =>
 (matinsref1_nameByte v18).bind fun r19 =>
 let v19 : Bool := r19.1
 let v20 : Bool := !v19
 if v20 = true then (
 some (Sum.inr ((⟨(0 : Int), (⟨#[]⟩ : ByteArray), (⟨#[]⟩ : ByteArray), false⟩ : matinsref1_Cut), ())))
 else (
 let v21 : Int := IntKind.i64.wrap (v15 + (1 : Int))
 some (Sum.inl (v21, ()))))
 else (
 (matinsref1_Of_e3 v4 v5).bind fun r => some (Sum.inr r))
   ) ((0 : Int), ()))
noncomputable def matinsref1_Of_e5 (v4 : ByteArray) (v5 : matinsref1_Cut) : Option (matinsref1_Cut × Unit) :=
 let v7 : Int := v5.Kind
 let v8 : Bool := v7 == (0 : Int)
 if v8 = true then (
 some ((⟨(0 : Int), (⟨#[]⟩ : ByteArray), (⟨#[]⟩ : ByteArray), false⟩ : matinsref1_Cut), ()))
 else (
 loopS (A := Int × Unit) (fun s9 =>
   let v9 : Int := s9.1
 let v10 : Int := ((ByteArray.size v4 : Nat) : Int)
 let v11 : Bool := decide (v9 < v10)
 if v11 = true then (
 (if 0 ≤ v9 ∧ v9 < ((ByteArray.size v4 : Nat) : Int) then some ((((v4).data.toList.getD (v9).toNat 0).toNat : Nat) : Int) else none : Option Int).bind fun v12 =>
 let v13 : Bool := v12 == (64 : Int)
 if v13 = true then (
 (if 0 ≤ (0 : Int) ∧ (0 : Int) ≤ v9 ∧ v9 ≤ ((ByteArray.size v4 : Nat) : Int) then some (ByteArray.extract v4 ((0 : Int)).toNat (v9).toNat) else none : Option ByteArray).bind fun v14 =>
 let v15 : Int := IntKind.i64.wrap (v9 + (1 : Int))
 let v16 : Int := ((ByteArray.size v4 : Nat) : Int)
 (if 0 ≤ v15 ∧ v15 ≤ v16 ∧ v16 ≤ ((ByteArray.size v4 : Nat) : Int) then some (ByteArray.extract v4 (v15).toNat (v16).toNat) else none : Option ByteArray).bind fun v17 =>
 (matinsref1_Of_e2 v5 v14 v17).bind fun r => some (Sum.inr r))
 else (
 let v14 : Int := IntKind.i64.wrap (v9 + (1 : Int))
 some (Sum.inl (v14, ()))))
 else (
 (matinsref1_Of_e4 v4 v5).bind fun r => some (Sum.inr r))
   ) ((0 : Int), ()))
noncomputable def matinsref1_Of (v0 : ByteArray) : Option (matinsref1_Cut × Unit) :=
 let v1 : Int := ((ByteArray.size v0 : Nat) : Int)
 let v2 : Bool := decide (v1 > (60 : Int))
 if v2 = true then (
 some ((⟨(0 : Int), (⟨#[]⟩ : ByteArray), (⟨#[]⟩ : ByteArray), false⟩ : matinsref1_Cut), ()))
 else (
 loopS (A := Int × ByteArray × matinsref1_Cut × Unit) (fun s3 =>
   let v3 : Int := s3.1
   let v4 : ByteArray := s3.2.1
   let v5 : matinsref1_Cut := s3.2.2.1
 let v6 : Bool := decide (v3 ≤ (4 : Int))
 if v6 = true then (
 (matinsref1_Suffix v3).bind fun r7 =>
 let v7 : ByteArray := r7.1
 (if (⟨#[46]⟩ : ByteArray).size + v7.size ≤ 9223372036854775807 then some ((⟨#[46]⟩ : ByteArray) ++ v7) else none : Option ByteArray).bind fun v8 =>
 let v9 : Int := ((ByteArray.size v0 : Nat) : Int)
 let v10 : Int := ((ByteArray.size v8 : Nat) : Int)
 let v11 : Bool := decide (v9 > v10)
 let v12 : Bool := v11
 (if v12 = true then some (some (((ByteArray.size v0 : Nat) : Int))) else some none).bind fun v13 =>
 (if v12 = true then some (some (((ByteArray.size v8 : Nat) : Int))) else some none).bind fun v14 =>
 (if v12 = true then (v13.bind fun v13o1 => v14.bind fun v14o2 => some (IntKind.i64.wrap (v13o1 - v14o2)) : Option Int).bind fun v => some (some v) else some none).bind fun v15 =>
 (if v12 = true then some (some (((ByteArray.size v0 : Nat) : Int))) else some none).bind fun v16 =>
 (if v12 = true then (v15.bind fun v15o3 => v16.bind fun v16o4 => if 0 ≤ v15o3 ∧ v15o3 ≤ v16o4 ∧ v16o4 ≤ ((ByteArray.size v0 : Nat) : Int) then some (ByteArray.extract v0 (v15o3).toNat (v16o4).toNat) else none : Option ByteArray).bind fun v => some (some v) else some none).bind fun v17 =>
 (if v12 = true then (v17.bind fun v17o5 => some ((ByteArray.toList v17o5) == (ByteArray.toList v8)) : Option Bool).bind fun v => some (some v) else some none).bind fun v18 =>
 (if v11 = true then v18 else some false : Option Bool).bind fun v19 =>
 if v19 = true then (
 let v20 : Int := ((ByteArray.size v0 : Nat) : Int)
 let v21 : Int := ((ByteArray.size v8 : Nat) : Int)
 let v22 : Int := IntKind.i64.wrap (v20 - v21)
 (if 0 ≤ (0 : Int) ∧ (0 : Int) ≤ v22 ∧ v22 ≤ ((ByteArray.size v0 : Nat) : Int) then some (ByteArray.extract v0 ((0 : Int)).toNat (v22).toNat) else none : Option ByteArray).bind fun v23 =>
 let v24 : Int := IntKind.i64.wrap (v3 + (1 : Int))
 let v25 : matinsref1_Cut := { v5 with Kind := v3 }
 some (Sum.inl (v24, v23, v25, ())))
 else (
 let v20 : Int := IntKind.i64.wrap (v3 + (1 : Int))
 some (Sum.inl (v20, v4, v5, ()))))
 else (
 (matinsref1_Of_e5 v4 v5).bind fun r => some (Sum.inr r))
   ) ((1 : Int), (⟨#[]⟩ : ByteArray), (⟨(0 : Int), (⟨#[]⟩ : ByteArray), (⟨#[]⟩ : ByteArray), false⟩ : matinsref1_Cut), ()))
def l102 : Ch := (102, ⟨[.one (.v 0) (some (.w 1))], ⟨1, [], 2, 0, [], [], [], [(.w 1, 1, 1)]⟩, ⟨[0], [], [], [], [], 0⟩, [(0, ⟨none, .agg (.c []) 4 .d []⟩)], false⟩, [(11801, ⟨[], [], [], [], [], 12⟩), (11901, ⟨[], [], [], [], [], 12⟩), (15801, ⟨[], [], [], [], [], 12⟩), (16101, ⟨[], [], [], [], [], 12⟩), (10206, ⟨[5, 4], [1], [], [], [], 0⟩), (10215, ⟨[7], [], [], [], [], 0⟩), (10223, ⟨[9], [], [], [], [], 0⟩)]) :: l23
noncomputable def t102 : List (Nat × TC U) := (102, ⟨[.str], [.st 131], fun (a : ByteArray × Unit) => matinsref1_Of a.1⟩) :: t23
theorem c102 : Chain Tryz.prog U tab base l102 t102 := Chain.cons tb cfok c23 1 rfl rfl rfl (hs := [⟨.st 131, ((⟨(0 : Int), (⟨#[]⟩ : ByteArray), (⟨#[]⟩ : ByteArray), false⟩ : matinsref1_Cut) : matinsref1_Cut)⟩, ⟨.st 131, ((⟨(0 : Int), (⟨#[]⟩ : ByteArray), (⟨#[]⟩ : ByteArray), false⟩ : matinsref1_Cut) : matinsref1_Cut)⟩, ⟨.st 131, ((⟨(0 : Int), (⟨#[]⟩ : ByteArray), (⟨#[]⟩ : ByteArray), false⟩ : matinsref1_Cut) : matinsref1_Cut)⟩, ⟨.st 131, ((⟨(0 : Int), (⟨#[]⟩ : ByteArray), (⟨#[]⟩ : ByteArray), false⟩ : matinsref1_Cut) : matinsref1_Cut)⟩, ⟨.st 131, ((⟨(0 : Int), (⟨#[]⟩ : ByteArray), (⟨#[]⟩ : ByteArray), false⟩ : matinsref1_Cut) : matinsref1_Cut)⟩, ⟨.st 131, ((⟨(0 : Int), (⟨#[]⟩ : ByteArray), (⟨#[]⟩ : ByteArray), false⟩ : matinsref1_Cut) : matinsref1_Cut)⟩, ⟨.st 131, ((⟨(0 : Int), (⟨#[]⟩ : ByteArray), (⟨#[]⟩ : ByteArray), false⟩ : matinsref1_Cut) : matinsref1_Cut)⟩])
 (fun (e : ByteArray × Unit) => matinsref1_Of e.1) (by kernel_rfl) (fun _ => rfl)
noncomputable def matinsref1_May (v0 : ByteArray) : Option (Bool × Unit) :=
 (matinsref1_Of v0).bind fun r1 =>
 let v1 : matinsref1_Cut := r1.1
 let v2 : Int := v1.Kind
 let v3 : Bool := decide (v2 > (0 : Int))
 some (v3, ())
def l67 : Ch := (67, ⟨[.one (.v 0) (some (.w 1))], ⟨1, [], 2, 0, [], [], [], [(.w 1, 1, 1)]⟩, ⟨[0], [], [], [], [], 0⟩, [(0, ⟨none, .one (.c []) none⟩)], false⟩, [(11801, ⟨[], [], [], [], [], 12⟩), (11901, ⟨[], [], [], [], [], 12⟩), (15801, ⟨[], [], [], [], [], 12⟩), (16101, ⟨[], [], [], [], [], 12⟩)]) :: l102
noncomputable def t67 : List (Nat × TC U) := (67, ⟨[.str], [.bool], fun (a : ByteArray × Unit) => matinsref1_May a.1⟩) :: t102
theorem c67 : Chain Tryz.prog U tab base l67 t67 := Chain.cons tb cfok c102 1 rfl rfl rfl (hs := [])
 (fun (e : ByteArray × Unit) => matinsref1_May e.1) (by kernel_rfl) (fun _ => rfl)
noncomputable def matinsref22_mayAct_e1 : Option ((Int × Unit) ⊕ (Bool × Unit)) :=
 some (Sum.inr (false, ()))
noncomputable def matinsref22_mayAct_e2 (v0 : api_Act) (v57 : Int) (v60 : api_Said) : Option ((Int × Unit) ⊕ (Bool × Unit)) :=
 let v75 : Bool := decide (v57 > (0 : Int))
 let v76 : Bool := v75
 (if v76 = true then some (some (v60.After)) else some none).bind fun v77 =>
 (if v76 = true then some (some (v0.Says)) else some none).bind fun v78 =>
 (if v76 = true then some (some (IntKind.i64.wrap (v57 - (1 : Int)))) else some none).bind fun v79 =>
 (if v76 = true then (v78.bind fun v78o21 => v79.bind fun v79o22 => if 0 ≤ v79o22 ∧ v79o22 < ((List.length v78o21 : Nat) : Int) then (v78o21)[(v79o22).toNat]? else none : Option api_Said).bind fun v => some (some v) else some none).bind fun v80 =>
 (if v76 = true then (v80.bind fun v80o23 => some (v80o23.After) : Option Int).bind fun v => some (some v) else some none).bind fun v81 =>
 (if v76 = true then (v77.bind fun v77o24 => v81.bind fun v81o25 => some (decide (v77o24 < v81o25)) : Option Bool).bind fun v => some (some v) else some none).bind fun v82 =>
 (if v75 = true then v82 else some false : Option Bool).bind fun v83 =>
 if v83 = true then (
 some (Sum.inr (false, ())))
 else (
 let v84 : Int := IntKind.i64.wrap (v57 + (1 : Int))
 some (Sum.inl (v84, ())))
noncomputable def matinsref22_mayAct (v0 : api_Act) : Option (Bool × Unit) :=
 let v1 : ByteArray := v0.Unit_
 (matinsref1_Of v1).bind fun r2 =>
 let v2 : matinsref1_Cut := r2.1
 let v3 : Int := v2.Kind
 let v4 : Bool := v3 != (1 : Int)
 let v5 : Bool := !v4
 (if v5 = true then some (some (v0.Part)) else some none).bind fun v6 =>
 (if v5 = true then (v6.bind fun v6o1 => some (decide (v6o1 < (1 : Int))) : Option Bool).bind fun v => some (some v) else some none).bind fun v7 =>
 (if v4 = true then some true else (v7).bind fun y => some y : Option Bool).bind fun v8 =>
 let v9 : Bool := !v8
 (if v9 = true then some (some (v0.Part)) else some none).bind fun v10 =>
 (if v9 = true then (v10.bind fun v10o2 => some (decide (v10o2 > (5 : Int))) : Option Bool).bind fun v => some (some v) else some none).bind fun v11 =>
 (if v8 = true then some true else (v11).bind fun y => some y : Option Bool).bind fun v12 =>
 let v13 : Bool := !v12
 (if v13 = true then some (some (v0.Num)) else some none).bind fun v14 =>
 (if v13 = true then (v14.bind fun v14o3 => some (decide (v14o3 < (-1 : Int))) : Option Bool).bind fun v => some (some v) else some none).bind fun v15 =>
 (if v12 = true then some true else (v15).bind fun y => some y : Option Bool).bind fun v16 =>
 let v17 : Bool := !v16
 (if v17 = true then some (some (v0.Num)) else some none).bind fun v18 =>
 (if v17 = true then (v18.bind fun v18o4 => some (decide (v18o4 > (15 : Int))) : Option Bool).bind fun v => some (some v) else some none).bind fun v19 =>
 (if v16 = true then some true else (v19).bind fun y => some y : Option Bool).bind fun v20 =>
 let v21 : Bool := !v20
 (if v21 = true then some (some (v0.Attempt)) else some none).bind fun v22 =>
 (if v21 = true then (v22.bind fun v22o5 => some (decide (v22o5 < (0 : Int))) : Option Bool).bind fun v => some (some v) else some none).bind fun v23 =>
 (if v20 = true then some true else (v23).bind fun y => some y : Option Bool).bind fun v24 =>
 let v25 : Bool := !v24
 (if v25 = true then some (some (v0.Attempt)) else some none).bind fun v26 =>
 (if v25 = true then (v26.bind fun v26o6 => some (decide (v26o6 > (1000 : Int))) : Option Bool).bind fun v => some (some v) else some none).bind fun v27 =>
 (if v24 = true then some true else (v27).bind fun y => some y : Option Bool).bind fun v28 =>
 if v28 = true then (
 some (false, ()))
 else (
 let v29 : Int := v0.Lasts
 (matinsref22_Span v29).bind fun r30 =>
 let v30 : Bool := r30.1
 let v31 : Bool := !v30
 let v32 : Bool := !v31
 (if v32 = true then some (some (v0.Ready)) else some none).bind fun v33 =>
 (if v32 = true then (v33.bind fun v33o7 => some (v33o7, ())).bind fun a34 => (matinsref22_Span a34.1).bind fun r => some (some r) else some none).bind fun r34 =>
 let v34 : Option Bool := r34.map fun x => x.1
 (if v32 = true then (v34.bind fun v34o8 => some (!v34o8) : Option Bool).bind fun v => some (some v) else some none).bind fun v35 =>
 (if v31 = true then some true else (v35).bind fun y => some y : Option Bool).bind fun v36 =>
 let v37 : Bool := !v36
 (if v37 = true then some (some (v0.Dies)) else some none).bind fun v38 =>
 (if v37 = true then (v38.bind fun v38o9 => some (v38o9, ())).bind fun a39 => (matinsref22_Span a39.1).bind fun r => some (some r) else some none).bind fun r39 =>
 let v39 : Option Bool := r39.map fun x => x.1
 (if v37 = true then (v39.bind fun v39o10 => some (!v39o10) : Option Bool).bind fun v => some (some v) else some none).bind fun v40 =>
 (if v36 = true then some true else (v40).bind fun y => some y : Option Bool).bind fun v41 =>
 let v42 : Bool := !v41
 (if v42 = true then some (some (v0.Code)) else some none).bind fun v43 =>
 (if v42 = true then (v43.bind fun v43o11 => some (decide (v43o11 < (0 : Int))) : Option Bool).bind fun v => some (some v) else some none).bind fun v44 =>
 (if v41 = true then some true else (v44).bind fun y => some y : Option Bool).bind fun v45 =>
 let v46 : Bool := !v45
 (if v46 = true then some (some (v0.Code)) else some none).bind fun v47 =>
 (if v46 = true then (v47.bind fun v47o12 => some (decide (v47o12 > (256 : Int))) : Option Bool).bind fun v => some (some v) else some none).bind fun v48 =>
 (if v45 = true then some true else (v48).bind fun y => some y : Option Bool).bind fun v49 =>
 let v50 : Bool := !v49
 (if v50 = true then some (some (v0.Says)) else some none).bind fun v51 =>
 (if v50 = true then (v51.bind fun v51o13 => some (((List.length v51o13 : Nat) : Int)) : Option Int).bind fun v => some (some v) else some none).bind fun v52 =>
 (if v50 = true then (v52.bind fun v52o14 => some (decide (v52o14 > (4 : Int))) : Option Bool).bind fun v => some (some v) else some none).bind fun v53 =>
 (if v49 = true then some true else (v53).bind fun y => some y : Option Bool).bind fun v54 =>
 if v54 = true then (
 some (false, ()))
 else (
 let v55 : List api_Said := v0.Says
 let v56 : Int := ((List.length v55 : Nat) : Int)
 loopS (A := Int × Unit) (fun s57 =>
   let v57 : Int := s57.1
 let v58 : Bool := decide (v57 < v56)
 if v58 = true then (
 (if 0 ≤ v57 ∧ v57 < ((List.length v55 : Nat) : Int) then (v55)[(v57).toNat]? else none : Option api_Said).bind fun v59 =>
 let v60 : api_Said := v59
 let v61 : Int := v60.After
 (matinsref22_Span v61).bind fun r62 =>
 let v62 : Bool := r62.1
 let v63 : Bool := !v62
 let v64 : Bool := !v63
 (if v64 = true then some (some (v60.After)) else some none).bind fun v65 =>
 (if v64 = true then (v65.bind fun v65o15 => some (v65o15 == (1099511627776 : Int)) : Option Bool).bind fun v => some (some v) else some none).bind fun v66 =>
 (if v63 = true then some true else (v66).bind fun y => some y : Option Bool).bind fun v67 =>
 let v68 : Bool := !v67
 (if v68 = true then some (some (v60.Text)) else some none).bind fun v69 =>
 if v67 = true then (
 some (Sum.inr (false, ())))
 else (
 (v69.bind fun v69o16 => some (((ByteArray.size v69o16 : Nat) : Int)) : Option Int).bind fun v70 =>
 let v71 : Bool := decide (v70 > (100 : Int))
 if v71 = true then (
 some (Sum.inr (false, ())))
 else (
 loopS (A := Int × Unit) (fun s72 =>
   let v72 : Int := s72.1
 (v69.bind fun v69o17 => some (((ByteArray.size v69o17 : Nat) : Int)) : Option Int).bind fun v73 =>
 let v74 : Bool := decide (v72 < v73)
 if v74 = true then (
 (v69.bind fun v69o18 => if 0 ≤ v72 ∧ v72 < ((ByteArray.size v69o18 : Nat) : Int) then some ((((v69o18).data.toList.getD (v72).toNat 0).toNat : Nat) : Int) else none : Option Int).bind fun v75 =>
 let v76 : Bool := decide (v75 < (32 : Int))
 let v77 : Bool := !v76
 (if v77 = true then (v69.bind fun v69o19 => if 0 ≤ v72 ∧ v72 < ((ByteArray.size v69o19 : Nat) : Int) then some ((((v69o19).data.toList.getD (v72).toNat 0).toNat : Nat) : Int) else none : Option Int).bind fun v => some (some v) else some none).bind fun v78 =>
 (if v77 = true then (v78.bind fun v78o20 => some (decide (v78o20 > (126 : Int))) : Option Bool).bind fun v => some (some v) else some none).bind fun v79 =>
 (if v76 = true then some true else (v79).bind fun y => some y : Option Bool).bind fun v80 =>
 if v80 = true then (
 (matinsref22_mayAct_e1).bind fun r => some (Sum.inr r))
 else (
 let v81 : Int := IntKind.i64.wrap (v72 + (1 : Int))
 some (Sum.inl (v81, ()))))
 else (
 (matinsref22_mayAct_e2 v0 v57 v60).bind fun r => some (Sum.inr r))
   ) ((0 : Int), ()))))
 else (
 some (Sum.inr (true, ())))
   ) ((0 : Int), ())))
def l65 : Ch := (65, ⟨[.agg (.v 0) 9 (.g 0 0) []], ⟨1, [], 1, 1, [], [], [], []⟩, ⟨[0], [], [], [], [], 0⟩, [(0, ⟨none, .one (.c []) none⟩)], false⟩, [(11801, ⟨[], [], [], [], [], 12⟩), (11901, ⟨[], [], [], [], [], 12⟩), (15801, ⟨[], [], [], [], [], 12⟩), (16101, ⟨[], [], [], [], [], 12⟩), (6506, ⟨[75], [], [], [], [], 0⟩), (10304, ⟨[5], [], [], [], [], 0⟩)]) :: l67
noncomputable def t65 : List (Nat × TC U) := (65, ⟨[.st 89], [.bool], fun (a : api_Act × Unit) => matinsref22_mayAct a.1⟩) :: t67
theorem c65 : Chain Tryz.prog U tab base l65 t65 := Chain.cons tb cfok c67 1 rfl rfl rfl (hs := [])
 (fun (e : api_Act × Unit) => matinsref22_mayAct e.1) (by kernel_rfl) (fun _ => rfl)
noncomputable def matinsref22_right_e1 (v1 : Int) (v2 : Int) : Option (Bool × Unit) :=
 (matinsref22_Time v1).bind fun r6 =>
 let v6 : Bool := r6.1
 let v7 : Bool := v6
 (if v7 = true then (matinsref22_Span v2).bind fun r => some (some r) else some none).bind fun r8 =>
 let v8 : Option Bool := r8.map fun x => x.1
 (if v6 = true then v8 else some false : Option Bool).bind fun v9 =>
 some (v9, ())
noncomputable def matinsref22_right (v0 : List Int) (v1 : Int) (v2 : Int) : Option (Bool × Unit) :=
 let v3 : Int := ((List.length v0 : Nat) : Int)
 loopS (A := Int × Unit) (fun s4 =>
   let v4 : Int := s4.1
 let v5 : Bool := decide (v4 < v3)
 if v5 = true then (
 (if 0 ≤ v4 ∧ v4 < ((List.length v0 : Nat) : Int) then (v0)[(v4).toNat]? else none : Option Int).bind fun v6 =>
 let v7 : Int := v6
 (matinsref22_Time v7).bind fun r8 =>
 let v8 : Bool := r8.1
 let v9 : Bool := !v8
 if v9 = true then (
 some (Sum.inr (false, ())))
 else (
 let v10 : Int := IntKind.i64.wrap (v4 + (1 : Int))
 some (Sum.inl (v10, ()))))
 else (
 (matinsref22_right_e1 v1 v2).bind fun r => some (Sum.inr r))
   ) ((0 : Int), ())
def l146 : Ch := (146, ⟨[.one (.v 0) (some (.w 1)), .one (.v 1) (some (.w 2)), .one (.v 2) (some (.w 3))], ⟨3, [], 4, 0, [], [], [], [(.w 3, 1, 3), (.w 2, 1, 2), (.w 1, 1, 1)]⟩, ⟨[0], [], [], [], [], 0⟩, [(0, ⟨none, .one (.c []) none⟩)], false⟩, [(11801, ⟨[], [], [], [], [], 12⟩), (11901, ⟨[], [], [], [], [], 12⟩), (15801, ⟨[], [], [], [], [], 12⟩), (16101, ⟨[], [], [], [], [], 12⟩), (14602, ⟨[11], [], [], [], [], 0⟩)]) :: l65
noncomputable def t146 : List (Nat × TC U) := (146, ⟨[.li (.ik .i64), .ik .i64, .ik .i64], [.bool], fun (a : (List Int) × Int × Int × Unit) => matinsref22_right a.1 a.2.1 a.2.2.1⟩) :: t65
theorem c146 : Chain Tryz.prog U tab base l146 t146 := Chain.cons tb cfok c65 3 rfl rfl rfl (hs := [])
 (fun (e : Int × Int × (List Int) × Unit) => matinsref22_right e.2.2.1 e.2.1 e.1) (by kernel_rfl) (fun _ => rfl)
noncomputable def matinsref22_Keep (v0 : List Int) (v1 : Int) (v2 : Int) : Option ((List Int) × Unit) :=
 (matinsref22_right v0 v1 v2).bind fun r3 =>
 let v3 : Bool := r3.1
 let v4 : Bool := !v3
 if v4 = true then (
 some (([] : List Int), ()))
 else (
 let v5 : Int := ((List.length v0 : Nat) : Int)
 loopS (A := Int × (List Int) × Unit) (fun s6 =>
   let v6 : Int := s6.1
   let v7 : List Int := s6.2.1
 let v8 : Bool := decide (v6 < v5)
 if v8 = true then (
 (if 0 ≤ v6 ∧ v6 < ((List.length v0 : Nat) : Int) then (v0)[(v6).toNat]? else none : Option Int).bind fun v9 =>
 let v10 : Int := v9
 let v11 : Bool := decide (v10 ≤ v1)
 let v12 : Bool := v11
 (if v12 = true then some (some (v2 == (1099511627776 : Int))) else some none).bind fun v13 =>
 (if v12 = true then v13.bind fun v13o1 => some (!v13o1) else some false : Option Bool).bind fun v14 =>
 (if v14 = true then some (some (IntKind.i64.wrap (v1 - v10))) else some none).bind fun v15 =>
 (if v14 = true then (v15.bind fun v15o2 => some (decide (v15o2 < v2)) : Option Bool).bind fun v => some (some v) else some none).bind fun v16 =>
 (if v12 = true then (v13.bind fun v13o3 => if v13o3 = true then some true else (v16).bind fun y => some y : Option Bool).bind fun v => some (some v) else some none).bind fun v17 =>
 (if v11 = true then v17 else some false : Option Bool).bind fun v18 =>
 if v18 = true then (
 let v19 : List Int := [v10]
 (if List.length v7 + List.length v19 ≤ 9223372036854775807 ∧ (List.length v7 + List.length v19) * 8 ≤ 140737488355328 then some (v7 ++ v19) else none : Option (List Int)).bind fun v20 =>
 let v21 : Int := IntKind.i64.wrap (v6 + (1 : Int))
 some (Sum.inl (v21, v20, ())))
 else (
 let v19 : Int := IntKind.i64.wrap (v6 + (1 : Int))
 some (Sum.inl (v19, v7, ()))))
 else (
 some (Sum.inr (v7, ())))
   ) ((0 : Int), ([] : List Int), ()))
def l100 : Ch := (100, ⟨[.one (.v 0) (some (.w 1)), .one (.v 1) (some (.w 2)), .one (.v 2) (some (.w 3))], ⟨3, [], 4, 0, [], [], [], [(.w 3, 1, 3), (.w 2, 1, 2), (.w 1, 1, 1)]⟩, ⟨[0], [], [(0, 3)], [], [], 0⟩, [(0, ⟨none, .one (.c []) none⟩)], false⟩, [(11801, ⟨[], [], [], [], [], 12⟩), (11901, ⟨[], [], [], [], [], 12⟩), (15801, ⟨[], [], [], [], [], 12⟩), (16101, ⟨[], [], [], [], [], 12⟩), (10005, ⟨[17, 7], [], [(7, 3)], [], [], 0⟩)]) :: l146
noncomputable def t100 : List (Nat × TC U) := (100, ⟨[.li (.ik .i64), .ik .i64, .ik .i64], [.li (.ik .i64)], fun (a : (List Int) × Int × Int × Unit) => matinsref22_Keep a.1 a.2.1 a.2.2.1⟩) :: t146
theorem c100 : Chain Tryz.prog U tab base l100 t100 := Chain.cons tb cfok c146 3 rfl rfl rfl (hs := [⟨.li (.ik .i64), ([] : List Int)⟩, ⟨.li (.ik .i64), ([] : List Int)⟩])
 (fun (e : Int × Int × (List Int) × Unit) => matinsref22_Keep e.2.2.1 e.2.1 e.1) (by kernel_rfl) (fun _ => rfl)
end Go.AW.M
