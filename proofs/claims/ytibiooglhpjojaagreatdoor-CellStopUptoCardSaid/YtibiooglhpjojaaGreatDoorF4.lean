/- Typed functions and their chain. Printed by tfn.py. -/
import Derived.Test.YtibiooglhpjojaaGreatDoorF1
set_option linter.unusedSimpArgs false
set_option linter.unusedVariables false
namespace Go.AW.M
open Go.RowKit Go.Proofs
set_option maxRecDepth 100000
noncomputable def limit_in (v0 : Int) (v1 : Int) (v2 : Int) : Option (Bool × Unit) :=
 let v3 : Bool := decide (v0 ≤ v1)
 let v4 : Bool := v3
 (if v4 = true then some (some (v2 == (1099511627776 : Int))) else some none).bind fun v5 =>
 (if v4 = true then v5.bind fun v5o1 => some (!v5o1) else some false : Option Bool).bind fun v6 =>
 (if v6 = true then some (some (IntKind.i64.wrap (v1 - v2))) else some none).bind fun v7 =>
 (if v6 = true then (v7.bind fun v7o2 => some (decide (v0 > v7o2)) : Option Bool).bind fun v => some (some v) else some none).bind fun v8 =>
 (if v4 = true then (v5.bind fun v5o3 => if v5o3 = true then some true else (v8).bind fun y => some y : Option Bool).bind fun v => some (some v) else some none).bind fun v9 =>
 (if v3 = true then v9 else some false : Option Bool).bind fun v10 =>
 some (v10, ())
def l150 : Ch := (150, ⟨[.one (.v 0) (some (.w 1)), .one (.v 1) (some (.w 2)), .one (.v 2) (some (.w 3))], ⟨3, [], 4, 0, [], [], [], [(.w 3, 1, 3), (.w 2, 1, 2), (.w 1, 1, 1)]⟩, ⟨[0], [], [], [], [], 0⟩, [(0, ⟨none, .one (.c []) none⟩)], false⟩, [(11801, ⟨[], [], [], [], [], 12⟩), (11901, ⟨[], [], [], [], [], 12⟩), (15801, ⟨[], [], [], [], [], 12⟩), (16101, ⟨[], [], [], [], [], 12⟩)]) :: l201
noncomputable def t150 : List (Nat × TC U) := (150, ⟨[.ik .i64, .ik .i64, .ik .i64], [.bool], fun (a : Int × Int × Int × Unit) => limit_in a.1 a.2.1 a.2.2.1⟩) :: t201
theorem c150 : Chain Tryz.prog U tab base l150 t150 := Chain.cons tb cfok c201 3 rfl rfl rfl (hs := [])
 (fun (e : Int × Int × Int × Unit) => limit_in e.2.2.1 e.2.1 e.1) (by kernel_rfl) (fun _ => rfl)
noncomputable def basis_Time (v0 : Int) : Option (Bool × Unit) :=
 let v1 : Bool := decide (v0 ≥ (0 : Int))
 let v2 : Bool := v1
 (if v2 = true then some (some (decide (v0 < (6311433600 : Int)))) else some none).bind fun v3 =>
 (if v1 = true then v3 else some false : Option Bool).bind fun v4 =>
 some (v4, ())
def l186 : Ch := (186, ⟨[.one (.v 0) (some (.w 1))], ⟨1, [], 2, 0, [], [], [], [(.w 1, 1, 1)]⟩, ⟨[0], [], [], [], [], 0⟩, [(0, ⟨none, .one (.c []) none⟩)], false⟩, [(11801, ⟨[], [], [], [], [], 12⟩), (11901, ⟨[], [], [], [], [], 12⟩), (15801, ⟨[], [], [], [], [], 12⟩), (16101, ⟨[], [], [], [], [], 12⟩)]) :: l150
noncomputable def t186 : List (Nat × TC U) := (186, ⟨[.ik .i64], [.bool], fun (a : Int × Unit) => basis_Time a.1⟩) :: t150
theorem c186 : Chain Tryz.prog U tab base l186 t186 := Chain.cons tb cfok c150 1 rfl rfl rfl (hs := [])
 (fun (e : Int × Unit) => basis_Time e.1) (by kernel_rfl) (fun _ => rfl)
noncomputable def basis_Span (v0 : Int) : Option (Bool × Unit) :=
 let v1 : Bool := decide (v0 ≥ (0 : Int))
 let v2 : Bool := v1
 (if v2 = true then some (some (decide (v0 ≤ (6311433600 : Int)))) else some none).bind fun v3 =>
 (if v1 = true then v3 else some false : Option Bool).bind fun v4 =>
 let v5 : Bool := !v4
 (if v5 = true then some (some (v0 == (1099511627776 : Int))) else some none).bind fun v6 =>
 (if v4 = true then some true else (v6).bind fun y => some y : Option Bool).bind fun v7 =>
 some (v7, ())
def l187 : Ch := (187, ⟨[.one (.v 0) (some (.w 1))], ⟨1, [], 2, 0, [], [], [], [(.w 1, 1, 1)]⟩, ⟨[0], [], [], [], [], 0⟩, [(0, ⟨none, .one (.c []) none⟩)], false⟩, [(11801, ⟨[], [], [], [], [], 12⟩), (11901, ⟨[], [], [], [], [], 12⟩), (15801, ⟨[], [], [], [], [], 12⟩), (16101, ⟨[], [], [], [], [], 12⟩)]) :: l186
noncomputable def t187 : List (Nat × TC U) := (187, ⟨[.ik .i64], [.bool], fun (a : Int × Unit) => basis_Span a.1⟩) :: t186
theorem c187 : Chain Tryz.prog U tab base l187 t187 := Chain.cons tb cfok c186 1 rfl rfl rfl (hs := [])
 (fun (e : Int × Unit) => basis_Span e.1) (by kernel_rfl) (fun _ => rfl)
noncomputable def basis_CellOf_e1 (v9 : Int) (v10 : List api_Exec) (v18 : api_Exec) (v22 : List ByteArray) : Option ((Int × (List api_Exec) × Unit) ⊕ (api_Cell × Unit)) :=
 let v25 : api_Exec := { v18 with Words := v22 }
 let v26 : List api_Exec := [v25]
 (if List.length v10 + List.length v26 ≤ 9223372036854775807 ∧ (List.length v10 + List.length v26) * 32 ≤ 140737488355328 then some (v10 ++ v26) else none : Option (List api_Exec)).bind fun v27 =>
 let v28 : Int := IntKind.i64.wrap (v9 + (1 : Int))
 some (Sum.inl (v28, v27, ()))
noncomputable def basis_CellOf_e2 (v9 : Int) (v10 : List api_Exec) (v17 : List ByteArray) : Option ((Int × (List api_Exec) × Unit) ⊕ (api_Cell × Unit)) :=
 let v20 : api_Exec := { (⟨false, []⟩ : api_Exec) with Words := v17 }
 let v21 : List api_Exec := [v20]
 (if List.length v10 + List.length v21 ≤ 9223372036854775807 ∧ (List.length v10 + List.length v21) * 32 ≤ 140737488355328 then some (v10 ++ v21) else none : Option (List api_Exec)).bind fun v22 =>
 let v23 : Int := IntKind.i64.wrap (v9 + (1 : Int))
 some (Sum.inl (v23, v22, ()))
noncomputable def basis_CellOf_e3 (v15 : Int) (v16 : List api_Exec) (v24 : api_Exec) (v28 : List ByteArray) : Option ((Int × (List api_Exec) × Unit) ⊕ (api_Cell × Unit)) :=
 let v31 : api_Exec := { v24 with Words := v28 }
 let v32 : List api_Exec := [v31]
 (if List.length v16 + List.length v32 ≤ 9223372036854775807 ∧ (List.length v16 + List.length v32) * 32 ≤ 140737488355328 then some (v16 ++ v32) else none : Option (List api_Exec)).bind fun v33 =>
 let v34 : Int := IntKind.i64.wrap (v15 + (1 : Int))
 some (Sum.inl (v34, v33, ()))
noncomputable def basis_CellOf_e4 (v15 : Int) (v16 : List api_Exec) (v23 : List ByteArray) : Option ((Int × (List api_Exec) × Unit) ⊕ (api_Cell × Unit)) :=
 let v26 : api_Exec := { (⟨false, []⟩ : api_Exec) with Words := v23 }
 let v27 : List api_Exec := [v26]
 (if List.length v16 + List.length v27 ≤ 9223372036854775807 ∧ (List.length v16 + List.length v27) * 32 ≤ 140737488355328 then some (v16 ++ v27) else none : Option (List api_Exec)).bind fun v28 =>
 let v29 : Int := IntKind.i64.wrap (v15 + (1 : Int))
 some (Sum.inl (v29, v28, ()))
noncomputable def basis_CellOf_e5 (v21 : Int) (v22 : List api_Exec) (v30 : api_Exec) (v34 : List ByteArray) : Option ((Int × (List api_Exec) × Unit) ⊕ (api_Cell × Unit)) :=
 let v37 : api_Exec := { v30 with Words := v34 }
 let v38 : List api_Exec := [v37]
 (if List.length v22 + List.length v38 ≤ 9223372036854775807 ∧ (List.length v22 + List.length v38) * 32 ≤ 140737488355328 then some (v22 ++ v38) else none : Option (List api_Exec)).bind fun v39 =>
 let v40 : Int := IntKind.i64.wrap (v21 + (1 : Int))
 some (Sum.inl (v40, v39, ()))
noncomputable def basis_CellOf_e6 (v21 : Int) (v22 : List api_Exec) (v29 : List ByteArray) : Option ((Int × (List api_Exec) × Unit) ⊕ (api_Cell × Unit)) :=
 let v32 : api_Exec := { (⟨false, []⟩ : api_Exec) with Words := v29 }
 let v33 : List api_Exec := [v32]
 (if List.length v22 + List.length v33 ≤ 9223372036854775807 ∧ (List.length v22 + List.length v33) * 32 ≤ 140737488355328 then some (v22 ++ v33) else none : Option (List api_Exec)).bind fun v34 =>
 let v35 : Int := IntKind.i64.wrap (v21 + (1 : Int))
 some (Sum.inl (v35, v34, ()))
noncomputable def basis_CellOf_e7 (v27 : Int) (v28 : List api_Exec) (v36 : api_Exec) (v40 : List ByteArray) : Option ((Int × (List api_Exec) × Unit) ⊕ (api_Cell × Unit)) :=
 let v43 : api_Exec := { v36 with Words := v40 }
 let v44 : List api_Exec := [v43]
 (if List.length v28 + List.length v44 ≤ 9223372036854775807 ∧ (List.length v28 + List.length v44) * 32 ≤ 140737488355328 then some (v28 ++ v44) else none : Option (List api_Exec)).bind fun v45 =>
 let v46 : Int := IntKind.i64.wrap (v27 + (1 : Int))
 some (Sum.inl (v46, v45, ()))
noncomputable def basis_CellOf_e8 (v27 : Int) (v28 : List api_Exec) (v35 : List ByteArray) : Option ((Int × (List api_Exec) × Unit) ⊕ (api_Cell × Unit)) :=
 let v38 : api_Exec := { (⟨false, []⟩ : api_Exec) with Words := v35 }
 let v39 : List api_Exec := [v38]
 (if List.length v28 + List.length v39 ≤ 9223372036854775807 ∧ (List.length v28 + List.length v39) * 32 ≤ 140737488355328 then some (v28 ++ v39) else none : Option (List api_Exec)).bind fun v40 =>
 let v41 : Int := IntKind.i64.wrap (v27 + (1 : Int))
 some (Sum.inl (v41, v40, ()))
noncomputable def basis_CellOf_e9 (v33 : Int) (v34 : List api_Exec) (v42 : api_Exec) (v46 : List ByteArray) : Option ((Int × (List api_Exec) × Unit) ⊕ (api_Cell × Unit)) :=
 let v49 : api_Exec := { v42 with Words := v46 }
 let v50 : List api_Exec := [v49]
 (if List.length v34 + List.length v50 ≤ 9223372036854775807 ∧ (List.length v34 + List.length v50) * 32 ≤ 140737488355328 then some (v34 ++ v50) else none : Option (List api_Exec)).bind fun v51 =>
 let v52 : Int := IntKind.i64.wrap (v33 + (1 : Int))
 some (Sum.inl (v52, v51, ()))
noncomputable def basis_CellOf_e10 (v33 : Int) (v34 : List api_Exec) (v41 : List ByteArray) : Option ((Int × (List api_Exec) × Unit) ⊕ (api_Cell × Unit)) :=
 let v44 : api_Exec := { (⟨false, []⟩ : api_Exec) with Words := v41 }
 let v45 : List api_Exec := [v44]
 (if List.length v34 + List.length v45 ≤ 9223372036854775807 ∧ (List.length v34 + List.length v45) * 32 ≤ 140737488355328 then some (v34 ++ v45) else none : Option (List api_Exec)).bind fun v46 =>
 let v47 : Int := IntKind.i64.wrap (v33 + (1 : Int))
 some (Sum.inl (v47, v46, ()))
noncomputable def basis_CellOf_e11 (v0 : api_Cell) (v4 : List api_Rel) (v10 : List api_Exec) (v16 : List api_Exec) (v22 : List api_Exec) (v28 : List api_Exec) (v34 : List api_Exec) (v40 : List Int) (v46 : List api_Pair) (v52 : List ByteArray) (v58 : List Int) (v64 : List Int) (v70 : List Int) (v76 : List Int) (v82 : List ByteArray) (v88 : List ByteArray) (v94 : List ByteArray) (v100 : List ByteArray) (v106 : List ByteArray) (v112 : List Int) (v118 : List api_Conn) (v124 : List api_Conn) : Option (api_Cell × Unit) :=
 let v127 : api_Cell := { v0 with U := { v0.U with Rels := v4 } }
 let v128 : api_Cell := { v127 with U := { v127.U with Pre := v10 } }
 let v129 : api_Cell := { v128 with U := { v128.U with Start := v16 } }
 let v130 : api_Cell := { v129 with U := { v129.U with Post := v22 } }
 let v131 : api_Cell := { v130 with U := { v130.U with Stop := v28 } }
 let v132 : api_Cell := { v131 with U := { v131.U with Reload := v34 } }
 let v133 : api_Cell := { v132 with U := { v132.U with Success := v40 } }
 let v134 : api_Cell := { v133 with U := { v133.U with Env := v46 } }
 let v135 : api_Cell := { v134 with U := { v134.U with Sockets := v52 } }
 let v136 : api_Cell := { v135 with U := { v135.U with Ports := v58 } }
 let v137 : api_Cell := { v136 with U := { v136.U with Boot := v64 } }
 let v138 : api_Cell := { v137 with U := { v137.U with Active := v70 } }
 let v139 : api_Cell := { v138 with U := { v138.U with Idle := v76 } }
 let v140 : api_Cell := { v139 with U := { v139.U with Calendar := v82 } }
 let v141 : api_Cell := { v140 with U := { v140.U with WantedBy := v88 } }
 let v142 : api_Cell := { v141 with U := { v141.U with RequiredBy := v94 } }
 let v143 : api_Cell := { v142 with U := { v142.U with Alias := v100 } }
 let v144 : api_Cell := { v143 with U := { v143.U with Also := v106 } }
 let v145 : api_Cell := { v144 with Begins := v112 }
 let v146 : api_Cell := { v145 with Serves := v118 }
 let v147 : api_Cell := { v146 with Waits := v124 }
 some (v147, ())
noncomputable def basis_CellOf_e12 (v0 : api_Cell) (v4 : List api_Rel) (v10 : List api_Exec) (v16 : List api_Exec) (v22 : List api_Exec) (v28 : List api_Exec) (v34 : List api_Exec) (v40 : List Int) (v46 : List api_Pair) (v52 : List ByteArray) (v58 : List Int) (v64 : List Int) (v70 : List Int) (v76 : List Int) (v82 : List ByteArray) (v88 : List ByteArray) (v94 : List ByteArray) (v100 : List ByteArray) (v106 : List ByteArray) (v112 : List Int) (v118 : List api_Conn) : Option (api_Cell × Unit) :=
 let v121 : List api_Conn := v0.Waits
 let v122 : Int := ((List.length v121 : Nat) : Int)
 loopS (A := Int × (List api_Conn) × Unit) (fun s123 =>
   let v123 : Int := s123.1
   let v124 : List api_Conn := s123.2.1
 let v125 : Bool := decide (v123 < v122)
 let v126 : Bool := v125
 if v125 = true then (
 let v127 : List api_Conn := v0.Waits
 let v128 : Int := ((List.length v127 : Nat) : Int)
 let v129 : Bool := decide (v123 < v128)
 if v129 = true then (
 let v130 : List api_Conn := v0.Waits
 (if 0 ≤ v123 ∧ v123 < ((List.length v130 : Nat) : Int) then (v130)[(v123).toNat]? else none : Option api_Conn).bind fun v131 =>
 let v132 : api_Conn := v131
 let v133 : List api_Conn := [v132]
 (if List.length v124 + List.length v133 ≤ 9223372036854775807 ∧ (List.length v124 + List.length v133) * 48 ≤ 140737488355328 then some (v124 ++ v133) else none : Option (List api_Conn)).bind fun v134 =>
 let v135 : Int := IntKind.i64.wrap (v123 + (1 : Int))
 some (Sum.inl (v135, v134, ())))
 else (
 (if List.length v124 + List.length ([(⟨(⟨#[]⟩ : ByteArray), (0 : Int), (0 : Int), (0 : Int), (0 : Int)⟩ : api_Conn)] : List api_Conn) ≤ 9223372036854775807 ∧ (List.length v124 + List.length ([(⟨(⟨#[]⟩ : ByteArray), (0 : Int), (0 : Int), (0 : Int), (0 : Int)⟩ : api_Conn)] : List api_Conn)) * 48 ≤ 140737488355328 then some (v124 ++ ([(⟨(⟨#[]⟩ : ByteArray), (0 : Int), (0 : Int), (0 : Int), (0 : Int)⟩ : api_Conn)] : List api_Conn)) else none : Option (List api_Conn)).bind fun v130 =>
 let v131 : Int := IntKind.i64.wrap (v123 + (1 : Int))
 some (Sum.inl (v131, v130, ()))))
 else (
 (basis_CellOf_e11 v0 v4 v10 v16 v22 v28 v34 v40 v46 v52 v58 v64 v70 v76 v82 v88 v94 v100 v106 v112 v118 v124).bind fun r => some (Sum.inr r))
   ) ((0 : Int), ([] : List api_Conn), ())
noncomputable def basis_CellOf_e13 (v0 : api_Cell) (v4 : List api_Rel) (v10 : List api_Exec) (v16 : List api_Exec) (v22 : List api_Exec) (v28 : List api_Exec) (v34 : List api_Exec) (v40 : List Int) (v46 : List api_Pair) (v52 : List ByteArray) (v58 : List Int) (v64 : List Int) (v70 : List Int) (v76 : List Int) (v82 : List ByteArray) (v88 : List ByteArray) (v94 : List ByteArray) (v100 : List ByteArray) (v106 : List ByteArray) (v112 : List Int) : Option (api_Cell × Unit) :=
 let v115 : List api_Conn := v0.Serves
 let v116 : Int := ((List.length v115 : Nat) : Int)
 loopS (A := Int × (List api_Conn) × Unit) (fun s117 =>
   let v117 : Int := s117.1
   let v118 : List api_Conn := s117.2.1
 let v119 : Bool := decide (v117 < v116)
 let v120 : Bool := v119
 if v119 = true then (
 let v121 : List api_Conn := v0.Serves
 let v122 : Int := ((List.length v121 : Nat) : Int)
 let v123 : Bool := decide (v117 < v122)
 if v123 = true then (
 let v124 : List api_Conn := v0.Serves
 (if 0 ≤ v117 ∧ v117 < ((List.length v124 : Nat) : Int) then (v124)[(v117).toNat]? else none : Option api_Conn).bind fun v125 =>
 let v126 : api_Conn := v125
 let v127 : List api_Conn := [v126]
 (if List.length v118 + List.length v127 ≤ 9223372036854775807 ∧ (List.length v118 + List.length v127) * 48 ≤ 140737488355328 then some (v118 ++ v127) else none : Option (List api_Conn)).bind fun v128 =>
 let v129 : Int := IntKind.i64.wrap (v117 + (1 : Int))
 some (Sum.inl (v129, v128, ())))
 else (
 (if List.length v118 + List.length ([(⟨(⟨#[]⟩ : ByteArray), (0 : Int), (0 : Int), (0 : Int), (0 : Int)⟩ : api_Conn)] : List api_Conn) ≤ 9223372036854775807 ∧ (List.length v118 + List.length ([(⟨(⟨#[]⟩ : ByteArray), (0 : Int), (0 : Int), (0 : Int), (0 : Int)⟩ : api_Conn)] : List api_Conn)) * 48 ≤ 140737488355328 then some (v118 ++ ([(⟨(⟨#[]⟩ : ByteArray), (0 : Int), (0 : Int), (0 : Int), (0 : Int)⟩ : api_Conn)] : List api_Conn)) else none : Option (List api_Conn)).bind fun v124 =>
 let v125 : Int := IntKind.i64.wrap (v117 + (1 : Int))
 some (Sum.inl (v125, v124, ()))))
 else (
 (basis_CellOf_e12 v0 v4 v10 v16 v22 v28 v34 v40 v46 v52 v58 v64 v70 v76 v82 v88 v94 v100 v106 v112 v118).bind fun r => some (Sum.inr r))
   ) ((0 : Int), ([] : List api_Conn), ())
noncomputable def basis_CellOf_e14 (v0 : api_Cell) (v4 : List api_Rel) (v10 : List api_Exec) (v16 : List api_Exec) (v22 : List api_Exec) (v28 : List api_Exec) (v34 : List api_Exec) (v40 : List Int) (v46 : List api_Pair) (v52 : List ByteArray) (v58 : List Int) (v64 : List Int) (v70 : List Int) (v76 : List Int) (v82 : List ByteArray) (v88 : List ByteArray) (v94 : List ByteArray) (v100 : List ByteArray) (v106 : List ByteArray) : Option (api_Cell × Unit) :=
 let v109 : List Int := v0.Begins
 let v110 : Int := ((List.length v109 : Nat) : Int)
 loopS (A := Int × (List Int) × Unit) (fun s111 =>
   let v111 : Int := s111.1
   let v112 : List Int := s111.2.1
 let v113 : Bool := decide (v111 < v110)
 let v114 : Bool := v113
 if v113 = true then (
 let v115 : List Int := v0.Begins
 let v116 : Int := ((List.length v115 : Nat) : Int)
 let v117 : Bool := decide (v111 < v116)
 if v117 = true then (
 let v118 : List Int := v0.Begins
 (if 0 ≤ v111 ∧ v111 < ((List.length v118 : Nat) : Int) then (v118)[(v111).toNat]? else none : Option Int).bind fun v119 =>
 let v120 : Int := v119
 let v121 : List Int := [v120]
 (if List.length v112 + List.length v121 ≤ 9223372036854775807 ∧ (List.length v112 + List.length v121) * 8 ≤ 140737488355328 then some (v112 ++ v121) else none : Option (List Int)).bind fun v122 =>
 let v123 : Int := IntKind.i64.wrap (v111 + (1 : Int))
 some (Sum.inl (v123, v122, ())))
 else (
 (if List.length v112 + List.length ([(0 : Int)] : List Int) ≤ 9223372036854775807 ∧ (List.length v112 + List.length ([(0 : Int)] : List Int)) * 8 ≤ 140737488355328 then some (v112 ++ ([(0 : Int)] : List Int)) else none : Option (List Int)).bind fun v118 =>
 let v119 : Int := IntKind.i64.wrap (v111 + (1 : Int))
 some (Sum.inl (v119, v118, ()))))
 else (
 (basis_CellOf_e13 v0 v4 v10 v16 v22 v28 v34 v40 v46 v52 v58 v64 v70 v76 v82 v88 v94 v100 v106 v112).bind fun r => some (Sum.inr r))
   ) ((0 : Int), ([] : List Int), ())
noncomputable def basis_CellOf_e15 (v0 : api_Cell) (v4 : List api_Rel) (v10 : List api_Exec) (v16 : List api_Exec) (v22 : List api_Exec) (v28 : List api_Exec) (v34 : List api_Exec) (v40 : List Int) (v46 : List api_Pair) (v52 : List ByteArray) (v58 : List Int) (v64 : List Int) (v70 : List Int) (v76 : List Int) (v82 : List ByteArray) (v88 : List ByteArray) (v94 : List ByteArray) (v100 : List ByteArray) : Option (api_Cell × Unit) :=
 let v103 : List ByteArray := v0.U.Also
 let v104 : Int := ((List.length v103 : Nat) : Int)
 loopS (A := Int × (List ByteArray) × Unit) (fun s105 =>
   let v105 : Int := s105.1
   let v106 : List ByteArray := s105.2.1
 let v107 : Bool := decide (v105 < v104)
 let v108 : Bool := v107
 if v107 = true then (
 let v109 : List ByteArray := v0.U.Also
 let v110 : Int := ((List.length v109 : Nat) : Int)
 let v111 : Bool := decide (v105 < v110)
 if v111 = true then (
 let v112 : List ByteArray := v0.U.Also
 (if 0 ≤ v105 ∧ v105 < ((List.length v112 : Nat) : Int) then (v112)[(v105).toNat]? else none : Option ByteArray).bind fun v113 =>
 let v114 : ByteArray := v113
 let v115 : List ByteArray := [v114]
 (if List.length v106 + List.length v115 ≤ 9223372036854775807 ∧ (List.length v106 + List.length v115) * 16 ≤ 140737488355328 then some (v106 ++ v115) else none : Option (List ByteArray)).bind fun v116 =>
 let v117 : Int := IntKind.i64.wrap (v105 + (1 : Int))
 some (Sum.inl (v117, v116, ())))
 else (
 (if List.length v106 + List.length ([(⟨#[]⟩ : ByteArray)] : List ByteArray) ≤ 9223372036854775807 ∧ (List.length v106 + List.length ([(⟨#[]⟩ : ByteArray)] : List ByteArray)) * 16 ≤ 140737488355328 then some (v106 ++ ([(⟨#[]⟩ : ByteArray)] : List ByteArray)) else none : Option (List ByteArray)).bind fun v112 =>
 let v113 : Int := IntKind.i64.wrap (v105 + (1 : Int))
 some (Sum.inl (v113, v112, ()))))
 else (
 (basis_CellOf_e14 v0 v4 v10 v16 v22 v28 v34 v40 v46 v52 v58 v64 v70 v76 v82 v88 v94 v100 v106).bind fun r => some (Sum.inr r))
   ) ((0 : Int), ([] : List ByteArray), ())
noncomputable def basis_CellOf_e16 (v0 : api_Cell) (v4 : List api_Rel) (v10 : List api_Exec) (v16 : List api_Exec) (v22 : List api_Exec) (v28 : List api_Exec) (v34 : List api_Exec) (v40 : List Int) (v46 : List api_Pair) (v52 : List ByteArray) (v58 : List Int) (v64 : List Int) (v70 : List Int) (v76 : List Int) (v82 : List ByteArray) (v88 : List ByteArray) (v94 : List ByteArray) : Option (api_Cell × Unit) :=
 let v97 : List ByteArray := v0.U.Alias
 let v98 : Int := ((List.length v97 : Nat) : Int)
 loopS (A := Int × (List ByteArray) × Unit) (fun s99 =>
   let v99 : Int := s99.1
   let v100 : List ByteArray := s99.2.1
 let v101 : Bool := decide (v99 < v98)
 let v102 : Bool := v101
 if v101 = true then (
 let v103 : List ByteArray := v0.U.Alias
 let v104 : Int := ((List.length v103 : Nat) : Int)
 let v105 : Bool := decide (v99 < v104)
 if v105 = true then (
 let v106 : List ByteArray := v0.U.Alias
 (if 0 ≤ v99 ∧ v99 < ((List.length v106 : Nat) : Int) then (v106)[(v99).toNat]? else none : Option ByteArray).bind fun v107 =>
 let v108 : ByteArray := v107
 let v109 : List ByteArray := [v108]
 (if List.length v100 + List.length v109 ≤ 9223372036854775807 ∧ (List.length v100 + List.length v109) * 16 ≤ 140737488355328 then some (v100 ++ v109) else none : Option (List ByteArray)).bind fun v110 =>
 let v111 : Int := IntKind.i64.wrap (v99 + (1 : Int))
 some (Sum.inl (v111, v110, ())))
 else (
 (if List.length v100 + List.length ([(⟨#[]⟩ : ByteArray)] : List ByteArray) ≤ 9223372036854775807 ∧ (List.length v100 + List.length ([(⟨#[]⟩ : ByteArray)] : List ByteArray)) * 16 ≤ 140737488355328 then some (v100 ++ ([(⟨#[]⟩ : ByteArray)] : List ByteArray)) else none : Option (List ByteArray)).bind fun v106 =>
 let v107 : Int := IntKind.i64.wrap (v99 + (1 : Int))
 some (Sum.inl (v107, v106, ()))))
 else (
 (basis_CellOf_e15 v0 v4 v10 v16 v22 v28 v34 v40 v46 v52 v58 v64 v70 v76 v82 v88 v94 v100).bind fun r => some (Sum.inr r))
   ) ((0 : Int), ([] : List ByteArray), ())
noncomputable def basis_CellOf_e17 (v0 : api_Cell) (v4 : List api_Rel) (v10 : List api_Exec) (v16 : List api_Exec) (v22 : List api_Exec) (v28 : List api_Exec) (v34 : List api_Exec) (v40 : List Int) (v46 : List api_Pair) (v52 : List ByteArray) (v58 : List Int) (v64 : List Int) (v70 : List Int) (v76 : List Int) (v82 : List ByteArray) (v88 : List ByteArray) : Option (api_Cell × Unit) :=
 let v91 : List ByteArray := v0.U.RequiredBy
 let v92 : Int := ((List.length v91 : Nat) : Int)
 loopS (A := Int × (List ByteArray) × Unit) (fun s93 =>
   let v93 : Int := s93.1
   let v94 : List ByteArray := s93.2.1
 let v95 : Bool := decide (v93 < v92)
 let v96 : Bool := v95
 if v95 = true then (
 let v97 : List ByteArray := v0.U.RequiredBy
 let v98 : Int := ((List.length v97 : Nat) : Int)
 let v99 : Bool := decide (v93 < v98)
 if v99 = true then (
 let v100 : List ByteArray := v0.U.RequiredBy
 (if 0 ≤ v93 ∧ v93 < ((List.length v100 : Nat) : Int) then (v100)[(v93).toNat]? else none : Option ByteArray).bind fun v101 =>
 let v102 : ByteArray := v101
 let v103 : List ByteArray := [v102]
 (if List.length v94 + List.length v103 ≤ 9223372036854775807 ∧ (List.length v94 + List.length v103) * 16 ≤ 140737488355328 then some (v94 ++ v103) else none : Option (List ByteArray)).bind fun v104 =>
 let v105 : Int := IntKind.i64.wrap (v93 + (1 : Int))
 some (Sum.inl (v105, v104, ())))
 else (
 (if List.length v94 + List.length ([(⟨#[]⟩ : ByteArray)] : List ByteArray) ≤ 9223372036854775807 ∧ (List.length v94 + List.length ([(⟨#[]⟩ : ByteArray)] : List ByteArray)) * 16 ≤ 140737488355328 then some (v94 ++ ([(⟨#[]⟩ : ByteArray)] : List ByteArray)) else none : Option (List ByteArray)).bind fun v100 =>
 let v101 : Int := IntKind.i64.wrap (v93 + (1 : Int))
 some (Sum.inl (v101, v100, ()))))
 else (
 (basis_CellOf_e16 v0 v4 v10 v16 v22 v28 v34 v40 v46 v52 v58 v64 v70 v76 v82 v88 v94).bind fun r => some (Sum.inr r))
   ) ((0 : Int), ([] : List ByteArray), ())
noncomputable def basis_CellOf_e18 (v0 : api_Cell) (v4 : List api_Rel) (v10 : List api_Exec) (v16 : List api_Exec) (v22 : List api_Exec) (v28 : List api_Exec) (v34 : List api_Exec) (v40 : List Int) (v46 : List api_Pair) (v52 : List ByteArray) (v58 : List Int) (v64 : List Int) (v70 : List Int) (v76 : List Int) (v82 : List ByteArray) : Option (api_Cell × Unit) :=
 let v85 : List ByteArray := v0.U.WantedBy
 let v86 : Int := ((List.length v85 : Nat) : Int)
 loopS (A := Int × (List ByteArray) × Unit) (fun s87 =>
   let v87 : Int := s87.1
   let v88 : List ByteArray := s87.2.1
 let v89 : Bool := decide (v87 < v86)
 let v90 : Bool := v89
 if v89 = true then (
 let v91 : List ByteArray := v0.U.WantedBy
 let v92 : Int := ((List.length v91 : Nat) : Int)
 let v93 : Bool := decide (v87 < v92)
 if v93 = true then (
 let v94 : List ByteArray := v0.U.WantedBy
 (if 0 ≤ v87 ∧ v87 < ((List.length v94 : Nat) : Int) then (v94)[(v87).toNat]? else none : Option ByteArray).bind fun v95 =>
 let v96 : ByteArray := v95
 let v97 : List ByteArray := [v96]
 (if List.length v88 + List.length v97 ≤ 9223372036854775807 ∧ (List.length v88 + List.length v97) * 16 ≤ 140737488355328 then some (v88 ++ v97) else none : Option (List ByteArray)).bind fun v98 =>
 let v99 : Int := IntKind.i64.wrap (v87 + (1 : Int))
 some (Sum.inl (v99, v98, ())))
 else (
 (if List.length v88 + List.length ([(⟨#[]⟩ : ByteArray)] : List ByteArray) ≤ 9223372036854775807 ∧ (List.length v88 + List.length ([(⟨#[]⟩ : ByteArray)] : List ByteArray)) * 16 ≤ 140737488355328 then some (v88 ++ ([(⟨#[]⟩ : ByteArray)] : List ByteArray)) else none : Option (List ByteArray)).bind fun v94 =>
 let v95 : Int := IntKind.i64.wrap (v87 + (1 : Int))
 some (Sum.inl (v95, v94, ()))))
 else (
 (basis_CellOf_e17 v0 v4 v10 v16 v22 v28 v34 v40 v46 v52 v58 v64 v70 v76 v82 v88).bind fun r => some (Sum.inr r))
   ) ((0 : Int), ([] : List ByteArray), ())
noncomputable def basis_CellOf_e19 (v0 : api_Cell) (v4 : List api_Rel) (v10 : List api_Exec) (v16 : List api_Exec) (v22 : List api_Exec) (v28 : List api_Exec) (v34 : List api_Exec) (v40 : List Int) (v46 : List api_Pair) (v52 : List ByteArray) (v58 : List Int) (v64 : List Int) (v70 : List Int) (v76 : List Int) : Option (api_Cell × Unit) :=
 let v79 : List ByteArray := v0.U.Calendar
 let v80 : Int := ((List.length v79 : Nat) : Int)
 loopS (A := Int × (List ByteArray) × Unit) (fun s81 =>
   let v81 : Int := s81.1
   let v82 : List ByteArray := s81.2.1
 let v83 : Bool := decide (v81 < v80)
 let v84 : Bool := v83
 if v83 = true then (
 let v85 : List ByteArray := v0.U.Calendar
 let v86 : Int := ((List.length v85 : Nat) : Int)
 let v87 : Bool := decide (v81 < v86)
 if v87 = true then (
 let v88 : List ByteArray := v0.U.Calendar
 (if 0 ≤ v81 ∧ v81 < ((List.length v88 : Nat) : Int) then (v88)[(v81).toNat]? else none : Option ByteArray).bind fun v89 =>
 let v90 : ByteArray := v89
 let v91 : List ByteArray := [v90]
 (if List.length v82 + List.length v91 ≤ 9223372036854775807 ∧ (List.length v82 + List.length v91) * 16 ≤ 140737488355328 then some (v82 ++ v91) else none : Option (List ByteArray)).bind fun v92 =>
 let v93 : Int := IntKind.i64.wrap (v81 + (1 : Int))
 some (Sum.inl (v93, v92, ())))
 else (
 (if List.length v82 + List.length ([(⟨#[]⟩ : ByteArray)] : List ByteArray) ≤ 9223372036854775807 ∧ (List.length v82 + List.length ([(⟨#[]⟩ : ByteArray)] : List ByteArray)) * 16 ≤ 140737488355328 then some (v82 ++ ([(⟨#[]⟩ : ByteArray)] : List ByteArray)) else none : Option (List ByteArray)).bind fun v88 =>
 let v89 : Int := IntKind.i64.wrap (v81 + (1 : Int))
 some (Sum.inl (v89, v88, ()))))
 else (
 (basis_CellOf_e18 v0 v4 v10 v16 v22 v28 v34 v40 v46 v52 v58 v64 v70 v76 v82).bind fun r => some (Sum.inr r))
   ) ((0 : Int), ([] : List ByteArray), ())
noncomputable def basis_CellOf_e20 (v0 : api_Cell) (v4 : List api_Rel) (v10 : List api_Exec) (v16 : List api_Exec) (v22 : List api_Exec) (v28 : List api_Exec) (v34 : List api_Exec) (v40 : List Int) (v46 : List api_Pair) (v52 : List ByteArray) (v58 : List Int) (v64 : List Int) (v70 : List Int) : Option (api_Cell × Unit) :=
 let v73 : List Int := v0.U.Idle
 let v74 : Int := ((List.length v73 : Nat) : Int)
 loopS (A := Int × (List Int) × Unit) (fun s75 =>
   let v75 : Int := s75.1
   let v76 : List Int := s75.2.1
 let v77 : Bool := decide (v75 < v74)
 let v78 : Bool := v77
 if v77 = true then (
 let v79 : List Int := v0.U.Idle
 let v80 : Int := ((List.length v79 : Nat) : Int)
 let v81 : Bool := decide (v75 < v80)
 if v81 = true then (
 let v82 : List Int := v0.U.Idle
 (if 0 ≤ v75 ∧ v75 < ((List.length v82 : Nat) : Int) then (v82)[(v75).toNat]? else none : Option Int).bind fun v83 =>
 let v84 : Int := v83
 let v85 : List Int := [v84]
 (if List.length v76 + List.length v85 ≤ 9223372036854775807 ∧ (List.length v76 + List.length v85) * 8 ≤ 140737488355328 then some (v76 ++ v85) else none : Option (List Int)).bind fun v86 =>
 let v87 : Int := IntKind.i64.wrap (v75 + (1 : Int))
 some (Sum.inl (v87, v86, ())))
 else (
 (if List.length v76 + List.length ([(0 : Int)] : List Int) ≤ 9223372036854775807 ∧ (List.length v76 + List.length ([(0 : Int)] : List Int)) * 8 ≤ 140737488355328 then some (v76 ++ ([(0 : Int)] : List Int)) else none : Option (List Int)).bind fun v82 =>
 let v83 : Int := IntKind.i64.wrap (v75 + (1 : Int))
 some (Sum.inl (v83, v82, ()))))
 else (
 (basis_CellOf_e19 v0 v4 v10 v16 v22 v28 v34 v40 v46 v52 v58 v64 v70 v76).bind fun r => some (Sum.inr r))
   ) ((0 : Int), ([] : List Int), ())
noncomputable def basis_CellOf_e21 (v0 : api_Cell) (v4 : List api_Rel) (v10 : List api_Exec) (v16 : List api_Exec) (v22 : List api_Exec) (v28 : List api_Exec) (v34 : List api_Exec) (v40 : List Int) (v46 : List api_Pair) (v52 : List ByteArray) (v58 : List Int) (v64 : List Int) : Option (api_Cell × Unit) :=
 let v67 : List Int := v0.U.Active
 let v68 : Int := ((List.length v67 : Nat) : Int)
 loopS (A := Int × (List Int) × Unit) (fun s69 =>
   let v69 : Int := s69.1
   let v70 : List Int := s69.2.1
 let v71 : Bool := decide (v69 < v68)
 let v72 : Bool := v71
 if v71 = true then (
 let v73 : List Int := v0.U.Active
 let v74 : Int := ((List.length v73 : Nat) : Int)
 let v75 : Bool := decide (v69 < v74)
 if v75 = true then (
 let v76 : List Int := v0.U.Active
 (if 0 ≤ v69 ∧ v69 < ((List.length v76 : Nat) : Int) then (v76)[(v69).toNat]? else none : Option Int).bind fun v77 =>
 let v78 : Int := v77
 let v79 : List Int := [v78]
 (if List.length v70 + List.length v79 ≤ 9223372036854775807 ∧ (List.length v70 + List.length v79) * 8 ≤ 140737488355328 then some (v70 ++ v79) else none : Option (List Int)).bind fun v80 =>
 let v81 : Int := IntKind.i64.wrap (v69 + (1 : Int))
 some (Sum.inl (v81, v80, ())))
 else (
 (if List.length v70 + List.length ([(0 : Int)] : List Int) ≤ 9223372036854775807 ∧ (List.length v70 + List.length ([(0 : Int)] : List Int)) * 8 ≤ 140737488355328 then some (v70 ++ ([(0 : Int)] : List Int)) else none : Option (List Int)).bind fun v76 =>
 let v77 : Int := IntKind.i64.wrap (v69 + (1 : Int))
 some (Sum.inl (v77, v76, ()))))
 else (
 (basis_CellOf_e20 v0 v4 v10 v16 v22 v28 v34 v40 v46 v52 v58 v64 v70).bind fun r => some (Sum.inr r))
   ) ((0 : Int), ([] : List Int), ())
noncomputable def basis_CellOf_e22 (v0 : api_Cell) (v4 : List api_Rel) (v10 : List api_Exec) (v16 : List api_Exec) (v22 : List api_Exec) (v28 : List api_Exec) (v34 : List api_Exec) (v40 : List Int) (v46 : List api_Pair) (v52 : List ByteArray) (v58 : List Int) : Option (api_Cell × Unit) :=
 let v61 : List Int := v0.U.Boot
 let v62 : Int := ((List.length v61 : Nat) : Int)
 loopS (A := Int × (List Int) × Unit) (fun s63 =>
   let v63 : Int := s63.1
   let v64 : List Int := s63.2.1
 let v65 : Bool := decide (v63 < v62)
 let v66 : Bool := v65
 if v65 = true then (
 let v67 : List Int := v0.U.Boot
 let v68 : Int := ((List.length v67 : Nat) : Int)
 let v69 : Bool := decide (v63 < v68)
 if v69 = true then (
 let v70 : List Int := v0.U.Boot
 (if 0 ≤ v63 ∧ v63 < ((List.length v70 : Nat) : Int) then (v70)[(v63).toNat]? else none : Option Int).bind fun v71 =>
 let v72 : Int := v71
 let v73 : List Int := [v72]
 (if List.length v64 + List.length v73 ≤ 9223372036854775807 ∧ (List.length v64 + List.length v73) * 8 ≤ 140737488355328 then some (v64 ++ v73) else none : Option (List Int)).bind fun v74 =>
 let v75 : Int := IntKind.i64.wrap (v63 + (1 : Int))
 some (Sum.inl (v75, v74, ())))
 else (
 (if List.length v64 + List.length ([(0 : Int)] : List Int) ≤ 9223372036854775807 ∧ (List.length v64 + List.length ([(0 : Int)] : List Int)) * 8 ≤ 140737488355328 then some (v64 ++ ([(0 : Int)] : List Int)) else none : Option (List Int)).bind fun v70 =>
 let v71 : Int := IntKind.i64.wrap (v63 + (1 : Int))
 some (Sum.inl (v71, v70, ()))))
 else (
 (basis_CellOf_e21 v0 v4 v10 v16 v22 v28 v34 v40 v46 v52 v58 v64).bind fun r => some (Sum.inr r))
   ) ((0 : Int), ([] : List Int), ())
noncomputable def basis_CellOf_e23 (v0 : api_Cell) (v4 : List api_Rel) (v10 : List api_Exec) (v16 : List api_Exec) (v22 : List api_Exec) (v28 : List api_Exec) (v34 : List api_Exec) (v40 : List Int) (v46 : List api_Pair) (v52 : List ByteArray) : Option (api_Cell × Unit) :=
 let v55 : List Int := v0.U.Ports
 let v56 : Int := ((List.length v55 : Nat) : Int)
 loopS (A := Int × (List Int) × Unit) (fun s57 =>
   let v57 : Int := s57.1
   let v58 : List Int := s57.2.1
 let v59 : Bool := decide (v57 < v56)
 let v60 : Bool := v59
 if v59 = true then (
 let v61 : List Int := v0.U.Ports
 let v62 : Int := ((List.length v61 : Nat) : Int)
 let v63 : Bool := decide (v57 < v62)
 if v63 = true then (
 let v64 : List Int := v0.U.Ports
 (if 0 ≤ v57 ∧ v57 < ((List.length v64 : Nat) : Int) then (v64)[(v57).toNat]? else none : Option Int).bind fun v65 =>
 let v66 : Int := v65
 let v67 : List Int := [v66]
 (if List.length v58 + List.length v67 ≤ 9223372036854775807 ∧ (List.length v58 + List.length v67) * 8 ≤ 140737488355328 then some (v58 ++ v67) else none : Option (List Int)).bind fun v68 =>
 let v69 : Int := IntKind.i64.wrap (v57 + (1 : Int))
 some (Sum.inl (v69, v68, ())))
 else (
 (if List.length v58 + List.length ([(0 : Int)] : List Int) ≤ 9223372036854775807 ∧ (List.length v58 + List.length ([(0 : Int)] : List Int)) * 8 ≤ 140737488355328 then some (v58 ++ ([(0 : Int)] : List Int)) else none : Option (List Int)).bind fun v64 =>
 let v65 : Int := IntKind.i64.wrap (v57 + (1 : Int))
 some (Sum.inl (v65, v64, ()))))
 else (
 (basis_CellOf_e22 v0 v4 v10 v16 v22 v28 v34 v40 v46 v52 v58).bind fun r => some (Sum.inr r))
   ) ((0 : Int), ([] : List Int), ())
noncomputable def basis_CellOf_e24 (v0 : api_Cell) (v4 : List api_Rel) (v10 : List api_Exec) (v16 : List api_Exec) (v22 : List api_Exec) (v28 : List api_Exec) (v34 : List api_Exec) (v40 : List Int) (v46 : List api_Pair) : Option (api_Cell × Unit) :=
 let v49 : List ByteArray := v0.U.Sockets
 let v50 : Int := ((List.length v49 : Nat) : Int)
 loopS (A := Int × (List ByteArray) × Unit) (fun s51 =>
   let v51 : Int := s51.1
   let v52 : List ByteArray := s51.2.1
 let v53 : Bool := decide (v51 < v50)
 let v54 : Bool := v53
 if v53 = true then (
 let v55 : List ByteArray := v0.U.Sockets
 let v56 : Int := ((List.length v55 : Nat) : Int)
 let v57 : Bool := decide (v51 < v56)
 if v57 = true then (
 let v58 : List ByteArray := v0.U.Sockets
 (if 0 ≤ v51 ∧ v51 < ((List.length v58 : Nat) : Int) then (v58)[(v51).toNat]? else none : Option ByteArray).bind fun v59 =>
 let v60 : ByteArray := v59
 let v61 : List ByteArray := [v60]
 (if List.length v52 + List.length v61 ≤ 9223372036854775807 ∧ (List.length v52 + List.length v61) * 16 ≤ 140737488355328 then some (v52 ++ v61) else none : Option (List ByteArray)).bind fun v62 =>
 let v63 : Int := IntKind.i64.wrap (v51 + (1 : Int))
 some (Sum.inl (v63, v62, ())))
 else (
 (if List.length v52 + List.length ([(⟨#[]⟩ : ByteArray)] : List ByteArray) ≤ 9223372036854775807 ∧ (List.length v52 + List.length ([(⟨#[]⟩ : ByteArray)] : List ByteArray)) * 16 ≤ 140737488355328 then some (v52 ++ ([(⟨#[]⟩ : ByteArray)] : List ByteArray)) else none : Option (List ByteArray)).bind fun v58 =>
 let v59 : Int := IntKind.i64.wrap (v51 + (1 : Int))
 some (Sum.inl (v59, v58, ()))))
 else (
 (basis_CellOf_e23 v0 v4 v10 v16 v22 v28 v34 v40 v46 v52).bind fun r => some (Sum.inr r))
   ) ((0 : Int), ([] : List ByteArray), ())
noncomputable def basis_CellOf_e25 (v0 : api_Cell) (v4 : List api_Rel) (v10 : List api_Exec) (v16 : List api_Exec) (v22 : List api_Exec) (v28 : List api_Exec) (v34 : List api_Exec) (v40 : List Int) : Option (api_Cell × Unit) :=
 let v43 : List api_Pair := v0.U.Env
 let v44 : Int := ((List.length v43 : Nat) : Int)
 loopS (A := Int × (List api_Pair) × Unit) (fun s45 =>
   let v45 : Int := s45.1
   let v46 : List api_Pair := s45.2.1
 let v47 : Bool := decide (v45 < v44)
 let v48 : Bool := v47
 if v47 = true then (
 let v49 : List api_Pair := v0.U.Env
 let v50 : Int := ((List.length v49 : Nat) : Int)
 let v51 : Bool := decide (v45 < v50)
 if v51 = true then (
 let v52 : List api_Pair := v0.U.Env
 (if 0 ≤ v45 ∧ v45 < ((List.length v52 : Nat) : Int) then (v52)[(v45).toNat]? else none : Option api_Pair).bind fun v53 =>
 let v54 : api_Pair := v53
 let v55 : List api_Pair := [v54]
 (if List.length v46 + List.length v55 ≤ 9223372036854775807 ∧ (List.length v46 + List.length v55) * 32 ≤ 140737488355328 then some (v46 ++ v55) else none : Option (List api_Pair)).bind fun v56 =>
 let v57 : Int := IntKind.i64.wrap (v45 + (1 : Int))
 some (Sum.inl (v57, v56, ())))
 else (
 (if List.length v46 + List.length ([(⟨(⟨#[]⟩ : ByteArray), (⟨#[]⟩ : ByteArray)⟩ : api_Pair)] : List api_Pair) ≤ 9223372036854775807 ∧ (List.length v46 + List.length ([(⟨(⟨#[]⟩ : ByteArray), (⟨#[]⟩ : ByteArray)⟩ : api_Pair)] : List api_Pair)) * 32 ≤ 140737488355328 then some (v46 ++ ([(⟨(⟨#[]⟩ : ByteArray), (⟨#[]⟩ : ByteArray)⟩ : api_Pair)] : List api_Pair)) else none : Option (List api_Pair)).bind fun v52 =>
 let v53 : Int := IntKind.i64.wrap (v45 + (1 : Int))
 some (Sum.inl (v53, v52, ()))))
 else (
 (basis_CellOf_e24 v0 v4 v10 v16 v22 v28 v34 v40 v46).bind fun r => some (Sum.inr r))
   ) ((0 : Int), ([] : List api_Pair), ())
noncomputable def basis_CellOf_e26 (v0 : api_Cell) (v4 : List api_Rel) (v10 : List api_Exec) (v16 : List api_Exec) (v22 : List api_Exec) (v28 : List api_Exec) (v34 : List api_Exec) : Option (api_Cell × Unit) :=
 let v37 : List Int := v0.U.Success
 let v38 : Int := ((List.length v37 : Nat) : Int)
 loopS (A := Int × (List Int) × Unit) (fun s39 =>
   let v39 : Int := s39.1
   let v40 : List Int := s39.2.1
 let v41 : Bool := decide (v39 < v38)
 let v42 : Bool := v41
 if v41 = true then (
 let v43 : List Int := v0.U.Success
 let v44 : Int := ((List.length v43 : Nat) : Int)
 let v45 : Bool := decide (v39 < v44)
 if v45 = true then (
 let v46 : List Int := v0.U.Success
 (if 0 ≤ v39 ∧ v39 < ((List.length v46 : Nat) : Int) then (v46)[(v39).toNat]? else none : Option Int).bind fun v47 =>
 let v48 : Int := v47
 let v49 : List Int := [v48]
 (if List.length v40 + List.length v49 ≤ 9223372036854775807 ∧ (List.length v40 + List.length v49) * 8 ≤ 140737488355328 then some (v40 ++ v49) else none : Option (List Int)).bind fun v50 =>
 let v51 : Int := IntKind.i64.wrap (v39 + (1 : Int))
 some (Sum.inl (v51, v50, ())))
 else (
 (if List.length v40 + List.length ([(0 : Int)] : List Int) ≤ 9223372036854775807 ∧ (List.length v40 + List.length ([(0 : Int)] : List Int)) * 8 ≤ 140737488355328 then some (v40 ++ ([(0 : Int)] : List Int)) else none : Option (List Int)).bind fun v46 =>
 let v47 : Int := IntKind.i64.wrap (v39 + (1 : Int))
 some (Sum.inl (v47, v46, ()))))
 else (
 (basis_CellOf_e25 v0 v4 v10 v16 v22 v28 v34 v40).bind fun r => some (Sum.inr r))
   ) ((0 : Int), ([] : List Int), ())
noncomputable def basis_CellOf_e27 (v0 : api_Cell) (v4 : List api_Rel) (v10 : List api_Exec) (v16 : List api_Exec) (v22 : List api_Exec) (v28 : List api_Exec) : Option (api_Cell × Unit) :=
 let v31 : List api_Exec := v0.U.Reload
 let v32 : Int := ((List.length v31 : Nat) : Int)
 loopS (A := Int × (List api_Exec) × Unit) (fun s33 =>
   let v33 : Int := s33.1
   let v34 : List api_Exec := s33.2.1
 let v35 : Bool := decide (v33 < v32)
 let v36 : Bool := v35
 if v35 = true then (
 let v37 : List api_Exec := v0.U.Reload
 let v38 : Int := ((List.length v37 : Nat) : Int)
 let v39 : Bool := decide (v33 < v38)
 if v39 = true then (
 let v40 : List api_Exec := v0.U.Reload
 (if 0 ≤ v33 ∧ v33 < ((List.length v40 : Nat) : Int) then (v40)[(v33).toNat]? else none : Option api_Exec).bind fun v41 =>
 let v42 : api_Exec := v41
 let v43 : List ByteArray := v42.Words
 let v44 : Int := ((List.length v43 : Nat) : Int)
 loopS (A := Int × (List ByteArray) × Unit) (fun s45 =>
   let v45 : Int := s45.1
   let v46 : List ByteArray := s45.2.1
 let v47 : Bool := decide (v45 < v44)
 let v48 : Bool := v47
 if v47 = true then (
 let v49 : List ByteArray := v42.Words
 let v50 : Int := ((List.length v49 : Nat) : Int)
 let v51 : Bool := decide (v45 < v50)
 if v51 = true then (
 let v52 : List ByteArray := v42.Words
 (if 0 ≤ v45 ∧ v45 < ((List.length v52 : Nat) : Int) then (v52)[(v45).toNat]? else none : Option ByteArray).bind fun v53 =>
 let v54 : ByteArray := v53
 let v55 : List ByteArray := [v54]
 (if List.length v46 + List.length v55 ≤ 9223372036854775807 ∧ (List.length v46 + List.length v55) * 16 ≤ 140737488355328 then some (v46 ++ v55) else none : Option (List ByteArray)).bind fun v56 =>
 let v57 : Int := IntKind.i64.wrap (v45 + (1 : Int))
 some (Sum.inl (v57, v56, ())))
 else (
 (if List.length v46 + List.length ([(⟨#[]⟩ : ByteArray)] : List ByteArray) ≤ 9223372036854775807 ∧ (List.length v46 + List.length ([(⟨#[]⟩ : ByteArray)] : List ByteArray)) * 16 ≤ 140737488355328 then some (v46 ++ ([(⟨#[]⟩ : ByteArray)] : List ByteArray)) else none : Option (List ByteArray)).bind fun v52 =>
 let v53 : Int := IntKind.i64.wrap (v45 + (1 : Int))
 some (Sum.inl (v53, v52, ()))))
 else (
 (basis_CellOf_e9 v33 v34 v42 v46).bind fun r => some (Sum.inr r))
   ) ((0 : Int), ([] : List ByteArray), ()))
 else (
 loopS (A := Int × (List ByteArray) × Unit) (fun s40 =>
   let v40 : Int := s40.1
   let v41 : List ByteArray := s40.2.1
 let v42 : Bool := decide (v40 < (0 : Int))
 let v43 : Bool := v42
 if v42 = true then (
 let v44 : Bool := decide (v40 < (0 : Int))
 if v44 = true then (
 (if 0 ≤ v40 ∧ v40 < ((List.length ([] : List ByteArray) : Nat) : Int) then (([] : List ByteArray))[(v40).toNat]? else none : Option ByteArray).bind fun v45 =>
 let v46 : ByteArray := v45
 let v47 : List ByteArray := [v46]
 (if List.length v41 + List.length v47 ≤ 9223372036854775807 ∧ (List.length v41 + List.length v47) * 16 ≤ 140737488355328 then some (v41 ++ v47) else none : Option (List ByteArray)).bind fun v48 =>
 let v49 : Int := IntKind.i64.wrap (v40 + (1 : Int))
 some (Sum.inl (v49, v48, ())))
 else (
 (if List.length v41 + List.length ([(⟨#[]⟩ : ByteArray)] : List ByteArray) ≤ 9223372036854775807 ∧ (List.length v41 + List.length ([(⟨#[]⟩ : ByteArray)] : List ByteArray)) * 16 ≤ 140737488355328 then some (v41 ++ ([(⟨#[]⟩ : ByteArray)] : List ByteArray)) else none : Option (List ByteArray)).bind fun v45 =>
 let v46 : Int := IntKind.i64.wrap (v40 + (1 : Int))
 some (Sum.inl (v46, v45, ()))))
 else (
 (basis_CellOf_e10 v33 v34 v41).bind fun r => some (Sum.inr r))
   ) ((0 : Int), ([] : List ByteArray), ())))
 else (
 (basis_CellOf_e26 v0 v4 v10 v16 v22 v28 v34).bind fun r => some (Sum.inr r))
   ) ((0 : Int), ([] : List api_Exec), ())
noncomputable def basis_CellOf_e28 (v0 : api_Cell) (v4 : List api_Rel) (v10 : List api_Exec) (v16 : List api_Exec) (v22 : List api_Exec) : Option (api_Cell × Unit) :=
 let v25 : List api_Exec := v0.U.Stop
 let v26 : Int := ((List.length v25 : Nat) : Int)
 loopS (A := Int × (List api_Exec) × Unit) (fun s27 =>
   let v27 : Int := s27.1
   let v28 : List api_Exec := s27.2.1
 let v29 : Bool := decide (v27 < v26)
 let v30 : Bool := v29
 if v29 = true then (
 let v31 : List api_Exec := v0.U.Stop
 let v32 : Int := ((List.length v31 : Nat) : Int)
 let v33 : Bool := decide (v27 < v32)
 if v33 = true then (
 let v34 : List api_Exec := v0.U.Stop
 (if 0 ≤ v27 ∧ v27 < ((List.length v34 : Nat) : Int) then (v34)[(v27).toNat]? else none : Option api_Exec).bind fun v35 =>
 let v36 : api_Exec := v35
 let v37 : List ByteArray := v36.Words
 let v38 : Int := ((List.length v37 : Nat) : Int)
 loopS (A := Int × (List ByteArray) × Unit) (fun s39 =>
   let v39 : Int := s39.1
   let v40 : List ByteArray := s39.2.1
 let v41 : Bool := decide (v39 < v38)
 let v42 : Bool := v41
 if v41 = true then (
 let v43 : List ByteArray := v36.Words
 let v44 : Int := ((List.length v43 : Nat) : Int)
 let v45 : Bool := decide (v39 < v44)
 if v45 = true then (
 let v46 : List ByteArray := v36.Words
 (if 0 ≤ v39 ∧ v39 < ((List.length v46 : Nat) : Int) then (v46)[(v39).toNat]? else none : Option ByteArray).bind fun v47 =>
 let v48 : ByteArray := v47
 let v49 : List ByteArray := [v48]
 (if List.length v40 + List.length v49 ≤ 9223372036854775807 ∧ (List.length v40 + List.length v49) * 16 ≤ 140737488355328 then some (v40 ++ v49) else none : Option (List ByteArray)).bind fun v50 =>
 let v51 : Int := IntKind.i64.wrap (v39 + (1 : Int))
 some (Sum.inl (v51, v50, ())))
 else (
 (if List.length v40 + List.length ([(⟨#[]⟩ : ByteArray)] : List ByteArray) ≤ 9223372036854775807 ∧ (List.length v40 + List.length ([(⟨#[]⟩ : ByteArray)] : List ByteArray)) * 16 ≤ 140737488355328 then some (v40 ++ ([(⟨#[]⟩ : ByteArray)] : List ByteArray)) else none : Option (List ByteArray)).bind fun v46 =>
 let v47 : Int := IntKind.i64.wrap (v39 + (1 : Int))
 some (Sum.inl (v47, v46, ()))))
 else (
 (basis_CellOf_e7 v27 v28 v36 v40).bind fun r => some (Sum.inr r))
   ) ((0 : Int), ([] : List ByteArray), ()))
 else (
 loopS (A := Int × (List ByteArray) × Unit) (fun s34 =>
   let v34 : Int := s34.1
   let v35 : List ByteArray := s34.2.1
 let v36 : Bool := decide (v34 < (0 : Int))
 let v37 : Bool := v36
 if v36 = true then (
 let v38 : Bool := decide (v34 < (0 : Int))
 if v38 = true then (
 (if 0 ≤ v34 ∧ v34 < ((List.length ([] : List ByteArray) : Nat) : Int) then (([] : List ByteArray))[(v34).toNat]? else none : Option ByteArray).bind fun v39 =>
 let v40 : ByteArray := v39
 let v41 : List ByteArray := [v40]
 (if List.length v35 + List.length v41 ≤ 9223372036854775807 ∧ (List.length v35 + List.length v41) * 16 ≤ 140737488355328 then some (v35 ++ v41) else none : Option (List ByteArray)).bind fun v42 =>
 let v43 : Int := IntKind.i64.wrap (v34 + (1 : Int))
 some (Sum.inl (v43, v42, ())))
 else (
 (if List.length v35 + List.length ([(⟨#[]⟩ : ByteArray)] : List ByteArray) ≤ 9223372036854775807 ∧ (List.length v35 + List.length ([(⟨#[]⟩ : ByteArray)] : List ByteArray)) * 16 ≤ 140737488355328 then some (v35 ++ ([(⟨#[]⟩ : ByteArray)] : List ByteArray)) else none : Option (List ByteArray)).bind fun v39 =>
 let v40 : Int := IntKind.i64.wrap (v34 + (1 : Int))
 some (Sum.inl (v40, v39, ()))))
 else (
 (basis_CellOf_e8 v27 v28 v35).bind fun r => some (Sum.inr r))
   ) ((0 : Int), ([] : List ByteArray), ())))
 else (
 (basis_CellOf_e27 v0 v4 v10 v16 v22 v28).bind fun r => some (Sum.inr r))
   ) ((0 : Int), ([] : List api_Exec), ())
noncomputable def basis_CellOf_e29 (v0 : api_Cell) (v4 : List api_Rel) (v10 : List api_Exec) (v16 : List api_Exec) : Option (api_Cell × Unit) :=
 let v19 : List api_Exec := v0.U.Post
 let v20 : Int := ((List.length v19 : Nat) : Int)
 loopS (A := Int × (List api_Exec) × Unit) (fun s21 =>
   let v21 : Int := s21.1
   let v22 : List api_Exec := s21.2.1
 let v23 : Bool := decide (v21 < v20)
 let v24 : Bool := v23
 if v23 = true then (
 let v25 : List api_Exec := v0.U.Post
 let v26 : Int := ((List.length v25 : Nat) : Int)
 let v27 : Bool := decide (v21 < v26)
 if v27 = true then (
 let v28 : List api_Exec := v0.U.Post
 (if 0 ≤ v21 ∧ v21 < ((List.length v28 : Nat) : Int) then (v28)[(v21).toNat]? else none : Option api_Exec).bind fun v29 =>
 let v30 : api_Exec := v29
 let v31 : List ByteArray := v30.Words
 let v32 : Int := ((List.length v31 : Nat) : Int)
 loopS (A := Int × (List ByteArray) × Unit) (fun s33 =>
   let v33 : Int := s33.1
   let v34 : List ByteArray := s33.2.1
 let v35 : Bool := decide (v33 < v32)
 let v36 : Bool := v35
 if v35 = true then (
 let v37 : List ByteArray := v30.Words
 let v38 : Int := ((List.length v37 : Nat) : Int)
 let v39 : Bool := decide (v33 < v38)
 if v39 = true then (
 let v40 : List ByteArray := v30.Words
 (if 0 ≤ v33 ∧ v33 < ((List.length v40 : Nat) : Int) then (v40)[(v33).toNat]? else none : Option ByteArray).bind fun v41 =>
 let v42 : ByteArray := v41
 let v43 : List ByteArray := [v42]
 (if List.length v34 + List.length v43 ≤ 9223372036854775807 ∧ (List.length v34 + List.length v43) * 16 ≤ 140737488355328 then some (v34 ++ v43) else none : Option (List ByteArray)).bind fun v44 =>
 let v45 : Int := IntKind.i64.wrap (v33 + (1 : Int))
 some (Sum.inl (v45, v44, ())))
 else (
 (if List.length v34 + List.length ([(⟨#[]⟩ : ByteArray)] : List ByteArray) ≤ 9223372036854775807 ∧ (List.length v34 + List.length ([(⟨#[]⟩ : ByteArray)] : List ByteArray)) * 16 ≤ 140737488355328 then some (v34 ++ ([(⟨#[]⟩ : ByteArray)] : List ByteArray)) else none : Option (List ByteArray)).bind fun v40 =>
 let v41 : Int := IntKind.i64.wrap (v33 + (1 : Int))
 some (Sum.inl (v41, v40, ()))))
 else (
 (basis_CellOf_e5 v21 v22 v30 v34).bind fun r => some (Sum.inr r))
   ) ((0 : Int), ([] : List ByteArray), ()))
 else (
 loopS (A := Int × (List ByteArray) × Unit) (fun s28 =>
   let v28 : Int := s28.1
   let v29 : List ByteArray := s28.2.1
 let v30 : Bool := decide (v28 < (0 : Int))
 let v31 : Bool := v30
 if v30 = true then (
 let v32 : Bool := decide (v28 < (0 : Int))
 if v32 = true then (
 (if 0 ≤ v28 ∧ v28 < ((List.length ([] : List ByteArray) : Nat) : Int) then (([] : List ByteArray))[(v28).toNat]? else none : Option ByteArray).bind fun v33 =>
 let v34 : ByteArray := v33
 let v35 : List ByteArray := [v34]
 (if List.length v29 + List.length v35 ≤ 9223372036854775807 ∧ (List.length v29 + List.length v35) * 16 ≤ 140737488355328 then some (v29 ++ v35) else none : Option (List ByteArray)).bind fun v36 =>
 let v37 : Int := IntKind.i64.wrap (v28 + (1 : Int))
 some (Sum.inl (v37, v36, ())))
 else (
 (if List.length v29 + List.length ([(⟨#[]⟩ : ByteArray)] : List ByteArray) ≤ 9223372036854775807 ∧ (List.length v29 + List.length ([(⟨#[]⟩ : ByteArray)] : List ByteArray)) * 16 ≤ 140737488355328 then some (v29 ++ ([(⟨#[]⟩ : ByteArray)] : List ByteArray)) else none : Option (List ByteArray)).bind fun v33 =>
 let v34 : Int := IntKind.i64.wrap (v28 + (1 : Int))
 some (Sum.inl (v34, v33, ()))))
 else (
 (basis_CellOf_e6 v21 v22 v29).bind fun r => some (Sum.inr r))
   ) ((0 : Int), ([] : List ByteArray), ())))
 else (
 (basis_CellOf_e28 v0 v4 v10 v16 v22).bind fun r => some (Sum.inr r))
   ) ((0 : Int), ([] : List api_Exec), ())
noncomputable def basis_CellOf_e30 (v0 : api_Cell) (v4 : List api_Rel) (v10 : List api_Exec) : Option (api_Cell × Unit) :=
 let v13 : List api_Exec := v0.U.Start
 let v14 : Int := ((List.length v13 : Nat) : Int)
 loopS (A := Int × (List api_Exec) × Unit) (fun s15 =>
   let v15 : Int := s15.1
   let v16 : List api_Exec := s15.2.1
 let v17 : Bool := decide (v15 < v14)
 let v18 : Bool := v17
 if v17 = true then (
 let v19 : List api_Exec := v0.U.Start
 let v20 : Int := ((List.length v19 : Nat) : Int)
 let v21 : Bool := decide (v15 < v20)
 if v21 = true then (
 let v22 : List api_Exec := v0.U.Start
 (if 0 ≤ v15 ∧ v15 < ((List.length v22 : Nat) : Int) then (v22)[(v15).toNat]? else none : Option api_Exec).bind fun v23 =>
 let v24 : api_Exec := v23
 let v25 : List ByteArray := v24.Words
 let v26 : Int := ((List.length v25 : Nat) : Int)
 loopS (A := Int × (List ByteArray) × Unit) (fun s27 =>
   let v27 : Int := s27.1
   let v28 : List ByteArray := s27.2.1
 let v29 : Bool := decide (v27 < v26)
 let v30 : Bool := v29
 if v29 = true then (
 let v31 : List ByteArray := v24.Words
 let v32 : Int := ((List.length v31 : Nat) : Int)
 let v33 : Bool := decide (v27 < v32)
 if v33 = true then (
 let v34 : List ByteArray := v24.Words
 (if 0 ≤ v27 ∧ v27 < ((List.length v34 : Nat) : Int) then (v34)[(v27).toNat]? else none : Option ByteArray).bind fun v35 =>
 let v36 : ByteArray := v35
 let v37 : List ByteArray := [v36]
 (if List.length v28 + List.length v37 ≤ 9223372036854775807 ∧ (List.length v28 + List.length v37) * 16 ≤ 140737488355328 then some (v28 ++ v37) else none : Option (List ByteArray)).bind fun v38 =>
 let v39 : Int := IntKind.i64.wrap (v27 + (1 : Int))
 some (Sum.inl (v39, v38, ())))
 else (
 (if List.length v28 + List.length ([(⟨#[]⟩ : ByteArray)] : List ByteArray) ≤ 9223372036854775807 ∧ (List.length v28 + List.length ([(⟨#[]⟩ : ByteArray)] : List ByteArray)) * 16 ≤ 140737488355328 then some (v28 ++ ([(⟨#[]⟩ : ByteArray)] : List ByteArray)) else none : Option (List ByteArray)).bind fun v34 =>
 let v35 : Int := IntKind.i64.wrap (v27 + (1 : Int))
 some (Sum.inl (v35, v34, ()))))
 else (
 (basis_CellOf_e3 v15 v16 v24 v28).bind fun r => some (Sum.inr r))
   ) ((0 : Int), ([] : List ByteArray), ()))
 else (
 loopS (A := Int × (List ByteArray) × Unit) (fun s22 =>
   let v22 : Int := s22.1
   let v23 : List ByteArray := s22.2.1
 let v24 : Bool := decide (v22 < (0 : Int))
 let v25 : Bool := v24
 if v24 = true then (
 let v26 : Bool := decide (v22 < (0 : Int))
 if v26 = true then (
 (if 0 ≤ v22 ∧ v22 < ((List.length ([] : List ByteArray) : Nat) : Int) then (([] : List ByteArray))[(v22).toNat]? else none : Option ByteArray).bind fun v27 =>
 let v28 : ByteArray := v27
 let v29 : List ByteArray := [v28]
 (if List.length v23 + List.length v29 ≤ 9223372036854775807 ∧ (List.length v23 + List.length v29) * 16 ≤ 140737488355328 then some (v23 ++ v29) else none : Option (List ByteArray)).bind fun v30 =>
 let v31 : Int := IntKind.i64.wrap (v22 + (1 : Int))
 some (Sum.inl (v31, v30, ())))
 else (
 (if List.length v23 + List.length ([(⟨#[]⟩ : ByteArray)] : List ByteArray) ≤ 9223372036854775807 ∧ (List.length v23 + List.length ([(⟨#[]⟩ : ByteArray)] : List ByteArray)) * 16 ≤ 140737488355328 then some (v23 ++ ([(⟨#[]⟩ : ByteArray)] : List ByteArray)) else none : Option (List ByteArray)).bind fun v27 =>
 let v28 : Int := IntKind.i64.wrap (v22 + (1 : Int))
 some (Sum.inl (v28, v27, ()))))
 else (
 (basis_CellOf_e4 v15 v16 v23).bind fun r => some (Sum.inr r))
   ) ((0 : Int), ([] : List ByteArray), ())))
 else (
 (basis_CellOf_e29 v0 v4 v10 v16).bind fun r => some (Sum.inr r))
   ) ((0 : Int), ([] : List api_Exec), ())
noncomputable def basis_CellOf_e31 (v0 : api_Cell) (v4 : List api_Rel) : Option (api_Cell × Unit) :=
 let v7 : List api_Exec := v0.U.Pre
 let v8 : Int := ((List.length v7 : Nat) : Int)
 loopS (A := Int × (List api_Exec) × Unit) (fun s9 =>
   let v9 : Int := s9.1
   let v10 : List api_Exec := s9.2.1
 let v11 : Bool := decide (v9 < v8)
 let v12 : Bool := v11
 if v11 = true then (
 let v13 : List api_Exec := v0.U.Pre
 let v14 : Int := ((List.length v13 : Nat) : Int)
 let v15 : Bool := decide (v9 < v14)
 if v15 = true then (
 let v16 : List api_Exec := v0.U.Pre
 (if 0 ≤ v9 ∧ v9 < ((List.length v16 : Nat) : Int) then (v16)[(v9).toNat]? else none : Option api_Exec).bind fun v17 =>
 let v18 : api_Exec := v17
 let v19 : List ByteArray := v18.Words
 let v20 : Int := ((List.length v19 : Nat) : Int)
 loopS (A := Int × (List ByteArray) × Unit) (fun s21 =>
   let v21 : Int := s21.1
   let v22 : List ByteArray := s21.2.1
 let v23 : Bool := decide (v21 < v20)
 let v24 : Bool := v23
 if v23 = true then (
 let v25 : List ByteArray := v18.Words
 let v26 : Int := ((List.length v25 : Nat) : Int)
 let v27 : Bool := decide (v21 < v26)
 if v27 = true then (
 let v28 : List ByteArray := v18.Words
 (if 0 ≤ v21 ∧ v21 < ((List.length v28 : Nat) : Int) then (v28)[(v21).toNat]? else none : Option ByteArray).bind fun v29 =>
 let v30 : ByteArray := v29
 let v31 : List ByteArray := [v30]
 (if List.length v22 + List.length v31 ≤ 9223372036854775807 ∧ (List.length v22 + List.length v31) * 16 ≤ 140737488355328 then some (v22 ++ v31) else none : Option (List ByteArray)).bind fun v32 =>
 let v33 : Int := IntKind.i64.wrap (v21 + (1 : Int))
 some (Sum.inl (v33, v32, ())))
 else (
 (if List.length v22 + List.length ([(⟨#[]⟩ : ByteArray)] : List ByteArray) ≤ 9223372036854775807 ∧ (List.length v22 + List.length ([(⟨#[]⟩ : ByteArray)] : List ByteArray)) * 16 ≤ 140737488355328 then some (v22 ++ ([(⟨#[]⟩ : ByteArray)] : List ByteArray)) else none : Option (List ByteArray)).bind fun v28 =>
 let v29 : Int := IntKind.i64.wrap (v21 + (1 : Int))
 some (Sum.inl (v29, v28, ()))))
 else (
 (basis_CellOf_e1 v9 v10 v18 v22).bind fun r => some (Sum.inr r))
   ) ((0 : Int), ([] : List ByteArray), ()))
 else (
 loopS (A := Int × (List ByteArray) × Unit) (fun s16 =>
   let v16 : Int := s16.1
   let v17 : List ByteArray := s16.2.1
 let v18 : Bool := decide (v16 < (0 : Int))
 let v19 : Bool := v18
 if v18 = true then (
 let v20 : Bool := decide (v16 < (0 : Int))
 if v20 = true then (
 (if 0 ≤ v16 ∧ v16 < ((List.length ([] : List ByteArray) : Nat) : Int) then (([] : List ByteArray))[(v16).toNat]? else none : Option ByteArray).bind fun v21 =>
 let v22 : ByteArray := v21
 let v23 : List ByteArray := [v22]
 (if List.length v17 + List.length v23 ≤ 9223372036854775807 ∧ (List.length v17 + List.length v23) * 16 ≤ 140737488355328 then some (v17 ++ v23) else none : Option (List ByteArray)).bind fun v24 =>
 let v25 : Int := IntKind.i64.wrap (v16 + (1 : Int))
 some (Sum.inl (v25, v24, ())))
 else (
 (if List.length v17 + List.length ([(⟨#[]⟩ : ByteArray)] : List ByteArray) ≤ 9223372036854775807 ∧ (List.length v17 + List.length ([(⟨#[]⟩ : ByteArray)] : List ByteArray)) * 16 ≤ 140737488355328 then some (v17 ++ ([(⟨#[]⟩ : ByteArray)] : List ByteArray)) else none : Option (List ByteArray)).bind fun v21 =>
 let v22 : Int := IntKind.i64.wrap (v16 + (1 : Int))
 some (Sum.inl (v22, v21, ()))))
 else (
 (basis_CellOf_e2 v9 v10 v17).bind fun r => some (Sum.inr r))
   ) ((0 : Int), ([] : List ByteArray), ())))
 else (
 (basis_CellOf_e30 v0 v4 v10).bind fun r => some (Sum.inr r))
   ) ((0 : Int), ([] : List api_Exec), ())
noncomputable def basis_CellOf (v0 : api_Cell) : Option (api_Cell × Unit) :=
 let v1 : List api_Rel := v0.U.Rels
 let v2 : Int := ((List.length v1 : Nat) : Int)
 loopS (A := Int × (List api_Rel) × Unit) (fun s3 =>
   let v3 : Int := s3.1
   let v4 : List api_Rel := s3.2.1
 let v5 : Bool := decide (v3 < v2)
 let v6 : Bool := v5
 if v5 = true then (
 let v7 : List api_Rel := v0.U.Rels
 let v8 : Int := ((List.length v7 : Nat) : Int)
 let v9 : Bool := decide (v3 < v8)
 if v9 = true then (
 let v10 : List api_Rel := v0.U.Rels
 (if 0 ≤ v3 ∧ v3 < ((List.length v10 : Nat) : Int) then (v10)[(v3).toNat]? else none : Option api_Rel).bind fun v11 =>
 let v12 : api_Rel := v11
 let v13 : List api_Rel := [v12]
 (if List.length v4 + List.length v13 ≤ 9223372036854775807 ∧ (List.length v4 + List.length v13) * 24 ≤ 140737488355328 then some (v4 ++ v13) else none : Option (List api_Rel)).bind fun v14 =>
 let v15 : Int := IntKind.i64.wrap (v3 + (1 : Int))
 some (Sum.inl (v15, v14, ())))
 else (
 (if List.length v4 + List.length ([(⟨(0 : Int), (⟨#[]⟩ : ByteArray)⟩ : api_Rel)] : List api_Rel) ≤ 9223372036854775807 ∧ (List.length v4 + List.length ([(⟨(0 : Int), (⟨#[]⟩ : ByteArray)⟩ : api_Rel)] : List api_Rel)) * 24 ≤ 140737488355328 then some (v4 ++ ([(⟨(0 : Int), (⟨#[]⟩ : ByteArray)⟩ : api_Rel)] : List api_Rel)) else none : Option (List api_Rel)).bind fun v10 =>
 let v11 : Int := IntKind.i64.wrap (v3 + (1 : Int))
 some (Sum.inl (v11, v10, ()))))
 else (
 (basis_CellOf_e31 v0 v4).bind fun r => some (Sum.inr r))
   ) ((0 : Int), ([] : List api_Rel), ())
def l40 : Ch := (40, ⟨[.agg (.v 0) 62 (.g 0 0) []], ⟨1, [], 1, 1, [], [], [], []⟩, ⟨[0], [], [], [], [], 0⟩, [(0, ⟨none, .agg (.c []) 62 .d []⟩)], false⟩, [(11801, ⟨[], [], [], [], [], 12⟩), (11901, ⟨[], [], [], [], [], 12⟩), (15801, ⟨[], [], [], [], [], 12⟩), (16101, ⟨[], [], [], [], [], 12⟩), (15603, ⟨[8, 7], [], [(7, 162)], [], [], 0⟩), (19403, ⟨[8, 7], [], [(7, 9)], [], [], 0⟩), (19203, ⟨[8, 7], [], [(7, 158)], [], [], 0⟩), (16503, ⟨[8, 7], [], [(7, 3)], [], [], 0⟩), (15903, ⟨[8, 7], [], [(7, 160)], [], [], 0⟩), (12103, ⟨[8, 7], [], [(7, 105)], [], [], 0⟩)]) :: l187
noncomputable def t40 : List (Nat × TC U) := (40, ⟨[.st 33], [.st 33], fun (a : api_Cell × Unit) => basis_CellOf a.1⟩) :: t187
theorem c40 : Chain Tryz.prog U tab base l40 t40 := Chain.cons tb cfok c187 1 rfl rfl rfl (hs := [⟨.li (.st 162), ([] : List api_Rel)⟩, ⟨.li (.st 162), ([(⟨(0 : Int), (⟨#[]⟩ : ByteArray)⟩ : api_Rel)] : List api_Rel)⟩, ⟨.li (.st 158), ([] : List api_Exec)⟩, ⟨.li (.str), ([] : List ByteArray)⟩, ⟨.li (.str), ([(⟨#[]⟩ : ByteArray)] : List ByteArray)⟩, ⟨.li (.str), ([] : List ByteArray)⟩, ⟨.li (.str), ([] : List ByteArray)⟩, ⟨.li (.str), ([(⟨#[]⟩ : ByteArray)] : List ByteArray)⟩, ⟨.st 158, ((⟨false, []⟩ : api_Exec) : api_Exec)⟩, ⟨.li (.st 158), ([] : List api_Exec)⟩, ⟨.li (.str), ([] : List ByteArray)⟩, ⟨.li (.str), ([(⟨#[]⟩ : ByteArray)] : List ByteArray)⟩, ⟨.li (.str), ([] : List ByteArray)⟩, ⟨.li (.str), ([] : List ByteArray)⟩, ⟨.li (.str), ([(⟨#[]⟩ : ByteArray)] : List ByteArray)⟩, ⟨.st 158, ((⟨false, []⟩ : api_Exec) : api_Exec)⟩, ⟨.li (.st 158), ([] : List api_Exec)⟩, ⟨.li (.str), ([] : List ByteArray)⟩, ⟨.li (.str), ([(⟨#[]⟩ : ByteArray)] : List ByteArray)⟩, ⟨.li (.str), ([] : List ByteArray)⟩, ⟨.li (.str), ([] : List ByteArray)⟩, ⟨.li (.str), ([(⟨#[]⟩ : ByteArray)] : List ByteArray)⟩, ⟨.st 158, ((⟨false, []⟩ : api_Exec) : api_Exec)⟩, ⟨.li (.st 158), ([] : List api_Exec)⟩, ⟨.li (.str), ([] : List ByteArray)⟩, ⟨.li (.str), ([(⟨#[]⟩ : ByteArray)] : List ByteArray)⟩, ⟨.li (.str), ([] : List ByteArray)⟩, ⟨.li (.str), ([] : List ByteArray)⟩, ⟨.li (.str), ([(⟨#[]⟩ : ByteArray)] : List ByteArray)⟩, ⟨.st 158, ((⟨false, []⟩ : api_Exec) : api_Exec)⟩, ⟨.li (.st 158), ([] : List api_Exec)⟩, ⟨.li (.str), ([] : List ByteArray)⟩, ⟨.li (.str), ([(⟨#[]⟩ : ByteArray)] : List ByteArray)⟩, ⟨.li (.str), ([] : List ByteArray)⟩, ⟨.li (.str), ([] : List ByteArray)⟩, ⟨.li (.str), ([(⟨#[]⟩ : ByteArray)] : List ByteArray)⟩, ⟨.st 158, ((⟨false, []⟩ : api_Exec) : api_Exec)⟩, ⟨.li (.ik .i64), ([] : List Int)⟩, ⟨.li (.ik .i64), ([(0 : Int)] : List Int)⟩, ⟨.li (.st 160), ([] : List api_Pair)⟩, ⟨.li (.st 160), ([(⟨(⟨#[]⟩ : ByteArray), (⟨#[]⟩ : ByteArray)⟩ : api_Pair)] : List api_Pair)⟩, ⟨.li (.str), ([] : List ByteArray)⟩, ⟨.li (.str), ([(⟨#[]⟩ : ByteArray)] : List ByteArray)⟩, ⟨.li (.ik .i64), ([] : List Int)⟩, ⟨.li (.ik .i64), ([(0 : Int)] : List Int)⟩, ⟨.li (.ik .i64), ([] : List Int)⟩, ⟨.li (.ik .i64), ([(0 : Int)] : List Int)⟩, ⟨.li (.ik .i64), ([] : List Int)⟩, ⟨.li (.ik .i64), ([(0 : Int)] : List Int)⟩, ⟨.li (.ik .i64), ([] : List Int)⟩, ⟨.li (.ik .i64), ([(0 : Int)] : List Int)⟩, ⟨.li (.str), ([] : List ByteArray)⟩, ⟨.li (.str), ([(⟨#[]⟩ : ByteArray)] : List ByteArray)⟩, ⟨.li (.str), ([] : List ByteArray)⟩, ⟨.li (.str), ([(⟨#[]⟩ : ByteArray)] : List ByteArray)⟩, ⟨.li (.str), ([] : List ByteArray)⟩, ⟨.li (.str), ([(⟨#[]⟩ : ByteArray)] : List ByteArray)⟩, ⟨.li (.str), ([] : List ByteArray)⟩, ⟨.li (.str), ([(⟨#[]⟩ : ByteArray)] : List ByteArray)⟩, ⟨.li (.str), ([] : List ByteArray)⟩, ⟨.li (.str), ([(⟨#[]⟩ : ByteArray)] : List ByteArray)⟩, ⟨.li (.ik .i64), ([] : List Int)⟩, ⟨.li (.ik .i64), ([(0 : Int)] : List Int)⟩, ⟨.li (.st 105), ([] : List api_Conn)⟩, ⟨.li (.st 105), ([(⟨(⟨#[]⟩ : ByteArray), (0 : Int), (0 : Int), (0 : Int), (0 : Int)⟩ : api_Conn)] : List api_Conn)⟩, ⟨.li (.st 105), ([] : List api_Conn)⟩, ⟨.li (.st 105), ([(⟨(⟨#[]⟩ : ByteArray), (0 : Int), (0 : Int), (0 : Int), (0 : Int)⟩ : api_Conn)] : List api_Conn)⟩])
 (fun (e : api_Cell × Unit) => basis_CellOf e.1) (by kernel_rfl) (fun _ => rfl)
noncomputable def basis_UnitOf_e1 (v9 : Int) (v10 : List api_Exec) (v18 : api_Exec) (v22 : List ByteArray) : Option ((Int × (List api_Exec) × Unit) ⊕ (api_Unit × Unit)) :=
 let v25 : api_Exec := { v18 with Words := v22 }
 let v26 : List api_Exec := [v25]
 (if List.length v10 + List.length v26 ≤ 9223372036854775807 ∧ (List.length v10 + List.length v26) * 32 ≤ 140737488355328 then some (v10 ++ v26) else none : Option (List api_Exec)).bind fun v27 =>
 let v28 : Int := IntKind.i64.wrap (v9 + (1 : Int))
 some (Sum.inl (v28, v27, ()))
noncomputable def basis_UnitOf_e2 (v9 : Int) (v10 : List api_Exec) (v17 : List ByteArray) : Option ((Int × (List api_Exec) × Unit) ⊕ (api_Unit × Unit)) :=
 let v20 : api_Exec := { (⟨false, []⟩ : api_Exec) with Words := v17 }
 let v21 : List api_Exec := [v20]
 (if List.length v10 + List.length v21 ≤ 9223372036854775807 ∧ (List.length v10 + List.length v21) * 32 ≤ 140737488355328 then some (v10 ++ v21) else none : Option (List api_Exec)).bind fun v22 =>
 let v23 : Int := IntKind.i64.wrap (v9 + (1 : Int))
 some (Sum.inl (v23, v22, ()))
noncomputable def basis_UnitOf_e3 (v15 : Int) (v16 : List api_Exec) (v24 : api_Exec) (v28 : List ByteArray) : Option ((Int × (List api_Exec) × Unit) ⊕ (api_Unit × Unit)) :=
 let v31 : api_Exec := { v24 with Words := v28 }
 let v32 : List api_Exec := [v31]
 (if List.length v16 + List.length v32 ≤ 9223372036854775807 ∧ (List.length v16 + List.length v32) * 32 ≤ 140737488355328 then some (v16 ++ v32) else none : Option (List api_Exec)).bind fun v33 =>
 let v34 : Int := IntKind.i64.wrap (v15 + (1 : Int))
 some (Sum.inl (v34, v33, ()))
noncomputable def basis_UnitOf_e4 (v15 : Int) (v16 : List api_Exec) (v23 : List ByteArray) : Option ((Int × (List api_Exec) × Unit) ⊕ (api_Unit × Unit)) :=
 let v26 : api_Exec := { (⟨false, []⟩ : api_Exec) with Words := v23 }
 let v27 : List api_Exec := [v26]
 (if List.length v16 + List.length v27 ≤ 9223372036854775807 ∧ (List.length v16 + List.length v27) * 32 ≤ 140737488355328 then some (v16 ++ v27) else none : Option (List api_Exec)).bind fun v28 =>
 let v29 : Int := IntKind.i64.wrap (v15 + (1 : Int))
 some (Sum.inl (v29, v28, ()))
noncomputable def basis_UnitOf_e5 (v21 : Int) (v22 : List api_Exec) (v30 : api_Exec) (v34 : List ByteArray) : Option ((Int × (List api_Exec) × Unit) ⊕ (api_Unit × Unit)) :=
 let v37 : api_Exec := { v30 with Words := v34 }
 let v38 : List api_Exec := [v37]
 (if List.length v22 + List.length v38 ≤ 9223372036854775807 ∧ (List.length v22 + List.length v38) * 32 ≤ 140737488355328 then some (v22 ++ v38) else none : Option (List api_Exec)).bind fun v39 =>
 let v40 : Int := IntKind.i64.wrap (v21 + (1 : Int))
 some (Sum.inl (v40, v39, ()))
noncomputable def basis_UnitOf_e6 (v21 : Int) (v22 : List api_Exec) (v29 : List ByteArray) : Option ((Int × (List api_Exec) × Unit) ⊕ (api_Unit × Unit)) :=
 let v32 : api_Exec := { (⟨false, []⟩ : api_Exec) with Words := v29 }
 let v33 : List api_Exec := [v32]
 (if List.length v22 + List.length v33 ≤ 9223372036854775807 ∧ (List.length v22 + List.length v33) * 32 ≤ 140737488355328 then some (v22 ++ v33) else none : Option (List api_Exec)).bind fun v34 =>
 let v35 : Int := IntKind.i64.wrap (v21 + (1 : Int))
 some (Sum.inl (v35, v34, ()))
noncomputable def basis_UnitOf_e7 (v27 : Int) (v28 : List api_Exec) (v36 : api_Exec) (v40 : List ByteArray) : Option ((Int × (List api_Exec) × Unit) ⊕ (api_Unit × Unit)) :=
 let v43 : api_Exec := { v36 with Words := v40 }
 let v44 : List api_Exec := [v43]
 (if List.length v28 + List.length v44 ≤ 9223372036854775807 ∧ (List.length v28 + List.length v44) * 32 ≤ 140737488355328 then some (v28 ++ v44) else none : Option (List api_Exec)).bind fun v45 =>
 let v46 : Int := IntKind.i64.wrap (v27 + (1 : Int))
 some (Sum.inl (v46, v45, ()))
noncomputable def basis_UnitOf_e8 (v27 : Int) (v28 : List api_Exec) (v35 : List ByteArray) : Option ((Int × (List api_Exec) × Unit) ⊕ (api_Unit × Unit)) :=
 let v38 : api_Exec := { (⟨false, []⟩ : api_Exec) with Words := v35 }
 let v39 : List api_Exec := [v38]
 (if List.length v28 + List.length v39 ≤ 9223372036854775807 ∧ (List.length v28 + List.length v39) * 32 ≤ 140737488355328 then some (v28 ++ v39) else none : Option (List api_Exec)).bind fun v40 =>
 let v41 : Int := IntKind.i64.wrap (v27 + (1 : Int))
 some (Sum.inl (v41, v40, ()))
noncomputable def basis_UnitOf_e9 (v33 : Int) (v34 : List api_Exec) (v42 : api_Exec) (v46 : List ByteArray) : Option ((Int × (List api_Exec) × Unit) ⊕ (api_Unit × Unit)) :=
 let v49 : api_Exec := { v42 with Words := v46 }
 let v50 : List api_Exec := [v49]
 (if List.length v34 + List.length v50 ≤ 9223372036854775807 ∧ (List.length v34 + List.length v50) * 32 ≤ 140737488355328 then some (v34 ++ v50) else none : Option (List api_Exec)).bind fun v51 =>
 let v52 : Int := IntKind.i64.wrap (v33 + (1 : Int))
 some (Sum.inl (v52, v51, ()))
noncomputable def basis_UnitOf_e10 (v33 : Int) (v34 : List api_Exec) (v41 : List ByteArray) : Option ((Int × (List api_Exec) × Unit) ⊕ (api_Unit × Unit)) :=
 let v44 : api_Exec := { (⟨false, []⟩ : api_Exec) with Words := v41 }
 let v45 : List api_Exec := [v44]
 (if List.length v34 + List.length v45 ≤ 9223372036854775807 ∧ (List.length v34 + List.length v45) * 32 ≤ 140737488355328 then some (v34 ++ v45) else none : Option (List api_Exec)).bind fun v46 =>
 let v47 : Int := IntKind.i64.wrap (v33 + (1 : Int))
 some (Sum.inl (v47, v46, ()))
noncomputable def basis_UnitOf_e11 (v0 : api_Unit) (v4 : List api_Rel) (v10 : List api_Exec) (v16 : List api_Exec) (v22 : List api_Exec) (v28 : List api_Exec) (v34 : List api_Exec) (v40 : List Int) (v46 : List api_Pair) (v52 : List ByteArray) (v58 : List Int) (v64 : List Int) (v70 : List Int) (v76 : List Int) (v82 : List ByteArray) (v88 : List ByteArray) (v94 : List ByteArray) (v100 : List ByteArray) (v106 : List ByteArray) : Option (api_Unit × Unit) :=
 let v109 : api_Unit := { v0 with Rels := v4 }
 let v110 : api_Unit := { v109 with Pre := v10 }
 let v111 : api_Unit := { v110 with Start := v16 }
 let v112 : api_Unit := { v111 with Post := v22 }
 let v113 : api_Unit := { v112 with Stop := v28 }
 let v114 : api_Unit := { v113 with Reload := v34 }
 let v115 : api_Unit := { v114 with Success := v40 }
 let v116 : api_Unit := { v115 with Env := v46 }
 let v117 : api_Unit := { v116 with Sockets := v52 }
 let v118 : api_Unit := { v117 with Ports := v58 }
 let v119 : api_Unit := { v118 with Boot := v64 }
 let v120 : api_Unit := { v119 with Active := v70 }
 let v121 : api_Unit := { v120 with Idle := v76 }
 let v122 : api_Unit := { v121 with Calendar := v82 }
 let v123 : api_Unit := { v122 with WantedBy := v88 }
 let v124 : api_Unit := { v123 with RequiredBy := v94 }
 let v125 : api_Unit := { v124 with Alias := v100 }
 let v126 : api_Unit := { v125 with Also := v106 }
 some (v126, ())
noncomputable def basis_UnitOf_e12 (v0 : api_Unit) (v4 : List api_Rel) (v10 : List api_Exec) (v16 : List api_Exec) (v22 : List api_Exec) (v28 : List api_Exec) (v34 : List api_Exec) (v40 : List Int) (v46 : List api_Pair) (v52 : List ByteArray) (v58 : List Int) (v64 : List Int) (v70 : List Int) (v76 : List Int) (v82 : List ByteArray) (v88 : List ByteArray) (v94 : List ByteArray) (v100 : List ByteArray) : Option (api_Unit × Unit) :=
 let v103 : List ByteArray := v0.Also
 let v104 : Int := ((List.length v103 : Nat) : Int)
 loopS (A := Int × (List ByteArray) × Unit) (fun s105 =>
   let v105 : Int := s105.1
   let v106 : List ByteArray := s105.2.1
 let v107 : Bool := decide (v105 < v104)
 let v108 : Bool := v107
 if v107 = true then (
 let v109 : List ByteArray := v0.Also
 let v110 : Int := ((List.length v109 : Nat) : Int)
 let v111 : Bool := decide (v105 < v110)
 if v111 = true then (
 let v112 : List ByteArray := v0.Also
 (if 0 ≤ v105 ∧ v105 < ((List.length v112 : Nat) : Int) then (v112)[(v105).toNat]? else none : Option ByteArray).bind fun v113 =>
 let v114 : ByteArray := v113
 let v115 : List ByteArray := [v114]
 (if List.length v106 + List.length v115 ≤ 9223372036854775807 ∧ (List.length v106 + List.length v115) * 16 ≤ 140737488355328 then some (v106 ++ v115) else none : Option (List ByteArray)).bind fun v116 =>
 let v117 : Int := IntKind.i64.wrap (v105 + (1 : Int))
 some (Sum.inl (v117, v116, ())))
 else (
 (if List.length v106 + List.length ([(⟨#[]⟩ : ByteArray)] : List ByteArray) ≤ 9223372036854775807 ∧ (List.length v106 + List.length ([(⟨#[]⟩ : ByteArray)] : List ByteArray)) * 16 ≤ 140737488355328 then some (v106 ++ ([(⟨#[]⟩ : ByteArray)] : List ByteArray)) else none : Option (List ByteArray)).bind fun v112 =>
 let v113 : Int := IntKind.i64.wrap (v105 + (1 : Int))
 some (Sum.inl (v113, v112, ()))))
 else (
 (basis_UnitOf_e11 v0 v4 v10 v16 v22 v28 v34 v40 v46 v52 v58 v64 v70 v76 v82 v88 v94 v100 v106).bind fun r => some (Sum.inr r))
   ) ((0 : Int), ([] : List ByteArray), ())
noncomputable def basis_UnitOf_e13 (v0 : api_Unit) (v4 : List api_Rel) (v10 : List api_Exec) (v16 : List api_Exec) (v22 : List api_Exec) (v28 : List api_Exec) (v34 : List api_Exec) (v40 : List Int) (v46 : List api_Pair) (v52 : List ByteArray) (v58 : List Int) (v64 : List Int) (v70 : List Int) (v76 : List Int) (v82 : List ByteArray) (v88 : List ByteArray) (v94 : List ByteArray) : Option (api_Unit × Unit) :=
 let v97 : List ByteArray := v0.Alias
 let v98 : Int := ((List.length v97 : Nat) : Int)
 loopS (A := Int × (List ByteArray) × Unit) (fun s99 =>
   let v99 : Int := s99.1
   let v100 : List ByteArray := s99.2.1
 let v101 : Bool := decide (v99 < v98)
 let v102 : Bool := v101
 if v101 = true then (
 let v103 : List ByteArray := v0.Alias
 let v104 : Int := ((List.length v103 : Nat) : Int)
 let v105 : Bool := decide (v99 < v104)
 if v105 = true then (
 let v106 : List ByteArray := v0.Alias
 (if 0 ≤ v99 ∧ v99 < ((List.length v106 : Nat) : Int) then (v106)[(v99).toNat]? else none : Option ByteArray).bind fun v107 =>
 let v108 : ByteArray := v107
 let v109 : List ByteArray := [v108]
 (if List.length v100 + List.length v109 ≤ 9223372036854775807 ∧ (List.length v100 + List.length v109) * 16 ≤ 140737488355328 then some (v100 ++ v109) else none : Option (List ByteArray)).bind fun v110 =>
 let v111 : Int := IntKind.i64.wrap (v99 + (1 : Int))
 some (Sum.inl (v111, v110, ())))
 else (
 (if List.length v100 + List.length ([(⟨#[]⟩ : ByteArray)] : List ByteArray) ≤ 9223372036854775807 ∧ (List.length v100 + List.length ([(⟨#[]⟩ : ByteArray)] : List ByteArray)) * 16 ≤ 140737488355328 then some (v100 ++ ([(⟨#[]⟩ : ByteArray)] : List ByteArray)) else none : Option (List ByteArray)).bind fun v106 =>
 let v107 : Int := IntKind.i64.wrap (v99 + (1 : Int))
 some (Sum.inl (v107, v106, ()))))
 else (
 (basis_UnitOf_e12 v0 v4 v10 v16 v22 v28 v34 v40 v46 v52 v58 v64 v70 v76 v82 v88 v94 v100).bind fun r => some (Sum.inr r))
   ) ((0 : Int), ([] : List ByteArray), ())
noncomputable def basis_UnitOf_e14 (v0 : api_Unit) (v4 : List api_Rel) (v10 : List api_Exec) (v16 : List api_Exec) (v22 : List api_Exec) (v28 : List api_Exec) (v34 : List api_Exec) (v40 : List Int) (v46 : List api_Pair) (v52 : List ByteArray) (v58 : List Int) (v64 : List Int) (v70 : List Int) (v76 : List Int) (v82 : List ByteArray) (v88 : List ByteArray) : Option (api_Unit × Unit) :=
 let v91 : List ByteArray := v0.RequiredBy
 let v92 : Int := ((List.length v91 : Nat) : Int)
 loopS (A := Int × (List ByteArray) × Unit) (fun s93 =>
   let v93 : Int := s93.1
   let v94 : List ByteArray := s93.2.1
 let v95 : Bool := decide (v93 < v92)
 let v96 : Bool := v95
 if v95 = true then (
 let v97 : List ByteArray := v0.RequiredBy
 let v98 : Int := ((List.length v97 : Nat) : Int)
 let v99 : Bool := decide (v93 < v98)
 if v99 = true then (
 let v100 : List ByteArray := v0.RequiredBy
 (if 0 ≤ v93 ∧ v93 < ((List.length v100 : Nat) : Int) then (v100)[(v93).toNat]? else none : Option ByteArray).bind fun v101 =>
 let v102 : ByteArray := v101
 let v103 : List ByteArray := [v102]
 (if List.length v94 + List.length v103 ≤ 9223372036854775807 ∧ (List.length v94 + List.length v103) * 16 ≤ 140737488355328 then some (v94 ++ v103) else none : Option (List ByteArray)).bind fun v104 =>
 let v105 : Int := IntKind.i64.wrap (v93 + (1 : Int))
 some (Sum.inl (v105, v104, ())))
 else (
 (if List.length v94 + List.length ([(⟨#[]⟩ : ByteArray)] : List ByteArray) ≤ 9223372036854775807 ∧ (List.length v94 + List.length ([(⟨#[]⟩ : ByteArray)] : List ByteArray)) * 16 ≤ 140737488355328 then some (v94 ++ ([(⟨#[]⟩ : ByteArray)] : List ByteArray)) else none : Option (List ByteArray)).bind fun v100 =>
 let v101 : Int := IntKind.i64.wrap (v93 + (1 : Int))
 some (Sum.inl (v101, v100, ()))))
 else (
 (basis_UnitOf_e13 v0 v4 v10 v16 v22 v28 v34 v40 v46 v52 v58 v64 v70 v76 v82 v88 v94).bind fun r => some (Sum.inr r))
   ) ((0 : Int), ([] : List ByteArray), ())
noncomputable def basis_UnitOf_e15 (v0 : api_Unit) (v4 : List api_Rel) (v10 : List api_Exec) (v16 : List api_Exec) (v22 : List api_Exec) (v28 : List api_Exec) (v34 : List api_Exec) (v40 : List Int) (v46 : List api_Pair) (v52 : List ByteArray) (v58 : List Int) (v64 : List Int) (v70 : List Int) (v76 : List Int) (v82 : List ByteArray) : Option (api_Unit × Unit) :=
 let v85 : List ByteArray := v0.WantedBy
 let v86 : Int := ((List.length v85 : Nat) : Int)
 loopS (A := Int × (List ByteArray) × Unit) (fun s87 =>
   let v87 : Int := s87.1
   let v88 : List ByteArray := s87.2.1
 let v89 : Bool := decide (v87 < v86)
 let v90 : Bool := v89
 if v89 = true then (
 let v91 : List ByteArray := v0.WantedBy
 let v92 : Int := ((List.length v91 : Nat) : Int)
 let v93 : Bool := decide (v87 < v92)
 if v93 = true then (
 let v94 : List ByteArray := v0.WantedBy
 (if 0 ≤ v87 ∧ v87 < ((List.length v94 : Nat) : Int) then (v94)[(v87).toNat]? else none : Option ByteArray).bind fun v95 =>
 let v96 : ByteArray := v95
 let v97 : List ByteArray := [v96]
 (if List.length v88 + List.length v97 ≤ 9223372036854775807 ∧ (List.length v88 + List.length v97) * 16 ≤ 140737488355328 then some (v88 ++ v97) else none : Option (List ByteArray)).bind fun v98 =>
 let v99 : Int := IntKind.i64.wrap (v87 + (1 : Int))
 some (Sum.inl (v99, v98, ())))
 else (
 (if List.length v88 + List.length ([(⟨#[]⟩ : ByteArray)] : List ByteArray) ≤ 9223372036854775807 ∧ (List.length v88 + List.length ([(⟨#[]⟩ : ByteArray)] : List ByteArray)) * 16 ≤ 140737488355328 then some (v88 ++ ([(⟨#[]⟩ : ByteArray)] : List ByteArray)) else none : Option (List ByteArray)).bind fun v94 =>
 let v95 : Int := IntKind.i64.wrap (v87 + (1 : Int))
 some (Sum.inl (v95, v94, ()))))
 else (
 (basis_UnitOf_e14 v0 v4 v10 v16 v22 v28 v34 v40 v46 v52 v58 v64 v70 v76 v82 v88).bind fun r => some (Sum.inr r))
   ) ((0 : Int), ([] : List ByteArray), ())
noncomputable def basis_UnitOf_e16 (v0 : api_Unit) (v4 : List api_Rel) (v10 : List api_Exec) (v16 : List api_Exec) (v22 : List api_Exec) (v28 : List api_Exec) (v34 : List api_Exec) (v40 : List Int) (v46 : List api_Pair) (v52 : List ByteArray) (v58 : List Int) (v64 : List Int) (v70 : List Int) (v76 : List Int) : Option (api_Unit × Unit) :=
 let v79 : List ByteArray := v0.Calendar
 let v80 : Int := ((List.length v79 : Nat) : Int)
 loopS (A := Int × (List ByteArray) × Unit) (fun s81 =>
   let v81 : Int := s81.1
   let v82 : List ByteArray := s81.2.1
 let v83 : Bool := decide (v81 < v80)
 let v84 : Bool := v83
 if v83 = true then (
 let v85 : List ByteArray := v0.Calendar
 let v86 : Int := ((List.length v85 : Nat) : Int)
 let v87 : Bool := decide (v81 < v86)
 if v87 = true then (
 let v88 : List ByteArray := v0.Calendar
 (if 0 ≤ v81 ∧ v81 < ((List.length v88 : Nat) : Int) then (v88)[(v81).toNat]? else none : Option ByteArray).bind fun v89 =>
 let v90 : ByteArray := v89
 let v91 : List ByteArray := [v90]
 (if List.length v82 + List.length v91 ≤ 9223372036854775807 ∧ (List.length v82 + List.length v91) * 16 ≤ 140737488355328 then some (v82 ++ v91) else none : Option (List ByteArray)).bind fun v92 =>
 let v93 : Int := IntKind.i64.wrap (v81 + (1 : Int))
 some (Sum.inl (v93, v92, ())))
 else (
 (if List.length v82 + List.length ([(⟨#[]⟩ : ByteArray)] : List ByteArray) ≤ 9223372036854775807 ∧ (List.length v82 + List.length ([(⟨#[]⟩ : ByteArray)] : List ByteArray)) * 16 ≤ 140737488355328 then some (v82 ++ ([(⟨#[]⟩ : ByteArray)] : List ByteArray)) else none : Option (List ByteArray)).bind fun v88 =>
 let v89 : Int := IntKind.i64.wrap (v81 + (1 : Int))
 some (Sum.inl (v89, v88, ()))))
 else (
 (basis_UnitOf_e15 v0 v4 v10 v16 v22 v28 v34 v40 v46 v52 v58 v64 v70 v76 v82).bind fun r => some (Sum.inr r))
   ) ((0 : Int), ([] : List ByteArray), ())
noncomputable def basis_UnitOf_e17 (v0 : api_Unit) (v4 : List api_Rel) (v10 : List api_Exec) (v16 : List api_Exec) (v22 : List api_Exec) (v28 : List api_Exec) (v34 : List api_Exec) (v40 : List Int) (v46 : List api_Pair) (v52 : List ByteArray) (v58 : List Int) (v64 : List Int) (v70 : List Int) : Option (api_Unit × Unit) :=
 let v73 : List Int := v0.Idle
 let v74 : Int := ((List.length v73 : Nat) : Int)
 loopS (A := Int × (List Int) × Unit) (fun s75 =>
   let v75 : Int := s75.1
   let v76 : List Int := s75.2.1
 let v77 : Bool := decide (v75 < v74)
 let v78 : Bool := v77
 if v77 = true then (
 let v79 : List Int := v0.Idle
 let v80 : Int := ((List.length v79 : Nat) : Int)
 let v81 : Bool := decide (v75 < v80)
 if v81 = true then (
 let v82 : List Int := v0.Idle
 (if 0 ≤ v75 ∧ v75 < ((List.length v82 : Nat) : Int) then (v82)[(v75).toNat]? else none : Option Int).bind fun v83 =>
 let v84 : Int := v83
 let v85 : List Int := [v84]
 (if List.length v76 + List.length v85 ≤ 9223372036854775807 ∧ (List.length v76 + List.length v85) * 8 ≤ 140737488355328 then some (v76 ++ v85) else none : Option (List Int)).bind fun v86 =>
 let v87 : Int := IntKind.i64.wrap (v75 + (1 : Int))
 some (Sum.inl (v87, v86, ())))
 else (
 (if List.length v76 + List.length ([(0 : Int)] : List Int) ≤ 9223372036854775807 ∧ (List.length v76 + List.length ([(0 : Int)] : List Int)) * 8 ≤ 140737488355328 then some (v76 ++ ([(0 : Int)] : List Int)) else none : Option (List Int)).bind fun v82 =>
 let v83 : Int := IntKind.i64.wrap (v75 + (1 : Int))
 some (Sum.inl (v83, v82, ()))))
 else (
 (basis_UnitOf_e16 v0 v4 v10 v16 v22 v28 v34 v40 v46 v52 v58 v64 v70 v76).bind fun r => some (Sum.inr r))
   ) ((0 : Int), ([] : List Int), ())
noncomputable def basis_UnitOf_e18 (v0 : api_Unit) (v4 : List api_Rel) (v10 : List api_Exec) (v16 : List api_Exec) (v22 : List api_Exec) (v28 : List api_Exec) (v34 : List api_Exec) (v40 : List Int) (v46 : List api_Pair) (v52 : List ByteArray) (v58 : List Int) (v64 : List Int) : Option (api_Unit × Unit) :=
 let v67 : List Int := v0.Active
 let v68 : Int := ((List.length v67 : Nat) : Int)
 loopS (A := Int × (List Int) × Unit) (fun s69 =>
   let v69 : Int := s69.1
   let v70 : List Int := s69.2.1
 let v71 : Bool := decide (v69 < v68)
 let v72 : Bool := v71
 if v71 = true then (
 let v73 : List Int := v0.Active
 let v74 : Int := ((List.length v73 : Nat) : Int)
 let v75 : Bool := decide (v69 < v74)
 if v75 = true then (
 let v76 : List Int := v0.Active
 (if 0 ≤ v69 ∧ v69 < ((List.length v76 : Nat) : Int) then (v76)[(v69).toNat]? else none : Option Int).bind fun v77 =>
 let v78 : Int := v77
 let v79 : List Int := [v78]
 (if List.length v70 + List.length v79 ≤ 9223372036854775807 ∧ (List.length v70 + List.length v79) * 8 ≤ 140737488355328 then some (v70 ++ v79) else none : Option (List Int)).bind fun v80 =>
 let v81 : Int := IntKind.i64.wrap (v69 + (1 : Int))
 some (Sum.inl (v81, v80, ())))
 else (
 (if List.length v70 + List.length ([(0 : Int)] : List Int) ≤ 9223372036854775807 ∧ (List.length v70 + List.length ([(0 : Int)] : List Int)) * 8 ≤ 140737488355328 then some (v70 ++ ([(0 : Int)] : List Int)) else none : Option (List Int)).bind fun v76 =>
 let v77 : Int := IntKind.i64.wrap (v69 + (1 : Int))
 some (Sum.inl (v77, v76, ()))))
 else (
 (basis_UnitOf_e17 v0 v4 v10 v16 v22 v28 v34 v40 v46 v52 v58 v64 v70).bind fun r => some (Sum.inr r))
   ) ((0 : Int), ([] : List Int), ())
noncomputable def basis_UnitOf_e19 (v0 : api_Unit) (v4 : List api_Rel) (v10 : List api_Exec) (v16 : List api_Exec) (v22 : List api_Exec) (v28 : List api_Exec) (v34 : List api_Exec) (v40 : List Int) (v46 : List api_Pair) (v52 : List ByteArray) (v58 : List Int) : Option (api_Unit × Unit) :=
 let v61 : List Int := v0.Boot
 let v62 : Int := ((List.length v61 : Nat) : Int)
 loopS (A := Int × (List Int) × Unit) (fun s63 =>
   let v63 : Int := s63.1
   let v64 : List Int := s63.2.1
 let v65 : Bool := decide (v63 < v62)
 let v66 : Bool := v65
 if v65 = true then (
 let v67 : List Int := v0.Boot
 let v68 : Int := ((List.length v67 : Nat) : Int)
 let v69 : Bool := decide (v63 < v68)
 if v69 = true then (
 let v70 : List Int := v0.Boot
 (if 0 ≤ v63 ∧ v63 < ((List.length v70 : Nat) : Int) then (v70)[(v63).toNat]? else none : Option Int).bind fun v71 =>
 let v72 : Int := v71
 let v73 : List Int := [v72]
 (if List.length v64 + List.length v73 ≤ 9223372036854775807 ∧ (List.length v64 + List.length v73) * 8 ≤ 140737488355328 then some (v64 ++ v73) else none : Option (List Int)).bind fun v74 =>
 let v75 : Int := IntKind.i64.wrap (v63 + (1 : Int))
 some (Sum.inl (v75, v74, ())))
 else (
 (if List.length v64 + List.length ([(0 : Int)] : List Int) ≤ 9223372036854775807 ∧ (List.length v64 + List.length ([(0 : Int)] : List Int)) * 8 ≤ 140737488355328 then some (v64 ++ ([(0 : Int)] : List Int)) else none : Option (List Int)).bind fun v70 =>
 let v71 : Int := IntKind.i64.wrap (v63 + (1 : Int))
 some (Sum.inl (v71, v70, ()))))
 else (
 (basis_UnitOf_e18 v0 v4 v10 v16 v22 v28 v34 v40 v46 v52 v58 v64).bind fun r => some (Sum.inr r))
   ) ((0 : Int), ([] : List Int), ())
noncomputable def basis_UnitOf_e20 (v0 : api_Unit) (v4 : List api_Rel) (v10 : List api_Exec) (v16 : List api_Exec) (v22 : List api_Exec) (v28 : List api_Exec) (v34 : List api_Exec) (v40 : List Int) (v46 : List api_Pair) (v52 : List ByteArray) : Option (api_Unit × Unit) :=
 let v55 : List Int := v0.Ports
 let v56 : Int := ((List.length v55 : Nat) : Int)
 loopS (A := Int × (List Int) × Unit) (fun s57 =>
   let v57 : Int := s57.1
   let v58 : List Int := s57.2.1
 let v59 : Bool := decide (v57 < v56)
 let v60 : Bool := v59
 if v59 = true then (
 let v61 : List Int := v0.Ports
 let v62 : Int := ((List.length v61 : Nat) : Int)
 let v63 : Bool := decide (v57 < v62)
 if v63 = true then (
 let v64 : List Int := v0.Ports
 (if 0 ≤ v57 ∧ v57 < ((List.length v64 : Nat) : Int) then (v64)[(v57).toNat]? else none : Option Int).bind fun v65 =>
 let v66 : Int := v65
 let v67 : List Int := [v66]
 (if List.length v58 + List.length v67 ≤ 9223372036854775807 ∧ (List.length v58 + List.length v67) * 8 ≤ 140737488355328 then some (v58 ++ v67) else none : Option (List Int)).bind fun v68 =>
 let v69 : Int := IntKind.i64.wrap (v57 + (1 : Int))
 some (Sum.inl (v69, v68, ())))
 else (
 (if List.length v58 + List.length ([(0 : Int)] : List Int) ≤ 9223372036854775807 ∧ (List.length v58 + List.length ([(0 : Int)] : List Int)) * 8 ≤ 140737488355328 then some (v58 ++ ([(0 : Int)] : List Int)) else none : Option (List Int)).bind fun v64 =>
 let v65 : Int := IntKind.i64.wrap (v57 + (1 : Int))
 some (Sum.inl (v65, v64, ()))))
 else (
 (basis_UnitOf_e19 v0 v4 v10 v16 v22 v28 v34 v40 v46 v52 v58).bind fun r => some (Sum.inr r))
   ) ((0 : Int), ([] : List Int), ())
noncomputable def basis_UnitOf_e21 (v0 : api_Unit) (v4 : List api_Rel) (v10 : List api_Exec) (v16 : List api_Exec) (v22 : List api_Exec) (v28 : List api_Exec) (v34 : List api_Exec) (v40 : List Int) (v46 : List api_Pair) : Option (api_Unit × Unit) :=
 let v49 : List ByteArray := v0.Sockets
 let v50 : Int := ((List.length v49 : Nat) : Int)
 loopS (A := Int × (List ByteArray) × Unit) (fun s51 =>
   let v51 : Int := s51.1
   let v52 : List ByteArray := s51.2.1
 let v53 : Bool := decide (v51 < v50)
 let v54 : Bool := v53
 if v53 = true then (
 let v55 : List ByteArray := v0.Sockets
 let v56 : Int := ((List.length v55 : Nat) : Int)
 let v57 : Bool := decide (v51 < v56)
 if v57 = true then (
 let v58 : List ByteArray := v0.Sockets
 (if 0 ≤ v51 ∧ v51 < ((List.length v58 : Nat) : Int) then (v58)[(v51).toNat]? else none : Option ByteArray).bind fun v59 =>
 let v60 : ByteArray := v59
 let v61 : List ByteArray := [v60]
 (if List.length v52 + List.length v61 ≤ 9223372036854775807 ∧ (List.length v52 + List.length v61) * 16 ≤ 140737488355328 then some (v52 ++ v61) else none : Option (List ByteArray)).bind fun v62 =>
 let v63 : Int := IntKind.i64.wrap (v51 + (1 : Int))
 some (Sum.inl (v63, v62, ())))
 else (
 (if List.length v52 + List.length ([(⟨#[]⟩ : ByteArray)] : List ByteArray) ≤ 9223372036854775807 ∧ (List.length v52 + List.length ([(⟨#[]⟩ : ByteArray)] : List ByteArray)) * 16 ≤ 140737488355328 then some (v52 ++ ([(⟨#[]⟩ : ByteArray)] : List ByteArray)) else none : Option (List ByteArray)).bind fun v58 =>
 let v59 : Int := IntKind.i64.wrap (v51 + (1 : Int))
 some (Sum.inl (v59, v58, ()))))
 else (
 (basis_UnitOf_e20 v0 v4 v10 v16 v22 v28 v34 v40 v46 v52).bind fun r => some (Sum.inr r))
   ) ((0 : Int), ([] : List ByteArray), ())
noncomputable def basis_UnitOf_e22 (v0 : api_Unit) (v4 : List api_Rel) (v10 : List api_Exec) (v16 : List api_Exec) (v22 : List api_Exec) (v28 : List api_Exec) (v34 : List api_Exec) (v40 : List Int) : Option (api_Unit × Unit) :=
 let v43 : List api_Pair := v0.Env
 let v44 : Int := ((List.length v43 : Nat) : Int)
 loopS (A := Int × (List api_Pair) × Unit) (fun s45 =>
   let v45 : Int := s45.1
   let v46 : List api_Pair := s45.2.1
 let v47 : Bool := decide (v45 < v44)
 let v48 : Bool := v47
 if v47 = true then (
 let v49 : List api_Pair := v0.Env
 let v50 : Int := ((List.length v49 : Nat) : Int)
 let v51 : Bool := decide (v45 < v50)
 if v51 = true then (
 let v52 : List api_Pair := v0.Env
 (if 0 ≤ v45 ∧ v45 < ((List.length v52 : Nat) : Int) then (v52)[(v45).toNat]? else none : Option api_Pair).bind fun v53 =>
 let v54 : api_Pair := v53
 let v55 : List api_Pair := [v54]
 (if List.length v46 + List.length v55 ≤ 9223372036854775807 ∧ (List.length v46 + List.length v55) * 32 ≤ 140737488355328 then some (v46 ++ v55) else none : Option (List api_Pair)).bind fun v56 =>
 let v57 : Int := IntKind.i64.wrap (v45 + (1 : Int))
 some (Sum.inl (v57, v56, ())))
 else (
 (if List.length v46 + List.length ([(⟨(⟨#[]⟩ : ByteArray), (⟨#[]⟩ : ByteArray)⟩ : api_Pair)] : List api_Pair) ≤ 9223372036854775807 ∧ (List.length v46 + List.length ([(⟨(⟨#[]⟩ : ByteArray), (⟨#[]⟩ : ByteArray)⟩ : api_Pair)] : List api_Pair)) * 32 ≤ 140737488355328 then some (v46 ++ ([(⟨(⟨#[]⟩ : ByteArray), (⟨#[]⟩ : ByteArray)⟩ : api_Pair)] : List api_Pair)) else none : Option (List api_Pair)).bind fun v52 =>
 let v53 : Int := IntKind.i64.wrap (v45 + (1 : Int))
 some (Sum.inl (v53, v52, ()))))
 else (
 (basis_UnitOf_e21 v0 v4 v10 v16 v22 v28 v34 v40 v46).bind fun r => some (Sum.inr r))
   ) ((0 : Int), ([] : List api_Pair), ())
noncomputable def basis_UnitOf_e23 (v0 : api_Unit) (v4 : List api_Rel) (v10 : List api_Exec) (v16 : List api_Exec) (v22 : List api_Exec) (v28 : List api_Exec) (v34 : List api_Exec) : Option (api_Unit × Unit) :=
 let v37 : List Int := v0.Success
 let v38 : Int := ((List.length v37 : Nat) : Int)
 loopS (A := Int × (List Int) × Unit) (fun s39 =>
   let v39 : Int := s39.1
   let v40 : List Int := s39.2.1
 let v41 : Bool := decide (v39 < v38)
 let v42 : Bool := v41
 if v41 = true then (
 let v43 : List Int := v0.Success
 let v44 : Int := ((List.length v43 : Nat) : Int)
 let v45 : Bool := decide (v39 < v44)
 if v45 = true then (
 let v46 : List Int := v0.Success
 (if 0 ≤ v39 ∧ v39 < ((List.length v46 : Nat) : Int) then (v46)[(v39).toNat]? else none : Option Int).bind fun v47 =>
 let v48 : Int := v47
 let v49 : List Int := [v48]
 (if List.length v40 + List.length v49 ≤ 9223372036854775807 ∧ (List.length v40 + List.length v49) * 8 ≤ 140737488355328 then some (v40 ++ v49) else none : Option (List Int)).bind fun v50 =>
 let v51 : Int := IntKind.i64.wrap (v39 + (1 : Int))
 some (Sum.inl (v51, v50, ())))
 else (
 (if List.length v40 + List.length ([(0 : Int)] : List Int) ≤ 9223372036854775807 ∧ (List.length v40 + List.length ([(0 : Int)] : List Int)) * 8 ≤ 140737488355328 then some (v40 ++ ([(0 : Int)] : List Int)) else none : Option (List Int)).bind fun v46 =>
 let v47 : Int := IntKind.i64.wrap (v39 + (1 : Int))
 some (Sum.inl (v47, v46, ()))))
 else (
 (basis_UnitOf_e22 v0 v4 v10 v16 v22 v28 v34 v40).bind fun r => some (Sum.inr r))
   ) ((0 : Int), ([] : List Int), ())
noncomputable def basis_UnitOf_e24 (v0 : api_Unit) (v4 : List api_Rel) (v10 : List api_Exec) (v16 : List api_Exec) (v22 : List api_Exec) (v28 : List api_Exec) : Option (api_Unit × Unit) :=
 let v31 : List api_Exec := v0.Reload
 let v32 : Int := ((List.length v31 : Nat) : Int)
 loopS (A := Int × (List api_Exec) × Unit) (fun s33 =>
   let v33 : Int := s33.1
   let v34 : List api_Exec := s33.2.1
 let v35 : Bool := decide (v33 < v32)
 let v36 : Bool := v35
 if v35 = true then (
 let v37 : List api_Exec := v0.Reload
 let v38 : Int := ((List.length v37 : Nat) : Int)
 let v39 : Bool := decide (v33 < v38)
 if v39 = true then (
 let v40 : List api_Exec := v0.Reload
 (if 0 ≤ v33 ∧ v33 < ((List.length v40 : Nat) : Int) then (v40)[(v33).toNat]? else none : Option api_Exec).bind fun v41 =>
 let v42 : api_Exec := v41
 let v43 : List ByteArray := v42.Words
 let v44 : Int := ((List.length v43 : Nat) : Int)
 loopS (A := Int × (List ByteArray) × Unit) (fun s45 =>
   let v45 : Int := s45.1
   let v46 : List ByteArray := s45.2.1
 let v47 : Bool := decide (v45 < v44)
 let v48 : Bool := v47
 if v47 = true then (
 let v49 : List ByteArray := v42.Words
 let v50 : Int := ((List.length v49 : Nat) : Int)
 let v51 : Bool := decide (v45 < v50)
 if v51 = true then (
 let v52 : List ByteArray := v42.Words
 (if 0 ≤ v45 ∧ v45 < ((List.length v52 : Nat) : Int) then (v52)[(v45).toNat]? else none : Option ByteArray).bind fun v53 =>
 let v54 : ByteArray := v53
 let v55 : List ByteArray := [v54]
 (if List.length v46 + List.length v55 ≤ 9223372036854775807 ∧ (List.length v46 + List.length v55) * 16 ≤ 140737488355328 then some (v46 ++ v55) else none : Option (List ByteArray)).bind fun v56 =>
 let v57 : Int := IntKind.i64.wrap (v45 + (1 : Int))
 some (Sum.inl (v57, v56, ())))
 else (
 (if List.length v46 + List.length ([(⟨#[]⟩ : ByteArray)] : List ByteArray) ≤ 9223372036854775807 ∧ (List.length v46 + List.length ([(⟨#[]⟩ : ByteArray)] : List ByteArray)) * 16 ≤ 140737488355328 then some (v46 ++ ([(⟨#[]⟩ : ByteArray)] : List ByteArray)) else none : Option (List ByteArray)).bind fun v52 =>
 let v53 : Int := IntKind.i64.wrap (v45 + (1 : Int))
 some (Sum.inl (v53, v52, ()))))
 else (
 (basis_UnitOf_e9 v33 v34 v42 v46).bind fun r => some (Sum.inr r))
   ) ((0 : Int), ([] : List ByteArray), ()))
 else (
 loopS (A := Int × (List ByteArray) × Unit) (fun s40 =>
   let v40 : Int := s40.1
   let v41 : List ByteArray := s40.2.1
 let v42 : Bool := decide (v40 < (0 : Int))
 let v43 : Bool := v42
 if v42 = true then (
 let v44 : Bool := decide (v40 < (0 : Int))
 if v44 = true then (
 (if 0 ≤ v40 ∧ v40 < ((List.length ([] : List ByteArray) : Nat) : Int) then (([] : List ByteArray))[(v40).toNat]? else none : Option ByteArray).bind fun v45 =>
 let v46 : ByteArray := v45
 let v47 : List ByteArray := [v46]
 (if List.length v41 + List.length v47 ≤ 9223372036854775807 ∧ (List.length v41 + List.length v47) * 16 ≤ 140737488355328 then some (v41 ++ v47) else none : Option (List ByteArray)).bind fun v48 =>
 let v49 : Int := IntKind.i64.wrap (v40 + (1 : Int))
 some (Sum.inl (v49, v48, ())))
 else (
 (if List.length v41 + List.length ([(⟨#[]⟩ : ByteArray)] : List ByteArray) ≤ 9223372036854775807 ∧ (List.length v41 + List.length ([(⟨#[]⟩ : ByteArray)] : List ByteArray)) * 16 ≤ 140737488355328 then some (v41 ++ ([(⟨#[]⟩ : ByteArray)] : List ByteArray)) else none : Option (List ByteArray)).bind fun v45 =>
 let v46 : Int := IntKind.i64.wrap (v40 + (1 : Int))
 some (Sum.inl (v46, v45, ()))))
 else (
 (basis_UnitOf_e10 v33 v34 v41).bind fun r => some (Sum.inr r))
   ) ((0 : Int), ([] : List ByteArray), ())))
 else (
 (basis_UnitOf_e23 v0 v4 v10 v16 v22 v28 v34).bind fun r => some (Sum.inr r))
   ) ((0 : Int), ([] : List api_Exec), ())
noncomputable def basis_UnitOf_e25 (v0 : api_Unit) (v4 : List api_Rel) (v10 : List api_Exec) (v16 : List api_Exec) (v22 : List api_Exec) : Option (api_Unit × Unit) :=
 let v25 : List api_Exec := v0.Stop
 let v26 : Int := ((List.length v25 : Nat) : Int)
 loopS (A := Int × (List api_Exec) × Unit) (fun s27 =>
   let v27 : Int := s27.1
   let v28 : List api_Exec := s27.2.1
 let v29 : Bool := decide (v27 < v26)
 let v30 : Bool := v29
 if v29 = true then (
 let v31 : List api_Exec := v0.Stop
 let v32 : Int := ((List.length v31 : Nat) : Int)
 let v33 : Bool := decide (v27 < v32)
 if v33 = true then (
 let v34 : List api_Exec := v0.Stop
 (if 0 ≤ v27 ∧ v27 < ((List.length v34 : Nat) : Int) then (v34)[(v27).toNat]? else none : Option api_Exec).bind fun v35 =>
 let v36 : api_Exec := v35
 let v37 : List ByteArray := v36.Words
 let v38 : Int := ((List.length v37 : Nat) : Int)
 loopS (A := Int × (List ByteArray) × Unit) (fun s39 =>
   let v39 : Int := s39.1
   let v40 : List ByteArray := s39.2.1
 let v41 : Bool := decide (v39 < v38)
 let v42 : Bool := v41
 if v41 = true then (
 let v43 : List ByteArray := v36.Words
 let v44 : Int := ((List.length v43 : Nat) : Int)
 let v45 : Bool := decide (v39 < v44)
 if v45 = true then (
 let v46 : List ByteArray := v36.Words
 (if 0 ≤ v39 ∧ v39 < ((List.length v46 : Nat) : Int) then (v46)[(v39).toNat]? else none : Option ByteArray).bind fun v47 =>
 let v48 : ByteArray := v47
 let v49 : List ByteArray := [v48]
 (if List.length v40 + List.length v49 ≤ 9223372036854775807 ∧ (List.length v40 + List.length v49) * 16 ≤ 140737488355328 then some (v40 ++ v49) else none : Option (List ByteArray)).bind fun v50 =>
 let v51 : Int := IntKind.i64.wrap (v39 + (1 : Int))
 some (Sum.inl (v51, v50, ())))
 else (
 (if List.length v40 + List.length ([(⟨#[]⟩ : ByteArray)] : List ByteArray) ≤ 9223372036854775807 ∧ (List.length v40 + List.length ([(⟨#[]⟩ : ByteArray)] : List ByteArray)) * 16 ≤ 140737488355328 then some (v40 ++ ([(⟨#[]⟩ : ByteArray)] : List ByteArray)) else none : Option (List ByteArray)).bind fun v46 =>
 let v47 : Int := IntKind.i64.wrap (v39 + (1 : Int))
 some (Sum.inl (v47, v46, ()))))
 else (
 (basis_UnitOf_e7 v27 v28 v36 v40).bind fun r => some (Sum.inr r))
   ) ((0 : Int), ([] : List ByteArray), ()))
 else (
 loopS (A := Int × (List ByteArray) × Unit) (fun s34 =>
   let v34 : Int := s34.1
   let v35 : List ByteArray := s34.2.1
 let v36 : Bool := decide (v34 < (0 : Int))
 let v37 : Bool := v36
 if v36 = true then (
 let v38 : Bool := decide (v34 < (0 : Int))
 if v38 = true then (
 (if 0 ≤ v34 ∧ v34 < ((List.length ([] : List ByteArray) : Nat) : Int) then (([] : List ByteArray))[(v34).toNat]? else none : Option ByteArray).bind fun v39 =>
 let v40 : ByteArray := v39
 let v41 : List ByteArray := [v40]
 (if List.length v35 + List.length v41 ≤ 9223372036854775807 ∧ (List.length v35 + List.length v41) * 16 ≤ 140737488355328 then some (v35 ++ v41) else none : Option (List ByteArray)).bind fun v42 =>
 let v43 : Int := IntKind.i64.wrap (v34 + (1 : Int))
 some (Sum.inl (v43, v42, ())))
 else (
 (if List.length v35 + List.length ([(⟨#[]⟩ : ByteArray)] : List ByteArray) ≤ 9223372036854775807 ∧ (List.length v35 + List.length ([(⟨#[]⟩ : ByteArray)] : List ByteArray)) * 16 ≤ 140737488355328 then some (v35 ++ ([(⟨#[]⟩ : ByteArray)] : List ByteArray)) else none : Option (List ByteArray)).bind fun v39 =>
 let v40 : Int := IntKind.i64.wrap (v34 + (1 : Int))
 some (Sum.inl (v40, v39, ()))))
 else (
 (basis_UnitOf_e8 v27 v28 v35).bind fun r => some (Sum.inr r))
   ) ((0 : Int), ([] : List ByteArray), ())))
 else (
 (basis_UnitOf_e24 v0 v4 v10 v16 v22 v28).bind fun r => some (Sum.inr r))
   ) ((0 : Int), ([] : List api_Exec), ())
noncomputable def basis_UnitOf_e26 (v0 : api_Unit) (v4 : List api_Rel) (v10 : List api_Exec) (v16 : List api_Exec) : Option (api_Unit × Unit) :=
 let v19 : List api_Exec := v0.Post
 let v20 : Int := ((List.length v19 : Nat) : Int)
 loopS (A := Int × (List api_Exec) × Unit) (fun s21 =>
   let v21 : Int := s21.1
   let v22 : List api_Exec := s21.2.1
 let v23 : Bool := decide (v21 < v20)
 let v24 : Bool := v23
 if v23 = true then (
 let v25 : List api_Exec := v0.Post
 let v26 : Int := ((List.length v25 : Nat) : Int)
 let v27 : Bool := decide (v21 < v26)
 if v27 = true then (
 let v28 : List api_Exec := v0.Post
 (if 0 ≤ v21 ∧ v21 < ((List.length v28 : Nat) : Int) then (v28)[(v21).toNat]? else none : Option api_Exec).bind fun v29 =>
 let v30 : api_Exec := v29
 let v31 : List ByteArray := v30.Words
 let v32 : Int := ((List.length v31 : Nat) : Int)
 loopS (A := Int × (List ByteArray) × Unit) (fun s33 =>
   let v33 : Int := s33.1
   let v34 : List ByteArray := s33.2.1
 let v35 : Bool := decide (v33 < v32)
 let v36 : Bool := v35
 if v35 = true then (
 let v37 : List ByteArray := v30.Words
 let v38 : Int := ((List.length v37 : Nat) : Int)
 let v39 : Bool := decide (v33 < v38)
 if v39 = true then (
 let v40 : List ByteArray := v30.Words
 (if 0 ≤ v33 ∧ v33 < ((List.length v40 : Nat) : Int) then (v40)[(v33).toNat]? else none : Option ByteArray).bind fun v41 =>
 let v42 : ByteArray := v41
 let v43 : List ByteArray := [v42]
 (if List.length v34 + List.length v43 ≤ 9223372036854775807 ∧ (List.length v34 + List.length v43) * 16 ≤ 140737488355328 then some (v34 ++ v43) else none : Option (List ByteArray)).bind fun v44 =>
 let v45 : Int := IntKind.i64.wrap (v33 + (1 : Int))
 some (Sum.inl (v45, v44, ())))
 else (
 (if List.length v34 + List.length ([(⟨#[]⟩ : ByteArray)] : List ByteArray) ≤ 9223372036854775807 ∧ (List.length v34 + List.length ([(⟨#[]⟩ : ByteArray)] : List ByteArray)) * 16 ≤ 140737488355328 then some (v34 ++ ([(⟨#[]⟩ : ByteArray)] : List ByteArray)) else none : Option (List ByteArray)).bind fun v40 =>
 let v41 : Int := IntKind.i64.wrap (v33 + (1 : Int))
 some (Sum.inl (v41, v40, ()))))
 else (
 (basis_UnitOf_e5 v21 v22 v30 v34).bind fun r => some (Sum.inr r))
   ) ((0 : Int), ([] : List ByteArray), ()))
 else (
 loopS (A := Int × (List ByteArray) × Unit) (fun s28 =>
   let v28 : Int := s28.1
   let v29 : List ByteArray := s28.2.1
 let v30 : Bool := decide (v28 < (0 : Int))
 let v31 : Bool := v30
 if v30 = true then (
 let v32 : Bool := decide (v28 < (0 : Int))
 if v32 = true then (
 (if 0 ≤ v28 ∧ v28 < ((List.length ([] : List ByteArray) : Nat) : Int) then (([] : List ByteArray))[(v28).toNat]? else none : Option ByteArray).bind fun v33 =>
 let v34 : ByteArray := v33
 let v35 : List ByteArray := [v34]
 (if List.length v29 + List.length v35 ≤ 9223372036854775807 ∧ (List.length v29 + List.length v35) * 16 ≤ 140737488355328 then some (v29 ++ v35) else none : Option (List ByteArray)).bind fun v36 =>
 let v37 : Int := IntKind.i64.wrap (v28 + (1 : Int))
 some (Sum.inl (v37, v36, ())))
 else (
 (if List.length v29 + List.length ([(⟨#[]⟩ : ByteArray)] : List ByteArray) ≤ 9223372036854775807 ∧ (List.length v29 + List.length ([(⟨#[]⟩ : ByteArray)] : List ByteArray)) * 16 ≤ 140737488355328 then some (v29 ++ ([(⟨#[]⟩ : ByteArray)] : List ByteArray)) else none : Option (List ByteArray)).bind fun v33 =>
 let v34 : Int := IntKind.i64.wrap (v28 + (1 : Int))
 some (Sum.inl (v34, v33, ()))))
 else (
 (basis_UnitOf_e6 v21 v22 v29).bind fun r => some (Sum.inr r))
   ) ((0 : Int), ([] : List ByteArray), ())))
 else (
 (basis_UnitOf_e25 v0 v4 v10 v16 v22).bind fun r => some (Sum.inr r))
   ) ((0 : Int), ([] : List api_Exec), ())
noncomputable def basis_UnitOf_e27 (v0 : api_Unit) (v4 : List api_Rel) (v10 : List api_Exec) : Option (api_Unit × Unit) :=
 let v13 : List api_Exec := v0.Start
 let v14 : Int := ((List.length v13 : Nat) : Int)
 loopS (A := Int × (List api_Exec) × Unit) (fun s15 =>
   let v15 : Int := s15.1
   let v16 : List api_Exec := s15.2.1
 let v17 : Bool := decide (v15 < v14)
 let v18 : Bool := v17
 if v17 = true then (
 let v19 : List api_Exec := v0.Start
 let v20 : Int := ((List.length v19 : Nat) : Int)
 let v21 : Bool := decide (v15 < v20)
 if v21 = true then (
 let v22 : List api_Exec := v0.Start
 (if 0 ≤ v15 ∧ v15 < ((List.length v22 : Nat) : Int) then (v22)[(v15).toNat]? else none : Option api_Exec).bind fun v23 =>
 let v24 : api_Exec := v23
 let v25 : List ByteArray := v24.Words
 let v26 : Int := ((List.length v25 : Nat) : Int)
 loopS (A := Int × (List ByteArray) × Unit) (fun s27 =>
   let v27 : Int := s27.1
   let v28 : List ByteArray := s27.2.1
 let v29 : Bool := decide (v27 < v26)
 let v30 : Bool := v29
 if v29 = true then (
 let v31 : List ByteArray := v24.Words
 let v32 : Int := ((List.length v31 : Nat) : Int)
 let v33 : Bool := decide (v27 < v32)
 if v33 = true then (
 let v34 : List ByteArray := v24.Words
 (if 0 ≤ v27 ∧ v27 < ((List.length v34 : Nat) : Int) then (v34)[(v27).toNat]? else none : Option ByteArray).bind fun v35 =>
 let v36 : ByteArray := v35
 let v37 : List ByteArray := [v36]
 (if List.length v28 + List.length v37 ≤ 9223372036854775807 ∧ (List.length v28 + List.length v37) * 16 ≤ 140737488355328 then some (v28 ++ v37) else none : Option (List ByteArray)).bind fun v38 =>
 let v39 : Int := IntKind.i64.wrap (v27 + (1 : Int))
 some (Sum.inl (v39, v38, ())))
 else (
 (if List.length v28 + List.length ([(⟨#[]⟩ : ByteArray)] : List ByteArray) ≤ 9223372036854775807 ∧ (List.length v28 + List.length ([(⟨#[]⟩ : ByteArray)] : List ByteArray)) * 16 ≤ 140737488355328 then some (v28 ++ ([(⟨#[]⟩ : ByteArray)] : List ByteArray)) else none : Option (List ByteArray)).bind fun v34 =>
 let v35 : Int := IntKind.i64.wrap (v27 + (1 : Int))
 some (Sum.inl (v35, v34, ()))))
 else (
 (basis_UnitOf_e3 v15 v16 v24 v28).bind fun r => some (Sum.inr r))
   ) ((0 : Int), ([] : List ByteArray), ()))
 else (
 loopS (A := Int × (List ByteArray) × Unit) (fun s22 =>
   let v22 : Int := s22.1
   let v23 : List ByteArray := s22.2.1
 let v24 : Bool := decide (v22 < (0 : Int))
 let v25 : Bool := v24
 if v24 = true then (
 let v26 : Bool := decide (v22 < (0 : Int))
 if v26 = true then (
 (if 0 ≤ v22 ∧ v22 < ((List.length ([] : List ByteArray) : Nat) : Int) then (([] : List ByteArray))[(v22).toNat]? else none : Option ByteArray).bind fun v27 =>
 let v28 : ByteArray := v27
 let v29 : List ByteArray := [v28]
 (if List.length v23 + List.length v29 ≤ 9223372036854775807 ∧ (List.length v23 + List.length v29) * 16 ≤ 140737488355328 then some (v23 ++ v29) else none : Option (List ByteArray)).bind fun v30 =>
 let v31 : Int := IntKind.i64.wrap (v22 + (1 : Int))
 some (Sum.inl (v31, v30, ())))
 else (
 (if List.length v23 + List.length ([(⟨#[]⟩ : ByteArray)] : List ByteArray) ≤ 9223372036854775807 ∧ (List.length v23 + List.length ([(⟨#[]⟩ : ByteArray)] : List ByteArray)) * 16 ≤ 140737488355328 then some (v23 ++ ([(⟨#[]⟩ : ByteArray)] : List ByteArray)) else none : Option (List ByteArray)).bind fun v27 =>
 let v28 : Int := IntKind.i64.wrap (v22 + (1 : Int))
 some (Sum.inl (v28, v27, ()))))
 else (
 (basis_UnitOf_e4 v15 v16 v23).bind fun r => some (Sum.inr r))
   ) ((0 : Int), ([] : List ByteArray), ())))
 else (
 (basis_UnitOf_e26 v0 v4 v10 v16).bind fun r => some (Sum.inr r))
   ) ((0 : Int), ([] : List api_Exec), ())
noncomputable def basis_UnitOf_e28 (v0 : api_Unit) (v4 : List api_Rel) : Option (api_Unit × Unit) :=
 let v7 : List api_Exec := v0.Pre
 let v8 : Int := ((List.length v7 : Nat) : Int)
 loopS (A := Int × (List api_Exec) × Unit) (fun s9 =>
   let v9 : Int := s9.1
   let v10 : List api_Exec := s9.2.1
 let v11 : Bool := decide (v9 < v8)
 let v12 : Bool := v11
 if v11 = true then (
 let v13 : List api_Exec := v0.Pre
 let v14 : Int := ((List.length v13 : Nat) : Int)
 let v15 : Bool := decide (v9 < v14)
 if v15 = true then (
 let v16 : List api_Exec := v0.Pre
 (if 0 ≤ v9 ∧ v9 < ((List.length v16 : Nat) : Int) then (v16)[(v9).toNat]? else none : Option api_Exec).bind fun v17 =>
 let v18 : api_Exec := v17
 let v19 : List ByteArray := v18.Words
 let v20 : Int := ((List.length v19 : Nat) : Int)
 loopS (A := Int × (List ByteArray) × Unit) (fun s21 =>
   let v21 : Int := s21.1
   let v22 : List ByteArray := s21.2.1
 let v23 : Bool := decide (v21 < v20)
 let v24 : Bool := v23
 if v23 = true then (
 let v25 : List ByteArray := v18.Words
 let v26 : Int := ((List.length v25 : Nat) : Int)
 let v27 : Bool := decide (v21 < v26)
 if v27 = true then (
 let v28 : List ByteArray := v18.Words
 (if 0 ≤ v21 ∧ v21 < ((List.length v28 : Nat) : Int) then (v28)[(v21).toNat]? else none : Option ByteArray).bind fun v29 =>
 let v30 : ByteArray := v29
 let v31 : List ByteArray := [v30]
 (if List.length v22 + List.length v31 ≤ 9223372036854775807 ∧ (List.length v22 + List.length v31) * 16 ≤ 140737488355328 then some (v22 ++ v31) else none : Option (List ByteArray)).bind fun v32 =>
 let v33 : Int := IntKind.i64.wrap (v21 + (1 : Int))
 some (Sum.inl (v33, v32, ())))
 else (
 (if List.length v22 + List.length ([(⟨#[]⟩ : ByteArray)] : List ByteArray) ≤ 9223372036854775807 ∧ (List.length v22 + List.length ([(⟨#[]⟩ : ByteArray)] : List ByteArray)) * 16 ≤ 140737488355328 then some (v22 ++ ([(⟨#[]⟩ : ByteArray)] : List ByteArray)) else none : Option (List ByteArray)).bind fun v28 =>
 let v29 : Int := IntKind.i64.wrap (v21 + (1 : Int))
 some (Sum.inl (v29, v28, ()))))
 else (
 (basis_UnitOf_e1 v9 v10 v18 v22).bind fun r => some (Sum.inr r))
   ) ((0 : Int), ([] : List ByteArray), ()))
 else (
 loopS (A := Int × (List ByteArray) × Unit) (fun s16 =>
   let v16 : Int := s16.1
   let v17 : List ByteArray := s16.2.1
 let v18 : Bool := decide (v16 < (0 : Int))
 let v19 : Bool := v18
 if v18 = true then (
 let v20 : Bool := decide (v16 < (0 : Int))
 if v20 = true then (
 (if 0 ≤ v16 ∧ v16 < ((List.length ([] : List ByteArray) : Nat) : Int) then (([] : List ByteArray))[(v16).toNat]? else none : Option ByteArray).bind fun v21 =>
 let v22 : ByteArray := v21
 let v23 : List ByteArray := [v22]
 (if List.length v17 + List.length v23 ≤ 9223372036854775807 ∧ (List.length v17 + List.length v23) * 16 ≤ 140737488355328 then some (v17 ++ v23) else none : Option (List ByteArray)).bind fun v24 =>
 let v25 : Int := IntKind.i64.wrap (v16 + (1 : Int))
 some (Sum.inl (v25, v24, ())))
 else (
 (if List.length v17 + List.length ([(⟨#[]⟩ : ByteArray)] : List ByteArray) ≤ 9223372036854775807 ∧ (List.length v17 + List.length ([(⟨#[]⟩ : ByteArray)] : List ByteArray)) * 16 ≤ 140737488355328 then some (v17 ++ ([(⟨#[]⟩ : ByteArray)] : List ByteArray)) else none : Option (List ByteArray)).bind fun v21 =>
 let v22 : Int := IntKind.i64.wrap (v16 + (1 : Int))
 some (Sum.inl (v22, v21, ()))))
 else (
 (basis_UnitOf_e2 v9 v10 v17).bind fun r => some (Sum.inr r))
   ) ((0 : Int), ([] : List ByteArray), ())))
 else (
 (basis_UnitOf_e27 v0 v4 v10).bind fun r => some (Sum.inr r))
   ) ((0 : Int), ([] : List api_Exec), ())
noncomputable def basis_UnitOf (v0 : api_Unit) : Option (api_Unit × Unit) :=
 let v1 : List api_Rel := v0.Rels
 let v2 : Int := ((List.length v1 : Nat) : Int)
 loopS (A := Int × (List api_Rel) × Unit) (fun s3 =>
   let v3 : Int := s3.1
   let v4 : List api_Rel := s3.2.1
 let v5 : Bool := decide (v3 < v2)
 let v6 : Bool := v5
 if v5 = true then (
 let v7 : List api_Rel := v0.Rels
 let v8 : Int := ((List.length v7 : Nat) : Int)
 let v9 : Bool := decide (v3 < v8)
 if v9 = true then (
 let v10 : List api_Rel := v0.Rels
 (if 0 ≤ v3 ∧ v3 < ((List.length v10 : Nat) : Int) then (v10)[(v3).toNat]? else none : Option api_Rel).bind fun v11 =>
 let v12 : api_Rel := v11
 let v13 : List api_Rel := [v12]
 (if List.length v4 + List.length v13 ≤ 9223372036854775807 ∧ (List.length v4 + List.length v13) * 24 ≤ 140737488355328 then some (v4 ++ v13) else none : Option (List api_Rel)).bind fun v14 =>
 let v15 : Int := IntKind.i64.wrap (v3 + (1 : Int))
 some (Sum.inl (v15, v14, ())))
 else (
 (if List.length v4 + List.length ([(⟨(0 : Int), (⟨#[]⟩ : ByteArray)⟩ : api_Rel)] : List api_Rel) ≤ 9223372036854775807 ∧ (List.length v4 + List.length ([(⟨(0 : Int), (⟨#[]⟩ : ByteArray)⟩ : api_Rel)] : List api_Rel)) * 24 ≤ 140737488355328 then some (v4 ++ ([(⟨(0 : Int), (⟨#[]⟩ : ByteArray)⟩ : api_Rel)] : List api_Rel)) else none : Option (List api_Rel)).bind fun v10 =>
 let v11 : Int := IntKind.i64.wrap (v3 + (1 : Int))
 some (Sum.inl (v11, v10, ()))))
 else (
 (basis_UnitOf_e28 v0 v4).bind fun r => some (Sum.inr r))
   ) ((0 : Int), ([] : List api_Rel), ())
def l71 : Ch := (71, ⟨[.agg (.v 0) 35 (.g 0 0) []], ⟨1, [], 1, 1, [], [], [], []⟩, ⟨[0], [], [], [], [], 0⟩, [(0, ⟨none, .agg (.c []) 35 .d []⟩)], false⟩, [(11801, ⟨[], [], [], [], [], 12⟩), (11901, ⟨[], [], [], [], [], 12⟩), (15801, ⟨[], [], [], [], [], 12⟩), (16101, ⟨[], [], [], [], [], 12⟩), (15603, ⟨[8, 7], [], [(7, 162)], [], [], 0⟩), (19403, ⟨[8, 7], [], [(7, 9)], [], [], 0⟩), (19203, ⟨[8, 7], [], [(7, 158)], [], [], 0⟩), (16503, ⟨[8, 7], [], [(7, 3)], [], [], 0⟩), (15903, ⟨[8, 7], [], [(7, 160)], [], [], 0⟩)]) :: l40
noncomputable def t71 : List (Nat × TC U) := (71, ⟨[.st 28], [.st 28], fun (a : api_Unit × Unit) => basis_UnitOf a.1⟩) :: t40
theorem c71 : Chain Tryz.prog U tab base l71 t71 := Chain.cons tb cfok c40 1 rfl rfl rfl (hs := [⟨.li (.st 162), ([] : List api_Rel)⟩, ⟨.li (.st 162), ([(⟨(0 : Int), (⟨#[]⟩ : ByteArray)⟩ : api_Rel)] : List api_Rel)⟩, ⟨.li (.st 158), ([] : List api_Exec)⟩, ⟨.li (.str), ([] : List ByteArray)⟩, ⟨.li (.str), ([(⟨#[]⟩ : ByteArray)] : List ByteArray)⟩, ⟨.li (.str), ([] : List ByteArray)⟩, ⟨.li (.str), ([] : List ByteArray)⟩, ⟨.li (.str), ([(⟨#[]⟩ : ByteArray)] : List ByteArray)⟩, ⟨.st 158, ((⟨false, []⟩ : api_Exec) : api_Exec)⟩, ⟨.li (.st 158), ([] : List api_Exec)⟩, ⟨.li (.str), ([] : List ByteArray)⟩, ⟨.li (.str), ([(⟨#[]⟩ : ByteArray)] : List ByteArray)⟩, ⟨.li (.str), ([] : List ByteArray)⟩, ⟨.li (.str), ([] : List ByteArray)⟩, ⟨.li (.str), ([(⟨#[]⟩ : ByteArray)] : List ByteArray)⟩, ⟨.st 158, ((⟨false, []⟩ : api_Exec) : api_Exec)⟩, ⟨.li (.st 158), ([] : List api_Exec)⟩, ⟨.li (.str), ([] : List ByteArray)⟩, ⟨.li (.str), ([(⟨#[]⟩ : ByteArray)] : List ByteArray)⟩, ⟨.li (.str), ([] : List ByteArray)⟩, ⟨.li (.str), ([] : List ByteArray)⟩, ⟨.li (.str), ([(⟨#[]⟩ : ByteArray)] : List ByteArray)⟩, ⟨.st 158, ((⟨false, []⟩ : api_Exec) : api_Exec)⟩, ⟨.li (.st 158), ([] : List api_Exec)⟩, ⟨.li (.str), ([] : List ByteArray)⟩, ⟨.li (.str), ([(⟨#[]⟩ : ByteArray)] : List ByteArray)⟩, ⟨.li (.str), ([] : List ByteArray)⟩, ⟨.li (.str), ([] : List ByteArray)⟩, ⟨.li (.str), ([(⟨#[]⟩ : ByteArray)] : List ByteArray)⟩, ⟨.st 158, ((⟨false, []⟩ : api_Exec) : api_Exec)⟩, ⟨.li (.st 158), ([] : List api_Exec)⟩, ⟨.li (.str), ([] : List ByteArray)⟩, ⟨.li (.str), ([(⟨#[]⟩ : ByteArray)] : List ByteArray)⟩, ⟨.li (.str), ([] : List ByteArray)⟩, ⟨.li (.str), ([] : List ByteArray)⟩, ⟨.li (.str), ([(⟨#[]⟩ : ByteArray)] : List ByteArray)⟩, ⟨.st 158, ((⟨false, []⟩ : api_Exec) : api_Exec)⟩, ⟨.li (.ik .i64), ([] : List Int)⟩, ⟨.li (.ik .i64), ([(0 : Int)] : List Int)⟩, ⟨.li (.st 160), ([] : List api_Pair)⟩, ⟨.li (.st 160), ([(⟨(⟨#[]⟩ : ByteArray), (⟨#[]⟩ : ByteArray)⟩ : api_Pair)] : List api_Pair)⟩, ⟨.li (.str), ([] : List ByteArray)⟩, ⟨.li (.str), ([(⟨#[]⟩ : ByteArray)] : List ByteArray)⟩, ⟨.li (.ik .i64), ([] : List Int)⟩, ⟨.li (.ik .i64), ([(0 : Int)] : List Int)⟩, ⟨.li (.ik .i64), ([] : List Int)⟩, ⟨.li (.ik .i64), ([(0 : Int)] : List Int)⟩, ⟨.li (.ik .i64), ([] : List Int)⟩, ⟨.li (.ik .i64), ([(0 : Int)] : List Int)⟩, ⟨.li (.ik .i64), ([] : List Int)⟩, ⟨.li (.ik .i64), ([(0 : Int)] : List Int)⟩, ⟨.li (.str), ([] : List ByteArray)⟩, ⟨.li (.str), ([(⟨#[]⟩ : ByteArray)] : List ByteArray)⟩, ⟨.li (.str), ([] : List ByteArray)⟩, ⟨.li (.str), ([(⟨#[]⟩ : ByteArray)] : List ByteArray)⟩, ⟨.li (.str), ([] : List ByteArray)⟩, ⟨.li (.str), ([(⟨#[]⟩ : ByteArray)] : List ByteArray)⟩, ⟨.li (.str), ([] : List ByteArray)⟩, ⟨.li (.str), ([(⟨#[]⟩ : ByteArray)] : List ByteArray)⟩, ⟨.li (.str), ([] : List ByteArray)⟩, ⟨.li (.str), ([(⟨#[]⟩ : ByteArray)] : List ByteArray)⟩])
 (fun (e : api_Unit × Unit) => basis_UnitOf e.1) (by kernel_rfl) (fun _ => rfl)
noncomputable def service_New (v0 : api_Unit) (v1 : Int) : Option (api_Cell × Unit) :=
 (basis_UnitOf v0).bind fun r2 =>
 let v2 : api_Unit := r2.1
 let v3 : api_Cell := { (⟨(⟨(⟨#[]⟩ : ByteArray), (0 : Int), (⟨#[]⟩ : ByteArray), false, [], (0 : Int), (0 : Int), (0 : Int), [], [], [], [], [], false, (0 : Int), (0 : Int), (0 : Int), (0 : Int), [], [], [], [], (0 : Int), (⟨#[]⟩ : ByteArray), (⟨#[]⟩ : ByteArray), [], [], [], [], false, [], [], [], [], (⟨#[]⟩ : ByteArray)⟩ : api_Unit), (0 : Int), (0 : Int), (0 : Int), [], (0 : Int), (⟨(0 : Int), (0 : Int), (0 : Int), (0 : Int), (0 : Int), false⟩ : api_Run), (⟨(0 : Int), (0 : Int), (0 : Int), (0 : Int), (0 : Int), false⟩ : api_Run), (0 : Int), false, false, [], [], (0 : Int), (0 : Int), (0 : Int), (0 : Int), (0 : Int)⟩ : api_Cell) with U := v2 }
 let v4 : api_Cell := { v3 with State := (0 : Int) }
 let v5 : api_Cell := { v4 with Since := v1 }
 let v6 : api_Cell := { v5 with Over := (1099511627776 : Int) }
 let v7 : api_Cell := { v6 with Next := (1099511627776 : Int) }
 let v8 : api_Cell := { v7 with Last := (-1 : Int) }
 some (v8, ())
def l101 : Ch := (101, ⟨[.agg (.v 0) 35 (.g 0 0) [], .one (.v 1) (some (.w 1))], ⟨2, [], 2, 1, [], [], [], [(.w 1, 1, 1)]⟩, ⟨[0], [], [], [], [], 0⟩, [(0, ⟨none, .agg (.c []) 62 .d []⟩)], false⟩, [(11801, ⟨[], [], [], [], [], 12⟩), (11901, ⟨[], [], [], [], [], 12⟩), (15801, ⟨[], [], [], [], [], 12⟩), (16101, ⟨[], [], [], [], [], 12⟩)]) :: l71
noncomputable def t101 : List (Nat × TC U) := (101, ⟨[.st 28, .ik .i64], [.st 33], fun (a : api_Unit × Int × Unit) => service_New a.1 a.2.1⟩) :: t71
theorem c101 : Chain Tryz.prog U tab base l101 t101 := Chain.cons tb cfok c71 2 rfl rfl rfl (hs := [⟨.st 33, ((⟨(⟨(⟨#[]⟩ : ByteArray), (0 : Int), (⟨#[]⟩ : ByteArray), false, [], (0 : Int), (0 : Int), (0 : Int), [], [], [], [], [], false, (0 : Int), (0 : Int), (0 : Int), (0 : Int), [], [], [], [], (0 : Int), (⟨#[]⟩ : ByteArray), (⟨#[]⟩ : ByteArray), [], [], [], [], false, [], [], [], [], (⟨#[]⟩ : ByteArray)⟩ : api_Unit), (0 : Int), (0 : Int), (0 : Int), [], (0 : Int), (⟨(0 : Int), (0 : Int), (0 : Int), (0 : Int), (0 : Int), false⟩ : api_Run), (⟨(0 : Int), (0 : Int), (0 : Int), (0 : Int), (0 : Int), false⟩ : api_Run), (0 : Int), false, false, [], [], (0 : Int), (0 : Int), (0 : Int), (0 : Int), (0 : Int)⟩ : api_Cell) : api_Cell)⟩])
 (fun (e : Int × api_Unit × Unit) => service_New e.2.1 e.1) (by kernel_rfl) (fun _ => rfl)
noncomputable def cell_New (v0 : api_Unit) (v1 : Int) : Option (api_Cell × Unit) :=
 (service_New v0 v1).bind fun r2 =>
 let v2 : api_Cell := r2.1
 some (v2, ())
def l64 : Ch := (64, ⟨[.agg (.v 0) 35 (.g 0 0) [], .one (.v 1) (some (.w 1))], ⟨2, [], 2, 1, [], [], [], [(.w 1, 1, 1)]⟩, ⟨[0], [], [], [], [], 0⟩, [(0, ⟨none, .agg (.c []) 62 .d []⟩)], false⟩, [(11801, ⟨[], [], [], [], [], 12⟩), (11901, ⟨[], [], [], [], [], 12⟩), (15801, ⟨[], [], [], [], [], 12⟩), (16101, ⟨[], [], [], [], [], 12⟩)]) :: l101
noncomputable def t64 : List (Nat × TC U) := (64, ⟨[.st 28, .ik .i64], [.st 33], fun (a : api_Unit × Int × Unit) => cell_New a.1 a.2.1⟩) :: t101
theorem c64 : Chain Tryz.prog U tab base l64 t64 := Chain.cons tb cfok c101 2 rfl rfl rfl (hs := [])
 (fun (e : Int × api_Unit × Unit) => cell_New e.2.1 e.1) (by kernel_rfl) (fun _ => rfl)
noncomputable def matinsref22_SameInts (v0 : List Int) (v1 : List Int) : Option (Bool × Unit) :=
 let v2 : Int := ((List.length v0 : Nat) : Int)
 let v3 : Int := ((List.length v1 : Nat) : Int)
 let v4 : Bool := v2 != v3
 if v4 = true then (
 some (false, ()))
 else (
 let v5 : Int := ((List.length v0 : Nat) : Int)
 loopS (A := Int × Unit) (fun s6 =>
   let v6 : Int := s6.1
 let v7 : Bool := decide (v6 < v5)
 if v7 = true then (
 (if 0 ≤ v6 ∧ v6 < ((List.length v0 : Nat) : Int) then (v0)[(v6).toNat]? else none : Option Int).bind fun v8 =>
 let v9 : Int := v8
 (if 0 ≤ v6 ∧ v6 < ((List.length v1 : Nat) : Int) then (v1)[(v6).toNat]? else none : Option Int).bind fun v10 =>
 let v11 : Int := v10
 let v12 : Bool := v9 != v11
 if v12 = true then (
 some (Sum.inr (false, ())))
 else (
 let v13 : Int := IntKind.i64.wrap (v6 + (1 : Int))
 some (Sum.inl (v13, ()))))
 else (
 some (Sum.inr (true, ())))
   ) ((0 : Int), ()))
def l42 : Ch := (42, ⟨[.one (.v 0) (some (.w 1)), .one (.v 1) (some (.w 2))], ⟨2, [], 3, 0, [], [], [], [(.w 2, 1, 2), (.w 1, 1, 1)]⟩, ⟨[0], [], [], [], [], 0⟩, [(0, ⟨none, .one (.c []) none⟩)], false⟩, [(11801, ⟨[], [], [], [], [], 12⟩), (11901, ⟨[], [], [], [], [], 12⟩), (15801, ⟨[], [], [], [], [], 12⟩), (16101, ⟨[], [], [], [], [], 12⟩), (4204, ⟨[13], [], [], [], [], 0⟩)]) :: l64
noncomputable def t42 : List (Nat × TC U) := (42, ⟨[.li (.ik .i64), .li (.ik .i64)], [.bool], fun (a : (List Int) × (List Int) × Unit) => matinsref22_SameInts a.1 a.2.1⟩) :: t64
theorem c42 : Chain Tryz.prog U tab base l42 t42 := Chain.cons tb cfok c64 2 rfl rfl rfl (hs := [])
 (fun (e : (List Int) × (List Int) × Unit) => matinsref22_SameInts e.2.1 e.1) (by kernel_rfl) (fun _ => rfl)
noncomputable def matinsref27_SameConns (v0 : List api_Conn) (v1 : List api_Conn) : Option (Bool × Unit) :=
 let v2 : Int := ((List.length v0 : Nat) : Int)
 let v3 : Int := ((List.length v1 : Nat) : Int)
 let v4 : Bool := v2 != v3
 if v4 = true then (
 some (false, ()))
 else (
 let v5 : Int := ((List.length v0 : Nat) : Int)
 loopS (A := Int × Unit) (fun s6 =>
   let v6 : Int := s6.1
 let v7 : Bool := decide (v6 < v5)
 if v7 = true then (
 (if 0 ≤ v6 ∧ v6 < ((List.length v0 : Nat) : Int) then (v0)[(v6).toNat]? else none : Option api_Conn).bind fun v8 =>
 let v9 : api_Conn := v8
 (if 0 ≤ v6 ∧ v6 < ((List.length v1 : Nat) : Int) then (v1)[(v6).toNat]? else none : Option api_Conn).bind fun v10 =>
 let v11 : api_Conn := v10
 let v12 : Bool := api_Conn.same v9 v11 != true
 if v12 = true then (
 some (Sum.inr (false, ())))
 else (
 let v13 : Int := IntKind.i64.wrap (v6 + (1 : Int))
 some (Sum.inl (v13, ()))))
 else (
 some (Sum.inr (true, ())))
   ) ((0 : Int), ()))
def l43 : Ch := (43, ⟨[.one (.v 0) (some (.w 1)), .one (.v 1) (some (.w 2))], ⟨2, [], 3, 0, [], [], [], [(.w 2, 1, 2), (.w 1, 1, 1)]⟩, ⟨[0], [], [], [], [], 0⟩, [(0, ⟨none, .one (.c []) none⟩)], false⟩, [(11801, ⟨[], [], [], [], [], 12⟩), (11901, ⟨[], [], [], [], [], 12⟩), (15801, ⟨[], [], [], [], [], 12⟩), (16101, ⟨[], [], [], [], [], 12⟩), (4304, ⟨[13], [], [], [], [], 0⟩)]) :: l42
noncomputable def t43 : List (Nat × TC U) := (43, ⟨[.li (.st 105), .li (.st 105)], [.bool], fun (a : (List api_Conn) × (List api_Conn) × Unit) => matinsref27_SameConns a.1 a.2.1⟩) :: t42
theorem c43 : Chain Tryz.prog U tab base l43 t43 := Chain.cons tb cfok c42 2 rfl rfl rfl (hs := [])
 (fun (e : (List api_Conn) × (List api_Conn) × Unit) => matinsref27_SameConns e.2.1 e.1) (by kernel_rfl) (fun _ => rfl)
noncomputable def matinsref27_SameRows (v0 : List api_Row) (v1 : List api_Row) : Option (Bool × Unit) :=
 let v2 : Int := ((List.length v0 : Nat) : Int)
 let v3 : Int := ((List.length v1 : Nat) : Int)
 let v4 : Bool := v2 != v3
 if v4 = true then (
 some (false, ()))
 else (
 let v5 : Int := ((List.length v0 : Nat) : Int)
 loopS (A := Int × Unit) (fun s6 =>
   let v6 : Int := s6.1
 let v7 : Bool := decide (v6 < v5)
 if v7 = true then (
 (if 0 ≤ v6 ∧ v6 < ((List.length v0 : Nat) : Int) then (v0)[(v6).toNat]? else none : Option api_Row).bind fun v8 =>
 let v9 : api_Row := v8
 (if 0 ≤ v6 ∧ v6 < ((List.length v1 : Nat) : Int) then (v1)[(v6).toNat]? else none : Option api_Row).bind fun v10 =>
 let v11 : api_Row := v10
 let v12 : Bool := api_Row.same v9 v11 != true
 if v12 = true then (
 some (Sum.inr (false, ())))
 else (
 let v13 : Int := IntKind.i64.wrap (v6 + (1 : Int))
 some (Sum.inl (v13, ()))))
 else (
 some (Sum.inr (true, ())))
   ) ((0 : Int), ()))
def l44 : Ch := (44, ⟨[.one (.v 0) (some (.w 1)), .one (.v 1) (some (.w 2))], ⟨2, [], 3, 0, [], [], [], [(.w 2, 1, 2), (.w 1, 1, 1)]⟩, ⟨[0], [], [], [], [], 0⟩, [(0, ⟨none, .one (.c []) none⟩)], false⟩, [(11801, ⟨[], [], [], [], [], 12⟩), (11901, ⟨[], [], [], [], [], 12⟩), (15801, ⟨[], [], [], [], [], 12⟩), (16101, ⟨[], [], [], [], [], 12⟩), (4404, ⟨[13], [], [], [], [], 0⟩)]) :: l43
noncomputable def t44 : List (Nat × TC U) := (44, ⟨[.li (.st 62), .li (.st 62)], [.bool], fun (a : (List api_Row) × (List api_Row) × Unit) => matinsref27_SameRows a.1 a.2.1⟩) :: t43
theorem c44 : Chain Tryz.prog U tab base l44 t44 := Chain.cons tb cfok c43 2 rfl rfl rfl (hs := [])
 (fun (e : (List api_Row) × (List api_Row) × Unit) => matinsref27_SameRows e.2.1 e.1) (by kernel_rfl) (fun _ => rfl)
noncomputable def matinsref22_SameAsks (v0 : List api_Ask) (v1 : List api_Ask) : Option (Bool × Unit) :=
 let v2 : Int := ((List.length v0 : Nat) : Int)
 let v3 : Int := ((List.length v1 : Nat) : Int)
 let v4 : Bool := v2 != v3
 if v4 = true then (
 some (false, ()))
 else (
 let v5 : Int := ((List.length v0 : Nat) : Int)
 loopS (A := Int × Unit) (fun s6 =>
   let v6 : Int := s6.1
 let v7 : Bool := decide (v6 < v5)
 if v7 = true then (
 (if 0 ≤ v6 ∧ v6 < ((List.length v0 : Nat) : Int) then (v0)[(v6).toNat]? else none : Option api_Ask).bind fun v8 =>
 let v9 : api_Ask := v8
 (if 0 ≤ v6 ∧ v6 < ((List.length v1 : Nat) : Int) then (v1)[(v6).toNat]? else none : Option api_Ask).bind fun v10 =>
 let v11 : api_Ask := v10
 let v12 : Bool := api_Ask.same v9 v11 != true
 if v12 = true then (
 some (Sum.inr (false, ())))
 else (
 let v13 : Int := IntKind.i64.wrap (v6 + (1 : Int))
 some (Sum.inl (v13, ()))))
 else (
 some (Sum.inr (true, ())))
   ) ((0 : Int), ()))
def l45 : Ch := (45, ⟨[.one (.v 0) (some (.w 1)), .one (.v 1) (some (.w 2))], ⟨2, [], 3, 0, [], [], [], [(.w 2, 1, 2), (.w 1, 1, 1)]⟩, ⟨[0], [], [], [], [], 0⟩, [(0, ⟨none, .one (.c []) none⟩)], false⟩, [(11801, ⟨[], [], [], [], [], 12⟩), (11901, ⟨[], [], [], [], [], 12⟩), (15801, ⟨[], [], [], [], [], 12⟩), (16101, ⟨[], [], [], [], [], 12⟩), (4504, ⟨[13], [], [], [], [], 0⟩)]) :: l44
noncomputable def t45 : List (Nat × TC U) := (45, ⟨[.li (.st 92), .li (.st 92)], [.bool], fun (a : (List api_Ask) × (List api_Ask) × Unit) => matinsref22_SameAsks a.1 a.2.1⟩) :: t44
theorem c45 : Chain Tryz.prog U tab base l45 t45 := Chain.cons tb cfok c44 2 rfl rfl rfl (hs := [])
 (fun (e : (List api_Ask) × (List api_Ask) × Unit) => matinsref22_SameAsks e.2.1 e.1) (by kernel_rfl) (fun _ => rfl)
noncomputable def matinsref5_Same (v0 : List ByteArray) (v1 : List ByteArray) : Option (Bool × Unit) :=
 let v2 : Int := ((List.length v0 : Nat) : Int)
 let v3 : Int := ((List.length v1 : Nat) : Int)
 let v4 : Bool := v2 != v3
 if v4 = true then (
 some (false, ()))
 else (
 let v5 : Int := ((List.length v0 : Nat) : Int)
 loopS (A := Int × Unit) (fun s6 =>
   let v6 : Int := s6.1
 let v7 : Bool := decide (v6 < v5)
 if v7 = true then (
 (if 0 ≤ v6 ∧ v6 < ((List.length v0 : Nat) : Int) then (v0)[(v6).toNat]? else none : Option ByteArray).bind fun v8 =>
 let v9 : ByteArray := v8
 (if 0 ≤ v6 ∧ v6 < ((List.length v1 : Nat) : Int) then (v1)[(v6).toNat]? else none : Option ByteArray).bind fun v10 =>
 let v11 : ByteArray := v10
 let v12 : Bool := !((ByteArray.toList v9) == (ByteArray.toList v11))
 if v12 = true then (
 some (Sum.inr (false, ())))
 else (
 let v13 : Int := IntKind.i64.wrap (v6 + (1 : Int))
 some (Sum.inl (v13, ()))))
 else (
 some (Sum.inr (true, ())))
   ) ((0 : Int), ()))
def l79 : Ch := (79, ⟨[.one (.v 0) (some (.w 1)), .one (.v 1) (some (.w 2))], ⟨2, [], 3, 0, [], [], [], [(.w 2, 1, 2), (.w 1, 1, 1)]⟩, ⟨[0], [], [], [], [], 0⟩, [(0, ⟨none, .one (.c []) none⟩)], false⟩, [(11801, ⟨[], [], [], [], [], 12⟩), (11901, ⟨[], [], [], [], [], 12⟩), (15801, ⟨[], [], [], [], [], 12⟩), (16101, ⟨[], [], [], [], [], 12⟩), (7904, ⟨[13], [], [], [], [], 0⟩)]) :: l45
noncomputable def t79 : List (Nat × TC U) := (79, ⟨[.li (.str), .li (.str)], [.bool], fun (a : (List ByteArray) × (List ByteArray) × Unit) => matinsref5_Same a.1 a.2.1⟩) :: t45
theorem c79 : Chain Tryz.prog U tab base l79 t79 := Chain.cons tb cfok c45 2 rfl rfl rfl (hs := [])
 (fun (e : (List ByteArray) × (List ByteArray) × Unit) => matinsref5_Same e.2.1 e.1) (by kernel_rfl) (fun _ => rfl)
end Go.AW.M
