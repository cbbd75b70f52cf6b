/- Typed functions and their chain. Printed by tfn.py. · Typed functions and their chain. Printed by tfn.py. -/
import Derived.Test.YtibiooglhpjojaaGreatDoorF6
set_option linter.unusedSimpArgs false
set_option linter.unusedVariables false
namespace Go.AW.M
open Go.RowKit Go.Proofs
set_option maxRecDepth 100000
noncomputable def service_course_mains (v0 : service_course) : Option (service_course × Unit) :=
 (service_course_to ((2 : Int)) v0).bind fun r1 =>
 let v1 : service_course := r1.1
 let v2 : Int := v1.now
 (run_Begin ((2 : Int)) ((0 : Int)) v2).bind fun r3 =>
 let v3 : api_Run := r3.1
 let v4 : Int := v1.c.U.Type_
 let v5 : Bool := v4 == (1 : Int)
 if v5 = true then (
 let v6 : service_course := { v1 with c := { v1.c with Main := v3 } }
 (service_course_posts v6).bind fun r7 =>
 let v7 : service_course := r7.1
 some (v7, ()))
 else (
 let v6 : service_course := { v1 with c := { v1.c with Main := v3 } }
 some (v6, ()))
def l152 : Ch := (152, ⟨[.ptr 0 0], ⟨1, [⟨96, .v 0, 71, (.g 0 0), []⟩], 1, 1, [(.b 0 66, 62), (.b 0 67, 92), (.b 0 68, 105)], [], [], [(.b 0 0, 1, 0)]⟩, ⟨[], [0], [], [(0, (66, 62)), (0, (67, 92)), (0, (68, 105))], [], 0⟩, [], true⟩, [(11801, ⟨[], [], [], [], [], 12⟩), (11901, ⟨[], [], [], [], [], 12⟩), (15801, ⟨[], [], [], [], [], 12⟩), (16101, ⟨[], [], [], [], [], 12⟩)]) :: l190
noncomputable def t152 : List (Nat × TC U) := (152, ⟨[.st 96], [.st 96], fun (a : service_course × Unit) => service_course_mains a.1⟩) :: t190
theorem c152 : Chain Tryz.prog U tab base l152 t152 := Chain.cons tb cfok c190 1 rfl rfl rfl (hs := [])
 (fun (e : service_course × Unit) => service_course_mains e.1) (by kernel_rfl) (fun _ => rfl)
noncomputable def service_course_prepares (v0 : service_course) : Option (service_course × Unit) :=
 let v1 : List api_Exec := v0.c.U.Pre
 let v2 : Int := ((List.length v1 : Nat) : Int)
 let v3 : Bool := v2 == (0 : Int)
 if v3 = true then (
 (service_course_mains v0).bind fun r4 =>
 let v4 : service_course := r4.1
 some (v4, ()))
 else (
 (service_course_to ((1 : Int)) v0).bind fun r4 =>
 let v4 : service_course := r4.1
 let v5 : Int := v4.now
 (run_Begin ((1 : Int)) ((0 : Int)) v5).bind fun r6 =>
 let v6 : api_Run := r6.1
 let v7 : service_course := { v4 with c := { v4.c with Aux := v6 } }
 some (v7, ()))
def l109 : Ch := (109, ⟨[.ptr 0 0], ⟨1, [⟨96, .v 0, 71, (.g 0 0), []⟩], 1, 1, [(.b 0 66, 62), (.b 0 67, 92), (.b 0 68, 105)], [], [], [(.b 0 0, 1, 0)]⟩, ⟨[], [0], [], [(0, (66, 62)), (0, (67, 92)), (0, (68, 105))], [], 0⟩, [], true⟩, [(11801, ⟨[], [], [], [], [], 12⟩), (11901, ⟨[], [], [], [], [], 12⟩), (15801, ⟨[], [], [], [], [], 12⟩), (16101, ⟨[], [], [], [], [], 12⟩)]) :: l152
noncomputable def t109 : List (Nat × TC U) := (109, ⟨[.st 96], [.st 96], fun (a : service_course × Unit) => service_course_prepares a.1⟩) :: t152
theorem c109 : Chain Tryz.prog U tab base l109 t109 := Chain.cons tb cfok c152 1 rfl rfl rfl (hs := [])
 (fun (e : service_course × Unit) => service_course_prepares e.1) (by kernel_rfl) (fun _ => rfl)
noncomputable def limit_Keep_e1 (v0 : List Int) (v1 : Int) (v2 : Int) (v9 : Int) : Option ((List Int) × Unit) :=
 let v15 : Bool := decide (v9 ≥ (0 : Int))
 let v16 : Bool := !v15
 let v17 : Bool := !v16
 if v17 = true then (
 some (([] : List Int), ()))
 else (
 let v18 : Int := ((List.length v0 : Nat) : Int)
 loopS (A := Int × (List Int) × Unit) (fun s19 =>
   let v19 : Int := s19.1
   let v20 : List Int := s19.2.1
 let v21 : Bool := decide (v19 < v18)
 if v21 = true then (
 (if 0 ≤ v19 ∧ v19 < ((List.length v0 : Nat) : Int) then (v0)[(v19).toNat]? else none : Option Int).bind fun v22 =>
 let v23 : Int := v22
 (limit_in v23 v1 v2).bind fun r24 =>
 let v24 : Bool := r24.1
 if v24 = true then (
 let v25 : List Int := [v23]
 (if List.length v20 + List.length v25 ≤ 9223372036854775807 ∧ (List.length v20 + List.length v25) * 8 ≤ 140737488355328 then some (v20 ++ v25) else none : Option (List Int)).bind fun v26 =>
 let v27 : Int := IntKind.i64.wrap (v19 + (1 : Int))
 some (Sum.inl (v27, v26, ())))
 else (
 let v25 : Int := IntKind.i64.wrap (v19 + (1 : Int))
 some (Sum.inl (v25, v20, ()))))
 else (
 some (Sum.inr (v20, ())))
   ) ((0 : Int), ([] : List Int), ()))
noncomputable def limit_Keep_e2 (v0 : List Int) (v1 : Int) (v2 : Int) : Option ((List Int) × Unit) :=
 let v11 : Int := ((List.length v0 : Nat) : Int)
 loopS (A := Int × (List Int) × Unit) (fun s12 =>
   let v12 : Int := s12.1
   let v13 : List Int := s12.2.1
 let v14 : Bool := decide (v12 < v11)
 if v14 = true then (
 (if 0 ≤ v12 ∧ v12 < ((List.length v0 : Nat) : Int) then (v0)[(v12).toNat]? else none : Option Int).bind fun v15 =>
 let v16 : Int := v15
 (limit_in v16 v1 v2).bind fun r17 =>
 let v17 : Bool := r17.1
 if v17 = true then (
 let v18 : List Int := [v16]
 (if List.length v13 + List.length v18 ≤ 9223372036854775807 ∧ (List.length v13 + List.length v18) * 8 ≤ 140737488355328 then some (v13 ++ v18) else none : Option (List Int)).bind fun v19 =>
 let v20 : Int := IntKind.i64.wrap (v12 + (1 : Int))
 some (Sum.inl (v20, v19, ())))
 else (
 let v18 : Int := IntKind.i64.wrap (v12 + (1 : Int))
 some (Sum.inl (v18, v13, ()))))
 else (
 some (Sum.inr (v13, ())))
   ) ((0 : Int), ([] : List Int), ())
noncomputable def limit_Keep (v0 : List Int) (v1 : Int) (v2 : Int) : Option ((List Int) × Unit) :=
 (basis_Time v1).bind fun r3 =>
 let v3 : Bool := r3.1
 let v4 : Bool := v3
 (if v4 = true then (basis_Span v2).bind fun r => some (some r) else some none).bind fun r5 =>
 let v5 : Option Bool := r5.map fun x => x.1
 (if v3 = true then v5 else some false : Option Bool).bind fun v6 =>
 let v7 : Bool := v6
 if v6 = true then (
 let v8 : Int := ((List.length v0 : Nat) : Int)
 loopS (A := Int × Unit) (fun s9 =>
   let v9 : Int := s9.1
 let v10 : Bool := decide (v9 < v8)
 if v10 = true then (
 (if 0 ≤ v9 ∧ v9 < ((List.length v0 : Nat) : Int) then (v0)[(v9).toNat]? else none : Option Int).bind fun v11 =>
 let v12 : Int := v11
 (basis_Time v12).bind fun r13 =>
 let v13 : Bool := r13.1
 let v14 : Bool := !v13
 if v14 = true then (
 (limit_Keep_e1 v0 v1 v2 v9).bind fun r => some (Sum.inr r))
 else (
 let v15 : Int := IntKind.i64.wrap (v9 + (1 : Int))
 some (Sum.inl (v15, ()))))
 else (
 (limit_Keep_e2 v0 v1 v2).bind fun r => some (Sum.inr r))
   ) ((0 : Int), ()))
 else (
 some (([] : List Int), ()))
def l104 : Ch := (104, ⟨[.one (.v 0) (some (.w 1)), .one (.v 1) (some (.w 2)), .one (.v 2) (some (.w 3))], ⟨3, [], 4, 0, [], [], [], [(.w 3, 1, 3), (.w 2, 1, 2), (.w 1, 1, 1)]⟩, ⟨[0], [], [(0, 3)], [], [], 0⟩, [(0, ⟨none, .one (.c []) none⟩)], false⟩, [(11801, ⟨[], [], [], [], [], 12⟩), (11901, ⟨[], [], [], [], [], 12⟩), (15801, ⟨[], [], [], [], [], 12⟩), (16101, ⟨[], [], [], [], [], 12⟩), (21702, ⟨[8], [], [], [], [], 0⟩), (10405, ⟨[18, 7], [], [(7, 3)], [], [], 0⟩)]) :: l109
noncomputable def t104 : List (Nat × TC U) := (104, ⟨[.li (.ik .i64), .ik .i64, .ik .i64], [.li (.ik .i64)], fun (a : (List Int) × Int × Int × Unit) => limit_Keep a.1 a.2.1 a.2.2.1⟩) :: t109
theorem c104 : Chain Tryz.prog U tab base l104 t104 := Chain.cons tb cfok c109 3 rfl rfl rfl (hs := [⟨.li (.ik .i64), ([] : List Int)⟩, ⟨.li (.ik .i64), ([] : List Int)⟩, ⟨.li (.ik .i64), ([] : List Int)⟩, ⟨.li (.ik .i64), ([] : List Int)⟩])
 (fun (e : Int × Int × (List Int) × Unit) => limit_Keep e.2.2.1 e.2.1 e.1) (by kernel_rfl) (fun _ => rfl)
noncomputable def limit_May_e1 (v0 : List Int) (v1 : Int) (v2 : Int) (v3 : Int) (v10 : Int) : Option (Bool × Unit) :=
 let v16 : Bool := decide (v10 ≥ (0 : Int))
 let v17 : Bool := !v16
 let v18 : Bool := v17
 if v17 = true then (
 (limit_Keep v0 v1 v2).bind fun r19 =>
 let v19 : List Int := r19.1
 let v20 : Int := ((List.length v19 : Nat) : Int)
 let v21 : Bool := decide (v20 < v3)
 some (v21, ()))
 else (
 some (false, ()))
noncomputable def limit_May_e2 (v0 : List Int) (v1 : Int) (v2 : Int) (v3 : Int) : Option (Bool × Unit) :=
 (limit_Keep v0 v1 v2).bind fun r12 =>
 let v12 : List Int := r12.1
 let v13 : Int := ((List.length v12 : Nat) : Int)
 let v14 : Bool := decide (v13 < v3)
 some (v14, ())
noncomputable def limit_May (v0 : List Int) (v1 : Int) (v2 : Int) (v3 : Int) : Option (Bool × Unit) :=
 (basis_Time v1).bind fun r4 =>
 let v4 : Bool := r4.1
 let v5 : Bool := v4
 (if v5 = true then (basis_Span v2).bind fun r => some (some r) else some none).bind fun r6 =>
 let v6 : Option Bool := r6.map fun x => x.1
 (if v4 = true then v6 else some false : Option Bool).bind fun v7 =>
 let v8 : Bool := v7
 if v7 = true then (
 let v9 : Int := ((List.length v0 : Nat) : Int)
 loopS (A := Int × Unit) (fun s10 =>
   let v10 : Int := s10.1
 let v11 : Bool := decide (v10 < v9)
 if v11 = true then (
 (if 0 ≤ v10 ∧ v10 < ((List.length v0 : Nat) : Int) then (v0)[(v10).toNat]? else none : Option Int).bind fun v12 =>
 let v13 : Int := v12
 (basis_Time v13).bind fun r14 =>
 let v14 : Bool := r14.1
 let v15 : Bool := !v14
 if v15 = true then (
 (limit_May_e1 v0 v1 v2 v3 v10).bind fun r => some (Sum.inr r))
 else (
 let v16 : Int := IntKind.i64.wrap (v10 + (1 : Int))
 some (Sum.inl (v16, ()))))
 else (
 (limit_May_e2 v0 v1 v2 v3).bind fun r => some (Sum.inr r))
   ) ((0 : Int), ()))
 else (
 some (false, ()))
def l105 : Ch := (105, ⟨[.one (.v 0) (some (.w 1)), .one (.v 1) (some (.w 2)), .one (.v 2) (some (.w 3)), .one (.v 3) (some (.w 4))], ⟨4, [], 5, 0, [], [], [], [(.w 4, 1, 4), (.w 3, 1, 3), (.w 2, 1, 2), (.w 1, 1, 1)]⟩, ⟨[0], [], [], [], [], 0⟩, [(0, ⟨none, .one (.c []) none⟩)], false⟩, [(11801, ⟨[], [], [], [], [], 12⟩), (11901, ⟨[], [], [], [], [], 12⟩), (15801, ⟨[], [], [], [], [], 12⟩), (16101, ⟨[], [], [], [], [], 12⟩), (21702, ⟨[8], [], [], [], [], 0⟩)]) :: l104
noncomputable def t105 : List (Nat × TC U) := (105, ⟨[.li (.ik .i64), .ik .i64, .ik .i64, .ik .i64], [.bool], fun (a : (List Int) × Int × Int × Int × Unit) => limit_May a.1 a.2.1 a.2.2.1 a.2.2.2.1⟩) :: t104
theorem c105 : Chain Tryz.prog U tab base l105 t105 := Chain.cons tb cfok c104 4 rfl rfl rfl (hs := [])
 (fun (e : Int × Int × Int × (List Int) × Unit) => limit_May e.2.2.2.1 e.2.2.1 e.2.1 e.1) (by kernel_rfl) (fun _ => rfl)
noncomputable def service_course_start (v0 : api_Unit) (v1 : service_course) : Option (service_course × Unit) :=
 (basis_UnitOf v0).bind fun r2 =>
 let v2 : api_Unit := r2.1
 let v3 : List Int := v1.c.Begins
 let v4 : Int := v1.now
 let v5 : Int := v0.Every
 (limit_Keep v3 v4 v5).bind fun r6 =>
 let v6 : List Int := r6.1
 let v7 : Int := v1.now
 let v8 : Int := v0.Every
 let v9 : Int := v0.Burst
 (limit_May v6 v7 v8 v9).bind fun r10 =>
 let v10 : Bool := r10.1
 let v11 : Bool := !v10
 if v11 = true then (
 let v12 : service_course := { v1 with c := { v1.c with U := v2 } }
 let v13 : service_course := { v12 with c := { v12.c with Wish := false } }
 let v14 : service_course := { v13 with c := { v13.c with Bad := false } }
 let v15 : service_course := { v14 with c := { v14.c with Begins := v6 } }
 let v16 : service_course := { v15 with c := { v15.c with Result := (4 : Int) } }
 let v17 : service_course := { v16 with c := { v16.c with Over := (1099511627776 : Int) } }
 (service_course_to ((9 : Int)) v17).bind fun r18 =>
 let v18 : service_course := r18.1
 (service_course_row ((2 : Int)) ((⟨#[108, 105, 109, 105, 116]⟩ : ByteArray)) v18).bind fun r19 =>
 let v19 : service_course := r19.1
 let v20 : service_course := { v19 with out := { v19.out with Failed := true } }
 some (v20, ()))
 else (
 let v12 : Int := v1.c.Attempt
 let v13 : Int := IntKind.i64.wrap (v12 + (1 : Int))
 let v14 : Int := v1.now
 let v15 : List Int := [v14]
 (if List.length v6 + List.length v15 ≤ 9223372036854775807 ∧ (List.length v6 + List.length v15) * 8 ≤ 140737488355328 then some (v6 ++ v15) else none : Option (List Int)).bind fun v16 =>
 let v17 : Int := v1.now
 let v18 : Int := v0.Up
 (span_Sum v17 v18).bind fun r19 =>
 let v19 : Int := r19.1
 let v20 : service_course := { v1 with c := { v1.c with U := v2 } }
 let v21 : service_course := { v20 with c := { v20.c with Wish := false } }
 let v22 : service_course := { v21 with c := { v21.c with Bad := false } }
 let v23 : service_course := { v22 with c := { v22.c with Attempt := v13 } }
 let v24 : service_course := { v23 with c := { v23.c with Begins := v16 } }
 let v25 : service_course := { v24 with c := { v24.c with Result := (0 : Int) } }
 let v26 : service_course := { v25 with c := { v25.c with Over := v19 } }
 (service_course_row ((2 : Int)) ((⟨#[98, 101, 103, 105, 110, 115]⟩ : ByteArray)) v26).bind fun r27 =>
 let v27 : service_course := r27.1
 (service_course_prepares v27).bind fun r28 =>
 let v28 : service_course := r28.1
 some (v28, ()))
def l68 : Ch := (68, ⟨[.ptr 0 0, .agg (.v 0) 35 (.g 0 0) []], ⟨2, [⟨96, .v 1, 71, (.g 1 0), []⟩], 1, 2, [(.b 1 66, 62), (.b 1 67, 92), (.b 1 68, 105)], [], [], [(.b 1 0, 1, 0)]⟩, ⟨[], [0], [], [(0, (66, 62)), (0, (67, 92)), (0, (68, 105))], [], 0⟩, [], true⟩, [(11801, ⟨[], [], [], [], [], 12⟩), (11901, ⟨[], [], [], [], [], 12⟩), (15801, ⟨[], [], [], [], [], 12⟩), (16101, ⟨[], [], [], [], [], 12⟩)]) :: l105
noncomputable def t68 : List (Nat × TC U) := (68, ⟨[.st 28, .st 96], [.st 96], fun (a : api_Unit × service_course × Unit) => service_course_start a.1 a.2.1⟩) :: t105
theorem c68 : Chain Tryz.prog U tab base l68 t68 := Chain.cons tb cfok c105 2 rfl rfl rfl (hs := [])
 (fun (e : service_course × api_Unit × Unit) => service_course_start e.2.1 e.1) (by kernel_rfl) (fun _ => rfl)
noncomputable def service_course_stop (v0 : service_course) : Option (service_course × Unit) :=
 let v1 : Int := v0.c.State
 let v2 : Bool := v1 == (0 : Int)
 let v3 : Bool := !v2
 (if v3 = true then some (some (v0.c.State)) else some none).bind fun v4 =>
 (if v3 = true then (v4.bind fun v4o1 => some (v4o1 == (9 : Int)) : Option Bool).bind fun v => some (some v) else some none).bind fun v5 =>
 (if v2 = true then some true else (v5).bind fun y => some y : Option Bool).bind fun v6 =>
 if v6 = true then (
 some (v0, ()))
 else (
 let v7 : Int := v0.c.State
 let v8 : Bool := v7 == (8 : Int)
 if v8 = true then (
 let v9 : service_course := { v0 with c := { v0.c with Wish := true } }
 let v10 : service_course := { v9 with c := { v9.c with Over := (1099511627776 : Int) } }
 (service_course_to ((0 : Int)) v10).bind fun r11 =>
 let v11 : service_course := r11.1
 (service_course_row ((2 : Int)) ((⟨#[100, 111, 119, 110]⟩ : ByteArray)) v11).bind fun r12 =>
 let v12 : service_course := r12.1
 some (v12, ()))
 else (
 let v9 : Bool := v7 == (1 : Int)
 if v9 = true then (
 let v10 : service_course := { v0 with c := { v0.c with Wish := true } }
 (service_course_ends v10).bind fun r11 =>
 let v11 : service_course := r11.1
 some (v11, ()))
 else (
 let v10 : Bool := v7 == (2 : Int)
 if v10 = true then (
 let v11 : service_course := { v0 with c := { v0.c with Wish := true } }
 (service_course_ends v11).bind fun r12 =>
 let v12 : service_course := r12.1
 some (v12, ()))
 else (
 let v11 : Bool := v7 == (3 : Int)
 if v11 = true then (
 let v12 : service_course := { v0 with c := { v0.c with Wish := true } }
 (service_course_ends v12).bind fun r13 =>
 let v13 : service_course := r13.1
 some (v13, ()))
 else (
 let v12 : Bool := v7 == (4 : Int)
 if v12 = true then (
 let v13 : List api_Exec := v0.c.U.Stop
 let v14 : Int := ((List.length v13 : Nat) : Int)
 let v15 : Bool := v14 == (0 : Int)
 if v15 = true then (
 let v16 : service_course := { v0 with c := { v0.c with Wish := true } }
 let v17 : service_course := { v16 with c := { v16.c with Aux := (⟨(0 : Int), (0 : Int), (0 : Int), (0 : Int), (0 : Int), false⟩ : api_Run) } }
 (service_course_ends v17).bind fun r18 =>
 let v18 : service_course := r18.1
 some (v18, ()))
 else (
 let v16 : service_course := { v0 with c := { v0.c with Wish := true } }
 let v17 : service_course := { v16 with c := { v16.c with Aux := (⟨(0 : Int), (0 : Int), (0 : Int), (0 : Int), (0 : Int), false⟩ : api_Run) } }
 (service_course_to ((6 : Int)) v17).bind fun r18 =>
 let v18 : service_course := r18.1
 let v19 : Int := v18.now
 (run_Begin ((4 : Int)) ((0 : Int)) v19).bind fun r20 =>
 let v20 : api_Run := r20.1
 let v21 : Int := v18.now
 let v22 : Int := v18.c.U.Down
 (span_Sum v21 v22).bind fun r23 =>
 let v23 : Int := r23.1
 let v24 : service_course := { v18 with c := { v18.c with Aux := v20 } }
 let v25 : service_course := { v24 with c := { v24.c with Over := v23 } }
 (service_course_row ((2 : Int)) ((⟨#[115, 116, 111, 112, 115]⟩ : ByteArray)) v25).bind fun r26 =>
 let v26 : service_course := r26.1
 some (v26, ())))
 else (
 let v13 : Bool := v7 == (5 : Int)
 if v13 = true then (
 let v14 : List api_Exec := v0.c.U.Stop
 let v15 : Int := ((List.length v14 : Nat) : Int)
 let v16 : Bool := v15 == (0 : Int)
 if v16 = true then (
 let v17 : service_course := { v0 with c := { v0.c with Wish := true } }
 let v18 : service_course := { v17 with c := { v17.c with Aux := (⟨(0 : Int), (0 : Int), (0 : Int), (0 : Int), (0 : Int), false⟩ : api_Run) } }
 (service_course_ends v18).bind fun r19 =>
 let v19 : service_course := r19.1
 some (v19, ()))
 else (
 let v17 : service_course := { v0 with c := { v0.c with Wish := true } }
 let v18 : service_course := { v17 with c := { v17.c with Aux := (⟨(0 : Int), (0 : Int), (0 : Int), (0 : Int), (0 : Int), false⟩ : api_Run) } }
 (service_course_to ((6 : Int)) v18).bind fun r19 =>
 let v19 : service_course := r19.1
 let v20 : Int := v19.now
 (run_Begin ((4 : Int)) ((0 : Int)) v20).bind fun r21 =>
 let v21 : api_Run := r21.1
 let v22 : Int := v19.now
 let v23 : Int := v19.c.U.Down
 (span_Sum v22 v23).bind fun r24 =>
 let v24 : Int := r24.1
 let v25 : service_course := { v19 with c := { v19.c with Aux := v21 } }
 let v26 : service_course := { v25 with c := { v25.c with Over := v24 } }
 (service_course_row ((2 : Int)) ((⟨#[115, 116, 111, 112, 115]⟩ : ByteArray)) v26).bind fun r27 =>
 let v27 : service_course := r27.1
 some (v27, ())))
 else (
 let v14 : service_course := { v0 with c := { v0.c with Wish := true } }
 some (v14, ()))))))))
def l69 : Ch := (69, ⟨[.ptr 0 0], ⟨1, [⟨96, .v 0, 71, (.g 0 0), []⟩], 1, 1, [(.b 0 66, 62), (.b 0 67, 92), (.b 0 68, 105)], [], [], [(.b 0 0, 1, 0)]⟩, ⟨[], [0], [], [(0, (66, 62)), (0, (67, 92)), (0, (68, 105))], [], 0⟩, [], true⟩, [(11801, ⟨[], [], [], [], [], 12⟩), (11901, ⟨[], [], [], [], [], 12⟩), (15801, ⟨[], [], [], [], [], 12⟩), (16101, ⟨[], [], [], [], [], 12⟩)]) :: l68
noncomputable def t69 : List (Nat × TC U) := (69, ⟨[.st 96], [.st 96], fun (a : service_course × Unit) => service_course_stop a.1⟩) :: t68
theorem c69 : Chain Tryz.prog U tab base l69 t69 := Chain.cons tb cfok c68 1 rfl rfl rfl (hs := [⟨.st 30, ((⟨(0 : Int), (0 : Int), (0 : Int), (0 : Int), (0 : Int), false⟩ : api_Run) : api_Run)⟩, ⟨.st 30, ((⟨(0 : Int), (0 : Int), (0 : Int), (0 : Int), (0 : Int), false⟩ : api_Run) : api_Run)⟩, ⟨.st 30, ((⟨(0 : Int), (0 : Int), (0 : Int), (0 : Int), (0 : Int), false⟩ : api_Run) : api_Run)⟩, ⟨.st 30, ((⟨(0 : Int), (0 : Int), (0 : Int), (0 : Int), (0 : Int), false⟩ : api_Run) : api_Run)⟩])
 (fun (e : service_course × Unit) => service_course_stop e.1) (by kernel_rfl) (fun _ => rfl)
noncomputable def service_course_reload (v0 : service_course) : Option (service_course × Unit) :=
 let v1 : List api_Exec := v0.c.U.Reload
 let v2 : Int := ((List.length v1 : Nat) : Int)
 let v3 : Bool := v2 == (0 : Int)
 if v3 = true then (
 let v4 : service_course := { v0 with c := { v0.c with Bad := false } }
 some (v4, ()))
 else (
 let v4 : service_course := { v0 with c := { v0.c with Bad := false } }
 (service_course_to ((5 : Int)) v4).bind fun r5 =>
 let v5 : service_course := r5.1
 let v6 : Int := v5.now
 (run_Begin ((5 : Int)) ((0 : Int)) v6).bind fun r7 =>
 let v7 : api_Run := r7.1
 let v8 : Int := v5.now
 let v9 : Int := v5.c.U.Up
 (span_Sum v8 v9).bind fun r10 =>
 let v10 : Int := r10.1
 let v11 : service_course := { v5 with c := { v5.c with Aux := v7 } }
 let v12 : service_course := { v11 with c := { v11.c with Over := v10 } }
 (service_course_row ((2 : Int)) ((⟨#[114, 101, 108, 111, 97, 100, 115]⟩ : ByteArray)) v12).bind fun r13 =>
 let v13 : service_course := r13.1
 some (v13, ()))
def l70 : Ch := (70, ⟨[.ptr 0 0], ⟨1, [⟨96, .v 0, 71, (.g 0 0), []⟩], 1, 1, [(.b 0 66, 62), (.b 0 67, 92), (.b 0 68, 105)], [], [], [(.b 0 0, 1, 0)]⟩, ⟨[], [0], [], [(0, (66, 62)), (0, (67, 92)), (0, (68, 105))], [], 0⟩, [], true⟩, [(11801, ⟨[], [], [], [], [], 12⟩), (11901, ⟨[], [], [], [], [], 12⟩), (15801, ⟨[], [], [], [], [], 12⟩), (16101, ⟨[], [], [], [], [], 12⟩)]) :: l69
noncomputable def t70 : List (Nat × TC U) := (70, ⟨[.st 96], [.st 96], fun (a : service_course × Unit) => service_course_reload a.1⟩) :: t69
theorem c70 : Chain Tryz.prog U tab base l70 t70 := Chain.cons tb cfok c69 1 rfl rfl rfl (hs := [])
 (fun (e : service_course × Unit) => service_course_reload e.1) (by kernel_rfl) (fun _ => rfl)
noncomputable def service_Begin (v0 : api_World) (v1 : api_Unit) (v2 : api_Cell) (v3 : Int) (v4 : Int) : Option (api_Cell × api_Out × Unit) :=
 (basis_CellOf v2).bind fun r5 =>
 let v5 : api_Cell := r5.1
 let v6 : Int := v2.State
 let v7 : Bool := v6 == (0 : Int)
 let v8 : Bool := !v7
 (if v8 = true then some (some (v2.State)) else some none).bind fun v9 =>
 (if v8 = true then (v9.bind fun v9o1 => some (v9o1 == (8 : Int)) : Option Bool).bind fun v => some (some v) else some none).bind fun v10 =>
 (if v7 = true then some true else (v10).bind fun y => some y : Option Bool).bind fun v11 =>
 let v12 : Bool := !v11
 (if v12 = true then some (some (v2.State)) else some none).bind fun v13 =>
 (if v12 = true then (v13.bind fun v13o2 => some (v13o2 == (9 : Int)) : Option Bool).bind fun v => some (some v) else some none).bind fun v14 =>
 (if v11 = true then some true else (v14).bind fun y => some y : Option Bool).bind fun v15 =>
 let v16 : Bool := v3 == (1 : Int)
 let v17 : Bool := v16
 (if v16 = true then some v15 else some false : Option Bool).bind fun v18 =>
 if v18 = true then (
 let v19 : service_course := { (⟨(⟨[], [], []⟩ : api_World), (⟨(⟨(⟨#[]⟩ : ByteArray), (0 : Int), (⟨#[]⟩ : ByteArray), false, [], (0 : Int), (0 : Int), (0 : Int), [], [], [], [], [], false, (0 : Int), (0 : Int), (0 : Int), (0 : Int), [], [], [], [], (0 : Int), (⟨#[]⟩ : ByteArray), (⟨#[]⟩ : ByteArray), [], [], [], [], false, [], [], [], [], (⟨#[]⟩ : ByteArray)⟩ : api_Unit), (0 : Int), (0 : Int), (0 : Int), [], (0 : Int), (⟨(0 : Int), (0 : Int), (0 : Int), (0 : Int), (0 : Int), false⟩ : api_Run), (⟨(0 : Int), (0 : Int), (0 : Int), (0 : Int), (0 : Int), false⟩ : api_Run), (0 : Int), false, false, [], [], (0 : Int), (0 : Int), (0 : Int), (0 : Int), (0 : Int)⟩ : api_Cell), (0 : Int), (⟨[], [], [], false, false⟩ : api_Out)⟩ : service_course) with w := v0 }
 let v20 : service_course := { v19 with c := v5 }
 let v21 : service_course := { v20 with now := v4 }
 (service_course_start v1 v21).bind fun r22 =>
 let v22 : service_course := r22.1
 let v23 : api_Cell := v22.c
 let v24 : api_Out := v22.out
 some (v23, v24, ()))
 else (
 let v19 : Bool := v3 == (2 : Int)
 let v20 : Bool := !v19
 (if v20 = true then some (some (v3 == (3 : Int))) else some none).bind fun v21 =>
 (if v19 = true then some true else (v21).bind fun y => some y : Option Bool).bind fun v22 =>
 if v22 = true then (
 let v23 : service_course := { (⟨(⟨[], [], []⟩ : api_World), (⟨(⟨(⟨#[]⟩ : ByteArray), (0 : Int), (⟨#[]⟩ : ByteArray), false, [], (0 : Int), (0 : Int), (0 : Int), [], [], [], [], [], false, (0 : Int), (0 : Int), (0 : Int), (0 : Int), [], [], [], [], (0 : Int), (⟨#[]⟩ : ByteArray), (⟨#[]⟩ : ByteArray), [], [], [], [], false, [], [], [], [], (⟨#[]⟩ : ByteArray)⟩ : api_Unit), (0 : Int), (0 : Int), (0 : Int), [], (0 : Int), (⟨(0 : Int), (0 : Int), (0 : Int), (0 : Int), (0 : Int), false⟩ : api_Run), (⟨(0 : Int), (0 : Int), (0 : Int), (0 : Int), (0 : Int), false⟩ : api_Run), (0 : Int), false, false, [], [], (0 : Int), (0 : Int), (0 : Int), (0 : Int), (0 : Int)⟩ : api_Cell), (0 : Int), (⟨[], [], [], false, false⟩ : api_Out)⟩ : service_course) with w := v0 }
 let v24 : service_course := { v23 with c := v5 }
 let v25 : service_course := { v24 with now := v4 }
 (service_course_stop v25).bind fun r26 =>
 let v26 : service_course := r26.1
 let v27 : api_Cell := v26.c
 let v28 : api_Out := v26.out
 some (v27, v28, ()))
 else (
 let v23 : Bool := v3 == (4 : Int)
 let v24 : Bool := v23
 (if v24 = true then some (some (v2.State)) else some none).bind fun v25 =>
 (if v24 = true then (v25.bind fun v25o3 => some (v25o3 == (4 : Int)) : Option Bool).bind fun v => some (some v) else some none).bind fun v26 =>
 (if v23 = true then v26 else some false : Option Bool).bind fun v27 =>
 if v27 = true then (
 let v28 : service_course := { (⟨(⟨[], [], []⟩ : api_World), (⟨(⟨(⟨#[]⟩ : ByteArray), (0 : Int), (⟨#[]⟩ : ByteArray), false, [], (0 : Int), (0 : Int), (0 : Int), [], [], [], [], [], false, (0 : Int), (0 : Int), (0 : Int), (0 : Int), [], [], [], [], (0 : Int), (⟨#[]⟩ : ByteArray), (⟨#[]⟩ : ByteArray), [], [], [], [], false, [], [], [], [], (⟨#[]⟩ : ByteArray)⟩ : api_Unit), (0 : Int), (0 : Int), (0 : Int), [], (0 : Int), (⟨(0 : Int), (0 : Int), (0 : Int), (0 : Int), (0 : Int), false⟩ : api_Run), (⟨(0 : Int), (0 : Int), (0 : Int), (0 : Int), (0 : Int), false⟩ : api_Run), (0 : Int), false, false, [], [], (0 : Int), (0 : Int), (0 : Int), (0 : Int), (0 : Int)⟩ : api_Cell), (0 : Int), (⟨[], [], [], false, false⟩ : api_Out)⟩ : service_course) with w := v0 }
 let v29 : service_course := { v28 with c := v5 }
 let v30 : service_course := { v29 with now := v4 }
 (service_course_reload v30).bind fun r31 =>
 let v31 : service_course := r31.1
 let v32 : api_Cell := v31.c
 let v33 : api_Out := v31.out
 some (v32, v33, ()))
 else (
 some (v5, (⟨[], [], [], false, false⟩ : api_Out), ()))))
def l36 : Ch := (36, ⟨[.agg (.v 0) 3 (.g 0 0) [], .agg (.v 1) 35 (.g 1 0) [], .agg (.v 2) 62 (.g 2 0) [], .one (.v 3) (some (.w 1)), .one (.v 4) (some (.w 2))], ⟨5, [], 3, 3, [], [], [], [(.w 2, 1, 2), (.w 1, 1, 1)]⟩, ⟨[0, 1], [], [], [], [], 0⟩, [(0, ⟨none, .agg (.c []) 62 .d []⟩), (1, ⟨none, .agg (.c []) 5 .d []⟩)], true⟩, [(11801, ⟨[], [], [], [], [], 12⟩), (11901, ⟨[], [], [], [], [], 12⟩), (15801, ⟨[], [], [], [], [], 12⟩), (16101, ⟨[], [], [], [], [], 12⟩)]) :: l70
noncomputable def t36 : List (Nat × TC U) := (36, ⟨[.st 43, .st 28, .st 33, .ik .i64, .ik .i64], [.st 33, .st 47], fun (a : api_World × api_Unit × api_Cell × Int × Int × Unit) => service_Begin a.1 a.2.1 a.2.2.1 a.2.2.2.1 a.2.2.2.2.1⟩) :: t70
theorem c36 : Chain Tryz.prog U tab base l36 t36 := Chain.cons tb cfok c70 5 rfl rfl rfl (hs := [⟨.st 96, ((⟨(⟨[], [], []⟩ : api_World), (⟨(⟨(⟨#[]⟩ : ByteArray), (0 : Int), (⟨#[]⟩ : ByteArray), false, [], (0 : Int), (0 : Int), (0 : Int), [], [], [], [], [], false, (0 : Int), (0 : Int), (0 : Int), (0 : Int), [], [], [], [], (0 : Int), (⟨#[]⟩ : ByteArray), (⟨#[]⟩ : ByteArray), [], [], [], [], false, [], [], [], [], (⟨#[]⟩ : ByteArray)⟩ : api_Unit), (0 : Int), (0 : Int), (0 : Int), [], (0 : Int), (⟨(0 : Int), (0 : Int), (0 : Int), (0 : Int), (0 : Int), false⟩ : api_Run), (⟨(0 : Int), (0 : Int), (0 : Int), (0 : Int), (0 : Int), false⟩ : api_Run), (0 : Int), false, false, [], [], (0 : Int), (0 : Int), (0 : Int), (0 : Int), (0 : Int)⟩ : api_Cell), (0 : Int), (⟨[], [], [], false, false⟩ : api_Out)⟩ : service_course) : service_course)⟩, ⟨.st 96, ((⟨(⟨[], [], []⟩ : api_World), (⟨(⟨(⟨#[]⟩ : ByteArray), (0 : Int), (⟨#[]⟩ : ByteArray), false, [], (0 : Int), (0 : Int), (0 : Int), [], [], [], [], [], false, (0 : Int), (0 : Int), (0 : Int), (0 : Int), [], [], [], [], (0 : Int), (⟨#[]⟩ : ByteArray), (⟨#[]⟩ : ByteArray), [], [], [], [], false, [], [], [], [], (⟨#[]⟩ : ByteArray)⟩ : api_Unit), (0 : Int), (0 : Int), (0 : Int), [], (0 : Int), (⟨(0 : Int), (0 : Int), (0 : Int), (0 : Int), (0 : Int), false⟩ : api_Run), (⟨(0 : Int), (0 : Int), (0 : Int), (0 : Int), (0 : Int), false⟩ : api_Run), (0 : Int), false, false, [], [], (0 : Int), (0 : Int), (0 : Int), (0 : Int), (0 : Int)⟩ : api_Cell), (0 : Int), (⟨[], [], [], false, false⟩ : api_Out)⟩ : service_course) : service_course)⟩, ⟨.st 96, ((⟨(⟨[], [], []⟩ : api_World), (⟨(⟨(⟨#[]⟩ : ByteArray), (0 : Int), (⟨#[]⟩ : ByteArray), false, [], (0 : Int), (0 : Int), (0 : Int), [], [], [], [], [], false, (0 : Int), (0 : Int), (0 : Int), (0 : Int), [], [], [], [], (0 : Int), (⟨#[]⟩ : ByteArray), (⟨#[]⟩ : ByteArray), [], [], [], [], false, [], [], [], [], (⟨#[]⟩ : ByteArray)⟩ : api_Unit), (0 : Int), (0 : Int), (0 : Int), [], (0 : Int), (⟨(0 : Int), (0 : Int), (0 : Int), (0 : Int), (0 : Int), false⟩ : api_Run), (⟨(0 : Int), (0 : Int), (0 : Int), (0 : Int), (0 : Int), false⟩ : api_Run), (0 : Int), false, false, [], [], (0 : Int), (0 : Int), (0 : Int), (0 : Int), (0 : Int)⟩ : api_Cell), (0 : Int), (⟨[], [], [], false, false⟩ : api_Out)⟩ : service_course) : service_course)⟩, ⟨.st 47, ((⟨[], [], [], false, false⟩ : api_Out) : api_Out)⟩])
 (fun (e : Int × Int × api_Cell × api_Unit × api_World × Unit) => service_Begin e.2.2.2.2.1 e.2.2.2.1 e.2.2.1 e.2.1 e.1) (by kernel_rfl) (fun _ => rfl)
noncomputable def watch_Begin (v0 : api_World) (v1 : api_Unit) (v2 : api_Cell) (v3 : Int) (v4 : Int) : Option (api_Cell × api_Out × Unit) :=
 (basis_CellOf v2).bind fun r5 =>
 let v5 : api_Cell := r5.1
 let v6 : Bool := v3 == (1 : Int)
 let v7 : Bool := v6
 (if v7 = true then some (some (v5.State)) else some none).bind fun v8 =>
 (if v7 = true then (v8.bind fun v8o1 => some (v8o1 == (0 : Int)) : Option Bool).bind fun v => some (some v) else some none).bind fun v9 =>
 (if v7 = true then v9.bind fun v9o2 => some (!v9o2) else some false : Option Bool).bind fun v10 =>
 (if v10 = true then some (some (v5.State)) else some none).bind fun v11 =>
 (if v10 = true then (v11.bind fun v11o3 => some (v11o3 == (9 : Int)) : Option Bool).bind fun v => some (some v) else some none).bind fun v12 =>
 (if v7 = true then (v9.bind fun v9o4 => if v9o4 = true then some true else (v12).bind fun y => some y : Option Bool).bind fun v => some (some v) else some none).bind fun v13 =>
 (if v6 = true then v13 else some false : Option Bool).bind fun v14 =>
 if v14 = true then (
 (basis_UnitOf v1).bind fun r15 =>
 let v15 : api_Unit := r15.1
 let v16 : Int := v5.Attempt
 let v17 : Int := IntKind.i64.wrap (v16 + (1 : Int))
 let v18 : Int := v5.Rows
 let v19 : Int := IntKind.i64.wrap (v18 + (1 : Int))
 let v20 : ByteArray := v15.Name
 let v21 : api_Row := { (⟨(0 : Int), (⟨#[]⟩ : ByteArray), (0 : Int), (0 : Int), (⟨#[]⟩ : ByteArray)⟩ : api_Row) with Time := v4 }
 let v22 : api_Row := { v21 with Unit_ := v20 }
 let v23 : api_Row := { v22 with N := v19 }
 let v24 : api_Row := { v23 with Kind := (2 : Int) }
 let v25 : api_Row := { v24 with Text := (⟨#[117, 112]⟩ : ByteArray) }
 let v26 : List api_Row := [v25]
 let v27 : api_Cell := { v5 with U := v15 }
 let v28 : api_Cell := { v27 with Attempt := v17 }
 let v29 : api_Cell := { v28 with State := (4 : Int) }
 let v30 : api_Cell := { v29 with Since := v4 }
 let v31 : api_Cell := { v30 with Next := (1099511627776 : Int) }
 let v32 : api_Cell := { v31 with Rows := v19 }
 let v33 : api_Out := { (⟨[], [], [], false, false⟩ : api_Out) with Rows := v26 }
 some (v32, v33, ()))
 else (
 let v15 : Bool := v3 == (2 : Int)
 let v16 : Bool := !v15
 (if v16 = true then some (some (v3 == (3 : Int))) else some none).bind fun v17 =>
 (if v15 = true then some true else (v17).bind fun y => some y : Option Bool).bind fun v18 =>
 let v19 : Bool := v18
 (if v19 = true then some (some (v5.State)) else some none).bind fun v20 =>
 (if v19 = true then (v20.bind fun v20o5 => some (v20o5 == (4 : Int)) : Option Bool).bind fun v => some (some v) else some none).bind fun v21 =>
 (if v18 = true then v21 else some false : Option Bool).bind fun v22 =>
 if v22 = true then (
 let v23 : Int := v5.Rows
 let v24 : Int := IntKind.i64.wrap (v23 + (1 : Int))
 let v25 : ByteArray := v5.U.Name
 let v26 : api_Row := { (⟨(0 : Int), (⟨#[]⟩ : ByteArray), (0 : Int), (0 : Int), (⟨#[]⟩ : ByteArray)⟩ : api_Row) with Time := v4 }
 let v27 : api_Row := { v26 with Unit_ := v25 }
 let v28 : api_Row := { v27 with N := v24 }
 let v29 : api_Row := { v28 with Kind := (2 : Int) }
 let v30 : api_Row := { v29 with Text := (⟨#[100, 111, 119, 110]⟩ : ByteArray) }
 let v31 : List api_Row := [v30]
 let v32 : api_Cell := { v5 with State := (0 : Int) }
 let v33 : api_Cell := { v32 with Since := v4 }
 let v34 : api_Cell := { v33 with Next := (1099511627776 : Int) }
 let v35 : api_Cell := { v34 with Rows := v24 }
 let v36 : api_Out := { (⟨[], [], [], false, false⟩ : api_Out) with Rows := v31 }
 some (v35, v36, ()))
 else (
 some (v5, (⟨[], [], [], false, false⟩ : api_Out), ())))
def l38 : Ch := (38, ⟨[.agg (.v 0) 3 (.g 0 0) [], .agg (.v 1) 35 (.g 1 0) [], .agg (.v 2) 62 (.g 2 0) [], .one (.v 3) (some (.w 1)), .one (.v 4) (some (.w 2))], ⟨5, [], 3, 3, [], [], [], [(.w 2, 1, 2), (.w 1, 1, 1)]⟩, ⟨[0, 1], [], [], [], [], 0⟩, [(0, ⟨none, .agg (.c []) 62 .d []⟩), (1, ⟨none, .agg (.c []) 5 .d []⟩)], true⟩, [(11801, ⟨[], [], [], [], [], 12⟩), (11901, ⟨[], [], [], [], [], 12⟩), (15801, ⟨[], [], [], [], [], 12⟩), (16101, ⟨[], [], [], [], [], 12⟩)]) :: l36
noncomputable def t38 : List (Nat × TC U) := (38, ⟨[.st 43, .st 28, .st 33, .ik .i64, .ik .i64], [.st 33, .st 47], fun (a : api_World × api_Unit × api_Cell × Int × Int × Unit) => watch_Begin a.1 a.2.1 a.2.2.1 a.2.2.2.1 a.2.2.2.2.1⟩) :: t36
theorem c38 : Chain Tryz.prog U tab base l38 t38 := Chain.cons tb cfok c36 5 rfl rfl rfl (hs := [⟨.st 62, ((⟨(0 : Int), (⟨#[]⟩ : ByteArray), (0 : Int), (0 : Int), (⟨#[]⟩ : ByteArray)⟩ : api_Row) : api_Row)⟩, ⟨.st 47, ((⟨[], [], [], false, false⟩ : api_Out) : api_Out)⟩, ⟨.st 62, ((⟨(0 : Int), (⟨#[]⟩ : ByteArray), (0 : Int), (0 : Int), (⟨#[]⟩ : ByteArray)⟩ : api_Row) : api_Row)⟩, ⟨.st 47, ((⟨[], [], [], false, false⟩ : api_Out) : api_Out)⟩, ⟨.st 47, ((⟨[], [], [], false, false⟩ : api_Out) : api_Out)⟩])
 (fun (e : Int × Int × api_Cell × api_Unit × api_World × Unit) => watch_Begin e.2.2.2.2.1 e.2.2.2.1 e.2.2.1 e.2.1 e.1) (by kernel_rfl) (fun _ => rfl)
noncomputable def cell_target (v0 : api_Unit) (v1 : api_Cell) (v2 : Int) (v3 : Int) : Option (api_Cell × api_Out × Unit) :=
 (basis_CellOf v1).bind fun r4 =>
 let v4 : api_Cell := r4.1
 let v5 : Bool := v2 == (1 : Int)
 let v6 : Bool := v5
 (if v6 = true then (cell_Rest v4).bind fun r => some (some r) else some none).bind fun r7 =>
 let v7 : Option Bool := r7.map fun x => x.1
 (if v5 = true then v7 else some false : Option Bool).bind fun v8 =>
 if v8 = true then (
 (basis_UnitOf v0).bind fun r9 =>
 let v9 : api_Unit := r9.1
 let v10 : Int := v4.Attempt
 let v11 : Int := IntKind.i64.wrap (v10 + (1 : Int))
 let v12 : Int := v4.Rows
 let v13 : Int := IntKind.i64.wrap (v12 + (1 : Int))
 let v14 : ByteArray := v9.Name
 let v15 : api_Row := { (⟨(0 : Int), (⟨#[]⟩ : ByteArray), (0 : Int), (0 : Int), (⟨#[]⟩ : ByteArray)⟩ : api_Row) with Time := v3 }
 let v16 : api_Row := { v15 with Unit_ := v14 }
 let v17 : api_Row := { v16 with N := v13 }
 let v18 : api_Row := { v17 with Kind := (2 : Int) }
 let v19 : api_Row := { v18 with Text := (⟨#[117, 112]⟩ : ByteArray) }
 let v20 : List api_Row := [v19]
 let v21 : api_Cell := { v4 with U := v9 }
 let v22 : api_Cell := { v21 with Attempt := v11 }
 let v23 : api_Cell := { v22 with State := (4 : Int) }
 let v24 : api_Cell := { v23 with Since := v3 }
 let v25 : api_Cell := { v24 with Rows := v13 }
 let v26 : api_Out := { (⟨[], [], [], false, false⟩ : api_Out) with Rows := v20 }
 some (v25, v26, ()))
 else (
 let v9 : Bool := v2 == (2 : Int)
 let v10 : Bool := !v9
 (if v10 = true then some (some (v2 == (3 : Int))) else some none).bind fun v11 =>
 (if v9 = true then some true else (v11).bind fun y => some y : Option Bool).bind fun v12 =>
 let v13 : Bool := v12
 (if v13 = true then some (some (v4.State)) else some none).bind fun v14 =>
 (if v13 = true then (v14.bind fun v14o1 => some (v14o1 == (4 : Int)) : Option Bool).bind fun v => some (some v) else some none).bind fun v15 =>
 (if v12 = true then v15 else some false : Option Bool).bind fun v16 =>
 if v16 = true then (
 let v17 : Int := v4.Rows
 let v18 : Int := IntKind.i64.wrap (v17 + (1 : Int))
 let v19 : ByteArray := v4.U.Name
 let v20 : api_Row := { (⟨(0 : Int), (⟨#[]⟩ : ByteArray), (0 : Int), (0 : Int), (⟨#[]⟩ : ByteArray)⟩ : api_Row) with Time := v3 }
 let v21 : api_Row := { v20 with Unit_ := v19 }
 let v22 : api_Row := { v21 with N := v18 }
 let v23 : api_Row := { v22 with Kind := (2 : Int) }
 let v24 : api_Row := { v23 with Text := (⟨#[100, 111, 119, 110]⟩ : ByteArray) }
 let v25 : List api_Row := [v24]
 let v26 : api_Cell := { v4 with State := (0 : Int) }
 let v27 : api_Cell := { v26 with Since := v3 }
 let v28 : api_Cell := { v27 with Rows := v18 }
 let v29 : api_Out := { (⟨[], [], [], false, false⟩ : api_Out) with Rows := v25 }
 some (v28, v29, ()))
 else (
 some (v4, (⟨[], [], [], false, false⟩ : api_Out), ())))
def l39 : Ch := (39, ⟨[.agg (.v 0) 35 (.g 0 0) [], .agg (.v 1) 62 (.g 1 0) [], .one (.v 2) (some (.w 1)), .one (.v 3) (some (.w 2))], ⟨4, [], 3, 2, [], [], [], [(.w 2, 1, 2), (.w 1, 1, 1)]⟩, ⟨[0, 1], [], [], [], [], 0⟩, [(0, ⟨none, .agg (.c []) 62 .d []⟩), (1, ⟨none, .agg (.c []) 5 .d []⟩)], true⟩, [(11801, ⟨[], [], [], [], [], 12⟩), (11901, ⟨[], [], [], [], [], 12⟩), (15801, ⟨[], [], [], [], [], 12⟩), (16101, ⟨[], [], [], [], [], 12⟩)]) :: l38
noncomputable def t39 : List (Nat × TC U) := (39, ⟨[.st 28, .st 33, .ik .i64, .ik .i64], [.st 33, .st 47], fun (a : api_Unit × api_Cell × Int × Int × Unit) => cell_target a.1 a.2.1 a.2.2.1 a.2.2.2.1⟩) :: t38
theorem c39 : Chain Tryz.prog U tab base l39 t39 := Chain.cons tb cfok c38 4 rfl rfl rfl (hs := [⟨.st 62, ((⟨(0 : Int), (⟨#[]⟩ : ByteArray), (0 : Int), (0 : Int), (⟨#[]⟩ : ByteArray)⟩ : api_Row) : api_Row)⟩, ⟨.st 47, ((⟨[], [], [], false, false⟩ : api_Out) : api_Out)⟩, ⟨.st 62, ((⟨(0 : Int), (⟨#[]⟩ : ByteArray), (0 : Int), (0 : Int), (⟨#[]⟩ : ByteArray)⟩ : api_Row) : api_Row)⟩, ⟨.st 47, ((⟨[], [], [], false, false⟩ : api_Out) : api_Out)⟩, ⟨.st 47, ((⟨[], [], [], false, false⟩ : api_Out) : api_Out)⟩])
 (fun (e : Int × Int × api_Cell × api_Unit × Unit) => cell_target e.2.2.2.1 e.2.2.1 e.2.1 e.1) (by kernel_rfl) (fun _ => rfl)
noncomputable def sock_course_conn (v0 : ByteArray) (v1 : Int) (v2 : sock_course) : Option (sock_course × Unit) :=
 (if v0.size + (⟨#[32]⟩ : ByteArray).size ≤ 9223372036854775807 then some (v0 ++ (⟨#[32]⟩ : ByteArray)) else none : Option ByteArray).bind fun v3 =>
 (itoaF v1).bind fun r4 =>
 let v4 : ByteArray := r4.1
 (if v3.size + v4.size ≤ 9223372036854775807 then some (v3 ++ v4) else none : Option ByteArray).bind fun v5 =>
 let v6 : List api_Row := v2.out.Rows
 let v7 : Int := v2.now
 let v8 : Int := v2.c.Rows
 let v9 : Int := IntKind.i64.wrap (v8 + (1 : Int))
 let v10 : ByteArray := v2.c.U.Name
 let v11 : api_Row := { (⟨(0 : Int), (⟨#[]⟩ : ByteArray), (0 : Int), (0 : Int), (⟨#[]⟩ : ByteArray)⟩ : api_Row) with Time := v7 }
 let v12 : api_Row := { v11 with Unit_ := v10 }
 let v13 : api_Row := { v12 with N := v9 }
 let v14 : api_Row := { v13 with Kind := (4 : Int) }
 let v15 : api_Row := { v14 with Text := v5 }
 let v16 : List api_Row := [v15]
 (if List.length v6 + List.length v16 ≤ 9223372036854775807 ∧ (List.length v6 + List.length v16) * 56 ≤ 140737488355328 then some (v6 ++ v16) else none : Option (List api_Row)).bind fun v17 =>
 let v18 : sock_course := { v2 with c := { v2.c with Rows := v9 } }
 let v19 : sock_course := { v18 with out := { v18.out with Rows := v17 } }
 some (v19, ())
def l74 : Ch := (74, ⟨[.ptr 0 0, .one (.v 0) (some (.w 1)), .one (.v 1) (some (.w 2))], ⟨3, [⟨100, .v 2, 68, (.g 0 0), []⟩], 3, 1, [(.b 0 63, 62), (.b 0 64, 92), (.b 0 65, 105)], [], [], [(.b 0 0, 1, 0), (.w 2, 1, 2), (.w 1, 1, 1)]⟩, ⟨[], [0], [], [(0, (63, 62)), (0, (64, 92)), (0, (65, 105))], [], 0⟩, [], true⟩, [(11801, ⟨[], [], [], [], [], 12⟩), (11901, ⟨[], [], [], [], [], 12⟩), (15801, ⟨[], [], [], [], [], 12⟩), (16101, ⟨[], [], [], [], [], 12⟩)]) :: l39
noncomputable def t74 : List (Nat × TC U) := (74, ⟨[.str, .ik .i64, .st 100], [.st 100], fun (a : ByteArray × Int × sock_course × Unit) => sock_course_conn a.1 a.2.1 a.2.2.1⟩) :: t39
theorem c74 : Chain Tryz.prog U tab base l74 t74 := Chain.cons tb cfok c39 3 rfl rfl rfl (hs := [⟨.st 62, ((⟨(0 : Int), (⟨#[]⟩ : ByteArray), (0 : Int), (0 : Int), (⟨#[]⟩ : ByteArray)⟩ : api_Row) : api_Row)⟩])
 (fun (e : sock_course × Int × ByteArray × Unit) => sock_course_conn e.2.2.1 e.2.1 e.1) (by kernel_rfl) (fun _ => rfl)
noncomputable def sock_Begin_e1 (v12 : sock_course) : Option (api_Cell × api_Out × Unit) :=
 let v14 : Int := v12.now
 let v15 : List api_Row := v12.out.Rows
 let v16 : Int := v12.now
 let v17 : Int := v12.c.Rows
 let v18 : Int := IntKind.i64.wrap (v17 + (1 : Int))
 let v19 : ByteArray := v12.c.U.Name
 let v20 : api_Row := { (⟨(0 : Int), (⟨#[]⟩ : ByteArray), (0 : Int), (0 : Int), (⟨#[]⟩ : ByteArray)⟩ : api_Row) with Time := v16 }
 let v21 : api_Row := { v20 with Unit_ := v19 }
 let v22 : api_Row := { v21 with N := v18 }
 let v23 : api_Row := { v22 with Kind := (2 : Int) }
 let v24 : api_Row := { v23 with Text := (⟨#[100, 111, 119, 110]⟩ : ByteArray) }
 let v25 : List api_Row := [v24]
 (if List.length v15 + List.length v25 ≤ 9223372036854775807 ∧ (List.length v15 + List.length v25) * 56 ≤ 140737488355328 then some (v15 ++ v25) else none : Option (List api_Row)).bind fun v26 =>
 let v27 : api_Cell := v12.c
 let v28 : api_Out := v12.out
 let v29 : api_Cell := { v27 with Waits := ([] : List api_Conn) }
 let v30 : api_Cell := { v29 with State := (0 : Int) }
 let v31 : api_Cell := { v30 with Since := v14 }
 let v32 : api_Cell := { v31 with Rows := v18 }
 let v33 : api_Out := { v28 with Rows := v26 }
 some (v32, v33, ())
noncomputable def sock_Begin (v0 : api_World) (v1 : api_Unit) (v2 : api_Cell) (v3 : Int) : Option (api_Cell × api_Out × Unit) :=
 (basis_CellOf v2).bind fun r4 =>
 let v4 : api_Cell := r4.1
 let v5 : Int := v2.State
 let v6 : Bool := v5 == (4 : Int)
 if v6 = true then (
 let v7 : List api_Conn := v4.Waits
 let v8 : Int := ((List.length v7 : Nat) : Int)
 let v9 : sock_course := { (⟨(⟨(⟨(⟨#[]⟩ : ByteArray), (0 : Int), (⟨#[]⟩ : ByteArray), false, [], (0 : Int), (0 : Int), (0 : Int), [], [], [], [], [], false, (0 : Int), (0 : Int), (0 : Int), (0 : Int), [], [], [], [], (0 : Int), (⟨#[]⟩ : ByteArray), (⟨#[]⟩ : ByteArray), [], [], [], [], false, [], [], [], [], (⟨#[]⟩ : ByteArray)⟩ : api_Unit), (0 : Int), (0 : Int), (0 : Int), [], (0 : Int), (⟨(0 : Int), (0 : Int), (0 : Int), (0 : Int), (0 : Int), false⟩ : api_Run), (⟨(0 : Int), (0 : Int), (0 : Int), (0 : Int), (0 : Int), false⟩ : api_Run), (0 : Int), false, false, [], [], (0 : Int), (0 : Int), (0 : Int), (0 : Int), (0 : Int)⟩ : api_Cell), (0 : Int), (⟨[], [], [], false, false⟩ : api_Out)⟩ : sock_course) with c := v4 }
 let v10 : sock_course := { v9 with now := v3 }
 loopS (A := Int × sock_course × Unit) (fun s11 =>
   let v11 : Int := s11.1
   let v12 : sock_course := s11.2.1
 let v13 : Bool := decide (v11 < v8)
 if v13 = true then (
 (if 0 ≤ v11 ∧ v11 < ((List.length v7 : Nat) : Int) then (v7)[(v11).toNat]? else none : Option api_Conn).bind fun v14 =>
 let v15 : api_Conn := v14
 let v16 : Int := v15.Num
 (sock_course_conn ((⟨#[100, 114, 111, 112, 112, 101, 100]⟩ : ByteArray)) v16 v12).bind fun r17 =>
 let v17 : sock_course := r17.1
 let v18 : Int := IntKind.i64.wrap (v11 + (1 : Int))
 some (Sum.inl (v18, v17, ())))
 else (
 (sock_Begin_e1 v12).bind fun r => some (Sum.inr r))
   ) ((0 : Int), v10, ()))
 else (
 some (v4, (⟨[], [], [], false, false⟩ : api_Out), ()))
def l37 : Ch := (37, ⟨[.agg (.v 0) 3 (.g 0 0) [], .agg (.v 1) 35 (.g 1 0) [], .agg (.v 2) 62 (.g 2 0) [], .one (.c [.lit (.int .i64 2)]) none, .one (.v 3) (some (.w 1))], ⟨4, [], 2, 3, [], [], [], [(.w 1, 1, 1)]⟩, ⟨[0, 1], [], [], [], [], 0⟩, [(0, ⟨none, .agg (.c []) 62 .d []⟩), (1, ⟨none, .agg (.c []) 5 .d []⟩)], true⟩, [(11801, ⟨[], [], [], [], [], 12⟩), (11901, ⟨[], [], [], [], [], 12⟩), (15801, ⟨[], [], [], [], [], 12⟩), (16101, ⟨[], [], [], [], [], 12⟩), (3715, ⟨[97], [5], [], [(5, (63, 62)), (5, (64, 92)), (5, (65, 105))], [], 0⟩)]) :: l74
noncomputable def t37 : List (Nat × TC U) := (37, ⟨[.st 43, .st 28, .st 33, .ik .i64], [.st 33, .st 47], fun (a : api_World × api_Unit × api_Cell × Int × Unit) => sock_Begin a.1 a.2.1 a.2.2.1 a.2.2.2.1⟩) :: t74
theorem c37 : Chain Tryz.prog U tab base l37 t37 := Chain.cons tb cfok c74 4 rfl rfl rfl (hs := [⟨.st 100, ((⟨(⟨(⟨(⟨#[]⟩ : ByteArray), (0 : Int), (⟨#[]⟩ : ByteArray), false, [], (0 : Int), (0 : Int), (0 : Int), [], [], [], [], [], false, (0 : Int), (0 : Int), (0 : Int), (0 : Int), [], [], [], [], (0 : Int), (⟨#[]⟩ : ByteArray), (⟨#[]⟩ : ByteArray), [], [], [], [], false, [], [], [], [], (⟨#[]⟩ : ByteArray)⟩ : api_Unit), (0 : Int), (0 : Int), (0 : Int), [], (0 : Int), (⟨(0 : Int), (0 : Int), (0 : Int), (0 : Int), (0 : Int), false⟩ : api_Run), (⟨(0 : Int), (0 : Int), (0 : Int), (0 : Int), (0 : Int), false⟩ : api_Run), (0 : Int), false, false, [], [], (0 : Int), (0 : Int), (0 : Int), (0 : Int), (0 : Int)⟩ : api_Cell), (0 : Int), (⟨[], [], [], false, false⟩ : api_Out)⟩ : sock_course) : sock_course)⟩, ⟨.st 62, ((⟨(0 : Int), (⟨#[]⟩ : ByteArray), (0 : Int), (0 : Int), (⟨#[]⟩ : ByteArray)⟩ : api_Row) : api_Row)⟩, ⟨.li (.st 105), ([] : List api_Conn)⟩, ⟨.st 47, ((⟨[], [], [], false, false⟩ : api_Out) : api_Out)⟩])
 (fun (e : Int × api_Cell × api_Unit × api_World × Unit) => sock_Begin e.2.2.2.1 e.2.2.1 e.2.1 e.1) (by kernel_rfl) (fun _ => rfl)
end Go.AW.M

namespace Go.AW.M
open Go.RowKit Go.Proofs
set_option maxRecDepth 100000
noncomputable def cell_Begin (v0 : api_World) (v1 : api_Unit) (v2 : api_Cell) (v3 : Int) : Option (api_Cell × api_Out × Unit) :=
 let v4 : Int := v1.Kind
 let v5 : Bool := v4 == (1 : Int)
 if v5 = true then (
 (service_Begin v0 v1 v2 ((2 : Int)) v3).bind fun r6 =>
 let v6 : api_Cell := r6.1
 let v7 : api_Out := r6.2.1
 some (v6, v7, ()))
 else (
 let v6 : Bool := v4 == (2 : Int)
 if v6 = true then (
 (sock_Begin v0 v1 v2 v3).bind fun r7 =>
 let v7 : api_Cell := r7.1
 let v8 : api_Out := r7.2.1
 some (v7, v8, ()))
 else (
 let v7 : Bool := v4 == (3 : Int)
 if v7 = true then (
 (watch_Begin v0 v1 v2 ((2 : Int)) v3).bind fun r8 =>
 let v8 : api_Cell := r8.1
 let v9 : api_Out := r8.2.1
 some (v8, v9, ()))
 else (
 let v8 : Bool := v4 == (4 : Int)
 if v8 = true then (
 (cell_target v1 v2 ((2 : Int)) v3).bind fun r9 =>
 let v9 : api_Cell := r9.1
 let v10 : api_Out := r9.2.1
 some (v9, v10, ()))
 else (
 (basis_CellOf v2).bind fun r9 =>
 let v9 : api_Cell := r9.1
 some (v9, (⟨[], [], [], false, false⟩ : api_Out), ())))))
def l22 : Ch := (22, ⟨[.agg (.v 0) 3 (.g 0 0) [], .agg (.v 1) 35 (.g 1 0) [], .agg (.v 2) 62 (.g 2 0) [], .one (.c [.lit (.int .i64 2)]) none, .one (.v 3) (some (.w 1))], ⟨4, [], 2, 3, [], [], [], [(.w 1, 1, 1)]⟩, ⟨[0, 1], [], [], [], [], 0⟩, [(0, ⟨none, .agg (.c []) 62 .d []⟩), (1, ⟨none, .agg (.c []) 5 .d []⟩)], true⟩, [(11801, ⟨[], [], [], [], [], 12⟩), (11901, ⟨[], [], [], [], [], 12⟩), (15801, ⟨[], [], [], [], [], 12⟩), (16101, ⟨[], [], [], [], [], 12⟩)]) :: l37
noncomputable def t22 : List (Nat × TC U) := (22, ⟨[.st 43, .st 28, .st 33, .ik .i64], [.st 33, .st 47], fun (a : api_World × api_Unit × api_Cell × Int × Unit) => cell_Begin a.1 a.2.1 a.2.2.1 a.2.2.2.1⟩) :: t37
theorem c22 : Chain Tryz.prog U tab base l22 t22 := Chain.cons tb cfok c37 4 rfl rfl rfl (hs := [⟨.st 47, ((⟨[], [], [], false, false⟩ : api_Out) : api_Out)⟩])
 (fun (e : Int × api_Cell × api_Unit × api_World × Unit) => cell_Begin e.2.2.2.1 e.2.2.1 e.2.1 e.1) (by kernel_rfl) (fun _ => rfl)
noncomputable def matinslaw34_CellStop (v0 : api_World) (v1 : api_Cell) (v2 : Int) : Option (Bool × Unit) :=
 (matinslaw34_shown).bind fun r3 =>
 let v3 : Bool := r3.1
 let v4 : Bool := !v3
 if v4 = true then (
 some (false, ()))
 else (
 (matinslaw34_may v0 v1 v2).bind fun r5 =>
 let v5 : Bool := r5.1
 let v6 : Bool := !v5
 let v7 : Bool := !v6
 (if v7 = true then some (some (v1.U.Kind)) else some none).bind fun v8 =>
 (if v7 = true then (v8.bind fun v8o1 => some (decide (v8o1 < (1 : Int))) : Option Bool).bind fun v => some (some v) else some none).bind fun v9 =>
 (if v6 = true then some true else (v9).bind fun y => some y : Option Bool).bind fun v10 =>
 let v11 : Bool := !v10
 (if v11 = true then some (some (v1.U.Kind)) else some none).bind fun v12 =>
 (if v11 = true then (v12.bind fun v12o2 => some (decide (v12o2 > (4 : Int))) : Option Bool).bind fun v => some (some v) else some none).bind fun v13 =>
 (if v10 = true then some true else (v13).bind fun y => some y : Option Bool).bind fun v14 =>
 if v14 = true then (
 some (true, ()))
 else (
 let v15 : api_Unit := v1.U
 (cell_Begin v0 v15 v1 v2).bind fun r16 =>
 let v16 : api_Cell := r16.1
 let v17 : api_Out := r16.2.1
 let v18 : api_Unit := v1.U
 (cell_Begin v0 v18 v16 v2).bind fun r19 =>
 let v19 : api_Cell := r19.1
 let v20 : api_Out := r19.2.1
 (cell_Rest v16).bind fun r21 =>
 let v21 : Bool := r21.1
 let v22 : Bool := !v21
 (if v22 = true then (cell_Half v16).bind fun r => some (some r) else some none).bind fun r23 =>
 let v23 : Option Bool := r23.map fun x => x.1
 (if v21 = true then some true else (v23).bind fun y => some y : Option Bool).bind fun v24 =>
 let v25 : Bool := v24
 (if v25 = true then some (some (v16.Attempt)) else some none).bind fun v26 =>
 (if v25 = true then some (some (v1.Attempt)) else some none).bind fun v27 =>
 (if v25 = true then (v26.bind fun v26o3 => v27.bind fun v27o4 => some (v26o3 == v27o4) : Option Bool).bind fun v => some (some v) else some none).bind fun v28 =>
 (if v24 = true then v28 else some false : Option Bool).bind fun v29 =>
 let v30 : Bool := v29
 (if v30 = true then some (some (v17.Asks)) else some none).bind fun v31 =>
 (if v30 = true then (v31.bind fun v31o5 => some (((List.length v31o5 : Nat) : Int)) : Option Int).bind fun v => some (some v) else some none).bind fun v32 =>
 (if v30 = true then (v32.bind fun v32o6 => some (v32o6 == (0 : Int)) : Option Bool).bind fun v => some (some v) else some none).bind fun v33 =>
 (if v29 = true then v33 else some false : Option Bool).bind fun v34 =>
 let v35 : Bool := v34
 (if v35 = true then (matinsref27_SameCell v16 v19).bind fun r => some (some r) else some none).bind fun r36 =>
 let v36 : Option Bool := r36.map fun x => x.1
 (if v34 = true then v36 else some false : Option Bool).bind fun v37 =>
 let v38 : Bool := v37
 (if v38 = true then (matinsref27_SameOut v20 ((⟨[], [], [], false, false⟩ : api_Out))).bind fun r => some (some r) else some none).bind fun r39 =>
 let v39 : Option Bool := r39.map fun x => x.1
 (if v37 = true then v39 else some false : Option Bool).bind fun v40 =>
 some (v40, ())))
def l5 : Ch := (5, ⟨[.agg (.v 0) 3 (.g 0 0) [], .agg (.v 1) 62 (.g 1 0) [], .one (.v 2) (some (.w 1))], ⟨3, [], 2, 2, [], [], [], [(.w 1, 1, 1)]⟩, ⟨[0], [], [], [], [], 0⟩, [(0, ⟨none, .one (.c []) none⟩)], false⟩, [(11801, ⟨[], [], [], [], [], 12⟩), (11901, ⟨[], [], [], [], [], 12⟩), (15801, ⟨[], [], [], [], [], 12⟩), (16101, ⟨[], [], [], [], [], 12⟩)]) :: l22
noncomputable def t5 : List (Nat × TC U) := (5, ⟨[.st 43, .st 33, .ik .i64], [.bool], fun (a : api_World × api_Cell × Int × Unit) => matinslaw34_CellStop a.1 a.2.1 a.2.2.1⟩) :: t22
theorem c5 : Chain Tryz.prog U tab base l5 t5 := Chain.cons tb cfok c22 3 rfl rfl rfl (hs := [⟨.st 47, ((⟨[], [], [], false, false⟩ : api_Out) : api_Out)⟩])
 (fun (e : Int × api_Cell × api_World × Unit) => matinslaw34_CellStop e.2.2.1 e.2.1 e.1) (by kernel_rfl) (fun _ => rfl)
end Go.AW.M
