/- Typed functions and their chain. Printed by tfn.py. · Typed functions and their chain. Printed by tfn.py. · Typed functions and their chain. Printed by tfn.py. -/
import Derived.Test.YtibiooglhpjojaaGreatDoorT0
set_option linter.unusedSimpArgs false
set_option linter.unusedVariables false
namespace Go.AW.M
open Go.RowKit Go.Proofs
set_option maxRecDepth 100000
noncomputable def matinslaw34_shown : Option (Bool × Unit) :=
 some (true, ())
def l8 : Ch := (8, ⟨[], ⟨0, [], 1, 0, [], [], [], []⟩, ⟨[0], [], [], [], [], 0⟩, [(0, ⟨none, .one (.c []) none⟩)], false⟩, [(11801, ⟨[], [], [], [], [], 12⟩), (11901, ⟨[], [], [], [], [], 12⟩), (15801, ⟨[], [], [], [], [], 12⟩), (16101, ⟨[], [], [], [], [], 12⟩), (15603, ⟨[], [], [], [], [], 40⟩), (19203, ⟨[], [], [], [], [], 40⟩), (16503, ⟨[], [], [], [], [], 40⟩), (15903, ⟨[], [], [], [], [], 40⟩), (19403, ⟨[], [], [], [], [], 40⟩), (12103, ⟨[], [], [], [], [], 40⟩), (3202, ⟨[], [], [], [], [], 40⟩)]) :: []
noncomputable def t8 : List (Nat × TC U) := (8, ⟨[], [.bool], fun (a : Unit) => matinslaw34_shown⟩) :: t0
theorem c8 : Chain Tryz.prog U tab base l8 t8 := Chain.cons tb cfok c0 0 rfl rfl rfl (hs := [])
 (fun (e : Unit) => matinslaw34_shown) (by kernel_rfl) (fun _ => rfl)
noncomputable def cell_in (v0 : api_Cell) (v1 : List Int) : Option (Bool × Unit) :=
 let v2 : Int := ((List.length v1 : Nat) : Int)
 loopS (A := Int × Unit) (fun s3 =>
   let v3 : Int := s3.1
 let v4 : Bool := decide (v3 < v2)
 if v4 = true then (
 (if 0 ≤ v3 ∧ v3 < ((List.length v1 : Nat) : Int) then (v1)[(v3).toNat]? else none : Option Int).bind fun v5 =>
 let v6 : Int := v5
 let v7 : Int := v0.State
 let v8 : Bool := v7 == v6
 if v8 = true then (
 some (Sum.inr (true, ())))
 else (
 let v9 : Int := IntKind.i64.wrap (v3 + (1 : Int))
 some (Sum.inl (v9, ()))))
 else (
 some (Sum.inr (false, ())))
   ) ((0 : Int), ())
def l32 : Ch := (32, ⟨[.agg (.v 0) 62 (.g 0 0) [], .one (.v 1) (some (.w 1))], ⟨2, [], 2, 1, [], [], [], [(.w 1, 1, 1)]⟩, ⟨[0], [], [], [], [], 0⟩, [(0, ⟨none, .one (.c []) none⟩)], false⟩, [(11801, ⟨[], [], [], [], [], 12⟩), (11901, ⟨[], [], [], [], [], 12⟩), (15801, ⟨[], [], [], [], [], 12⟩), (16101, ⟨[], [], [], [], [], 12⟩), (3202, ⟨[9], [], [], [], [], 0⟩)]) :: l8
noncomputable def t32 : List (Nat × TC U) := (32, ⟨[.st 33, .li (.ik .i64)], [.bool], fun (a : api_Cell × (List Int) × Unit) => cell_in a.1 a.2.1⟩) :: t8
theorem c32 : Chain Tryz.prog U tab base l32 t32 := Chain.cons tb cfok c8 2 rfl rfl rfl (hs := [])
 (fun (e : (List Int) × api_Cell × Unit) => cell_in e.2.1 e.1) (by kernel_rfl) (fun _ => rfl)
noncomputable def cell_There (v0 : api_Cell) : Option (Bool × Unit) :=
 (cell_in v0 (([(4 : Int), (5 : Int)] : List Int))).bind fun r1 =>
 let v1 : Bool := r1.1
 some (v1, ())
def l9 : Ch := (9, ⟨[.agg (.v 0) 62 (.g 0 0) []], ⟨1, [], 1, 1, [], [], [], []⟩, ⟨[0], [], [], [], [], 0⟩, [(0, ⟨none, .one (.c []) none⟩)], false⟩, [(11801, ⟨[], [], [], [], [], 12⟩), (11901, ⟨[], [], [], [], [], 12⟩), (15801, ⟨[], [], [], [], [], 12⟩), (16101, ⟨[], [], [], [], [], 12⟩)]) :: l32
noncomputable def t9 : List (Nat × TC U) := (9, ⟨[.st 33], [.bool], fun (a : api_Cell × Unit) => cell_There a.1⟩) :: t32
theorem c9 : Chain Tryz.prog U tab base l9 t9 := Chain.cons tb cfok c32 1 rfl rfl rfl (hs := [⟨.li (.ik .i64), ([(4 : Int), (5 : Int)] : List Int)⟩])
 (fun (e : api_Cell × Unit) => cell_There e.1) (by kernel_rfl) (fun _ => rfl)
noncomputable def cell_Up (v0 : api_Cell) : Option (Bool × Unit) :=
 (cell_There v0).bind fun r1 =>
 let v1 : Bool := r1.1
 let v2 : Bool := !v1
 if v1 = true then (
 some (true, ()))
 else (
 (cell_in v0 (([(1 : Int), (2 : Int), (3 : Int), (8 : Int)] : List Int))).bind fun r3 =>
 let v3 : Bool := r3.1
 some (v3, ()))
def l11 : Ch := (11, ⟨[.agg (.v 0) 62 (.g 0 0) []], ⟨1, [], 1, 1, [], [], [], []⟩, ⟨[0], [], [], [], [], 0⟩, [(0, ⟨none, .one (.c []) none⟩)], false⟩, [(11801, ⟨[], [], [], [], [], 12⟩), (11901, ⟨[], [], [], [], [], 12⟩), (15801, ⟨[], [], [], [], [], 12⟩), (16101, ⟨[], [], [], [], [], 12⟩)]) :: l9
noncomputable def t11 : List (Nat × TC U) := (11, ⟨[.st 33], [.bool], fun (a : api_Cell × Unit) => cell_Up a.1⟩) :: t9
theorem c11 : Chain Tryz.prog U tab base l11 t11 := Chain.cons tb cfok c9 1 rfl rfl rfl (hs := [⟨.li (.ik .i64), ([(1 : Int), (2 : Int), (3 : Int), (8 : Int)] : List Int)⟩])
 (fun (e : api_Cell × Unit) => cell_Up e.1) (by kernel_rfl) (fun _ => rfl)
noncomputable def cell_Half (v0 : api_Cell) : Option (Bool × Unit) :=
 (cell_in v0 (([(6 : Int), (7 : Int)] : List Int))).bind fun r1 =>
 let v1 : Bool := r1.1
 some (v1, ())
def l13 : Ch := (13, ⟨[.agg (.v 0) 62 (.g 0 0) []], ⟨1, [], 1, 1, [], [], [], []⟩, ⟨[0], [], [], [], [], 0⟩, [(0, ⟨none, .one (.c []) none⟩)], false⟩, [(11801, ⟨[], [], [], [], [], 12⟩), (11901, ⟨[], [], [], [], [], 12⟩), (15801, ⟨[], [], [], [], [], 12⟩), (16101, ⟨[], [], [], [], [], 12⟩)]) :: l11
noncomputable def t13 : List (Nat × TC U) := (13, ⟨[.st 33], [.bool], fun (a : api_Cell × Unit) => cell_Half a.1⟩) :: t11
theorem c13 : Chain Tryz.prog U tab base l13 t13 := Chain.cons tb cfok c11 1 rfl rfl rfl (hs := [⟨.li (.ik .i64), ([(6 : Int), (7 : Int)] : List Int)⟩])
 (fun (e : api_Cell × Unit) => cell_Half e.1) (by kernel_rfl) (fun _ => rfl)
noncomputable def cell_Rest (v0 : api_Cell) : Option (Bool × Unit) :=
 (cell_in v0 (([(0 : Int), (9 : Int)] : List Int))).bind fun r1 =>
 let v1 : Bool := r1.1
 some (v1, ())
def l15 : Ch := (15, ⟨[.agg (.v 0) 62 (.g 0 0) []], ⟨1, [], 1, 1, [], [], [], []⟩, ⟨[0], [], [], [], [], 0⟩, [(0, ⟨none, .one (.c []) none⟩)], false⟩, [(11801, ⟨[], [], [], [], [], 12⟩), (11901, ⟨[], [], [], [], [], 12⟩), (15801, ⟨[], [], [], [], [], 12⟩), (16101, ⟨[], [], [], [], [], 12⟩)]) :: l13
noncomputable def t15 : List (Nat × TC U) := (15, ⟨[.st 33], [.bool], fun (a : api_Cell × Unit) => cell_Rest a.1⟩) :: t13
theorem c15 : Chain Tryz.prog U tab base l15 t15 := Chain.cons tb cfok c13 1 rfl rfl rfl (hs := [⟨.li (.ik .i64), ([(0 : Int), (9 : Int)] : List Int)⟩])
 (fun (e : api_Cell × Unit) => cell_Rest e.1) (by kernel_rfl) (fun _ => rfl)
noncomputable def cell_Came (v0 : api_Cell) : Option (Bool × Unit) :=
 let v1 : Int := v0.U.Kind
 let v2 : Bool := v1 == (1 : Int)
 let v3 : Bool := v2
 (if v3 = true then some (some (v0.U.Type_)) else some none).bind fun v4 =>
 (if v3 = true then (v4.bind fun v4o1 => some (v4o1 == (2 : Int)) : Option Bool).bind fun v => some (some v) else some none).bind fun v5 =>
 (if v2 = true then v5 else some false : Option Bool).bind fun v6 =>
 (cell_There v0).bind fun r7 =>
 let v7 : Bool := r7.1
 let v8 : Bool := !v7
 (if v8 = true then some v6 else some false : Option Bool).bind fun v9 =>
 (if v9 = true then some (some (v0.State)) else some none).bind fun v10 =>
 (if v9 = true then (v10.bind fun v10o2 => some (v10o2 == (0 : Int)) : Option Bool).bind fun v => some (some v) else some none).bind fun v11 =>
 (if v8 = true then (if v6 = true then v11 else some false : Option Bool).bind fun v => some (some v) else some none).bind fun v12 =>
 (if v8 = true then v12 else some false : Option Bool).bind fun v13 =>
 (if v13 = true then some (some (v0.Result)) else some none).bind fun v14 =>
 (if v13 = true then (v14.bind fun v14o3 => some (v14o3 == (0 : Int)) : Option Bool).bind fun v => some (some v) else some none).bind fun v15 =>
 (if v8 = true then (v12.bind fun v12o4 => if v12o4 = true then v15 else some false : Option Bool).bind fun v => some (some v) else some none).bind fun v16 =>
 (if v8 = true then v16 else some false : Option Bool).bind fun v17 =>
 (if v17 = true then some (some (v0.Attempt)) else some none).bind fun v18 =>
 (if v17 = true then (v18.bind fun v18o5 => some (decide (v18o5 > (0 : Int))) : Option Bool).bind fun v => some (some v) else some none).bind fun v19 =>
 (if v8 = true then (v16.bind fun v16o6 => if v16o6 = true then v19 else some false : Option Bool).bind fun v => some (some v) else some none).bind fun v20 =>
 (if v8 = true then v20 else some false : Option Bool).bind fun v21 =>
 (if v21 = true then some (some (v0.Wish)) else some none).bind fun v22 =>
 (if v21 = true then (v22.bind fun v22o7 => some (!v22o7) : Option Bool).bind fun v => some (some v) else some none).bind fun v23 =>
 (if v8 = true then (v20.bind fun v20o8 => if v20o8 = true then v23 else some false : Option Bool).bind fun v => some (some v) else some none).bind fun v24 =>
 (if v7 = true then some true else (v24).bind fun y => some y : Option Bool).bind fun v25 =>
 some (v25, ())
def l17 : Ch := (17, ⟨[.agg (.v 0) 62 (.g 0 0) []], ⟨1, [], 1, 1, [], [], [], []⟩, ⟨[0], [], [], [], [], 0⟩, [(0, ⟨none, .one (.c []) none⟩)], false⟩, [(11801, ⟨[], [], [], [], [], 12⟩), (11901, ⟨[], [], [], [], [], 12⟩), (15801, ⟨[], [], [], [], [], 12⟩), (16101, ⟨[], [], [], [], [], 12⟩)]) :: l15
noncomputable def t17 : List (Nat × TC U) := (17, ⟨[.st 33], [.bool], fun (a : api_Cell × Unit) => cell_Came a.1⟩) :: t15
theorem c17 : Chain Tryz.prog U tab base l17 t17 := Chain.cons tb cfok c15 1 rfl rfl rfl (hs := [])
 (fun (e : api_Cell × Unit) => cell_Came e.1) (by kernel_rfl) (fun _ => rfl)
noncomputable def cell_Ends (v0 : api_Cell) (v1 : Int) : Option (Int × Unit) :=
 let v2 : Bool := v1 == (1 : Int)
 if v2 = true then (
 (cell_There v0).bind fun r3 =>
 let v3 : Bool := r3.1
 if v3 = true then (
 some ((1 : Int), ()))
 else (
 (cell_in v0 (([(0 : Int), (8 : Int)] : List Int))).bind fun r4 =>
 let v4 : Bool := r4.1
 let v5 : Bool := v4
 (if v5 = true then some (some (v0.Result)) else some none).bind fun v6 =>
 (if v5 = true then (v6.bind fun v6o1 => some (v6o1 == (0 : Int)) : Option Bool).bind fun v => some (some v) else some none).bind fun v7 =>
 (if v4 = true then v7 else some false : Option Bool).bind fun v8 =>
 if v8 = true then (
 some ((1 : Int), ()))
 else (
 (cell_Rest v0).bind fun r9 =>
 let v9 : Bool := r9.1
 let v10 : Bool := !v9
 (if v10 = true then some (some (v0.State)) else some none).bind fun v11 =>
 (if v10 = true then (v11.bind fun v11o2 => some (v11o2 == (8 : Int)) : Option Bool).bind fun v => some (some v) else some none).bind fun v12 =>
 (if v9 = true then some true else (v12).bind fun y => some y : Option Bool).bind fun v13 =>
 if v13 = true then (
 some ((2 : Int), ()))
 else (
 some ((0 : Int), ())))))
 else (
 let v3 : Bool := v1 == (2 : Int)
 if v3 = true then (
 (cell_Rest v0).bind fun r4 =>
 let v4 : Bool := r4.1
 if v4 = true then (
 some ((1 : Int), ()))
 else (
 some ((0 : Int), ())))
 else (
 let v4 : Bool := v1 == (3 : Int)
 if v4 = true then (
 (cell_Rest v0).bind fun r5 =>
 let v5 : Bool := r5.1
 if v5 = true then (
 some ((1 : Int), ()))
 else (
 some ((0 : Int), ())))
 else (
 let v5 : Bool := v1 == (4 : Int)
 if v5 = true then (
 (cell_Rest v0).bind fun r6 =>
 let v6 : Bool := r6.1
 if v6 = true then (
 some ((2 : Int), ()))
 else (
 (cell_Half v0).bind fun r7 =>
 let v7 : Bool := r7.1
 if v7 = true then (
 some ((2 : Int), ()))
 else (
 let v8 : Int := v0.State
 let v9 : Bool := v8 == (8 : Int)
 if v9 = true then (
 some ((2 : Int), ()))
 else (
 let v10 : Int := v0.State
 let v11 : Bool := v10 == (4 : Int)
 let v12 : Bool := v11
 (if v12 = true then some (some (v0.Bad)) else some none).bind fun v13 =>
 (if v11 = true then v13 else some false : Option Bool).bind fun v14 =>
 if v14 = true then (
 some ((2 : Int), ()))
 else (
 let v15 : Int := v0.State
 let v16 : Bool := v15 == (4 : Int)
 if v16 = true then (
 some ((1 : Int), ()))
 else (
 some ((0 : Int), ())))))))
 else (
 some ((0 : Int), ())))))
def l19 : Ch := (19, ⟨[.agg (.v 0) 62 (.g 0 0) [], .one (.v 1) (some (.w 1))], ⟨2, [], 2, 1, [], [], [], [(.w 1, 1, 1)]⟩, ⟨[0], [], [], [], [], 0⟩, [(0, ⟨none, .one (.c []) none⟩)], false⟩, [(11801, ⟨[], [], [], [], [], 12⟩), (11901, ⟨[], [], [], [], [], 12⟩), (15801, ⟨[], [], [], [], [], 12⟩), (16101, ⟨[], [], [], [], [], 12⟩)]) :: l17
noncomputable def t19 : List (Nat × TC U) := (19, ⟨[.st 33, .ik .i64], [.ik .i64], fun (a : api_Cell × Int × Unit) => cell_Ends a.1 a.2.1⟩) :: t17
theorem c19 : Chain Tryz.prog U tab base l19 t19 := Chain.cons tb cfok c17 2 rfl rfl rfl (hs := [⟨.li (.ik .i64), ([(0 : Int), (8 : Int)] : List Int)⟩])
 (fun (e : Int × api_Cell × Unit) => cell_Ends e.2.1 e.1) (by kernel_rfl) (fun _ => rfl)
noncomputable def matinsref27_There (v0 : api_Cell) : Option (Bool × Unit) :=
 let v1 : Int := v0.State
 let v2 : Bool := v1 == (4 : Int)
 let v3 : Bool := !v2
 (if v3 = true then some (some (v0.State)) else some none).bind fun v4 =>
 (if v3 = true then (v4.bind fun v4o1 => some (v4o1 == (5 : Int)) : Option Bool).bind fun v => some (some v) else some none).bind fun v5 =>
 (if v2 = true then some true else (v5).bind fun y => some y : Option Bool).bind fun v6 =>
 some (v6, ())
def l10 : Ch := (10, ⟨[.agg (.v 0) 62 (.g 0 0) []], ⟨1, [], 1, 1, [], [], [], []⟩, ⟨[0], [], [], [], [], 0⟩, [(0, ⟨none, .one (.c []) none⟩)], false⟩, [(11801, ⟨[], [], [], [], [], 12⟩), (11901, ⟨[], [], [], [], [], 12⟩), (15801, ⟨[], [], [], [], [], 12⟩), (16101, ⟨[], [], [], [], [], 12⟩)]) :: l19
noncomputable def t10 : List (Nat × TC U) := (10, ⟨[.st 33], [.bool], fun (a : api_Cell × Unit) => matinsref27_There a.1⟩) :: t19
theorem c10 : Chain Tryz.prog U tab base l10 t10 := Chain.cons tb cfok c19 1 rfl rfl rfl (hs := [])
 (fun (e : api_Cell × Unit) => matinsref27_There e.1) (by kernel_rfl) (fun _ => rfl)
noncomputable def matinsref27_Up (v0 : api_Cell) : Option (Bool × Unit) :=
 let v1 : Int := v0.State
 let v2 : Bool := decide (v1 ≥ (1 : Int))
 let v3 : Bool := v2
 (if v3 = true then some (some (v0.State)) else some none).bind fun v4 =>
 (if v3 = true then (v4.bind fun v4o1 => some (decide (v4o1 ≤ (5 : Int))) : Option Bool).bind fun v => some (some v) else some none).bind fun v5 =>
 (if v2 = true then v5 else some false : Option Bool).bind fun v6 =>
 let v7 : Bool := !v6
 (if v7 = true then some (some (v0.State)) else some none).bind fun v8 =>
 (if v7 = true then (v8.bind fun v8o2 => some (v8o2 == (8 : Int)) : Option Bool).bind fun v => some (some v) else some none).bind fun v9 =>
 (if v6 = true then some true else (v9).bind fun y => some y : Option Bool).bind fun v10 =>
 some (v10, ())
def l12 : Ch := (12, ⟨[.agg (.v 0) 62 (.g 0 0) []], ⟨1, [], 1, 1, [], [], [], []⟩, ⟨[0], [], [], [], [], 0⟩, [(0, ⟨none, .one (.c []) none⟩)], false⟩, [(11801, ⟨[], [], [], [], [], 12⟩), (11901, ⟨[], [], [], [], [], 12⟩), (15801, ⟨[], [], [], [], [], 12⟩), (16101, ⟨[], [], [], [], [], 12⟩)]) :: l10
noncomputable def t12 : List (Nat × TC U) := (12, ⟨[.st 33], [.bool], fun (a : api_Cell × Unit) => matinsref27_Up a.1⟩) :: t10
theorem c12 : Chain Tryz.prog U tab base l12 t12 := Chain.cons tb cfok c10 1 rfl rfl rfl (hs := [])
 (fun (e : api_Cell × Unit) => matinsref27_Up e.1) (by kernel_rfl) (fun _ => rfl)
noncomputable def matinsref27_Half (v0 : api_Cell) : Option (Bool × Unit) :=
 let v1 : Int := v0.State
 let v2 : Bool := v1 == (6 : Int)
 let v3 : Bool := !v2
 (if v3 = true then some (some (v0.State)) else some none).bind fun v4 =>
 (if v3 = true then (v4.bind fun v4o1 => some (v4o1 == (7 : Int)) : Option Bool).bind fun v => some (some v) else some none).bind fun v5 =>
 (if v2 = true then some true else (v5).bind fun y => some y : Option Bool).bind fun v6 =>
 some (v6, ())
def l14 : Ch := (14, ⟨[.agg (.v 0) 62 (.g 0 0) []], ⟨1, [], 1, 1, [], [], [], []⟩, ⟨[0], [], [], [], [], 0⟩, [(0, ⟨none, .one (.c []) none⟩)], false⟩, [(11801, ⟨[], [], [], [], [], 12⟩), (11901, ⟨[], [], [], [], [], 12⟩), (15801, ⟨[], [], [], [], [], 12⟩), (16101, ⟨[], [], [], [], [], 12⟩)]) :: l12
noncomputable def t14 : List (Nat × TC U) := (14, ⟨[.st 33], [.bool], fun (a : api_Cell × Unit) => matinsref27_Half a.1⟩) :: t12
theorem c14 : Chain Tryz.prog U tab base l14 t14 := Chain.cons tb cfok c12 1 rfl rfl rfl (hs := [])
 (fun (e : api_Cell × Unit) => matinsref27_Half e.1) (by kernel_rfl) (fun _ => rfl)
noncomputable def matinsref27_Rest (v0 : api_Cell) : Option (Bool × Unit) :=
 let v1 : Int := v0.State
 let v2 : Bool := v1 == (0 : Int)
 let v3 : Bool := !v2
 (if v3 = true then some (some (v0.State)) else some none).bind fun v4 =>
 (if v3 = true then (v4.bind fun v4o1 => some (v4o1 == (9 : Int)) : Option Bool).bind fun v => some (some v) else some none).bind fun v5 =>
 (if v2 = true then some true else (v5).bind fun y => some y : Option Bool).bind fun v6 =>
 some (v6, ())
def l16 : Ch := (16, ⟨[.agg (.v 0) 62 (.g 0 0) []], ⟨1, [], 1, 1, [], [], [], []⟩, ⟨[0], [], [], [], [], 0⟩, [(0, ⟨none, .one (.c []) none⟩)], false⟩, [(11801, ⟨[], [], [], [], [], 12⟩), (11901, ⟨[], [], [], [], [], 12⟩), (15801, ⟨[], [], [], [], [], 12⟩), (16101, ⟨[], [], [], [], [], 12⟩)]) :: l14
noncomputable def t16 : List (Nat × TC U) := (16, ⟨[.st 33], [.bool], fun (a : api_Cell × Unit) => matinsref27_Rest a.1⟩) :: t14
theorem c16 : Chain Tryz.prog U tab base l16 t16 := Chain.cons tb cfok c14 1 rfl rfl rfl (hs := [])
 (fun (e : api_Cell × Unit) => matinsref27_Rest e.1) (by kernel_rfl) (fun _ => rfl)
end Go.AW.M

namespace Go.AW.M
open Go.RowKit Go.Proofs
set_option maxRecDepth 100000
noncomputable def matinsref27_Came (v0 : api_Cell) : Option (Bool × Unit) :=
 let v1 : Int := v0.U.Kind
 let v2 : Bool := v1 == (1 : Int)
 let v3 : Bool := v2
 (if v3 = true then some (some (v0.U.Type_)) else some none).bind fun v4 =>
 (if v3 = true then (v4.bind fun v4o1 => some (v4o1 == (2 : Int)) : Option Bool).bind fun v => some (some v) else some none).bind fun v5 =>
 (if v2 = true then v5 else some false : Option Bool).bind fun v6 =>
 (matinsref27_There v0).bind fun r7 =>
 let v7 : Bool := r7.1
 let v8 : Bool := !v7
 (if v8 = true then some v6 else some false : Option Bool).bind fun v9 =>
 (if v9 = true then some (some (v0.State)) else some none).bind fun v10 =>
 (if v9 = true then (v10.bind fun v10o2 => some (v10o2 == (0 : Int)) : Option Bool).bind fun v => some (some v) else some none).bind fun v11 =>
 (if v8 = true then (if v6 = true then v11 else some false : Option Bool).bind fun v => some (some v) else some none).bind fun v12 =>
 (if v8 = true then v12 else some false : Option Bool).bind fun v13 =>
 (if v13 = true then some (some (v0.Result)) else some none).bind fun v14 =>
 (if v13 = true then (v14.bind fun v14o3 => some (v14o3 == (0 : Int)) : Option Bool).bind fun v => some (some v) else some none).bind fun v15 =>
 (if v8 = true then (v12.bind fun v12o4 => if v12o4 = true then v15 else some false : Option Bool).bind fun v => some (some v) else some none).bind fun v16 =>
 (if v8 = true then v16 else some false : Option Bool).bind fun v17 =>
 (if v17 = true then some (some (v0.Attempt)) else some none).bind fun v18 =>
 (if v17 = true then (v18.bind fun v18o5 => some (decide (v18o5 > (0 : Int))) : Option Bool).bind fun v => some (some v) else some none).bind fun v19 =>
 (if v8 = true then (v16.bind fun v16o6 => if v16o6 = true then v19 else some false : Option Bool).bind fun v => some (some v) else some none).bind fun v20 =>
 (if v8 = true then v20 else some false : Option Bool).bind fun v21 =>
 (if v21 = true then some (some (v0.Wish)) else some none).bind fun v22 =>
 (if v21 = true then (v22.bind fun v22o7 => some (!v22o7) : Option Bool).bind fun v => some (some v) else some none).bind fun v23 =>
 (if v8 = true then (v20.bind fun v20o8 => if v20o8 = true then v23 else some false : Option Bool).bind fun v => some (some v) else some none).bind fun v24 =>
 (if v7 = true then some true else (v24).bind fun y => some y : Option Bool).bind fun v25 =>
 some (v25, ())
def l18 : Ch := (18, ⟨[.agg (.v 0) 62 (.g 0 0) []], ⟨1, [], 1, 1, [], [], [], []⟩, ⟨[0], [], [], [], [], 0⟩, [(0, ⟨none, .one (.c []) none⟩)], false⟩, [(11801, ⟨[], [], [], [], [], 12⟩), (11901, ⟨[], [], [], [], [], 12⟩), (15801, ⟨[], [], [], [], [], 12⟩), (16101, ⟨[], [], [], [], [], 12⟩)]) :: l16
noncomputable def t18 : List (Nat × TC U) := (18, ⟨[.st 33], [.bool], fun (a : api_Cell × Unit) => matinsref27_Came a.1⟩) :: t16
theorem c18 : Chain Tryz.prog U tab base l18 t18 := Chain.cons tb cfok c16 1 rfl rfl rfl (hs := [])
 (fun (e : api_Cell × Unit) => matinsref27_Came e.1) (by kernel_rfl) (fun _ => rfl)
noncomputable def matinsref27_End (v0 : api_Cell) (v1 : Int) : Option (Int × Unit) :=
 let v2 : Bool := v1 == (1 : Int)
 if v2 = true then (
 (matinsref27_There v0).bind fun r3 =>
 let v3 : Bool := r3.1
 let v4 : Bool := !v3
 (if v4 = true then some (some (v0.State)) else some none).bind fun v5 =>
 (if v4 = true then (v5.bind fun v5o1 => some (v5o1 == (0 : Int)) : Option Bool).bind fun v => some (some v) else some none).bind fun v6 =>
 (if v4 = true then v6.bind fun v6o2 => some (!v6o2) else some false : Option Bool).bind fun v7 =>
 (if v7 = true then some (some (v0.State)) else some none).bind fun v8 =>
 (if v7 = true then (v8.bind fun v8o3 => some (v8o3 == (8 : Int)) : Option Bool).bind fun v => some (some v) else some none).bind fun v9 =>
 (if v4 = true then (v6.bind fun v6o4 => if v6o4 = true then some true else (v9).bind fun y => some y : Option Bool).bind fun v => some (some v) else some none).bind fun v10 =>
 (if v4 = true then v10 else some false : Option Bool).bind fun v11 =>
 (if v11 = true then some (some (v0.Result)) else some none).bind fun v12 =>
 (if v11 = true then (v12.bind fun v12o5 => some (v12o5 == (0 : Int)) : Option Bool).bind fun v => some (some v) else some none).bind fun v13 =>
 (if v4 = true then (v10.bind fun v10o6 => if v10o6 = true then v13 else some false : Option Bool).bind fun v => some (some v) else some none).bind fun v14 =>
 (if v3 = true then some true else (v14).bind fun y => some y : Option Bool).bind fun v15 =>
 if v15 = true then (
 some ((1 : Int), ()))
 else (
 (matinsref27_Rest v0).bind fun r16 =>
 let v16 : Bool := r16.1
 let v17 : Bool := !v16
 (if v17 = true then some (some (v0.State)) else some none).bind fun v18 =>
 (if v17 = true then (v18.bind fun v18o7 => some (v18o7 == (8 : Int)) : Option Bool).bind fun v => some (some v) else some none).bind fun v19 =>
 (if v16 = true then some true else (v19).bind fun y => some y : Option Bool).bind fun v20 =>
 if v20 = true then (
 some ((2 : Int), ()))
 else (
 some ((0 : Int), ()))))
 else (
 let v3 : Bool := v1 == (2 : Int)
 if v3 = true then (
 (matinsref27_Rest v0).bind fun r4 =>
 let v4 : Bool := r4.1
 if v4 = true then (
 some ((1 : Int), ()))
 else (
 some ((0 : Int), ())))
 else (
 let v4 : Bool := v1 == (3 : Int)
 if v4 = true then (
 (matinsref27_Rest v0).bind fun r5 =>
 let v5 : Bool := r5.1
 if v5 = true then (
 some ((1 : Int), ()))
 else (
 some ((0 : Int), ())))
 else (
 let v5 : Bool := v1 == (4 : Int)
 if v5 = true then (
 let v6 : Int := v0.State
 let v7 : Bool := v6 == (4 : Int)
 let v8 : Bool := v7
 (if v8 = true then some (some (v0.Bad)) else some none).bind fun v9 =>
 (if v8 = true then (v9.bind fun v9o8 => some (!v9o8) : Option Bool).bind fun v => some (some v) else some none).bind fun v10 =>
 (if v7 = true then v10 else some false : Option Bool).bind fun v11 =>
 if v11 = true then (
 some ((1 : Int), ()))
 else (
 let v12 : Int := v0.State
 let v13 : Bool := v12 == (4 : Int)
 let v14 : Bool := !v13
 (if v14 = true then (matinsref27_Rest v0).bind fun r => some (some r) else some none).bind fun r15 =>
 let v15 : Option Bool := r15.map fun x => x.1
 (if v13 = true then some true else (v15).bind fun y => some y : Option Bool).bind fun v16 =>
 let v17 : Bool := !v16
 (if v17 = true then (matinsref27_Half v0).bind fun r => some (some r) else some none).bind fun r18 =>
 let v18 : Option Bool := r18.map fun x => x.1
 (if v16 = true then some true else (v18).bind fun y => some y : Option Bool).bind fun v19 =>
 let v20 : Bool := !v19
 (if v20 = true then some (some (v0.State)) else some none).bind fun v21 =>
 (if v20 = true then (v21.bind fun v21o9 => some (v21o9 == (8 : Int)) : Option Bool).bind fun v => some (some v) else some none).bind fun v22 =>
 (if v19 = true then some true else (v22).bind fun y => some y : Option Bool).bind fun v23 =>
 if v23 = true then (
 some ((2 : Int), ()))
 else (
 some ((0 : Int), ()))))
 else (
 some ((0 : Int), ())))))
def l20 : Ch := (20, ⟨[.agg (.v 0) 62 (.g 0 0) [], .one (.v 1) (some (.w 1))], ⟨2, [], 2, 1, [], [], [], [(.w 1, 1, 1)]⟩, ⟨[0], [], [], [], [], 0⟩, [(0, ⟨none, .one (.c []) none⟩)], false⟩, [(11801, ⟨[], [], [], [], [], 12⟩), (11901, ⟨[], [], [], [], [], 12⟩), (15801, ⟨[], [], [], [], [], 12⟩), (16101, ⟨[], [], [], [], [], 12⟩)]) :: l18
noncomputable def t20 : List (Nat × TC U) := (20, ⟨[.st 33, .ik .i64], [.ik .i64], fun (a : api_Cell × Int × Unit) => matinsref27_End a.1 a.2.1⟩) :: t18
theorem c20 : Chain Tryz.prog U tab base l20 t20 := Chain.cons tb cfok c18 2 rfl rfl rfl (hs := [])
 (fun (e : Int × api_Cell × Unit) => matinsref27_End e.2.1 e.1) (by kernel_rfl) (fun _ => rfl)
noncomputable def matinsref22_Time (v0 : Int) : Option (Bool × Unit) :=
 let v1 : Bool := decide (v0 ≥ (0 : Int))
 let v2 : Bool := v1
 (if v2 = true then some (some (decide (v0 < (6311433600 : Int)))) else some none).bind fun v3 =>
 (if v1 = true then v3 else some false : Option Bool).bind fun v4 =>
 some (v4, ())
def l34 : Ch := (34, ⟨[.one (.v 0) (some (.w 1))], ⟨1, [], 2, 0, [], [], [], [(.w 1, 1, 1)]⟩, ⟨[0], [], [], [], [], 0⟩, [(0, ⟨none, .one (.c []) none⟩)], false⟩, [(11801, ⟨[], [], [], [], [], 12⟩), (11901, ⟨[], [], [], [], [], 12⟩), (15801, ⟨[], [], [], [], [], 12⟩), (16101, ⟨[], [], [], [], [], 12⟩)]) :: l20
noncomputable def t34 : List (Nat × TC U) := (34, ⟨[.ik .i64], [.bool], fun (a : Int × Unit) => matinsref22_Time a.1⟩) :: t20
theorem c34 : Chain Tryz.prog U tab base l34 t34 := Chain.cons tb cfok c20 1 rfl rfl rfl (hs := [])
 (fun (e : Int × Unit) => matinsref22_Time e.1) (by kernel_rfl) (fun _ => rfl)
noncomputable def matinsref22_Span (v0 : Int) : Option (Bool × Unit) :=
 let v1 : Bool := decide (v0 ≥ (0 : Int))
 let v2 : Bool := v1
 (if v2 = true then some (some (decide (v0 ≤ (6311433600 : Int)))) else some none).bind fun v3 =>
 (if v1 = true then v3 else some false : Option Bool).bind fun v4 =>
 let v5 : Bool := !v4
 (if v5 = true then some (some (v0 == (1099511627776 : Int))) else some none).bind fun v6 =>
 (if v4 = true then some true else (v6).bind fun y => some y : Option Bool).bind fun v7 =>
 some (v7, ())
def l66 : Ch := (66, ⟨[.one (.v 0) (some (.w 1))], ⟨1, [], 2, 0, [], [], [], [(.w 1, 1, 1)]⟩, ⟨[0], [], [], [], [], 0⟩, [(0, ⟨none, .one (.c []) none⟩)], false⟩, [(11801, ⟨[], [], [], [], [], 12⟩), (11901, ⟨[], [], [], [], [], 12⟩), (15801, ⟨[], [], [], [], [], 12⟩), (16101, ⟨[], [], [], [], [], 12⟩)]) :: l34
noncomputable def t66 : List (Nat × TC U) := (66, ⟨[.ik .i64], [.bool], fun (a : Int × Unit) => matinsref22_Span a.1⟩) :: t34
theorem c66 : Chain Tryz.prog U tab base l66 t66 := Chain.cons tb cfok c34 1 rfl rfl rfl (hs := [])
 (fun (e : Int × Unit) => matinsref22_Span e.1) (by kernel_rfl) (fun _ => rfl)
noncomputable def matinsref39_runs (v0 : api_Run) : Option (Bool × Unit) :=
 let v1 : Int := v0.Part
 let v2 : Bool := decide (v1 > (0 : Int))
 some (v2, ())
def l63 : Ch := (63, ⟨[.agg (.v 0) 6 (.g 0 0) []], ⟨1, [], 1, 1, [], [], [], []⟩, ⟨[0], [], [], [], [], 0⟩, [(0, ⟨none, .one (.c []) none⟩)], false⟩, [(11801, ⟨[], [], [], [], [], 12⟩), (11901, ⟨[], [], [], [], [], 12⟩), (15801, ⟨[], [], [], [], [], 12⟩), (16101, ⟨[], [], [], [], [], 12⟩)]) :: l66
noncomputable def t63 : List (Nat × TC U) := (63, ⟨[.st 30], [.bool], fun (a : api_Run × Unit) => matinsref39_runs a.1⟩) :: t66
theorem c63 : Chain Tryz.prog U tab base l63 t63 := Chain.cons tb cfok c66 1 rfl rfl rfl (hs := [])
 (fun (e : api_Run × Unit) => matinsref39_runs e.1) (by kernel_rfl) (fun _ => rfl)
noncomputable def matinsref1_Letter (v0 : Int) : Option (Bool × Unit) :=
 let v1 : Bool := decide (v0 ≥ (97 : Int))
 let v2 : Bool := v1
 (if v2 = true then some (some (decide (v0 ≤ (122 : Int)))) else some none).bind fun v3 =>
 (if v1 = true then v3 else some false : Option Bool).bind fun v4 =>
 let v5 : Bool := !v4
 (if v5 = true then some (some (decide (v0 ≥ (65 : Int)))) else some none).bind fun v6 =>
 (if v5 = true then v6 else some false : Option Bool).bind fun v7 =>
 (if v7 = true then some (some (decide (v0 ≤ (90 : Int)))) else some none).bind fun v8 =>
 (if v5 = true then (v6.bind fun v6o1 => if v6o1 = true then v8 else some false : Option Bool).bind fun v => some (some v) else some none).bind fun v9 =>
 (if v4 = true then some true else (v9).bind fun y => some y : Option Bool).bind fun v10 =>
 some (v10, ())
def l184 : Ch := (184, ⟨[.one (.v 0) (some (.w 1))], ⟨1, [], 2, 0, [], [], [], [(.w 1, 1, 1)]⟩, ⟨[0], [], [], [], [], 0⟩, [(0, ⟨none, .one (.c []) none⟩)], false⟩, [(11801, ⟨[], [], [], [], [], 12⟩), (11901, ⟨[], [], [], [], [], 12⟩), (15801, ⟨[], [], [], [], [], 12⟩), (16101, ⟨[], [], [], [], [], 12⟩)]) :: l63
noncomputable def t184 : List (Nat × TC U) := (184, ⟨[.ik .u8], [.bool], fun (a : Int × Unit) => matinsref1_Letter a.1⟩) :: t63
theorem c184 : Chain Tryz.prog U tab base l184 t184 := Chain.cons tb cfok c63 1 rfl rfl rfl (hs := [])
 (fun (e : Int × Unit) => matinsref1_Letter e.1) (by kernel_rfl) (fun _ => rfl)
noncomputable def matinsref1_Digit (v0 : Int) : Option (Bool × Unit) :=
 let v1 : Bool := decide (v0 ≥ (48 : Int))
 let v2 : Bool := v1
 (if v2 = true then some (some (decide (v0 ≤ (57 : Int)))) else some none).bind fun v3 =>
 (if v1 = true then v3 else some false : Option Bool).bind fun v4 =>
 some (v4, ())
def l185 : Ch := (185, ⟨[.one (.v 0) (some (.w 1))], ⟨1, [], 2, 0, [], [], [], [(.w 1, 1, 1)]⟩, ⟨[0], [], [], [], [], 0⟩, [(0, ⟨none, .one (.c []) none⟩)], false⟩, [(11801, ⟨[], [], [], [], [], 12⟩), (11901, ⟨[], [], [], [], [], 12⟩), (15801, ⟨[], [], [], [], [], 12⟩), (16101, ⟨[], [], [], [], [], 12⟩)]) :: l184
noncomputable def t185 : List (Nat × TC U) := (185, ⟨[.ik .u8], [.bool], fun (a : Int × Unit) => matinsref1_Digit a.1⟩) :: t184
theorem c185 : Chain Tryz.prog U tab base l185 t185 := Chain.cons tb cfok c184 1 rfl rfl rfl (hs := [])
 (fun (e : Int × Unit) => matinsref1_Digit e.1) (by kernel_rfl) (fun _ => rfl)
noncomputable def matinsref1_Suffix (v0 : Int) : Option (ByteArray × Unit) :=
 let v1 : Bool := v0 == (1 : Int)
 if v1 = true then (
 some ((⟨#[115, 101, 114, 118, 105, 99, 101]⟩ : ByteArray), ()))
 else (
 let v2 : Bool := v0 == (2 : Int)
 if v2 = true then (
 some ((⟨#[115, 111, 99, 107, 101, 116]⟩ : ByteArray), ()))
 else (
 let v3 : Bool := v0 == (3 : Int)
 if v3 = true then (
 some ((⟨#[116, 105, 109, 101, 114]⟩ : ByteArray), ()))
 else (
 let v4 : Bool := v0 == (4 : Int)
 if v4 = true then (
 some ((⟨#[116, 97, 114, 103, 101, 116]⟩ : ByteArray), ()))
 else (
 some ((⟨#[]⟩ : ByteArray), ())))))
def l147 : Ch := (147, ⟨[.one (.v 0) (some (.w 1))], ⟨1, [], 2, 0, [], [], [], [(.w 1, 1, 1)]⟩, ⟨[0], [], [], [], [], 0⟩, [(0, ⟨none, .one (.c []) none⟩)], false⟩, [(11801, ⟨[], [], [], [], [], 12⟩), (11901, ⟨[], [], [], [], [], 12⟩), (15801, ⟨[], [], [], [], [], 12⟩), (16101, ⟨[], [], [], [], [], 12⟩)]) :: l185
noncomputable def t147 : List (Nat × TC U) := (147, ⟨[.ik .i64], [.str], fun (a : Int × Unit) => matinsref1_Suffix a.1⟩) :: t185
theorem c147 : Chain Tryz.prog U tab base l147 t147 := Chain.cons tb cfok c185 1 rfl rfl rfl (hs := [])
 (fun (e : Int × Unit) => matinsref1_Suffix e.1) (by kernel_rfl) (fun _ => rfl)
noncomputable def matinsref1_nameByte (v0 : Int) : Option (Bool × Unit) :=
 (matinsref1_Letter v0).bind fun r1 =>
 let v1 : Bool := r1.1
 let v2 : Bool := !v1
 (if v2 = true then (matinsref1_Digit v0).bind fun r => some (some r) else some none).bind fun r3 =>
 let v3 : Option Bool := r3.map fun x => x.1
 (if v1 = true then some true else (v3).bind fun y => some y : Option Bool).bind fun v4 =>
 let v5 : Bool := !v4
 (if v5 = true then some (some (v0 == (58 : Int))) else some none).bind fun v6 =>
 (if v4 = true then some true else (v6).bind fun y => some y : Option Bool).bind fun v7 =>
 let v8 : Bool := !v7
 (if v8 = true then some (some (v0 == (45 : Int))) else some none).bind fun v9 =>
 (if v7 = true then some true else (v9).bind fun y => some y : Option Bool).bind fun v10 =>
 let v11 : Bool := !v10
 (if v11 = true then some (some (v0 == (95 : Int))) else some none).bind fun v12 =>
 (if v10 = true then some true else (v12).bind fun y => some y : Option Bool).bind fun v13 =>
 let v14 : Bool := !v13
 (if v14 = true then some (some (v0 == (46 : Int))) else some none).bind fun v15 =>
 (if v13 = true then some true else (v15).bind fun y => some y : Option Bool).bind fun v16 =>
 let v17 : Bool := !v16
 (if v17 = true then some (some (v0 == (92 : Int))) else some none).bind fun v18 =>
 (if v16 = true then some true else (v18).bind fun y => some y : Option Bool).bind fun v19 =>
 some (v19, ())
def l148 : Ch := (148, ⟨[.one (.v 0) (some (.w 1))], ⟨1, [], 2, 0, [], [], [], [(.w 1, 1, 1)]⟩, ⟨[0], [], [], [], [], 0⟩, [(0, ⟨none, .one (.c []) none⟩)], false⟩, [(11801, ⟨[], [], [], [], [], 12⟩), (11901, ⟨[], [], [], [], [], 12⟩), (15801, ⟨[], [], [], [], [], 12⟩), (16101, ⟨[], [], [], [], [], 12⟩)]) :: l147
noncomputable def t148 : List (Nat × TC U) := (148, ⟨[.ik .u8], [.bool], fun (a : Int × Unit) => matinsref1_nameByte a.1⟩) :: t147
theorem c148 : Chain Tryz.prog U tab base l148 t148 := Chain.cons tb cfok c147 1 rfl rfl rfl (hs := [])
 (fun (e : Int × Unit) => matinsref1_nameByte e.1) (by kernel_rfl) (fun _ => rfl)
noncomputable def matinslaw34_sane (v0 : api_Cell) : Option (Bool × Unit) :=
 let v1 : Int := v0.Attempt
 let v2 : Bool := decide (v1 ≤ (1099511627776 : Int))
 let v3 : Bool := v2
 (if v3 = true then some (some (v0.Rows)) else some none).bind fun v4 =>
 (if v3 = true then (v4.bind fun v4o1 => some (decide (v4o1 ≥ (0 : Int))) : Option Bool).bind fun v => some (some v) else some none).bind fun v5 =>
 (if v2 = true then v5 else some false : Option Bool).bind fun v6 =>
 let v7 : Bool := v6
 (if v7 = true then some (some (v0.Rows)) else some none).bind fun v8 =>
 (if v7 = true then (v8.bind fun v8o2 => some (decide (v8o2 ≤ (1099511627776 : Int))) : Option Bool).bind fun v => some (some v) else some none).bind fun v9 =>
 (if v6 = true then v9 else some false : Option Bool).bind fun v10 =>
 let v11 : Bool := v10
 (if v11 = true then some (some (v0.Num)) else some none).bind fun v12 =>
 (if v11 = true then (v12.bind fun v12o3 => some (decide (v12o3 ≥ (0 : Int))) : Option Bool).bind fun v => some (some v) else some none).bind fun v13 =>
 (if v10 = true then v13 else some false : Option Bool).bind fun v14 =>
 let v15 : Bool := v14
 (if v15 = true then some (some (v0.Num)) else some none).bind fun v16 =>
 (if v15 = true then (v16.bind fun v16o4 => some (decide (v16o4 ≤ (1099511627776 : Int))) : Option Bool).bind fun v => some (some v) else some none).bind fun v17 =>
 (if v14 = true then v17 else some false : Option Bool).bind fun v18 =>
 let v19 : Bool := v18
 (if v19 = true then some (some (v0.Seen)) else some none).bind fun v20 =>
 (if v19 = true then (v20.bind fun v20o5 => some (decide (v20o5 ≤ (1099511627776 : Int))) : Option Bool).bind fun v => some (some v) else some none).bind fun v21 =>
 (if v18 = true then v21 else some false : Option Bool).bind fun v22 =>
 some (v22, ())
def l35 : Ch := (35, ⟨[.agg (.v 0) 62 (.g 0 0) []], ⟨1, [], 1, 1, [], [], [], []⟩, ⟨[0], [], [], [], [], 0⟩, [(0, ⟨none, .one (.c []) none⟩)], false⟩, [(11801, ⟨[], [], [], [], [], 12⟩), (11901, ⟨[], [], [], [], [], 12⟩), (15801, ⟨[], [], [], [], [], 12⟩), (16101, ⟨[], [], [], [], [], 12⟩)]) :: l148
noncomputable def t35 : List (Nat × TC U) := (35, ⟨[.st 33], [.bool], fun (a : api_Cell × Unit) => matinslaw34_sane a.1⟩) :: t148
theorem c35 : Chain Tryz.prog U tab base l35 t35 := Chain.cons tb cfok c148 1 rfl rfl rfl (hs := [])
 (fun (e : api_Cell × Unit) => matinslaw34_sane e.1) (by kernel_rfl) (fun _ => rfl)
noncomputable def matinsref1_Held (v0 : Int) : Option (Int × Unit) :=
 let v1 : Bool := decide (v0 < (0 : Int))
 if v1 = true then (
 some ((0 : Int), ()))
 else (
 let v2 : Bool := decide (v0 > (6311433600 : Int))
 if v2 = true then (
 some ((1099511627776 : Int), ()))
 else (
 some (v0, ())))
def l127 : Ch := (127, ⟨[.one (.v 0) (some (.w 1))], ⟨1, [], 2, 0, [], [], [], [(.w 1, 1, 1)]⟩, ⟨[0], [], [], [], [], 0⟩, [(0, ⟨none, .one (.c []) none⟩)], false⟩, [(11801, ⟨[], [], [], [], [], 12⟩), (11901, ⟨[], [], [], [], [], 12⟩), (15801, ⟨[], [], [], [], [], 12⟩), (16101, ⟨[], [], [], [], [], 12⟩)]) :: l35
noncomputable def t127 : List (Nat × TC U) := (127, ⟨[.ik .i64], [.ik .i64], fun (a : Int × Unit) => matinsref1_Held a.1⟩) :: t35
theorem c127 : Chain Tryz.prog U tab base l127 t127 := Chain.cons tb cfok c35 1 rfl rfl rfl (hs := [])
 (fun (e : Int × Unit) => matinsref1_Held e.1) (by kernel_rfl) (fun _ => rfl)
noncomputable def matinsref1_Sum (v0 : Int) (v1 : Int) : Option (Int × Unit) :=
 (matinsref1_Held v0).bind fun r2 =>
 let v2 : Int := r2.1
 (matinsref1_Held v1).bind fun r3 =>
 let v3 : Int := r3.1
 let v4 : Int := IntKind.i64.wrap (v2 + v3)
 (matinsref1_Held v4).bind fun r5 =>
 let v5 : Int := r5.1
 some (v5, ())
def l86 : Ch := (86, ⟨[.one (.v 0) (some (.w 1)), .one (.v 1) (some (.w 2))], ⟨2, [], 3, 0, [], [], [], [(.w 2, 1, 2), (.w 1, 1, 1)]⟩, ⟨[0], [], [], [], [], 0⟩, [(0, ⟨none, .one (.c []) none⟩)], false⟩, [(11801, ⟨[], [], [], [], [], 12⟩), (11901, ⟨[], [], [], [], [], 12⟩), (15801, ⟨[], [], [], [], [], 12⟩), (16101, ⟨[], [], [], [], [], 12⟩)]) :: l127
noncomputable def t86 : List (Nat × TC U) := (86, ⟨[.ik .i64, .ik .i64], [.ik .i64], fun (a : Int × Int × Unit) => matinsref1_Sum a.1 a.2.1⟩) :: t127
theorem c86 : Chain Tryz.prog U tab base l86 t86 := Chain.cons tb cfok c127 2 rfl rfl rfl (hs := [])
 (fun (e : Int × Int × Unit) => matinsref1_Sum e.2.1 e.1) (by kernel_rfl) (fun _ => rfl)
end Go.AW.M

namespace Go.AW.M
open Go.RowKit Go.Proofs
set_option maxRecDepth 100000
noncomputable def span_held (v0 : Int) : Option (Int × Unit) :=
 let v1 : Bool := decide (v0 > (6311433600 : Int))
 if v1 = true then (
 some ((1099511627776 : Int), ()))
 else (
 let v2 : Int := max v0 (0 : Int)
 some (v2, ()))
def l151 : Ch := (151, ⟨[.one (.v 0) (some (.w 1))], ⟨1, [], 2, 0, [], [], [], [(.w 1, 1, 1)]⟩, ⟨[0], [], [], [], [], 0⟩, [(0, ⟨none, .one (.c []) none⟩)], false⟩, [(11801, ⟨[], [], [], [], [], 12⟩), (11901, ⟨[], [], [], [], [], 12⟩), (15801, ⟨[], [], [], [], [], 12⟩), (16101, ⟨[], [], [], [], [], 12⟩)]) :: l86
noncomputable def t151 : List (Nat × TC U) := (151, ⟨[.ik .i64], [.ik .i64], fun (a : Int × Unit) => span_held a.1⟩) :: t86
theorem c151 : Chain Tryz.prog U tab base l151 t151 := Chain.cons tb cfok c86 1 rfl rfl rfl (hs := [])
 (fun (e : Int × Unit) => span_held e.1) (by kernel_rfl) (fun _ => rfl)
noncomputable def span_Sum (v0 : Int) (v1 : Int) : Option (Int × Unit) :=
 (span_held v0).bind fun r2 =>
 let v2 : Int := r2.1
 (span_held v1).bind fun r3 =>
 let v3 : Int := r3.1
 let v4 : Int := IntKind.i64.wrap (v2 + v3)
 (span_held v4).bind fun r5 =>
 let v5 : Int := r5.1
 some (v5, ())
def l108 : Ch := (108, ⟨[.one (.v 0) (some (.w 1)), .one (.v 1) (some (.w 2))], ⟨2, [], 3, 0, [], [], [], [(.w 2, 1, 2), (.w 1, 1, 1)]⟩, ⟨[0], [], [], [], [], 0⟩, [(0, ⟨none, .one (.c []) none⟩)], false⟩, [(11801, ⟨[], [], [], [], [], 12⟩), (11901, ⟨[], [], [], [], [], 12⟩), (15801, ⟨[], [], [], [], [], 12⟩), (16101, ⟨[], [], [], [], [], 12⟩)]) :: l151
noncomputable def t108 : List (Nat × TC U) := (108, ⟨[.ik .i64, .ik .i64], [.ik .i64], fun (a : Int × Int × Unit) => span_Sum a.1 a.2.1⟩) :: t151
theorem c108 : Chain Tryz.prog U tab base l108 t108 := Chain.cons tb cfok c151 2 rfl rfl rfl (hs := [])
 (fun (e : Int × Int × Unit) => span_Sum e.2.1 e.1) (by kernel_rfl) (fun _ => rfl)
noncomputable def retry_Again (v0 : Int) (v1 : Int) : Option (Bool × Unit) :=
 let v2 : Bool := v1 == (2 : Int)
 let v3 : Bool := !v2
 (if v3 = true then some (some (v1 == (3 : Int))) else some none).bind fun v4 =>
 (if v2 = true then some true else (v4).bind fun y => some y : Option Bool).bind fun v5 =>
 let v6 : Bool := v0 == (2 : Int)
 if v6 = true then (
 let v7 : Bool := v1 == (0 : Int)
 some (v7, ()))
 else (
 let v7 : Bool := v0 == (3 : Int)
 if v7 = true then (
 let v8 : Bool := !v5
 (if v8 = true then some (some (v1 == (1 : Int))) else some none).bind fun v9 =>
 (if v5 = true then some true else (v9).bind fun y => some y : Option Bool).bind fun v10 =>
 some (v10, ()))
 else (
 let v8 : Bool := v0 == (4 : Int)
 if v8 = true then (
 some (v5, ()))
 else (
 let v9 : Bool := v0 == (5 : Int)
 if v9 = true then (
 let v10 : Bool := !v5
 (if v10 = true then some (some (v1 == (1 : Int))) else some none).bind fun v11 =>
 (if v5 = true then some true else (v11).bind fun y => some y : Option Bool).bind fun v12 =>
 let v13 : Bool := !v12
 (if v13 = true then some (some (v1 == (0 : Int))) else some none).bind fun v14 =>
 (if v12 = true then some true else (v14).bind fun y => some y : Option Bool).bind fun v15 =>
 some (v15, ()))
 else (
 some (false, ())))))
def l218 : Ch := (218, ⟨[.one (.v 0) (some (.w 1)), .one (.v 1) (some (.w 2))], ⟨2, [], 3, 0, [], [], [], [(.w 2, 1, 2), (.w 1, 1, 1)]⟩, ⟨[0], [], [], [], [], 0⟩, [(0, ⟨none, .one (.c []) none⟩)], false⟩, [(11801, ⟨[], [], [], [], [], 12⟩), (11901, ⟨[], [], [], [], [], 12⟩), (15801, ⟨[], [], [], [], [], 12⟩), (16101, ⟨[], [], [], [], [], 12⟩)]) :: l108
noncomputable def t218 : List (Nat × TC U) := (218, ⟨[.ik .i64, .ik .i64], [.bool], fun (a : Int × Int × Unit) => retry_Again a.1 a.2.1⟩) :: t108
theorem c218 : Chain Tryz.prog U tab base l218 t218 := Chain.cons tb cfok c108 2 rfl rfl rfl (hs := [])
 (fun (e : Int × Int × Unit) => retry_Again e.2.1 e.1) (by kernel_rfl) (fun _ => rfl)
noncomputable def retry_Due (v0 : api_Unit) (v1 : Int) (v2 : Int) : Option (Int × Bool × Unit) :=
 let v3 : Int := v0.Restart
 (retry_Again v3 v1).bind fun r4 =>
 let v4 : Bool := r4.1
 let v5 : Bool := !v4
 if v5 = true then (
 some ((0 : Int), false, ()))
 else (
 let v6 : Int := v0.Pause
 (span_Sum v2 v6).bind fun r7 =>
 let v7 : Int := r7.1
 some (v7, true, ()))
def l191 : Ch := (191, ⟨[.agg (.v 0) 35 (.g 0 0) [], .one (.v 1) (some (.w 1)), .one (.v 2) (some (.w 2))], ⟨3, [], 3, 1, [], [], [], [(.w 2, 1, 2), (.w 1, 1, 1)]⟩, ⟨[0, 1], [], [], [], [], 0⟩, [(0, ⟨none, .one (.c []) none⟩), (1, ⟨none, .one (.c []) none⟩)], true⟩, [(11801, ⟨[], [], [], [], [], 12⟩), (11901, ⟨[], [], [], [], [], 12⟩), (15801, ⟨[], [], [], [], [], 12⟩), (16101, ⟨[], [], [], [], [], 12⟩)]) :: l218
noncomputable def t191 : List (Nat × TC U) := (191, ⟨[.st 28, .ik .i64, .ik .i64], [.ik .i64, .bool], fun (a : api_Unit × Int × Int × Unit) => retry_Due a.1 a.2.1 a.2.2.1⟩) :: t218
theorem c191 : Chain Tryz.prog U tab base l191 t191 := Chain.cons tb cfok c218 3 rfl rfl rfl (hs := [])
 (fun (e : Int × Int × api_Unit × Unit) => retry_Due e.2.2.1 e.2.1 e.1) (by kernel_rfl) (fun _ => rfl)
noncomputable def run_Tell (v0 : api_Run) (v1 : Int) : Option (api_Run × Unit) :=
 let v2 : Int := v0.Part
 let v3 : Bool := decide (v2 > (0 : Int))
 let v4 : Bool := v3
 (if v4 = true then some (some (v0.Told)) else some none).bind fun v5 =>
 (if v4 = true then (v5.bind fun v5o1 => some (decide (v5o1 < (0 : Int))) : Option Bool).bind fun v => some (some v) else some none).bind fun v6 =>
 (if v3 = true then v6 else some false : Option Bool).bind fun v7 =>
 if v7 = true then (
 let v8 : api_Run := { v0 with Told := v1 }
 some (v8, ()))
 else (
 some (v0, ()))
def l154 : Ch := (154, ⟨[.agg (.v 0) 6 (.g 0 0) [], .one (.v 1) (some (.w 1))], ⟨2, [], 2, 1, [], [], [], [(.w 1, 1, 1)]⟩, ⟨[0], [], [], [], [], 0⟩, [(0, ⟨none, .agg (.c []) 6 .d []⟩)], false⟩, [(11801, ⟨[], [], [], [], [], 12⟩), (11901, ⟨[], [], [], [], [], 12⟩), (15801, ⟨[], [], [], [], [], 12⟩), (16101, ⟨[], [], [], [], [], 12⟩)]) :: l191
noncomputable def t154 : List (Nat × TC U) := (154, ⟨[.st 30, .ik .i64], [.st 30], fun (a : api_Run × Int × Unit) => run_Tell a.1 a.2.1⟩) :: t191
theorem c154 : Chain Tryz.prog U tab base l154 t154 := Chain.cons tb cfok c191 2 rfl rfl rfl (hs := [])
 (fun (e : Int × api_Run × Unit) => run_Tell e.2.1 e.1) (by kernel_rfl) (fun _ => rfl)
noncomputable def run_Begin (v0 : Int) (v1 : Int) (v2 : Int) : Option (api_Run × Unit) :=
 let v3 : api_Run := { (⟨(0 : Int), (0 : Int), (0 : Int), (0 : Int), (0 : Int), false⟩ : api_Run) with Part := v0 }
 let v4 : api_Run := { v3 with Num := v1 }
 let v5 : api_Run := { v4 with Begun := v2 }
 let v6 : api_Run := { v5 with Told := (-1 : Int) }
 some (v6, ())
def l155 : Ch := (155, ⟨[.one (.v 0) (some (.w 1)), .one (.v 1) (some (.w 2)), .one (.v 2) (some (.w 3))], ⟨3, [], 4, 0, [], [], [], [(.w 3, 1, 3), (.w 2, 1, 2), (.w 1, 1, 1)]⟩, ⟨[0], [], [], [], [], 0⟩, [(0, ⟨none, .agg (.c []) 6 .d []⟩)], false⟩, [(11801, ⟨[], [], [], [], [], 12⟩), (11901, ⟨[], [], [], [], [], 12⟩), (15801, ⟨[], [], [], [], [], 12⟩), (16101, ⟨[], [], [], [], [], 12⟩)]) :: l154
noncomputable def t155 : List (Nat × TC U) := (155, ⟨[.ik .i64, .ik .i64, .ik .i64], [.st 30], fun (a : Int × Int × Int × Unit) => run_Begin a.1 a.2.1 a.2.2.1⟩) :: t154
theorem c155 : Chain Tryz.prog U tab base l155 t155 := Chain.cons tb cfok c154 3 rfl rfl rfl (hs := [⟨.st 30, ((⟨(0 : Int), (0 : Int), (0 : Int), (0 : Int), (0 : Int), false⟩ : api_Run) : api_Run)⟩])
 (fun (e : Int × Int × Int × Unit) => run_Begin e.2.2.1 e.2.1 e.1) (by kernel_rfl) (fun _ => rfl)
noncomputable def matinsref22_Tell (v0 : api_Run) (v1 : Int) : Option (api_Run × Unit) :=
 let v2 : Int := v0.Part
 let v3 : Bool := decide (v2 > (0 : Int))
 let v4 : Bool := v3
 (if v4 = true then some (some (v0.Told)) else some none).bind fun v5 =>
 (if v4 = true then (v5.bind fun v5o1 => some (decide (v5o1 < (0 : Int))) : Option Bool).bind fun v => some (some v) else some none).bind fun v6 =>
 (if v3 = true then v6 else some false : Option Bool).bind fun v7 =>
 if v7 = true then (
 let v8 : api_Run := { v0 with Told := v1 }
 some (v8, ()))
 else (
 some (v0, ()))
def l166 : Ch := (166, ⟨[.agg (.v 0) 6 (.g 0 0) [], .one (.v 1) (some (.w 1))], ⟨2, [], 2, 1, [], [], [], [(.w 1, 1, 1)]⟩, ⟨[0], [], [], [], [], 0⟩, [(0, ⟨none, .agg (.c []) 6 .d []⟩)], false⟩, [(11801, ⟨[], [], [], [], [], 12⟩), (11901, ⟨[], [], [], [], [], 12⟩), (15801, ⟨[], [], [], [], [], 12⟩), (16101, ⟨[], [], [], [], [], 12⟩)]) :: l155
noncomputable def t166 : List (Nat × TC U) := (166, ⟨[.st 30, .ik .i64], [.st 30], fun (a : api_Run × Int × Unit) => matinsref22_Tell a.1 a.2.1⟩) :: t155
theorem c166 : Chain Tryz.prog U tab base l166 t166 := Chain.cons tb cfok c155 2 rfl rfl rfl (hs := [])
 (fun (e : Int × api_Run × Unit) => matinsref22_Tell e.2.1 e.1) (by kernel_rfl) (fun _ => rfl)
noncomputable def matinsref22_Run (v0 : Int) (v1 : Int) (v2 : Int) : Option (api_Run × Unit) :=
 let v3 : api_Run := { (⟨(0 : Int), (0 : Int), (0 : Int), (0 : Int), (0 : Int), false⟩ : api_Run) with Part := v0 }
 let v4 : api_Run := { v3 with Num := v1 }
 let v5 : api_Run := { v4 with Begun := v2 }
 let v6 : api_Run := { v5 with Told := (-1 : Int) }
 some (v6, ())
def l126 : Ch := (126, ⟨[.one (.v 0) (some (.w 1)), .one (.v 1) (some (.w 2)), .one (.v 2) (some (.w 3))], ⟨3, [], 4, 0, [], [], [], [(.w 3, 1, 3), (.w 2, 1, 2), (.w 1, 1, 1)]⟩, ⟨[0], [], [], [], [], 0⟩, [(0, ⟨none, .agg (.c []) 6 .d []⟩)], false⟩, [(11801, ⟨[], [], [], [], [], 12⟩), (11901, ⟨[], [], [], [], [], 12⟩), (15801, ⟨[], [], [], [], [], 12⟩), (16101, ⟨[], [], [], [], [], 12⟩)]) :: l166
noncomputable def t126 : List (Nat × TC U) := (126, ⟨[.ik .i64, .ik .i64, .ik .i64], [.st 30], fun (a : Int × Int × Int × Unit) => matinsref22_Run a.1 a.2.1 a.2.2.1⟩) :: t166
theorem c126 : Chain Tryz.prog U tab base l126 t126 := Chain.cons tb cfok c166 3 rfl rfl rfl (hs := [⟨.st 30, ((⟨(0 : Int), (0 : Int), (0 : Int), (0 : Int), (0 : Int), false⟩ : api_Run) : api_Run)⟩])
 (fun (e : Int × Int × Int × Unit) => matinsref22_Run e.2.2.1 e.2.1 e.1) (by kernel_rfl) (fun _ => rfl)
noncomputable def matinsref22_Again (v0 : Int) (v1 : Int) : Option (Bool × Unit) :=
 let v2 : Bool := v1 == (0 : Int)
 let v3 : Bool := v1 == (1 : Int)
 let v4 : Bool := v1 == (2 : Int)
 let v5 : Bool := !v4
 (if v5 = true then some (some (v1 == (3 : Int))) else some none).bind fun v6 =>
 (if v4 = true then some true else (v6).bind fun y => some y : Option Bool).bind fun v7 =>
 let v8 : Bool := v0 == (2 : Int)
 if v8 = true then (
 some (v2, ()))
 else (
 let v9 : Bool := v0 == (3 : Int)
 if v9 = true then (
 let v10 : Bool := !v3
 (if v3 = true then some true else some v7 : Option Bool).bind fun v11 =>
 some (v11, ()))
 else (
 let v10 : Bool := v0 == (4 : Int)
 if v10 = true then (
 some (v7, ()))
 else (
 let v11 : Bool := v0 == (5 : Int)
 if v11 = true then (
 let v12 : Bool := !v2
 (if v2 = true then some true else some v3 : Option Bool).bind fun v13 =>
 let v14 : Bool := !v13
 (if v13 = true then some true else some v7 : Option Bool).bind fun v15 =>
 some (v15, ()))
 else (
 some (false, ())))))
def l216 : Ch := (216, ⟨[.one (.v 0) (some (.w 1)), .one (.v 1) (some (.w 2))], ⟨2, [], 3, 0, [], [], [], [(.w 2, 1, 2), (.w 1, 1, 1)]⟩, ⟨[0], [], [], [], [], 0⟩, [(0, ⟨none, .one (.c []) none⟩)], false⟩, [(11801, ⟨[], [], [], [], [], 12⟩), (11901, ⟨[], [], [], [], [], 12⟩), (15801, ⟨[], [], [], [], [], 12⟩), (16101, ⟨[], [], [], [], [], 12⟩)]) :: l126
noncomputable def t216 : List (Nat × TC U) := (216, ⟨[.ik .i64, .ik .i64], [.bool], fun (a : Int × Int × Unit) => matinsref22_Again a.1 a.2.1⟩) :: t126
theorem c216 : Chain Tryz.prog U tab base l216 t216 := Chain.cons tb cfok c126 2 rfl rfl rfl (hs := [])
 (fun (e : Int × Int × Unit) => matinsref22_Again e.2.1 e.1) (by kernel_rfl) (fun _ => rfl)
noncomputable def matinsref22_Pause (v0 : api_Unit) (v1 : Int) (v2 : Int) : Option (Int × Bool × Unit) :=
 let v3 : Int := v0.Restart
 (matinsref22_Again v3 v1).bind fun r4 =>
 let v4 : Bool := r4.1
 let v5 : Bool := !v4
 if v5 = true then (
 some ((0 : Int), false, ()))
 else (
 let v6 : Int := v0.Pause
 (matinsref1_Sum v2 v6).bind fun r7 =>
 let v7 : Int := r7.1
 some (v7, true, ()))
def l182 : Ch := (182, ⟨[.agg (.v 0) 35 (.g 0 0) [], .one (.v 1) (some (.w 1)), .one (.v 2) (some (.w 2))], ⟨3, [], 3, 1, [], [], [], [(.w 2, 1, 2), (.w 1, 1, 1)]⟩, ⟨[0, 1], [], [], [], [], 0⟩, [(0, ⟨none, .one (.c []) none⟩), (1, ⟨none, .one (.c []) none⟩)], true⟩, [(11801, ⟨[], [], [], [], [], 12⟩), (11901, ⟨[], [], [], [], [], 12⟩), (15801, ⟨[], [], [], [], [], 12⟩), (16101, ⟨[], [], [], [], [], 12⟩)]) :: l216
noncomputable def t182 : List (Nat × TC U) := (182, ⟨[.st 28, .ik .i64, .ik .i64], [.ik .i64, .bool], fun (a : api_Unit × Int × Int × Unit) => matinsref22_Pause a.1 a.2.1 a.2.2.1⟩) :: t216
theorem c182 : Chain Tryz.prog U tab base l182 t182 := Chain.cons tb cfok c216 3 rfl rfl rfl (hs := [])
 (fun (e : Int × Int × api_Unit × Unit) => matinsref22_Pause e.2.2.1 e.2.1 e.1) (by kernel_rfl) (fun _ => rfl)
noncomputable def matinsref22_Ends (v0 : api_Act) (v1 : api_Run) : Option (Int × Int × Unit) :=
 let v2 : Int := v1.Part
 let v3 : Bool := decide (v2 ≤ (0 : Int))
 if v3 = true then (
 some ((1099511627776 : Int), (0 : Int), ()))
 else (
 let v4 : Int := v1.Begun
 let v5 : Int := v0.Lasts
 (matinsref1_Sum v4 v5).bind fun r6 =>
 let v6 : Int := r6.1
 let v7 : Int := v0.Code
 let v8 : Int := v1.Told
 let v9 : Bool := decide (v8 ≥ (0 : Int))
 if v9 = true then (
 let v10 : Int := v1.Told
 let v11 : Int := v0.Dies
 (matinsref1_Sum v10 v11).bind fun r12 =>
 let v12 : Int := r12.1
 let v13 : Bool := decide (v12 < v6)
 if v13 = true then (
 let v14 : Bool := decide (v12 ≥ (1099511627776 : Int))
 if v14 = true then (
 some ((1099511627776 : Int), (0 : Int), ()))
 else (
 some (v12, (0 : Int), ())))
 else (
 let v14 : Bool := decide (v6 ≥ (1099511627776 : Int))
 if v14 = true then (
 some ((1099511627776 : Int), (0 : Int), ()))
 else (
 some (v6, v7, ()))))
 else (
 let v10 : Bool := decide (v6 ≥ (1099511627776 : Int))
 if v10 = true then (
 some ((1099511627776 : Int), (0 : Int), ()))
 else (
 some (v6, v7, ()))))
def l136 : Ch := (136, ⟨[.agg (.v 0) 9 (.g 0 0) [], .agg (.v 1) 6 (.g 1 0) []], ⟨2, [], 1, 2, [], [], [], []⟩, ⟨[0, 1], [], [], [], [], 0⟩, [(0, ⟨none, .one (.c []) none⟩), (1, ⟨none, .one (.c []) none⟩)], true⟩, [(11801, ⟨[], [], [], [], [], 12⟩), (11901, ⟨[], [], [], [], [], 12⟩), (15801, ⟨[], [], [], [], [], 12⟩), (16101, ⟨[], [], [], [], [], 12⟩)]) :: l182
noncomputable def t136 : List (Nat × TC U) := (136, ⟨[.st 89, .st 30], [.ik .i64, .ik .i64], fun (a : api_Act × api_Run × Unit) => matinsref22_Ends a.1 a.2.1⟩) :: t182
theorem c136 : Chain Tryz.prog U tab base l136 t136 := Chain.cons tb cfok c182 2 rfl rfl rfl (hs := [])
 (fun (e : api_Run × api_Act × Unit) => matinsref22_Ends e.2.1 e.1) (by kernel_rfl) (fun _ => rfl)
noncomputable def run_Ends (v0 : api_Act) (v1 : api_Run) : Option (Int × Int × Unit) :=
 let v2 : Int := v1.Part
 let v3 : Bool := decide (v2 ≤ (0 : Int))
 if v3 = true then (
 some ((1099511627776 : Int), (0 : Int), ()))
 else (
 let v4 : Int := v1.Begun
 let v5 : Int := v0.Lasts
 (span_Sum v4 v5).bind fun r6 =>
 let v6 : Int := r6.1
 let v7 : Int := v0.Code
 let v8 : Int := v1.Told
 let v9 : Bool := decide (v8 ≥ (0 : Int))
 if v9 = true then (
 let v10 : Int := v1.Told
 let v11 : Int := v0.Dies
 (span_Sum v10 v11).bind fun r12 =>
 let v12 : Int := r12.1
 let v13 : Bool := decide (v12 < v6)
 if v13 = true then (
 let v14 : Bool := v12 == (1099511627776 : Int)
 if v14 = true then (
 some ((1099511627776 : Int), (0 : Int), ()))
 else (
 some (v12, (0 : Int), ())))
 else (
 let v14 : Bool := v6 == (1099511627776 : Int)
 if v14 = true then (
 some ((1099511627776 : Int), (0 : Int), ()))
 else (
 some (v6, v7, ()))))
 else (
 let v10 : Bool := v6 == (1099511627776 : Int)
 if v10 = true then (
 some ((1099511627776 : Int), (0 : Int), ()))
 else (
 some (v6, v7, ()))))
def l201 : Ch := (201, ⟨[.agg (.v 0) 9 (.g 0 0) [], .agg (.v 1) 6 (.g 1 0) []], ⟨2, [], 1, 2, [], [], [], []⟩, ⟨[0, 1], [], [], [], [], 0⟩, [(0, ⟨none, .one (.c []) none⟩), (1, ⟨none, .one (.c []) none⟩)], true⟩, [(11801, ⟨[], [], [], [], [], 12⟩), (11901, ⟨[], [], [], [], [], 12⟩), (15801, ⟨[], [], [], [], [], 12⟩), (16101, ⟨[], [], [], [], [], 12⟩)]) :: l136
noncomputable def t201 : List (Nat × TC U) := (201, ⟨[.st 89, .st 30], [.ik .i64, .ik .i64], fun (a : api_Act × api_Run × Unit) => run_Ends a.1 a.2.1⟩) :: t136
theorem c201 : Chain Tryz.prog U tab base l201 t201 := Chain.cons tb cfok c136 2 rfl rfl rfl (hs := [])
 (fun (e : api_Run × api_Act × Unit) => run_Ends e.2.1 e.1) (by kernel_rfl) (fun _ => rfl)
end Go.AW.M
