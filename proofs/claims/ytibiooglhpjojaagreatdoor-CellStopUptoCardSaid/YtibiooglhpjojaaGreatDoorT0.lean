/- Types of the seat, how they lie in rows; tables of the program. Printed by tfn.py. -/
import Derived.Test.YtibiooglhpjojaaGreatDoorPe
import Derived.KernelRfl
import Derived.Test.YtibiooglhpjojaaGreatDoorProg
import Derived.Test.YtibiooglhpjojaaGreatDoorH0
set_option linter.unusedSimpArgs false
set_option linter.unusedVariables false
namespace Go.AW.M
open Go.RowKit Go.Proofs
set_option maxRecDepth 100000
structure api_Rel where
  Kind : Int
  Name : ByteArray
  deriving DecidableEq
def api_Rel.row (x : api_Rel) : Row := [.lit (.int .i64 x.Kind), .lit (.string x.Name)]
structure api_Exec where
  Dash : Bool
  Words : List ByteArray
  deriving DecidableEq
def api_Exec.row (x : api_Exec) : Row := [.lit (.bool x.Dash), slv 1 (List.map (fun x : ByteArray => [.lit (.string x)]) x.Words)]
structure api_Pair where
  Name : ByteArray
  Value : ByteArray
  deriving DecidableEq
def api_Pair.row (x : api_Pair) : Row := [.lit (.string x.Name), .lit (.string x.Value)]
structure api_Unit where
  Name : ByteArray
  Kind : Int
  Desc : ByteArray
  Default : Bool
  Rels : List api_Rel
  Every : Int
  Burst : Int
  Type_ : Int
  Pre : List api_Exec
  Start : List api_Exec
  Post : List api_Exec
  Stop : List api_Exec
  Reload : List api_Exec
  Remain : Bool
  Restart : Int
  Pause : Int
  Up : Int
  Down : Int
  Success : List Int
  Env : List api_Pair
  Sockets : List ByteArray
  Ports : List Int
  Backlog : Int
  FdName : ByteArray
  Unit_ : ByteArray
  Boot : List Int
  Active : List Int
  Idle : List Int
  Calendar : List ByteArray
  Persistent : Bool
  WantedBy : List ByteArray
  RequiredBy : List ByteArray
  Alias : List ByteArray
  Also : List ByteArray
  Instance : ByteArray
  deriving DecidableEq
def api_Unit.row (x : api_Unit) : Row := [.lit (.string x.Name), .lit (.int .i64 x.Kind), .lit (.string x.Desc), .lit (.bool x.Default), slv 2 (List.map api_Rel.row x.Rels), .lit (.int .i64 x.Every), .lit (.int .i64 x.Burst), .lit (.int .i64 x.Type_), slv 2 (List.map api_Exec.row x.Pre), slv 2 (List.map api_Exec.row x.Start), slv 2 (List.map api_Exec.row x.Post), slv 2 (List.map api_Exec.row x.Stop), slv 2 (List.map api_Exec.row x.Reload), .lit (.bool x.Remain), .lit (.int .i64 x.Restart), .lit (.int .i64 x.Pause), .lit (.int .i64 x.Up), .lit (.int .i64 x.Down), slv 1 (List.map (fun x : Int => [.lit (.int .i64 x)]) x.Success), slv 2 (List.map api_Pair.row x.Env), slv 1 (List.map (fun x : ByteArray => [.lit (.string x)]) x.Sockets), slv 1 (List.map (fun x : Int => [.lit (.int .i64 x)]) x.Ports), .lit (.int .i64 x.Backlog), .lit (.string x.FdName), .lit (.string x.Unit_), slv 1 (List.map (fun x : Int => [.lit (.int .i64 x)]) x.Boot), slv 1 (List.map (fun x : Int => [.lit (.int .i64 x)]) x.Active), slv 1 (List.map (fun x : Int => [.lit (.int .i64 x)]) x.Idle), slv 1 (List.map (fun x : ByteArray => [.lit (.string x)]) x.Calendar), .lit (.bool x.Persistent), slv 1 (List.map (fun x : ByteArray => [.lit (.string x)]) x.WantedBy), slv 1 (List.map (fun x : ByteArray => [.lit (.string x)]) x.RequiredBy), slv 1 (List.map (fun x : ByteArray => [.lit (.string x)]) x.Alias), slv 1 (List.map (fun x : ByteArray => [.lit (.string x)]) x.Also), .lit (.string x.Instance)]
structure api_Run where
  Part : Int
  Num : Int
  Begun : Int
  Told : Int
  Said : Int
  Ready : Bool
  deriving DecidableEq
def api_Run.row (x : api_Run) : Row := [.lit (.int .i64 x.Part), .lit (.int .i64 x.Num), .lit (.int .i64 x.Begun), .lit (.int .i64 x.Told), .lit (.int .i64 x.Said), .lit (.bool x.Ready)]
structure api_Conn where
  Socket : ByteArray
  Num : Int
  Tries : Int
  Takes : Int
  Until : Int
  deriving DecidableEq
def api_Conn.row (x : api_Conn) : Row := [.lit (.string x.Socket), .lit (.int .i64 x.Num), .lit (.int .i64 x.Tries), .lit (.int .i64 x.Takes), .lit (.int .i64 x.Until)]
structure api_Cell where
  U : api_Unit
  State : Int
  Since : Int
  Attempt : Int
  Begins : List Int
  Result : Int
  Main : api_Run
  Aux : api_Run
  Over : Int
  Wish : Bool
  Bad : Bool
  Serves : List api_Conn
  Waits : List api_Conn
  Seen : Int
  Num : Int
  Last : Int
  Next : Int
  Rows : Int
  deriving DecidableEq
def api_Cell.row (x : api_Cell) : Row := api_Unit.row x.U ++ ([.lit (.int .i64 x.State), .lit (.int .i64 x.Since), .lit (.int .i64 x.Attempt), slv 1 (List.map (fun x : Int => [.lit (.int .i64 x)]) x.Begins), .lit (.int .i64 x.Result)] ++ (api_Run.row x.Main ++ (api_Run.row x.Aux ++ ([.lit (.int .i64 x.Over), .lit (.bool x.Wish), .lit (.bool x.Bad), slv 5 (List.map api_Conn.row x.Serves), slv 5 (List.map api_Conn.row x.Waits), .lit (.int .i64 x.Seen), .lit (.int .i64 x.Num), .lit (.int .i64 x.Last), .lit (.int .i64 x.Next), .lit (.int .i64 x.Rows)]))))
structure api_Said where
  After : Int
  Text : ByteArray
  deriving DecidableEq
def api_Said.row (x : api_Said) : Row := [.lit (.int .i64 x.After), .lit (.string x.Text)]
structure api_Act where
  Unit_ : ByteArray
  Part : Int
  Num : Int
  Attempt : Int
  Lasts : Int
  Code : Int
  Ready : Int
  Dies : Int
  Says : List api_Said
  deriving DecidableEq
def api_Act.row (x : api_Act) : Row := [.lit (.string x.Unit_), .lit (.int .i64 x.Part), .lit (.int .i64 x.Num), .lit (.int .i64 x.Attempt), .lit (.int .i64 x.Lasts), .lit (.int .i64 x.Code), .lit (.int .i64 x.Ready), .lit (.int .i64 x.Dies), slv 2 (List.map api_Said.row x.Says)]
structure api_Row where
  Time : Int
  Unit_ : ByteArray
  N : Int
  Kind : Int
  Text : ByteArray
  deriving DecidableEq
def api_Row.row (x : api_Row) : Row := [.lit (.int .i64 x.Time), .lit (.string x.Unit_), .lit (.int .i64 x.N), .lit (.int .i64 x.Kind), .lit (.string x.Text)]
structure api_Ask where
  At : Int
  Unit_ : ByteArray
  Type_ : Int
  deriving DecidableEq
def api_Ask.row (x : api_Ask) : Row := [.lit (.int .i64 x.At), .lit (.string x.Unit_), .lit (.int .i64 x.Type_)]
structure api_Out where
  Rows : List api_Row
  Asks : List api_Ask
  Back : List api_Conn
  Fell : Bool
  Failed : Bool
  deriving DecidableEq
def api_Out.row (x : api_Out) : Row := [slv 5 (List.map api_Row.row x.Rows), slv 3 (List.map api_Ask.row x.Asks), slv 5 (List.map api_Conn.row x.Back), .lit (.bool x.Fell), .lit (.bool x.Failed)]
structure matinsref1_Cut where
  Kind : Int
  Prefix : ByteArray
  Instance : ByteArray
  At : Bool
  deriving DecidableEq
def matinsref1_Cut.row (x : matinsref1_Cut) : Row := [.lit (.int .i64 x.Kind), .lit (.string x.Prefix), .lit (.string x.Instance), .lit (.bool x.At)]
structure api_Call where
  At : Int
  Port : Int
  Takes : Int
  deriving DecidableEq
def api_Call.row (x : api_Call) : Row := [.lit (.int .i64 x.At), .lit (.int .i64 x.Port), .lit (.int .i64 x.Takes)]
structure api_World where
  Acts : List api_Act
  Calls : List api_Call
  Asks : List api_Ask
  deriving DecidableEq
def api_World.row (x : api_World) : Row := [slv 9 (List.map api_Act.row x.Acts), slv 3 (List.map api_Call.row x.Calls), slv 3 (List.map api_Ask.row x.Asks)]
structure service_course where
  w : api_World
  c : api_Cell
  now : Int
  out : api_Out
  deriving DecidableEq
def service_course.row (x : service_course) : Row := api_World.row x.w ++ (api_Cell.row x.c ++ ([.lit (.int .i64 x.now)] ++ (api_Out.row x.out)))
structure sock_course where
  c : api_Cell
  now : Int
  out : api_Out
  deriving DecidableEq
def sock_course.row (x : sock_course) : Row := api_Cell.row x.c ++ ([.lit (.int .i64 x.now)] ++ (api_Out.row x.out))
def U : Uni := uniOf [(162, ⟨api_Rel, api_Rel.row, 2, fun _ => rfl⟩),
 (158, ⟨api_Exec, api_Exec.row, 2, fun _ => rfl⟩),
 (160, ⟨api_Pair, api_Pair.row, 2, fun _ => rfl⟩),
 (28, ⟨api_Unit, api_Unit.row, 35, fun _ => rfl⟩),
 (30, ⟨api_Run, api_Run.row, 6, fun _ => rfl⟩),
 (105, ⟨api_Conn, api_Conn.row, 5, fun _ => rfl⟩),
 (33, ⟨api_Cell, api_Cell.row, 62, fun _ => rfl⟩),
 (134, ⟨api_Said, api_Said.row, 2, fun _ => rfl⟩),
 (89, ⟨api_Act, api_Act.row, 9, fun _ => rfl⟩),
 (62, ⟨api_Row, api_Row.row, 5, fun _ => rfl⟩),
 (92, ⟨api_Ask, api_Ask.row, 3, fun _ => rfl⟩),
 (47, ⟨api_Out, api_Out.row, 5, fun _ => rfl⟩),
 (131, ⟨matinsref1_Cut, matinsref1_Cut.row, 4, fun _ => rfl⟩),
 (82, ⟨api_Call, api_Call.row, 3, fun _ => rfl⟩),
 (43, ⟨api_World, api_World.row, 3, fun _ => rfl⟩),
 (96, ⟨service_course, service_course.row, 71, fun _ => rfl⟩),
 (100, ⟨sock_course, sock_course.row, 68, fun _ => rfl⟩)]
def api_Conn.same (x y : api_Conn) : Bool := (((ByteArray.toList x.Socket) == (ByteArray.toList y.Socket)) && ((x.Num == y.Num) && ((x.Tries == y.Tries) && ((x.Takes == y.Takes) && ((x.Until == y.Until) && true)))))
def api_Row.same (x y : api_Row) : Bool := ((x.Time == y.Time) && (((ByteArray.toList x.Unit_) == (ByteArray.toList y.Unit_)) && ((x.N == y.N) && ((x.Kind == y.Kind) && (((ByteArray.toList x.Text) == (ByteArray.toList y.Text)) && true)))))
def api_Ask.same (x y : api_Ask) : Bool := ((x.At == y.At) && (((ByteArray.toList x.Unit_) == (ByteArray.toList y.Unit_)) && ((x.Type_ == y.Type_) && true)))
def api_Pair.same (x y : api_Pair) : Bool := (((ByteArray.toList x.Name) == (ByteArray.toList y.Name)) && (((ByteArray.toList x.Value) == (ByteArray.toList y.Value)) && true))
def api_Rel.same (x y : api_Rel) : Bool := ((x.Kind == y.Kind) && (((ByteArray.toList x.Name) == (ByteArray.toList y.Name)) && true))
def api_Run.same (x y : api_Run) : Bool := ((x.Part == y.Part) && ((x.Num == y.Num) && ((x.Begun == y.Begun) && ((x.Told == y.Told) && ((x.Said == y.Said) && ((x.Ready == y.Ready) && true))))))
def gs : List (Sigma fun m => List (GetE U m)) := [⟨33, [⟨0, 1, .str, fun (x : api_Cell) => x.U.Name, fun _ => ⟨Nat.le_of_ble_eq_true rfl, rfl⟩⟩, ⟨0, 35, .st 28, fun (x : api_Cell) => x.U, fun _ => ⟨Nat.le_of_ble_eq_true rfl, rfl⟩⟩, ⟨1, 1, .ik .i64, fun (x : api_Cell) => x.U.Kind, fun _ => ⟨Nat.le_of_ble_eq_true rfl, rfl⟩⟩, ⟨4, 1, .li (.st 162), fun (x : api_Cell) => x.U.Rels, fun _ => ⟨Nat.le_of_ble_eq_true rfl, rfl⟩⟩, ⟨5, 1, .ik .i64, fun (x : api_Cell) => x.U.Every, fun _ => ⟨Nat.le_of_ble_eq_true rfl, rfl⟩⟩, ⟨6, 1, .ik .i64, fun (x : api_Cell) => x.U.Burst, fun _ => ⟨Nat.le_of_ble_eq_true rfl, rfl⟩⟩, ⟨7, 1, .ik .i64, fun (x : api_Cell) => x.U.Type_, fun _ => ⟨Nat.le_of_ble_eq_true rfl, rfl⟩⟩, ⟨8, 1, .li (.st 158), fun (x : api_Cell) => x.U.Pre, fun _ => ⟨Nat.le_of_ble_eq_true rfl, rfl⟩⟩, ⟨9, 1, .li (.st 158), fun (x : api_Cell) => x.U.Start, fun _ => ⟨Nat.le_of_ble_eq_true rfl, rfl⟩⟩, ⟨10, 1, .li (.st 158), fun (x : api_Cell) => x.U.Post, fun _ => ⟨Nat.le_of_ble_eq_true rfl, rfl⟩⟩, ⟨11, 1, .li (.st 158), fun (x : api_Cell) => x.U.Stop, fun _ => ⟨Nat.le_of_ble_eq_true rfl, rfl⟩⟩, ⟨12, 1, .li (.st 158), fun (x : api_Cell) => x.U.Reload, fun _ => ⟨Nat.le_of_ble_eq_true rfl, rfl⟩⟩, ⟨18, 1, .li (.ik .i64), fun (x : api_Cell) => x.U.Success, fun _ => ⟨Nat.le_of_ble_eq_true rfl, rfl⟩⟩, ⟨19, 1, .li (.st 160), fun (x : api_Cell) => x.U.Env, fun _ => ⟨Nat.le_of_ble_eq_true rfl, rfl⟩⟩, ⟨20, 1, .li (.str), fun (x : api_Cell) => x.U.Sockets, fun _ => ⟨Nat.le_of_ble_eq_true rfl, rfl⟩⟩, ⟨21, 1, .li (.ik .i64), fun (x : api_Cell) => x.U.Ports, fun _ => ⟨Nat.le_of_ble_eq_true rfl, rfl⟩⟩, ⟨25, 1, .li (.ik .i64), fun (x : api_Cell) => x.U.Boot, fun _ => ⟨Nat.le_of_ble_eq_true rfl, rfl⟩⟩, ⟨26, 1, .li (.ik .i64), fun (x : api_Cell) => x.U.Active, fun _ => ⟨Nat.le_of_ble_eq_true rfl, rfl⟩⟩, ⟨27, 1, .li (.ik .i64), fun (x : api_Cell) => x.U.Idle, fun _ => ⟨Nat.le_of_ble_eq_true rfl, rfl⟩⟩, ⟨28, 1, .li (.str), fun (x : api_Cell) => x.U.Calendar, fun _ => ⟨Nat.le_of_ble_eq_true rfl, rfl⟩⟩, ⟨30, 1, .li (.str), fun (x : api_Cell) => x.U.WantedBy, fun _ => ⟨Nat.le_of_ble_eq_true rfl, rfl⟩⟩, ⟨31, 1, .li (.str), fun (x : api_Cell) => x.U.RequiredBy, fun _ => ⟨Nat.le_of_ble_eq_true rfl, rfl⟩⟩, ⟨32, 1, .li (.str), fun (x : api_Cell) => x.U.Alias, fun _ => ⟨Nat.le_of_ble_eq_true rfl, rfl⟩⟩, ⟨33, 1, .li (.str), fun (x : api_Cell) => x.U.Also, fun _ => ⟨Nat.le_of_ble_eq_true rfl, rfl⟩⟩, ⟨35, 1, .ik .i64, fun (x : api_Cell) => x.State, fun _ => ⟨Nat.le_of_ble_eq_true rfl, rfl⟩⟩, ⟨36, 1, .ik .i64, fun (x : api_Cell) => x.Since, fun _ => ⟨Nat.le_of_ble_eq_true rfl, rfl⟩⟩, ⟨37, 1, .ik .i64, fun (x : api_Cell) => x.Attempt, fun _ => ⟨Nat.le_of_ble_eq_true rfl, rfl⟩⟩, ⟨38, 1, .li (.ik .i64), fun (x : api_Cell) => x.Begins, fun _ => ⟨Nat.le_of_ble_eq_true rfl, rfl⟩⟩, ⟨39, 1, .ik .i64, fun (x : api_Cell) => x.Result, fun _ => ⟨Nat.le_of_ble_eq_true rfl, rfl⟩⟩, ⟨40, 1, .ik .i64, fun (x : api_Cell) => x.Main.Part, fun _ => ⟨Nat.le_of_ble_eq_true rfl, rfl⟩⟩, ⟨40, 6, .st 30, fun (x : api_Cell) => x.Main, fun _ => ⟨Nat.le_of_ble_eq_true rfl, rfl⟩⟩, ⟨43, 1, .ik .i64, fun (x : api_Cell) => x.Main.Told, fun _ => ⟨Nat.le_of_ble_eq_true rfl, rfl⟩⟩, ⟨46, 1, .ik .i64, fun (x : api_Cell) => x.Aux.Part, fun _ => ⟨Nat.le_of_ble_eq_true rfl, rfl⟩⟩, ⟨46, 6, .st 30, fun (x : api_Cell) => x.Aux, fun _ => ⟨Nat.le_of_ble_eq_true rfl, rfl⟩⟩, ⟨52, 1, .ik .i64, fun (x : api_Cell) => x.Over, fun _ => ⟨Nat.le_of_ble_eq_true rfl, rfl⟩⟩, ⟨53, 1, .bool, fun (x : api_Cell) => x.Wish, fun _ => ⟨Nat.le_of_ble_eq_true rfl, rfl⟩⟩, ⟨54, 1, .bool, fun (x : api_Cell) => x.Bad, fun _ => ⟨Nat.le_of_ble_eq_true rfl, rfl⟩⟩, ⟨55, 1, .li (.st 105), fun (x : api_Cell) => x.Serves, fun _ => ⟨Nat.le_of_ble_eq_true rfl, rfl⟩⟩, ⟨56, 1, .li (.st 105), fun (x : api_Cell) => x.Waits, fun _ => ⟨Nat.le_of_ble_eq_true rfl, rfl⟩⟩, ⟨57, 1, .ik .i64, fun (x : api_Cell) => x.Seen, fun _ => ⟨Nat.le_of_ble_eq_true rfl, rfl⟩⟩, ⟨58, 1, .ik .i64, fun (x : api_Cell) => x.Num, fun _ => ⟨Nat.le_of_ble_eq_true rfl, rfl⟩⟩, ⟨59, 1, .ik .i64, fun (x : api_Cell) => x.Last, fun _ => ⟨Nat.le_of_ble_eq_true rfl, rfl⟩⟩, ⟨60, 1, .ik .i64, fun (x : api_Cell) => x.Next, fun _ => ⟨Nat.le_of_ble_eq_true rfl, rfl⟩⟩, ⟨61, 1, .ik .i64, fun (x : api_Cell) => x.Rows, fun _ => ⟨Nat.le_of_ble_eq_true rfl, rfl⟩⟩]⟩,
 ⟨30, [⟨0, 1, .ik .i64, fun (x : api_Run) => x.Part, fun _ => ⟨Nat.le_of_ble_eq_true rfl, rfl⟩⟩, ⟨2, 1, .ik .i64, fun (x : api_Run) => x.Begun, fun _ => ⟨Nat.le_of_ble_eq_true rfl, rfl⟩⟩, ⟨3, 1, .ik .i64, fun (x : api_Run) => x.Told, fun _ => ⟨Nat.le_of_ble_eq_true rfl, rfl⟩⟩]⟩,
 ⟨28, [⟨0, 1, .str, fun (x : api_Unit) => x.Name, fun _ => ⟨Nat.le_of_ble_eq_true rfl, rfl⟩⟩, ⟨1, 1, .ik .i64, fun (x : api_Unit) => x.Kind, fun _ => ⟨Nat.le_of_ble_eq_true rfl, rfl⟩⟩, ⟨2, 1, .str, fun (x : api_Unit) => x.Desc, fun _ => ⟨Nat.le_of_ble_eq_true rfl, rfl⟩⟩, ⟨3, 1, .bool, fun (x : api_Unit) => x.Default, fun _ => ⟨Nat.le_of_ble_eq_true rfl, rfl⟩⟩, ⟨4, 1, .li (.st 162), fun (x : api_Unit) => x.Rels, fun _ => ⟨Nat.le_of_ble_eq_true rfl, rfl⟩⟩, ⟨5, 1, .ik .i64, fun (x : api_Unit) => x.Every, fun _ => ⟨Nat.le_of_ble_eq_true rfl, rfl⟩⟩, ⟨6, 1, .ik .i64, fun (x : api_Unit) => x.Burst, fun _ => ⟨Nat.le_of_ble_eq_true rfl, rfl⟩⟩, ⟨7, 1, .ik .i64, fun (x : api_Unit) => x.Type_, fun _ => ⟨Nat.le_of_ble_eq_true rfl, rfl⟩⟩, ⟨8, 1, .li (.st 158), fun (x : api_Unit) => x.Pre, fun _ => ⟨Nat.le_of_ble_eq_true rfl, rfl⟩⟩, ⟨9, 1, .li (.st 158), fun (x : api_Unit) => x.Start, fun _ => ⟨Nat.le_of_ble_eq_true rfl, rfl⟩⟩, ⟨10, 1, .li (.st 158), fun (x : api_Unit) => x.Post, fun _ => ⟨Nat.le_of_ble_eq_true rfl, rfl⟩⟩, ⟨11, 1, .li (.st 158), fun (x : api_Unit) => x.Stop, fun _ => ⟨Nat.le_of_ble_eq_true rfl, rfl⟩⟩, ⟨12, 1, .li (.st 158), fun (x : api_Unit) => x.Reload, fun _ => ⟨Nat.le_of_ble_eq_true rfl, rfl⟩⟩, ⟨13, 1, .bool, fun (x : api_Unit) => x.Remain, fun _ => ⟨Nat.le_of_ble_eq_true rfl, rfl⟩⟩, ⟨14, 1, .ik .i64, fun (x : api_Unit) => x.Restart, fun _ => ⟨Nat.le_of_ble_eq_true rfl, rfl⟩⟩, ⟨15, 1, .ik .i64, fun (x : api_Unit) => x.Pause, fun _ => ⟨Nat.le_of_ble_eq_true rfl, rfl⟩⟩, ⟨16, 1, .ik .i64, fun (x : api_Unit) => x.Up, fun _ => ⟨Nat.le_of_ble_eq_true rfl, rfl⟩⟩, ⟨17, 1, .ik .i64, fun (x : api_Unit) => x.Down, fun _ => ⟨Nat.le_of_ble_eq_true rfl, rfl⟩⟩, ⟨18, 1, .li (.ik .i64), fun (x : api_Unit) => x.Success, fun _ => ⟨Nat.le_of_ble_eq_true rfl, rfl⟩⟩, ⟨19, 1, .li (.st 160), fun (x : api_Unit) => x.Env, fun _ => ⟨Nat.le_of_ble_eq_true rfl, rfl⟩⟩, ⟨20, 1, .li (.str), fun (x : api_Unit) => x.Sockets, fun _ => ⟨Nat.le_of_ble_eq_true rfl, rfl⟩⟩, ⟨21, 1, .li (.ik .i64), fun (x : api_Unit) => x.Ports, fun _ => ⟨Nat.le_of_ble_eq_true rfl, rfl⟩⟩, ⟨22, 1, .ik .i64, fun (x : api_Unit) => x.Backlog, fun _ => ⟨Nat.le_of_ble_eq_true rfl, rfl⟩⟩, ⟨23, 1, .str, fun (x : api_Unit) => x.FdName, fun _ => ⟨Nat.le_of_ble_eq_true rfl, rfl⟩⟩, ⟨24, 1, .str, fun (x : api_Unit) => x.Unit_, fun _ => ⟨Nat.le_of_ble_eq_true rfl, rfl⟩⟩, ⟨25, 1, .li (.ik .i64), fun (x : api_Unit) => x.Boot, fun _ => ⟨Nat.le_of_ble_eq_true rfl, rfl⟩⟩, ⟨26, 1, .li (.ik .i64), fun (x : api_Unit) => x.Active, fun _ => ⟨Nat.le_of_ble_eq_true rfl, rfl⟩⟩, ⟨27, 1, .li (.ik .i64), fun (x : api_Unit) => x.Idle, fun _ => ⟨Nat.le_of_ble_eq_true rfl, rfl⟩⟩, ⟨28, 1, .li (.str), fun (x : api_Unit) => x.Calendar, fun _ => ⟨Nat.le_of_ble_eq_true rfl, rfl⟩⟩, ⟨29, 1, .bool, fun (x : api_Unit) => x.Persistent, fun _ => ⟨Nat.le_of_ble_eq_true rfl, rfl⟩⟩, ⟨30, 1, .li (.str), fun (x : api_Unit) => x.WantedBy, fun _ => ⟨Nat.le_of_ble_eq_true rfl, rfl⟩⟩, ⟨31, 1, .li (.str), fun (x : api_Unit) => x.RequiredBy, fun _ => ⟨Nat.le_of_ble_eq_true rfl, rfl⟩⟩, ⟨32, 1, .li (.str), fun (x : api_Unit) => x.Alias, fun _ => ⟨Nat.le_of_ble_eq_true rfl, rfl⟩⟩, ⟨33, 1, .li (.str), fun (x : api_Unit) => x.Also, fun _ => ⟨Nat.le_of_ble_eq_true rfl, rfl⟩⟩, ⟨34, 1, .str, fun (x : api_Unit) => x.Instance, fun _ => ⟨Nat.le_of_ble_eq_true rfl, rfl⟩⟩]⟩,
 ⟨89, [⟨0, 1, .str, fun (x : api_Act) => x.Unit_, fun _ => ⟨Nat.le_of_ble_eq_true rfl, rfl⟩⟩, ⟨1, 1, .ik .i64, fun (x : api_Act) => x.Part, fun _ => ⟨Nat.le_of_ble_eq_true rfl, rfl⟩⟩, ⟨2, 1, .ik .i64, fun (x : api_Act) => x.Num, fun _ => ⟨Nat.le_of_ble_eq_true rfl, rfl⟩⟩, ⟨3, 1, .ik .i64, fun (x : api_Act) => x.Attempt, fun _ => ⟨Nat.le_of_ble_eq_true rfl, rfl⟩⟩, ⟨4, 1, .ik .i64, fun (x : api_Act) => x.Lasts, fun _ => ⟨Nat.le_of_ble_eq_true rfl, rfl⟩⟩, ⟨5, 1, .ik .i64, fun (x : api_Act) => x.Code, fun _ => ⟨Nat.le_of_ble_eq_true rfl, rfl⟩⟩, ⟨6, 1, .ik .i64, fun (x : api_Act) => x.Ready, fun _ => ⟨Nat.le_of_ble_eq_true rfl, rfl⟩⟩, ⟨7, 1, .ik .i64, fun (x : api_Act) => x.Dies, fun _ => ⟨Nat.le_of_ble_eq_true rfl, rfl⟩⟩, ⟨8, 1, .li (.st 134), fun (x : api_Act) => x.Says, fun _ => ⟨Nat.le_of_ble_eq_true rfl, rfl⟩⟩]⟩,
 ⟨158, [⟨0, 1, .bool, fun (x : api_Exec) => x.Dash, fun _ => ⟨Nat.le_of_ble_eq_true rfl, rfl⟩⟩, ⟨1, 1, .li (.str), fun (x : api_Exec) => x.Words, fun _ => ⟨Nat.le_of_ble_eq_true rfl, rfl⟩⟩]⟩,
 ⟨47, [⟨0, 1, .li (.st 62), fun (x : api_Out) => x.Rows, fun _ => ⟨Nat.le_of_ble_eq_true rfl, rfl⟩⟩, ⟨1, 1, .li (.st 92), fun (x : api_Out) => x.Asks, fun _ => ⟨Nat.le_of_ble_eq_true rfl, rfl⟩⟩, ⟨2, 1, .li (.st 105), fun (x : api_Out) => x.Back, fun _ => ⟨Nat.le_of_ble_eq_true rfl, rfl⟩⟩, ⟨3, 1, .bool, fun (x : api_Out) => x.Fell, fun _ => ⟨Nat.le_of_ble_eq_true rfl, rfl⟩⟩, ⟨4, 1, .bool, fun (x : api_Out) => x.Failed, fun _ => ⟨Nat.le_of_ble_eq_true rfl, rfl⟩⟩]⟩,
 ⟨131, [⟨0, 1, .ik .i64, fun (x : matinsref1_Cut) => x.Kind, fun _ => ⟨Nat.le_of_ble_eq_true rfl, rfl⟩⟩, ⟨2, 1, .str, fun (x : matinsref1_Cut) => x.Instance, fun _ => ⟨Nat.le_of_ble_eq_true rfl, rfl⟩⟩]⟩,
 ⟨134, [⟨0, 1, .ik .i64, fun (x : api_Said) => x.After, fun _ => ⟨Nat.le_of_ble_eq_true rfl, rfl⟩⟩, ⟨1, 1, .str, fun (x : api_Said) => x.Text, fun _ => ⟨Nat.le_of_ble_eq_true rfl, rfl⟩⟩]⟩,
 ⟨43, [⟨0, 1, .li (.st 89), fun (x : api_World) => x.Acts, fun _ => ⟨Nat.le_of_ble_eq_true rfl, rfl⟩⟩, ⟨1, 1, .li (.st 82), fun (x : api_World) => x.Calls, fun _ => ⟨Nat.le_of_ble_eq_true rfl, rfl⟩⟩, ⟨2, 1, .li (.st 92), fun (x : api_World) => x.Asks, fun _ => ⟨Nat.le_of_ble_eq_true rfl, rfl⟩⟩]⟩,
 ⟨82, [⟨0, 1, .ik .i64, fun (x : api_Call) => x.At, fun _ => ⟨Nat.le_of_ble_eq_true rfl, rfl⟩⟩, ⟨1, 1, .ik .i64, fun (x : api_Call) => x.Port, fun _ => ⟨Nat.le_of_ble_eq_true rfl, rfl⟩⟩, ⟨2, 1, .ik .i64, fun (x : api_Call) => x.Takes, fun _ => ⟨Nat.le_of_ble_eq_true rfl, rfl⟩⟩]⟩,
 ⟨92, [⟨0, 1, .ik .i64, fun (x : api_Ask) => x.At, fun _ => ⟨Nat.le_of_ble_eq_true rfl, rfl⟩⟩, ⟨1, 1, .str, fun (x : api_Ask) => x.Unit_, fun _ => ⟨Nat.le_of_ble_eq_true rfl, rfl⟩⟩, ⟨2, 1, .ik .i64, fun (x : api_Ask) => x.Type_, fun _ => ⟨Nat.le_of_ble_eq_true rfl, rfl⟩⟩]⟩,
 ⟨96, [⟨3, 1, .str, fun (x : service_course) => x.c.U.Name, fun _ => ⟨Nat.le_of_ble_eq_true rfl, rfl⟩⟩, ⟨3, 35, .st 28, fun (x : service_course) => x.c.U, fun _ => ⟨Nat.le_of_ble_eq_true rfl, rfl⟩⟩, ⟨3, 62, .st 33, fun (x : service_course) => x.c, fun _ => ⟨Nat.le_of_ble_eq_true rfl, rfl⟩⟩, ⟨10, 1, .ik .i64, fun (x : service_course) => x.c.U.Type_, fun _ => ⟨Nat.le_of_ble_eq_true rfl, rfl⟩⟩, ⟨11, 1, .li (.st 158), fun (x : service_course) => x.c.U.Pre, fun _ => ⟨Nat.le_of_ble_eq_true rfl, rfl⟩⟩, ⟨13, 1, .li (.st 158), fun (x : service_course) => x.c.U.Post, fun _ => ⟨Nat.le_of_ble_eq_true rfl, rfl⟩⟩, ⟨14, 1, .li (.st 158), fun (x : service_course) => x.c.U.Stop, fun _ => ⟨Nat.le_of_ble_eq_true rfl, rfl⟩⟩, ⟨15, 1, .li (.st 158), fun (x : service_course) => x.c.U.Reload, fun _ => ⟨Nat.le_of_ble_eq_true rfl, rfl⟩⟩, ⟨16, 1, .bool, fun (x : service_course) => x.c.U.Remain, fun _ => ⟨Nat.le_of_ble_eq_true rfl, rfl⟩⟩, ⟨19, 1, .ik .i64, fun (x : service_course) => x.c.U.Up, fun _ => ⟨Nat.le_of_ble_eq_true rfl, rfl⟩⟩, ⟨20, 1, .ik .i64, fun (x : service_course) => x.c.U.Down, fun _ => ⟨Nat.le_of_ble_eq_true rfl, rfl⟩⟩, ⟨38, 1, .ik .i64, fun (x : service_course) => x.c.State, fun _ => ⟨Nat.le_of_ble_eq_true rfl, rfl⟩⟩, ⟨40, 1, .ik .i64, fun (x : service_course) => x.c.Attempt, fun _ => ⟨Nat.le_of_ble_eq_true rfl, rfl⟩⟩, ⟨41, 1, .li (.ik .i64), fun (x : service_course) => x.c.Begins, fun _ => ⟨Nat.le_of_ble_eq_true rfl, rfl⟩⟩, ⟨42, 1, .ik .i64, fun (x : service_course) => x.c.Result, fun _ => ⟨Nat.le_of_ble_eq_true rfl, rfl⟩⟩, ⟨43, 1, .ik .i64, fun (x : service_course) => x.c.Main.Part, fun _ => ⟨Nat.le_of_ble_eq_true rfl, rfl⟩⟩, ⟨43, 6, .st 30, fun (x : service_course) => x.c.Main, fun _ => ⟨Nat.le_of_ble_eq_true rfl, rfl⟩⟩, ⟨56, 1, .bool, fun (x : service_course) => x.c.Wish, fun _ => ⟨Nat.le_of_ble_eq_true rfl, rfl⟩⟩, ⟨58, 1, .li (.st 105), fun (x : service_course) => x.c.Serves, fun _ => ⟨Nat.le_of_ble_eq_true rfl, rfl⟩⟩, ⟨64, 1, .ik .i64, fun (x : service_course) => x.c.Rows, fun _ => ⟨Nat.le_of_ble_eq_true rfl, rfl⟩⟩, ⟨65, 1, .ik .i64, fun (x : service_course) => x.now, fun _ => ⟨Nat.le_of_ble_eq_true rfl, rfl⟩⟩, ⟨66, 1, .li (.st 62), fun (x : service_course) => x.out.Rows, fun _ => ⟨Nat.le_of_ble_eq_true rfl, rfl⟩⟩, ⟨66, 5, .st 47, fun (x : service_course) => x.out, fun _ => ⟨Nat.le_of_ble_eq_true rfl, rfl⟩⟩, ⟨68, 1, .li (.st 105), fun (x : service_course) => x.out.Back, fun _ => ⟨Nat.le_of_ble_eq_true rfl, rfl⟩⟩, ⟨70, 1, .bool, fun (x : service_course) => x.out.Failed, fun _ => ⟨Nat.le_of_ble_eq_true rfl, rfl⟩⟩]⟩,
 ⟨100, [⟨0, 1, .str, fun (x : sock_course) => x.c.U.Name, fun _ => ⟨Nat.le_of_ble_eq_true rfl, rfl⟩⟩, ⟨0, 62, .st 33, fun (x : sock_course) => x.c, fun _ => ⟨Nat.le_of_ble_eq_true rfl, rfl⟩⟩, ⟨61, 1, .ik .i64, fun (x : sock_course) => x.c.Rows, fun _ => ⟨Nat.le_of_ble_eq_true rfl, rfl⟩⟩, ⟨62, 1, .ik .i64, fun (x : sock_course) => x.now, fun _ => ⟨Nat.le_of_ble_eq_true rfl, rfl⟩⟩, ⟨63, 1, .li (.st 62), fun (x : sock_course) => x.out.Rows, fun _ => ⟨Nat.le_of_ble_eq_true rfl, rfl⟩⟩, ⟨63, 5, .st 47, fun (x : sock_course) => x.out, fun _ => ⟨Nat.le_of_ble_eq_true rfl, rfl⟩⟩]⟩,
 ⟨105, [⟨1, 1, .ik .i64, fun (x : api_Conn) => x.Num, fun _ => ⟨Nat.le_of_ble_eq_true rfl, rfl⟩⟩]⟩]
def ss : List (Sigma fun m => List (SetE U m)) := [⟨30, [⟨0, .ik .i64, fun (x : api_Run) (y : Int) => { x with Part := y }, fun _ _ => ⟨Nat.le_of_ble_eq_true rfl, rfl⟩⟩, ⟨1, .ik .i64, fun (x : api_Run) (y : Int) => { x with Num := y }, fun _ _ => ⟨Nat.le_of_ble_eq_true rfl, rfl⟩⟩, ⟨2, .ik .i64, fun (x : api_Run) (y : Int) => { x with Begun := y }, fun _ _ => ⟨Nat.le_of_ble_eq_true rfl, rfl⟩⟩, ⟨3, .ik .i64, fun (x : api_Run) (y : Int) => { x with Told := y }, fun _ _ => ⟨Nat.le_of_ble_eq_true rfl, rfl⟩⟩]⟩,
 ⟨158, [⟨1, .li (.str), fun (x : api_Exec) (y : List ByteArray) => { x with Words := y }, fun _ _ => ⟨Nat.le_of_ble_eq_true rfl, rfl⟩⟩]⟩,
 ⟨33, [⟨0, .st 28, fun (x : api_Cell) (y : api_Unit) => { x with U := y }, fun _ _ => ⟨Nat.le_of_ble_eq_true rfl, rfl⟩⟩, ⟨4, .li (.st 162), fun (x : api_Cell) (y : List api_Rel) => { x with U := { x.U with Rels := y } }, fun _ _ => ⟨Nat.le_of_ble_eq_true rfl, rfl⟩⟩, ⟨8, .li (.st 158), fun (x : api_Cell) (y : List api_Exec) => { x with U := { x.U with Pre := y } }, fun _ _ => ⟨Nat.le_of_ble_eq_true rfl, rfl⟩⟩, ⟨9, .li (.st 158), fun (x : api_Cell) (y : List api_Exec) => { x with U := { x.U with Start := y } }, fun _ _ => ⟨Nat.le_of_ble_eq_true rfl, rfl⟩⟩, ⟨10, .li (.st 158), fun (x : api_Cell) (y : List api_Exec) => { x with U := { x.U with Post := y } }, fun _ _ => ⟨Nat.le_of_ble_eq_true rfl, rfl⟩⟩, ⟨11, .li (.st 158), fun (x : api_Cell) (y : List api_Exec) => { x with U := { x.U with Stop := y } }, fun _ _ => ⟨Nat.le_of_ble_eq_true rfl, rfl⟩⟩, ⟨12, .li (.st 158), fun (x : api_Cell) (y : List api_Exec) => { x with U := { x.U with Reload := y } }, fun _ _ => ⟨Nat.le_of_ble_eq_true rfl, rfl⟩⟩, ⟨18, .li (.ik .i64), fun (x : api_Cell) (y : List Int) => { x with U := { x.U with Success := y } }, fun _ _ => ⟨Nat.le_of_ble_eq_true rfl, rfl⟩⟩, ⟨19, .li (.st 160), fun (x : api_Cell) (y : List api_Pair) => { x with U := { x.U with Env := y } }, fun _ _ => ⟨Nat.le_of_ble_eq_true rfl, rfl⟩⟩, ⟨20, .li (.str), fun (x : api_Cell) (y : List ByteArray) => { x with U := { x.U with Sockets := y } }, fun _ _ => ⟨Nat.le_of_ble_eq_true rfl, rfl⟩⟩, ⟨21, .li (.ik .i64), fun (x : api_Cell) (y : List Int) => { x with U := { x.U with Ports := y } }, fun _ _ => ⟨Nat.le_of_ble_eq_true rfl, rfl⟩⟩, ⟨25, .li (.ik .i64), fun (x : api_Cell) (y : List Int) => { x with U := { x.U with Boot := y } }, fun _ _ => ⟨Nat.le_of_ble_eq_true rfl, rfl⟩⟩, ⟨26, .li (.ik .i64), fun (x : api_Cell) (y : List Int) => { x with U := { x.U with Active := y } }, fun _ _ => ⟨Nat.le_of_ble_eq_true rfl, rfl⟩⟩, ⟨27, .li (.ik .i64), fun (x : api_Cell) (y : List Int) => { x with U := { x.U with Idle := y } }, fun _ _ => ⟨Nat.le_of_ble_eq_true rfl, rfl⟩⟩, ⟨28, .li (.str), fun (x : api_Cell) (y : List ByteArray) => { x with U := { x.U with Calendar := y } }, fun _ _ => ⟨Nat.le_of_ble_eq_true rfl, rfl⟩⟩, ⟨30, .li (.str), fun (x : api_Cell) (y : List ByteArray) => { x with U := { x.U with WantedBy := y } }, fun _ _ => ⟨Nat.le_of_ble_eq_true rfl, rfl⟩⟩, ⟨31, .li (.str), fun (x : api_Cell) (y : List ByteArray) => { x with U := { x.U with RequiredBy := y } }, fun _ _ => ⟨Nat.le_of_ble_eq_true rfl, rfl⟩⟩, ⟨32, .li (.str), fun (x : api_Cell) (y : List ByteArray) => { x with U := { x.U with Alias := y } }, fun _ _ => ⟨Nat.le_of_ble_eq_true rfl, rfl⟩⟩, ⟨33, .li (.str), fun (x : api_Cell) (y : List ByteArray) => { x with U := { x.U with Also := y } }, fun _ _ => ⟨Nat.le_of_ble_eq_true rfl, rfl⟩⟩, ⟨35, .ik .i64, fun (x : api_Cell) (y : Int) => { x with State := y }, fun _ _ => ⟨Nat.le_of_ble_eq_true rfl, rfl⟩⟩, ⟨36, .ik .i64, fun (x : api_Cell) (y : Int) => { x with Since := y }, fun _ _ => ⟨Nat.le_of_ble_eq_true rfl, rfl⟩⟩, ⟨37, .ik .i64, fun (x : api_Cell) (y : Int) => { x with Attempt := y }, fun _ _ => ⟨Nat.le_of_ble_eq_true rfl, rfl⟩⟩, ⟨38, .li (.ik .i64), fun (x : api_Cell) (y : List Int) => { x with Begins := y }, fun _ _ => ⟨Nat.le_of_ble_eq_true rfl, rfl⟩⟩, ⟨52, .ik .i64, fun (x : api_Cell) (y : Int) => { x with Over := y }, fun _ _ => ⟨Nat.le_of_ble_eq_true rfl, rfl⟩⟩, ⟨55, .li (.st 105), fun (x : api_Cell) (y : List api_Conn) => { x with Serves := y }, fun _ _ => ⟨Nat.le_of_ble_eq_true rfl, rfl⟩⟩, ⟨56, .li (.st 105), fun (x : api_Cell) (y : List api_Conn) => { x with Waits := y }, fun _ _ => ⟨Nat.le_of_ble_eq_true rfl, rfl⟩⟩, ⟨59, .ik .i64, fun (x : api_Cell) (y : Int) => { x with Last := y }, fun _ _ => ⟨Nat.le_of_ble_eq_true rfl, rfl⟩⟩, ⟨60, .ik .i64, fun (x : api_Cell) (y : Int) => { x with Next := y }, fun _ _ => ⟨Nat.le_of_ble_eq_true rfl, rfl⟩⟩, ⟨61, .ik .i64, fun (x : api_Cell) (y : Int) => { x with Rows := y }, fun _ _ => ⟨Nat.le_of_ble_eq_true rfl, rfl⟩⟩]⟩,
 ⟨28, [⟨4, .li (.st 162), fun (x : api_Unit) (y : List api_Rel) => { x with Rels := y }, fun _ _ => ⟨Nat.le_of_ble_eq_true rfl, rfl⟩⟩, ⟨8, .li (.st 158), fun (x : api_Unit) (y : List api_Exec) => { x with Pre := y }, fun _ _ => ⟨Nat.le_of_ble_eq_true rfl, rfl⟩⟩, ⟨9, .li (.st 158), fun (x : api_Unit) (y : List api_Exec) => { x with Start := y }, fun _ _ => ⟨Nat.le_of_ble_eq_true rfl, rfl⟩⟩, ⟨10, .li (.st 158), fun (x : api_Unit) (y : List api_Exec) => { x with Post := y }, fun _ _ => ⟨Nat.le_of_ble_eq_true rfl, rfl⟩⟩, ⟨11, .li (.st 158), fun (x : api_Unit) (y : List api_Exec) => { x with Stop := y }, fun _ _ => ⟨Nat.le_of_ble_eq_true rfl, rfl⟩⟩, ⟨12, .li (.st 158), fun (x : api_Unit) (y : List api_Exec) => { x with Reload := y }, fun _ _ => ⟨Nat.le_of_ble_eq_true rfl, rfl⟩⟩, ⟨18, .li (.ik .i64), fun (x : api_Unit) (y : List Int) => { x with Success := y }, fun _ _ => ⟨Nat.le_of_ble_eq_true rfl, rfl⟩⟩, ⟨19, .li (.st 160), fun (x : api_Unit) (y : List api_Pair) => { x with Env := y }, fun _ _ => ⟨Nat.le_of_ble_eq_true rfl, rfl⟩⟩, ⟨20, .li (.str), fun (x : api_Unit) (y : List ByteArray) => { x with Sockets := y }, fun _ _ => ⟨Nat.le_of_ble_eq_true rfl, rfl⟩⟩, ⟨21, .li (.ik .i64), fun (x : api_Unit) (y : List Int) => { x with Ports := y }, fun _ _ => ⟨Nat.le_of_ble_eq_true rfl, rfl⟩⟩, ⟨25, .li (.ik .i64), fun (x : api_Unit) (y : List Int) => { x with Boot := y }, fun _ _ => ⟨Nat.le_of_ble_eq_true rfl, rfl⟩⟩, ⟨26, .li (.ik .i64), fun (x : api_Unit) (y : List Int) => { x with Active := y }, fun _ _ => ⟨Nat.le_of_ble_eq_true rfl, rfl⟩⟩, ⟨27, .li (.ik .i64), fun (x : api_Unit) (y : List Int) => { x with Idle := y }, fun _ _ => ⟨Nat.le_of_ble_eq_true rfl, rfl⟩⟩, ⟨28, .li (.str), fun (x : api_Unit) (y : List ByteArray) => { x with Calendar := y }, fun _ _ => ⟨Nat.le_of_ble_eq_true rfl, rfl⟩⟩, ⟨30, .li (.str), fun (x : api_Unit) (y : List ByteArray) => { x with WantedBy := y }, fun _ _ => ⟨Nat.le_of_ble_eq_true rfl, rfl⟩⟩, ⟨31, .li (.str), fun (x : api_Unit) (y : List ByteArray) => { x with RequiredBy := y }, fun _ _ => ⟨Nat.le_of_ble_eq_true rfl, rfl⟩⟩, ⟨32, .li (.str), fun (x : api_Unit) (y : List ByteArray) => { x with Alias := y }, fun _ _ => ⟨Nat.le_of_ble_eq_true rfl, rfl⟩⟩, ⟨33, .li (.str), fun (x : api_Unit) (y : List ByteArray) => { x with Also := y }, fun _ _ => ⟨Nat.le_of_ble_eq_true rfl, rfl⟩⟩]⟩,
 ⟨131, [⟨0, .ik .i64, fun (x : matinsref1_Cut) (y : Int) => { x with Kind := y }, fun _ _ => ⟨Nat.le_of_ble_eq_true rfl, rfl⟩⟩, ⟨1, .str, fun (x : matinsref1_Cut) (y : ByteArray) => { x with Prefix := y }, fun _ _ => ⟨Nat.le_of_ble_eq_true rfl, rfl⟩⟩, ⟨2, .str, fun (x : matinsref1_Cut) (y : ByteArray) => { x with Instance := y }, fun _ _ => ⟨Nat.le_of_ble_eq_true rfl, rfl⟩⟩, ⟨3, .bool, fun (x : matinsref1_Cut) (y : Bool) => { x with At := y }, fun _ _ => ⟨Nat.le_of_ble_eq_true rfl, rfl⟩⟩]⟩,
 ⟨62, [⟨0, .ik .i64, fun (x : api_Row) (y : Int) => { x with Time := y }, fun _ _ => ⟨Nat.le_of_ble_eq_true rfl, rfl⟩⟩, ⟨1, .str, fun (x : api_Row) (y : ByteArray) => { x with Unit_ := y }, fun _ _ => ⟨Nat.le_of_ble_eq_true rfl, rfl⟩⟩, ⟨2, .ik .i64, fun (x : api_Row) (y : Int) => { x with N := y }, fun _ _ => ⟨Nat.le_of_ble_eq_true rfl, rfl⟩⟩, ⟨3, .ik .i64, fun (x : api_Row) (y : Int) => { x with Kind := y }, fun _ _ => ⟨Nat.le_of_ble_eq_true rfl, rfl⟩⟩, ⟨4, .str, fun (x : api_Row) (y : ByteArray) => { x with Text := y }, fun _ _ => ⟨Nat.le_of_ble_eq_true rfl, rfl⟩⟩]⟩,
 ⟨96, [⟨0, .st 43, fun (x : service_course) (y : api_World) => { x with w := y }, fun _ _ => ⟨Nat.le_of_ble_eq_true rfl, rfl⟩⟩, ⟨3, .st 28, fun (x : service_course) (y : api_Unit) => { x with c := { x.c with U := y } }, fun _ _ => ⟨Nat.le_of_ble_eq_true rfl, rfl⟩⟩, ⟨3, .st 33, fun (x : service_course) (y : api_Cell) => { x with c := y }, fun _ _ => ⟨Nat.le_of_ble_eq_true rfl, rfl⟩⟩, ⟨38, .ik .i64, fun (x : service_course) (y : Int) => { x with c := { x.c with State := y } }, fun _ _ => ⟨Nat.le_of_ble_eq_true rfl, rfl⟩⟩, ⟨39, .ik .i64, fun (x : service_course) (y : Int) => { x with c := { x.c with Since := y } }, fun _ _ => ⟨Nat.le_of_ble_eq_true rfl, rfl⟩⟩, ⟨40, .ik .i64, fun (x : service_course) (y : Int) => { x with c := { x.c with Attempt := y } }, fun _ _ => ⟨Nat.le_of_ble_eq_true rfl, rfl⟩⟩, ⟨41, .li (.ik .i64), fun (x : service_course) (y : List Int) => { x with c := { x.c with Begins := y } }, fun _ _ => ⟨Nat.le_of_ble_eq_true rfl, rfl⟩⟩, ⟨42, .ik .i64, fun (x : service_course) (y : Int) => { x with c := { x.c with Result := y } }, fun _ _ => ⟨Nat.le_of_ble_eq_true rfl, rfl⟩⟩, ⟨43, .st 30, fun (x : service_course) (y : api_Run) => { x with c := { x.c with Main := y } }, fun _ _ => ⟨Nat.le_of_ble_eq_true rfl, rfl⟩⟩, ⟨49, .st 30, fun (x : service_course) (y : api_Run) => { x with c := { x.c with Aux := y } }, fun _ _ => ⟨Nat.le_of_ble_eq_true rfl, rfl⟩⟩, ⟨55, .ik .i64, fun (x : service_course) (y : Int) => { x with c := { x.c with Over := y } }, fun _ _ => ⟨Nat.le_of_ble_eq_true rfl, rfl⟩⟩, ⟨56, .bool, fun (x : service_course) (y : Bool) => { x with c := { x.c with Wish := y } }, fun _ _ => ⟨Nat.le_of_ble_eq_true rfl, rfl⟩⟩, ⟨57, .bool, fun (x : service_course) (y : Bool) => { x with c := { x.c with Bad := y } }, fun _ _ => ⟨Nat.le_of_ble_eq_true rfl, rfl⟩⟩, ⟨58, .li (.st 105), fun (x : service_course) (y : List api_Conn) => { x with c := { x.c with Serves := y } }, fun _ _ => ⟨Nat.le_of_ble_eq_true rfl, rfl⟩⟩, ⟨64, .ik .i64, fun (x : service_course) (y : Int) => { x with c := { x.c with Rows := y } }, fun _ _ => ⟨Nat.le_of_ble_eq_true rfl, rfl⟩⟩, ⟨65, .ik .i64, fun (x : service_course) (y : Int) => { x with now := y }, fun _ _ => ⟨Nat.le_of_ble_eq_true rfl, rfl⟩⟩, ⟨66, .li (.st 62), fun (x : service_course) (y : List api_Row) => { x with out := { x.out with Rows := y } }, fun _ _ => ⟨Nat.le_of_ble_eq_true rfl, rfl⟩⟩, ⟨68, .li (.st 105), fun (x : service_course) (y : List api_Conn) => { x with out := { x.out with Back := y } }, fun _ _ => ⟨Nat.le_of_ble_eq_true rfl, rfl⟩⟩, ⟨70, .bool, fun (x : service_course) (y : Bool) => { x with out := { x.out with Failed := y } }, fun _ _ => ⟨Nat.le_of_ble_eq_true rfl, rfl⟩⟩]⟩,
 ⟨105, [⟨4, .ik .i64, fun (x : api_Conn) (y : Int) => { x with Until := y }, fun _ _ => ⟨Nat.le_of_ble_eq_true rfl, rfl⟩⟩]⟩,
 ⟨47, [⟨0, .li (.st 62), fun (x : api_Out) (y : List api_Row) => { x with Rows := y }, fun _ _ => ⟨Nat.le_of_ble_eq_true rfl, rfl⟩⟩]⟩,
 ⟨100, [⟨0, .st 33, fun (x : sock_course) (y : api_Cell) => { x with c := y }, fun _ _ => ⟨Nat.le_of_ble_eq_true rfl, rfl⟩⟩, ⟨61, .ik .i64, fun (x : sock_course) (y : Int) => { x with c := { x.c with Rows := y } }, fun _ _ => ⟨Nat.le_of_ble_eq_true rfl, rfl⟩⟩, ⟨62, .ik .i64, fun (x : sock_course) (y : Int) => { x with now := y }, fun _ _ => ⟨Nat.le_of_ble_eq_true rfl, rfl⟩⟩, ⟨63, .li (.st 62), fun (x : sock_course) (y : List api_Row) => { x with out := { x.out with Rows := y } }, fun _ _ => ⟨Nat.le_of_ble_eq_true rfl, rfl⟩⟩]⟩]
def es : List (Sigma fun m => EqE U m) := [⟨105, ⟨[2, 0, 0, 0, 0], api_Conn.same, fun _ _ => rfl⟩⟩,
 ⟨62, ⟨[0, 2, 0, 0, 2], api_Row.same, fun _ _ => rfl⟩⟩,
 ⟨92, ⟨[0, 2, 0], api_Ask.same, fun _ _ => rfl⟩⟩,
 ⟨160, ⟨[2, 2], api_Pair.same, fun _ _ => rfl⟩⟩,
 ⟨162, ⟨[0, 2], api_Rel.same, fun _ _ => rfl⟩⟩,
 ⟨30, ⟨[0, 0, 0, 0, 0, 1], api_Run.same, fun _ _ => rfl⟩⟩]
def tb : Tabs U := tbOf U gs ss es
def tis : List (Nat × TI) := [(1, ⟨1, false, 7, [.lit (.nilFunc)], [], none, none, none⟩),
 (2, ⟨1, false, 0, [.lit (.int .i64 0)], [], none, none, none⟩),
 (3, ⟨1, false, 0, [.lit (.int .i64 0)], [], none, none, none⟩),
 (4, ⟨1, false, 1, [.lit (.bool false)], [], none, none, none⟩),
 (5, ⟨1, false, 0, [.lit (.int .u8 0)], [], none, none, none⟩),
 (6, ⟨1, false, 0, [.lit (.int .u8 0)], [], none, none, none⟩),
 (7, ⟨4, true, 4, [.lit (.int .i64 0), .lit (.int .i64 0), .lit (.bool false), .lit (.int .u8 0)], [(0, (1, false)), (1, (1, false)), (2, (1, false)), (3, (1, false))], none, none, (some [0, 0, 1, 0])⟩),
 (8, ⟨4, true, 4, [.lit (.int .i64 0), .lit (.int .i64 0), .lit (.bool false), .lit (.int .u8 0)], [(0, (1, false)), (1, (1, false)), (2, (1, false)), (3, (1, false))], none, none, (some [0, 0, 1, 0])⟩),
 (9, ⟨1, false, 2, [.lit (.string ⟨#[]⟩)], [], none, none, none⟩),
 (10, ⟨1, false, 2, [.lit (.string ⟨#[]⟩)], [], none, none, none⟩),
 (11, ⟨1, false, 2, [.lit (.string ⟨#[]⟩)], [], none, none, none⟩),
 (12, ⟨1, false, 0, [.lit (.int .u64 0)], [], none, none, none⟩),
 (13, ⟨2, true, 4, [.lit (.string ⟨#[]⟩), .lit (.int .u64 0)], [(0, (1, false)), (1, (1, false))], none, none, none⟩),
 (14, ⟨2, true, 4, [.lit (.string ⟨#[]⟩), .lit (.int .u64 0)], [(0, (1, false)), (1, (1, false))], none, none, none⟩),
 (15, ⟨1, false, 5, [.lit (.pointer none)], [], none, none, none⟩),
 (16, ⟨1, false, 5, [.lit (.pointer none)], [], none, none, none⟩),
 (17, ⟨1, false, 5, [.lit (.pointer none)], [], none, none, none⟩),
 (18, ⟨1, true, 4, [.lit (.pointer none)], [(0, (1, false))], none, none, none⟩),
 (19, ⟨1, true, 4, [.lit (.pointer none)], [(0, (1, false))], none, none, none⟩),
 (20, ⟨1, false, 6, [.lit (.nilIface)], [], none, none, none⟩),
 (21, ⟨1, false, 0, [.lit (.int .i32 0)], [], none, none, none⟩),
 (22, ⟨1, false, 3, [.sl 0 []], [], (some (162, (2, 24))), none, none⟩),
 (23, ⟨1, false, 3, [.sl 0 []], [], (some (158, (2, 32))), none, none⟩),
 (24, ⟨1, false, 3, [.sl 0 []], [], (some (3, (1, 8))), none, none⟩),
 (25, ⟨1, false, 3, [.sl 0 []], [], (some (160, (2, 32))), none, none⟩),
 (26, ⟨1, false, 3, [.sl 0 []], [], (some (9, (1, 16))), none, none⟩),
 (27, ⟨35, true, 4, [.lit (.string ⟨#[]⟩), .lit (.int .i64 0), .lit (.string ⟨#[]⟩), .lit (.bool false), .sl 0 [], .lit (.int .i64 0), .lit (.int .i64 0), .lit (.int .i64 0), .sl 0 [], .sl 0 [], .sl 0 [], .sl 0 [], .sl 0 [], .lit (.bool false), .lit (.int .i64 0), .lit (.int .i64 0), .lit (.int .i64 0), .lit (.int .i64 0), .sl 0 [], .sl 0 [], .sl 0 [], .sl 0 [], .lit (.int .i64 0), .lit (.string ⟨#[]⟩), .lit (.string ⟨#[]⟩), .sl 0 [], .sl 0 [], .sl 0 [], .sl 0 [], .lit (.bool false), .sl 0 [], .sl 0 [], .sl 0 [], .sl 0 [], .lit (.string ⟨#[]⟩)], [(0, (1, false)), (1, (1, false)), (2, (1, false)), (3, (1, false)), (4, (1, false)), (5, (1, false)), (6, (1, false)), (7, (1, false)), (8, (1, false)), (9, (1, false)), (10, (1, false)), (11, (1, false)), (12, (1, false)), (13, (1, false)), (14, (1, false)), (15, (1, false)), (16, (1, false)), (17, (1, false)), (18, (1, false)), (19, (1, false)), (20, (1, false)), (21, (1, false)), (22, (1, false)), (23, (1, false)), (24, (1, false)), (25, (1, false)), (26, (1, false)), (27, (1, false)), (28, (1, false)), (29, (1, false)), (30, (1, false)), (31, (1, false)), (32, (1, false)), (33, (1, false)), (34, (1, false))], none, none, none⟩),
 (28, ⟨35, true, 4, [.lit (.string ⟨#[]⟩), .lit (.int .i64 0), .lit (.string ⟨#[]⟩), .lit (.bool false), .sl 0 [], .lit (.int .i64 0), .lit (.int .i64 0), .lit (.int .i64 0), .sl 0 [], .sl 0 [], .sl 0 [], .sl 0 [], .sl 0 [], .lit (.bool false), .lit (.int .i64 0), .lit (.int .i64 0), .lit (.int .i64 0), .lit (.int .i64 0), .sl 0 [], .sl 0 [], .sl 0 [], .sl 0 [], .lit (.int .i64 0), .lit (.string ⟨#[]⟩), .lit (.string ⟨#[]⟩), .sl 0 [], .sl 0 [], .sl 0 [], .sl 0 [], .lit (.bool false), .sl 0 [], .sl 0 [], .sl 0 [], .sl 0 [], .lit (.string ⟨#[]⟩)], [(0, (1, false)), (1, (1, false)), (2, (1, false)), (3, (1, false)), (4, (1, false)), (5, (1, false)), (6, (1, false)), (7, (1, false)), (8, (1, false)), (9, (1, false)), (10, (1, false)), (11, (1, false)), (12, (1, false)), (13, (1, false)), (14, (1, false)), (15, (1, false)), (16, (1, false)), (17, (1, false)), (18, (1, false)), (19, (1, false)), (20, (1, false)), (21, (1, false)), (22, (1, false)), (23, (1, false)), (24, (1, false)), (25, (1, false)), (26, (1, false)), (27, (1, false)), (28, (1, false)), (29, (1, false)), (30, (1, false)), (31, (1, false)), (32, (1, false)), (33, (1, false)), (34, (1, false))], none, none, none⟩),
 (29, ⟨6, true, 4, [.lit (.int .i64 0), .lit (.int .i64 0), .lit (.int .i64 0), .lit (.int .i64 0), .lit (.int .i64 0), .lit (.bool false)], [(0, (1, false)), (1, (1, false)), (2, (1, false)), (3, (1, false)), (4, (1, false)), (5, (1, false))], none, none, (some [0, 0, 0, 0, 0, 1])⟩),
 (30, ⟨6, true, 4, [.lit (.int .i64 0), .lit (.int .i64 0), .lit (.int .i64 0), .lit (.int .i64 0), .lit (.int .i64 0), .lit (.bool false)], [(0, (1, false)), (1, (1, false)), (2, (1, false)), (3, (1, false)), (4, (1, false)), (5, (1, false))], none, none, (some [0, 0, 0, 0, 0, 1])⟩),
 (31, ⟨1, false, 3, [.sl 0 []], [], (some (105, (5, 48))), none, none⟩),
 (32, ⟨62, true, 4, [.lit (.string ⟨#[]⟩), .lit (.int .i64 0), .lit (.string ⟨#[]⟩), .lit (.bool false), .sl 0 [], .lit (.int .i64 0), .lit (.int .i64 0), .lit (.int .i64 0), .sl 0 [], .sl 0 [], .sl 0 [], .sl 0 [], .sl 0 [], .lit (.bool false), .lit (.int .i64 0), .lit (.int .i64 0), .lit (.int .i64 0), .lit (.int .i64 0), .sl 0 [], .sl 0 [], .sl 0 [], .sl 0 [], .lit (.int .i64 0), .lit (.string ⟨#[]⟩), .lit (.string ⟨#[]⟩), .sl 0 [], .sl 0 [], .sl 0 [], .sl 0 [], .lit (.bool false), .sl 0 [], .sl 0 [], .sl 0 [], .sl 0 [], .lit (.string ⟨#[]⟩), .lit (.int .i64 0), .lit (.int .i64 0), .lit (.int .i64 0), .sl 0 [], .lit (.int .i64 0), .lit (.int .i64 0), .lit (.int .i64 0), .lit (.int .i64 0), .lit (.int .i64 0), .lit (.int .i64 0), .lit (.bool false), .lit (.int .i64 0), .lit (.int .i64 0), .lit (.int .i64 0), .lit (.int .i64 0), .lit (.int .i64 0), .lit (.bool false), .lit (.int .i64 0), .lit (.bool false), .lit (.bool false), .sl 0 [], .sl 0 [], .lit (.int .i64 0), .lit (.int .i64 0), .lit (.int .i64 0), .lit (.int .i64 0), .lit (.int .i64 0)], [(0, (35, true)), (35, (1, false)), (36, (1, false)), (37, (1, false)), (38, (1, false)), (39, (1, false)), (40, (6, true)), (46, (6, true)), (52, (1, false)), (53, (1, false)), (54, (1, false)), (55, (1, false)), (56, (1, false)), (57, (1, false)), (58, (1, false)), (59, (1, false)), (60, (1, false)), (61, (1, false))], none, none, none⟩),
 (33, ⟨62, true, 4, [.lit (.string ⟨#[]⟩), .lit (.int .i64 0), .lit (.string ⟨#[]⟩), .lit (.bool false), .sl 0 [], .lit (.int .i64 0), .lit (.int .i64 0), .lit (.int .i64 0), .sl 0 [], .sl 0 [], .sl 0 [], .sl 0 [], .sl 0 [], .lit (.bool false), .lit (.int .i64 0), .lit (.int .i64 0), .lit (.int .i64 0), .lit (.int .i64 0), .sl 0 [], .sl 0 [], .sl 0 [], .sl 0 [], .lit (.int .i64 0), .lit (.string ⟨#[]⟩), .lit (.string ⟨#[]⟩), .sl 0 [], .sl 0 [], .sl 0 [], .sl 0 [], .lit (.bool false), .sl 0 [], .sl 0 [], .sl 0 [], .sl 0 [], .lit (.string ⟨#[]⟩), .lit (.int .i64 0), .lit (.int .i64 0), .lit (.int .i64 0), .sl 0 [], .lit (.int .i64 0), .lit (.int .i64 0), .lit (.int .i64 0), .lit (.int .i64 0), .lit (.int .i64 0), .lit (.int .i64 0), .lit (.bool false), .lit (.int .i64 0), .lit (.int .i64 0), .lit (.int .i64 0), .lit (.int .i64 0), .lit (.int .i64 0), .lit (.bool false), .lit (.int .i64 0), .lit (.bool false), .lit (.bool false), .sl 0 [], .sl 0 [], .lit (.int .i64 0), .lit (.int .i64 0), .lit (.int .i64 0), .lit (.int .i64 0), .lit (.int .i64 0)], [(0, (35, true)), (35, (1, false)), (36, (1, false)), (37, (1, false)), (38, (1, false)), (39, (1, false)), (40, (6, true)), (46, (6, true)), (52, (1, false)), (53, (1, false)), (54, (1, false)), (55, (1, false)), (56, (1, false)), (57, (1, false)), (58, (1, false)), (59, (1, false)), (60, (1, false)), (61, (1, false))], none, none, none⟩),
 (34, ⟨1, false, 7, [.lit (.nilFunc)], [], none, none, none⟩),
 (35, ⟨1, false, 7, [.lit (.nilFunc)], [], none, none, none⟩),
 (36, ⟨1, false, 7, [.lit (.nilFunc)], [], none, none, none⟩),
 (37, ⟨1, false, 7, [.lit (.nilFunc)], [], none, none, none⟩),
 (38, ⟨1, false, 3, [.sl 0 []], [], (some (4, (1, 1))), none, none⟩),
 (39, ⟨1, false, 3, [.sl 0 []], [], (some (89, (9, 96))), none, none⟩),
 (40, ⟨1, false, 3, [.sl 0 []], [], (some (82, (3, 24))), none, none⟩),
 (41, ⟨1, false, 3, [.sl 0 []], [], (some (92, (3, 32))), none, none⟩),
 (42, ⟨3, true, 4, [.sl 0 [], .sl 0 [], .sl 0 []], [(0, (1, false)), (1, (1, false)), (2, (1, false))], none, none, none⟩),
 (43, ⟨3, true, 4, [.sl 0 [], .sl 0 [], .sl 0 []], [(0, (1, false)), (1, (1, false)), (2, (1, false))], none, none, none⟩),
 (44, ⟨1, false, 7, [.lit (.nilFunc)], [], none, none, none⟩),
 (45, ⟨1, false, 3, [.sl 0 []], [], (some (62, (5, 56))), none, none⟩),
 (46, ⟨5, true, 4, [.sl 0 [], .sl 0 [], .sl 0 [], .lit (.bool false), .lit (.bool false)], [(0, (1, false)), (1, (1, false)), (2, (1, false)), (3, (1, false)), (4, (1, false))], none, none, none⟩),
 (47, ⟨5, true, 4, [.sl 0 [], .sl 0 [], .sl 0 [], .lit (.bool false), .lit (.bool false)], [(0, (1, false)), (1, (1, false)), (2, (1, false)), (3, (1, false)), (4, (1, false))], none, none, none⟩),
 (49, ⟨1, false, 7, [.lit (.nilFunc)], [], none, none, none⟩),
 (50, ⟨1, false, 7, [.lit (.nilFunc)], [], none, none, none⟩),
 (51, ⟨1, false, 7, [.lit (.nilFunc)], [], none, none, none⟩),
 (52, ⟨1, false, 7, [.lit (.nilFunc)], [], none, none, none⟩),
 (53, ⟨1, false, 7, [.lit (.nilFunc)], [], none, none, none⟩),
 (54, ⟨1, false, 7, [.lit (.nilFunc)], [], none, none, none⟩),
 (55, ⟨1, false, 7, [.lit (.nilFunc)], [], none, none, none⟩),
 (56, ⟨1, false, 7, [.lit (.nilFunc)], [], none, none, none⟩),
 (57, ⟨1, false, 7, [.lit (.nilFunc)], [], none, none, none⟩),
 (58, ⟨1, false, 7, [.lit (.nilFunc)], [], none, none, none⟩),
 (60, ⟨1, false, 7, [.lit (.nilFunc)], [], none, none, none⟩),
 (61, ⟨5, true, 4, [.lit (.int .i64 0), .lit (.string ⟨#[]⟩), .lit (.int .i64 0), .lit (.int .i64 0), .lit (.string ⟨#[]⟩)], [(0, (1, false)), (1, (1, false)), (2, (1, false)), (3, (1, false)), (4, (1, false))], none, none, (some [0, 2, 0, 0, 2])⟩),
 (62, ⟨5, true, 4, [.lit (.int .i64 0), .lit (.string ⟨#[]⟩), .lit (.int .i64 0), .lit (.int .i64 0), .lit (.string ⟨#[]⟩)], [(0, (1, false)), (1, (1, false)), (2, (1, false)), (3, (1, false)), (4, (1, false))], none, none, (some [0, 2, 0, 0, 2])⟩),
 (63, ⟨1, false, 7, [.lit (.nilFunc)], [], none, none, none⟩),
 (64, ⟨1, false, 7, [.lit (.nilFunc)], [], none, none, none⟩),
 (65, ⟨1, false, 7, [.lit (.nilFunc)], [], none, none, none⟩),
 (66, ⟨1, false, 7, [.lit (.nilFunc)], [], none, none, none⟩),
 (67, ⟨1, false, 7, [.lit (.nilFunc)], [], none, none, none⟩),
 (68, ⟨1, false, 7, [.lit (.nilFunc)], [], none, none, none⟩),
 (69, ⟨1, false, 7, [.lit (.nilFunc)], [], none, none, none⟩),
 (70, ⟨1, false, 7, [.lit (.nilFunc)], [], none, none, none⟩),
 (71, ⟨1, false, 7, [.lit (.nilFunc)], [], none, none, none⟩),
 (72, ⟨1, false, 7, [.lit (.nilFunc)], [], none, none, none⟩),
 (73, ⟨1, false, 5, [.lit (.pointer none)], [], none, none, none⟩),
 (74, ⟨1, false, 7, [.lit (.nilFunc)], [], none, none, none⟩),
 (75, ⟨1, false, 7, [.lit (.nilFunc)], [], none, none, none⟩),
 (76, ⟨71, true, 4, [.sl 0 [], .sl 0 [], .sl 0 [], .lit (.string ⟨#[]⟩), .lit (.int .i64 0), .lit (.string ⟨#[]⟩), .lit (.bool false), .sl 0 [], .lit (.int .i64 0), .lit (.int .i64 0), .lit (.int .i64 0), .sl 0 [], .sl 0 [], .sl 0 [], .sl 0 [], .sl 0 [], .lit (.bool false), .lit (.int .i64 0), .lit (.int .i64 0), .lit (.int .i64 0), .lit (.int .i64 0), .sl 0 [], .sl 0 [], .sl 0 [], .sl 0 [], .lit (.int .i64 0), .lit (.string ⟨#[]⟩), .lit (.string ⟨#[]⟩), .sl 0 [], .sl 0 [], .sl 0 [], .sl 0 [], .lit (.bool false), .sl 0 [], .sl 0 [], .sl 0 [], .sl 0 [], .lit (.string ⟨#[]⟩), .lit (.int .i64 0), .lit (.int .i64 0), .lit (.int .i64 0), .sl 0 [], .lit (.int .i64 0), .lit (.int .i64 0), .lit (.int .i64 0), .lit (.int .i64 0), .lit (.int .i64 0), .lit (.int .i64 0), .lit (.bool false), .lit (.int .i64 0), .lit (.int .i64 0), .lit (.int .i64 0), .lit (.int .i64 0), .lit (.int .i64 0), .lit (.bool false), .lit (.int .i64 0), .lit (.bool false), .lit (.bool false), .sl 0 [], .sl 0 [], .lit (.int .i64 0), .lit (.int .i64 0), .lit (.int .i64 0), .lit (.int .i64 0), .lit (.int .i64 0), .sl 0 [], .sl 0 [], .sl 0 [], .lit (.bool false), .lit (.bool false), .lit (.int .i64 0)], [(0, (3, true)), (3, (62, true)), (65, (5, true)), (70, (1, false))], none, none, none⟩),
 (77, ⟨71, true, 4, [.sl 0 [], .sl 0 [], .sl 0 [], .lit (.string ⟨#[]⟩), .lit (.int .i64 0), .lit (.string ⟨#[]⟩), .lit (.bool false), .sl 0 [], .lit (.int .i64 0), .lit (.int .i64 0), .lit (.int .i64 0), .sl 0 [], .sl 0 [], .sl 0 [], .sl 0 [], .sl 0 [], .lit (.bool false), .lit (.int .i64 0), .lit (.int .i64 0), .lit (.int .i64 0), .lit (.int .i64 0), .sl 0 [], .sl 0 [], .sl 0 [], .sl 0 [], .lit (.int .i64 0), .lit (.string ⟨#[]⟩), .lit (.string ⟨#[]⟩), .sl 0 [], .sl 0 [], .sl 0 [], .sl 0 [], .lit (.bool false), .sl 0 [], .sl 0 [], .sl 0 [], .sl 0 [], .lit (.string ⟨#[]⟩), .lit (.int .i64 0), .lit (.int .i64 0), .lit (.int .i64 0), .sl 0 [], .lit (.int .i64 0), .lit (.int .i64 0), .lit (.int .i64 0), .lit (.int .i64 0), .lit (.int .i64 0), .lit (.int .i64 0), .lit (.bool false), .lit (.int .i64 0), .lit (.int .i64 0), .lit (.int .i64 0), .lit (.int .i64 0), .lit (.int .i64 0), .lit (.bool false), .lit (.int .i64 0), .lit (.bool false), .lit (.bool false), .sl 0 [], .sl 0 [], .lit (.int .i64 0), .lit (.int .i64 0), .lit (.int .i64 0), .lit (.int .i64 0), .lit (.int .i64 0), .sl 0 [], .sl 0 [], .sl 0 [], .lit (.bool false), .lit (.bool false), .lit (.int .i64 0)], [(0, (3, true)), (3, (62, true)), (65, (5, true)), (70, (1, false))], none, none, none⟩),
 (78, ⟨2, true, 4, [.lit (.int .i64 0), .lit (.int .i64 0)], [(0, (1, false)), (1, (1, false))], none, none, (some [0, 0])⟩),
 (79, ⟨2, true, 4, [.lit (.int .i64 0), .lit (.int .i64 0)], [(0, (1, false)), (1, (1, false))], none, none, (some [0, 0])⟩),
 (80, ⟨1, false, 7, [.lit (.nilFunc)], [], none, none, none⟩),
 (81, ⟨3, true, 4, [.lit (.int .i64 0), .lit (.int .i64 0), .lit (.int .i64 0)], [(0, (1, false)), (1, (1, false)), (2, (1, false))], none, none, (some [0, 0, 0])⟩),
 (82, ⟨3, true, 4, [.lit (.int .i64 0), .lit (.int .i64 0), .lit (.int .i64 0)], [(0, (1, false)), (1, (1, false)), (2, (1, false))], none, none, (some [0, 0, 0])⟩),
 (84, ⟨1, false, 7, [.lit (.nilFunc)], [], none, none, none⟩),
 (85, ⟨1, false, 7, [.lit (.nilFunc)], [], none, none, none⟩),
 (86, ⟨1, false, 7, [.lit (.nilFunc)], [], none, none, none⟩),
 (87, ⟨1, false, 3, [.sl 0 []], [], (some (134, (2, 24))), none, none⟩),
 (88, ⟨9, true, 4, [.lit (.string ⟨#[]⟩), .lit (.int .i64 0), .lit (.int .i64 0), .lit (.int .i64 0), .lit (.int .i64 0), .lit (.int .i64 0), .lit (.int .i64 0), .lit (.int .i64 0), .sl 0 []], [(0, (1, false)), (1, (1, false)), (2, (1, false)), (3, (1, false)), (4, (1, false)), (5, (1, false)), (6, (1, false)), (7, (1, false)), (8, (1, false))], none, none, none⟩),
 (89, ⟨9, true, 4, [.lit (.string ⟨#[]⟩), .lit (.int .i64 0), .lit (.int .i64 0), .lit (.int .i64 0), .lit (.int .i64 0), .lit (.int .i64 0), .lit (.int .i64 0), .lit (.int .i64 0), .sl 0 []], [(0, (1, false)), (1, (1, false)), (2, (1, false)), (3, (1, false)), (4, (1, false)), (5, (1, false)), (6, (1, false)), (7, (1, false)), (8, (1, false))], none, none, none⟩),
 (90, ⟨1, false, 7, [.lit (.nilFunc)], [], none, none, none⟩),
 (91, ⟨3, true, 4, [.lit (.int .i64 0), .lit (.string ⟨#[]⟩), .lit (.int .i64 0)], [(0, (1, false)), (1, (1, false)), (2, (1, false))], none, none, (some [0, 2, 0])⟩),
 (92, ⟨3, true, 4, [.lit (.int .i64 0), .lit (.string ⟨#[]⟩), .lit (.int .i64 0)], [(0, (1, false)), (1, (1, false)), (2, (1, false))], none, none, (some [0, 2, 0])⟩),
 (93, ⟨1, false, 7, [.lit (.nilFunc)], [], none, none, none⟩),
 (94, ⟨1, false, 5, [.lit (.pointer none)], [], none, none, none⟩),
 (95, ⟨71, true, 4, [.sl 0 [], .sl 0 [], .sl 0 [], .lit (.string ⟨#[]⟩), .lit (.int .i64 0), .lit (.string ⟨#[]⟩), .lit (.bool false), .sl 0 [], .lit (.int .i64 0), .lit (.int .i64 0), .lit (.int .i64 0), .sl 0 [], .sl 0 [], .sl 0 [], .sl 0 [], .sl 0 [], .lit (.bool false), .lit (.int .i64 0), .lit (.int .i64 0), .lit (.int .i64 0), .lit (.int .i64 0), .sl 0 [], .sl 0 [], .sl 0 [], .sl 0 [], .lit (.int .i64 0), .lit (.string ⟨#[]⟩), .lit (.string ⟨#[]⟩), .sl 0 [], .sl 0 [], .sl 0 [], .sl 0 [], .lit (.bool false), .sl 0 [], .sl 0 [], .sl 0 [], .sl 0 [], .lit (.string ⟨#[]⟩), .lit (.int .i64 0), .lit (.int .i64 0), .lit (.int .i64 0), .sl 0 [], .lit (.int .i64 0), .lit (.int .i64 0), .lit (.int .i64 0), .lit (.int .i64 0), .lit (.int .i64 0), .lit (.int .i64 0), .lit (.bool false), .lit (.int .i64 0), .lit (.int .i64 0), .lit (.int .i64 0), .lit (.int .i64 0), .lit (.int .i64 0), .lit (.bool false), .lit (.int .i64 0), .lit (.bool false), .lit (.bool false), .sl 0 [], .sl 0 [], .lit (.int .i64 0), .lit (.int .i64 0), .lit (.int .i64 0), .lit (.int .i64 0), .lit (.int .i64 0), .lit (.int .i64 0), .sl 0 [], .sl 0 [], .sl 0 [], .lit (.bool false), .lit (.bool false)], [(0, (3, true)), (3, (62, true)), (65, (1, false)), (66, (5, true))], none, none, none⟩),
 (96, ⟨71, true, 4, [.sl 0 [], .sl 0 [], .sl 0 [], .lit (.string ⟨#[]⟩), .lit (.int .i64 0), .lit (.string ⟨#[]⟩), .lit (.bool false), .sl 0 [], .lit (.int .i64 0), .lit (.int .i64 0), .lit (.int .i64 0), .sl 0 [], .sl 0 [], .sl 0 [], .sl 0 [], .sl 0 [], .lit (.bool false), .lit (.int .i64 0), .lit (.int .i64 0), .lit (.int .i64 0), .lit (.int .i64 0), .sl 0 [], .sl 0 [], .sl 0 [], .sl 0 [], .lit (.int .i64 0), .lit (.string ⟨#[]⟩), .lit (.string ⟨#[]⟩), .sl 0 [], .sl 0 [], .sl 0 [], .sl 0 [], .lit (.bool false), .sl 0 [], .sl 0 [], .sl 0 [], .sl 0 [], .lit (.string ⟨#[]⟩), .lit (.int .i64 0), .lit (.int .i64 0), .lit (.int .i64 0), .sl 0 [], .lit (.int .i64 0), .lit (.int .i64 0), .lit (.int .i64 0), .lit (.int .i64 0), .lit (.int .i64 0), .lit (.int .i64 0), .lit (.bool false), .lit (.int .i64 0), .lit (.int .i64 0), .lit (.int .i64 0), .lit (.int .i64 0), .lit (.int .i64 0), .lit (.bool false), .lit (.int .i64 0), .lit (.bool false), .lit (.bool false), .sl 0 [], .sl 0 [], .lit (.int .i64 0), .lit (.int .i64 0), .lit (.int .i64 0), .lit (.int .i64 0), .lit (.int .i64 0), .lit (.int .i64 0), .sl 0 [], .sl 0 [], .sl 0 [], .lit (.bool false), .lit (.bool false)], [(0, (3, true)), (3, (62, true)), (65, (1, false)), (66, (5, true))], none, none, none⟩),
 (97, ⟨1, false, 7, [.lit (.nilFunc)], [], none, none, none⟩),
 (98, ⟨1, false, 5, [.lit (.pointer none)], [], none, none, none⟩),
 (99, ⟨68, true, 4, [.lit (.string ⟨#[]⟩), .lit (.int .i64 0), .lit (.string ⟨#[]⟩), .lit (.bool false), .sl 0 [], .lit (.int .i64 0), .lit (.int .i64 0), .lit (.int .i64 0), .sl 0 [], .sl 0 [], .sl 0 [], .sl 0 [], .sl 0 [], .lit (.bool false), .lit (.int .i64 0), .lit (.int .i64 0), .lit (.int .i64 0), .lit (.int .i64 0), .sl 0 [], .sl 0 [], .sl 0 [], .sl 0 [], .lit (.int .i64 0), .lit (.string ⟨#[]⟩), .lit (.string ⟨#[]⟩), .sl 0 [], .sl 0 [], .sl 0 [], .sl 0 [], .lit (.bool false), .sl 0 [], .sl 0 [], .sl 0 [], .sl 0 [], .lit (.string ⟨#[]⟩), .lit (.int .i64 0), .lit (.int .i64 0), .lit (.int .i64 0), .sl 0 [], .lit (.int .i64 0), .lit (.int .i64 0), .lit (.int .i64 0), .lit (.int .i64 0), .lit (.int .i64 0), .lit (.int .i64 0), .lit (.bool false), .lit (.int .i64 0), .lit (.int .i64 0), .lit (.int .i64 0), .lit (.int .i64 0), .lit (.int .i64 0), .lit (.bool false), .lit (.int .i64 0), .lit (.bool false), .lit (.bool false), .sl 0 [], .sl 0 [], .lit (.int .i64 0), .lit (.int .i64 0), .lit (.int .i64 0), .lit (.int .i64 0), .lit (.int .i64 0), .lit (.int .i64 0), .sl 0 [], .sl 0 [], .sl 0 [], .lit (.bool false), .lit (.bool false)], [(0, (62, true)), (62, (1, false)), (63, (5, true))], none, none, none⟩),
 (100, ⟨68, true, 4, [.lit (.string ⟨#[]⟩), .lit (.int .i64 0), .lit (.string ⟨#[]⟩), .lit (.bool false), .sl 0 [], .lit (.int .i64 0), .lit (.int .i64 0), .lit (.int .i64 0), .sl 0 [], .sl 0 [], .sl 0 [], .sl 0 [], .sl 0 [], .lit (.bool false), .lit (.int .i64 0), .lit (.int .i64 0), .lit (.int .i64 0), .lit (.int .i64 0), .sl 0 [], .sl 0 [], .sl 0 [], .sl 0 [], .lit (.int .i64 0), .lit (.string ⟨#[]⟩), .lit (.string ⟨#[]⟩), .sl 0 [], .sl 0 [], .sl 0 [], .sl 0 [], .lit (.bool false), .sl 0 [], .sl 0 [], .sl 0 [], .sl 0 [], .lit (.string ⟨#[]⟩), .lit (.int .i64 0), .lit (.int .i64 0), .lit (.int .i64 0), .sl 0 [], .lit (.int .i64 0), .lit (.int .i64 0), .lit (.int .i64 0), .lit (.int .i64 0), .lit (.int .i64 0), .lit (.int .i64 0), .lit (.bool false), .lit (.int .i64 0), .lit (.int .i64 0), .lit (.int .i64 0), .lit (.int .i64 0), .lit (.int .i64 0), .lit (.bool false), .lit (.int .i64 0), .lit (.bool false), .lit (.bool false), .sl 0 [], .sl 0 [], .lit (.int .i64 0), .lit (.int .i64 0), .lit (.int .i64 0), .lit (.int .i64 0), .lit (.int .i64 0), .lit (.int .i64 0), .sl 0 [], .sl 0 [], .sl 0 [], .lit (.bool false), .lit (.bool false)], [(0, (62, true)), (62, (1, false)), (63, (5, true))], none, none, none⟩),
 (101, ⟨1, false, 7, [.lit (.nilFunc)], [], none, none, none⟩),
 (102, ⟨1, false, 7, [.lit (.nilFunc)], [], none, none, none⟩),
 (103, ⟨1, false, 7, [.lit (.nilFunc)], [], none, none, none⟩),
 (104, ⟨5, true, 4, [.lit (.string ⟨#[]⟩), .lit (.int .i64 0), .lit (.int .i64 0), .lit (.int .i64 0), .lit (.int .i64 0)], [(0, (1, false)), (1, (1, false)), (2, (1, false)), (3, (1, false)), (4, (1, false))], none, none, (some [2, 0, 0, 0, 0])⟩),
 (105, ⟨5, true, 4, [.lit (.string ⟨#[]⟩), .lit (.int .i64 0), .lit (.int .i64 0), .lit (.int .i64 0), .lit (.int .i64 0)], [(0, (1, false)), (1, (1, false)), (2, (1, false)), (3, (1, false)), (4, (1, false))], none, none, (some [2, 0, 0, 0, 0])⟩),
 (106, ⟨1, false, 7, [.lit (.nilFunc)], [], none, none, none⟩),
 (107, ⟨1, false, 7, [.lit (.nilFunc)], [], none, none, none⟩),
 (108, ⟨1, false, 5, [.lit (.pointer none)], [], none, none, none⟩),
 (109, ⟨1, false, 7, [.lit (.nilFunc)], [], none, none, none⟩),
 (110, ⟨0, true, 4, [], [], none, none, (some [])⟩),
 (111, ⟨0, true, 4, [], [], none, none, (some [])⟩),
 (112, ⟨1, false, 7, [.lit (.nilFunc)], [], none, none, none⟩),
 (113, ⟨1, false, 7, [.lit (.nilFunc)], [], none, none, none⟩),
 (114, ⟨1, false, 7, [.lit (.nilFunc)], [], none, none, none⟩),
 (115, ⟨1, false, 7, [.lit (.nilFunc)], [], none, none, none⟩),
 (116, ⟨1, false, 7, [.lit (.nilFunc)], [], none, none, none⟩),
 (117, ⟨1, false, 7, [.lit (.nilFunc)], [], none, none, none⟩),
 (118, ⟨1, false, 7, [.lit (.nilFunc)], [], none, none, none⟩),
 (119, ⟨1, false, 7, [.lit (.nilFunc)], [], none, none, none⟩),
 (120, ⟨1, false, 7, [.lit (.nilFunc)], [], none, none, none⟩),
 (121, ⟨2, true, 4, [.lit (.int .i64 0), .lit (.nilFunc)], [(0, (1, false)), (1, (1, false))], none, none, none⟩),
 (122, ⟨2, true, 4, [.lit (.int .i64 0), .lit (.nilFunc)], [(0, (1, false)), (1, (1, false))], none, none, none⟩),
 (123, ⟨1, false, 7, [.lit (.nilFunc)], [], none, none, none⟩),
 (124, ⟨1, false, 7, [.lit (.nilFunc)], [], none, none, none⟩),
 (125, ⟨1, false, 7, [.lit (.nilFunc)], [], none, none, none⟩),
 (126, ⟨1, false, 3, [.sl 0 []], [], (some (79, (2, 16))), none, none⟩),
 (127, ⟨1, false, 7, [.lit (.nilFunc)], [], none, none, none⟩),
 (128, ⟨1, false, 98, [.lit (.map none)], [], none, none, none⟩),
 (129, ⟨1, false, 7, [.lit (.nilFunc)], [], none, none, none⟩),
 (130, ⟨4, true, 4, [.lit (.int .i64 0), .lit (.string ⟨#[]⟩), .lit (.string ⟨#[]⟩), .lit (.bool false)], [(0, (1, false)), (1, (1, false)), (2, (1, false)), (3, (1, false))], none, none, (some [0, 2, 2, 1])⟩),
 (131, ⟨4, true, 4, [.lit (.int .i64 0), .lit (.string ⟨#[]⟩), .lit (.string ⟨#[]⟩), .lit (.bool false)], [(0, (1, false)), (1, (1, false)), (2, (1, false)), (3, (1, false))], none, none, (some [0, 2, 2, 1])⟩),
 (132, ⟨1, false, 7, [.lit (.nilFunc)], [], none, none, none⟩),
 (133, ⟨2, true, 4, [.lit (.int .i64 0), .lit (.string ⟨#[]⟩)], [(0, (1, false)), (1, (1, false))], none, none, (some [0, 2])⟩),
 (134, ⟨2, true, 4, [.lit (.int .i64 0), .lit (.string ⟨#[]⟩)], [(0, (1, false)), (1, (1, false))], none, none, (some [0, 2])⟩),
 (135, ⟨1, false, 7, [.lit (.nilFunc)], [], none, none, none⟩),
 (136, ⟨1, false, 7, [.lit (.nilFunc)], [], none, none, none⟩),
 (137, ⟨1, false, 7, [.lit (.nilFunc)], [], none, none, none⟩),
 (138, ⟨1, false, 7, [.lit (.nilFunc)], [], none, none, none⟩),
 (139, ⟨1, false, 5, [.lit (.pointer none)], [], none, none, none⟩),
 (140, ⟨1, false, 7, [.lit (.nilFunc)], [], none, none, none⟩),
 (141, ⟨1, false, 7, [.lit (.nilFunc)], [], none, none, none⟩),
 (142, ⟨1, false, 7, [.lit (.nilFunc)], [], none, none, none⟩),
 (143, ⟨1, false, 6, [.lit (.nilIface)], [], none, none, none⟩),
 (144, ⟨1, false, 6, [.lit (.nilIface)], [], none, none, none⟩),
 (145, ⟨1, false, 7, [.lit (.nilFunc)], [], none, none, none⟩),
 (146, ⟨1, false, 5, [.lit (.pointer none)], [], none, none, none⟩),
 (147, ⟨1, false, 7, [.lit (.nilFunc)], [], none, none, none⟩),
 (148, ⟨1, false, 5, [.lit (.pointer none)], [], none, none, none⟩),
 (149, ⟨1, false, 7, [.lit (.nilFunc)], [], none, none, none⟩),
 (150, ⟨1, false, 7, [.lit (.nilFunc)], [], none, none, none⟩),
 (151, ⟨1, false, 5, [.lit (.pointer none)], [], none, none, none⟩),
 (152, ⟨1, false, 7, [.lit (.nilFunc)], [], none, none, none⟩),
 (153, ⟨1, false, 5, [.lit (.pointer none)], [], none, none, none⟩),
 (154, ⟨1, false, 7, [.lit (.nilFunc)], [], none, none, none⟩),
 (155, ⟨1, false, 5, [.lit (.pointer none)], [], none, none, none⟩),
 (156, ⟨1, false, 7, [.lit (.nilFunc)], [], none, none, none⟩),
 (157, ⟨2, true, 4, [.lit (.bool false), .sl 0 []], [(0, (1, false)), (1, (1, false))], none, none, none⟩),
 (158, ⟨2, true, 4, [.lit (.bool false), .sl 0 []], [(0, (1, false)), (1, (1, false))], none, none, none⟩),
 (159, ⟨2, true, 4, [.lit (.string ⟨#[]⟩), .lit (.string ⟨#[]⟩)], [(0, (1, false)), (1, (1, false))], none, none, (some [2, 2])⟩),
 (160, ⟨2, true, 4, [.lit (.string ⟨#[]⟩), .lit (.string ⟨#[]⟩)], [(0, (1, false)), (1, (1, false))], none, none, (some [2, 2])⟩),
 (161, ⟨2, true, 4, [.lit (.int .i64 0), .lit (.string ⟨#[]⟩)], [(0, (1, false)), (1, (1, false))], none, none, (some [0, 2])⟩),
 (162, ⟨2, true, 4, [.lit (.int .i64 0), .lit (.string ⟨#[]⟩)], [(0, (1, false)), (1, (1, false))], none, none, (some [0, 2])⟩),
 (163, ⟨1, false, 7, [.lit (.nilFunc)], [], none, none, none⟩),
 (164, ⟨1, false, 7, [.lit (.nilFunc)], [], none, none, none⟩),
 (165, ⟨1, false, 3, [.sl 0 []], [], (some (122, (2, 16))), none, none⟩),
 (166, ⟨1, false, 7, [.lit (.nilFunc)], [], none, none, none⟩),
 (167, ⟨1, false, 7, [.lit (.nilFunc)], [], none, none, none⟩),
 (168, ⟨1, false, 7, [.lit (.nilFunc)], [], none, none, none⟩),
 (170, ⟨1, false, 7, [.lit (.nilFunc)], [], none, none, none⟩),
 (172, ⟨1, false, 7, [.lit (.nilFunc)], [], none, none, none⟩),
 (173, ⟨1, false, 7, [.lit (.nilFunc)], [], none, none, none⟩),
 (174, ⟨1, false, 7, [.lit (.nilFunc)], [], none, none, none⟩),
 (175, ⟨1, false, 7, [.lit (.nilFunc)], [], none, none, none⟩),
 (176, ⟨1, false, 7, [.lit (.nilFunc)], [], none, none, none⟩),
 (177, ⟨1, false, 7, [.lit (.nilFunc)], [], none, none, none⟩),
 (178, ⟨1, false, 7, [.lit (.nilFunc)], [], none, none, none⟩),
 (179, ⟨1, false, 7, [.lit (.nilFunc)], [], none, none, none⟩),
 (180, ⟨1, false, 7, [.lit (.nilFunc)], [], none, none, none⟩),
 (181, ⟨1, false, 5, [.lit (.pointer none)], [], none, none, none⟩),
 (182, ⟨1, false, 7, [.lit (.nilFunc)], [], none, none, none⟩),
 (183, ⟨1, false, 5, [.lit (.pointer none)], [], none, none, none⟩),
 (184, ⟨1, false, 7, [.lit (.nilFunc)], [], none, none, none⟩),
 (185, ⟨1, false, 7, [.lit (.nilFunc)], [], none, none, none⟩),
 (186, ⟨1, false, 5, [.lit (.pointer none)], [], none, none, none⟩),
 (187, ⟨1, false, 7, [.lit (.nilFunc)], [], none, none, none⟩),
 (188, ⟨1, false, 5, [.lit (.pointer none)], [], none, none, none⟩),
 (189, ⟨1, false, 7, [.lit (.nilFunc)], [], none, none, none⟩),
 (190, ⟨1, false, 7, [.lit (.nilFunc)], [], none, none, none⟩),
 (191, ⟨1, false, 5, [.lit (.pointer none)], [], none, none, none⟩),
 (192, ⟨1, false, 7, [.lit (.nilFunc)], [], none, none, none⟩),
 (193, ⟨1, false, 7, [.lit (.nilFunc)], [], none, none, none⟩),
 (194, ⟨1, false, 3, [.sl 0 []], [], (some (146, (1, 8))), none, none⟩),
 (195, ⟨1, false, 3, [.sl 0 []], [], (some (148, (1, 8))), none, none⟩),
 (196, ⟨1, false, 7, [.lit (.nilFunc)], [], none, none, none⟩),
 (197, ⟨1, false, 7, [.lit (.nilFunc)], [], none, none, none⟩),
 (198, ⟨1, false, 5, [.lit (.pointer none)], [], none, none, none⟩),
 (199, ⟨1, false, 7, [.lit (.nilFunc)], [], none, none, none⟩),
 (200, ⟨3, true, 4, [.lit (.bool false), .lit (.int .i64 0), .lit (.nilFunc)], [(0, (1, false)), (1, (1, false)), (2, (1, false))], none, none, none⟩),
 (201, ⟨1, false, 7, [.lit (.nilFunc)], [], none, none, none⟩),
 (202, ⟨1, false, 3, [.sl 0 []], [], (some (200, (3, 24))), none, none⟩),
 (204, ⟨1, false, 7, [.lit (.nilFunc)], [], none, none, none⟩),
 (205, ⟨1, false, 7, [.lit (.nilFunc)], [], none, none, none⟩),
 (207, ⟨1, false, 7, [.lit (.nilFunc)], [], none, none, none⟩),
 (208, ⟨1, false, 7, [.lit (.nilFunc)], [], none, none, none⟩),
 (209, ⟨1, false, 7, [.lit (.nilFunc)], [], none, none, none⟩),
 (210, ⟨1, false, 5, [.lit (.pointer none)], [], none, none, none⟩),
 (211, ⟨1, false, 3, [.sl 0 []], [], (some (186, (1, 8))), none, none⟩),
 (212, ⟨1, false, 7, [.lit (.nilFunc)], [], none, none, none⟩),
 (213, ⟨1, false, 7, [.lit (.nilFunc)], [], none, none, none⟩),
 (214, ⟨1, false, 5, [.lit (.pointer none)], [], none, none, none⟩),
 (215, ⟨1, false, 3, [.sl 0 []], [], (some (191, (1, 8))), none, none⟩),
 (216, ⟨1, false, 7, [.lit (.nilFunc)], [], none, none, none⟩),
 (217, ⟨1, false, 7, [.lit (.nilFunc)], [], none, none, none⟩),
 (218, ⟨1, false, 7, [.lit (.nilFunc)], [], none, none, none⟩),
 (219, ⟨1, false, 7, [.lit (.nilFunc)], [], none, none, none⟩),
 (220, ⟨1, false, 7, [.lit (.nilFunc)], [], none, none, none⟩),
 (221, ⟨1, false, 7, [.lit (.nilFunc)], [], none, none, none⟩),
 (222, ⟨1, false, 7, [.lit (.nilFunc)], [], none, none, none⟩),
 (223, ⟨1, false, 7, [.lit (.nilFunc)], [], none, none, none⟩),
 (224, ⟨1, false, 7, [.lit (.nilFunc)], [], none, none, none⟩),
 (225, ⟨1, false, 7, [.lit (.nilFunc)], [], none, none, none⟩),
 (226, ⟨1, false, 7, [.lit (.nilFunc)], [], none, none, none⟩),
 (228, ⟨1, false, 7, [.lit (.nilFunc)], [], none, none, none⟩),
 (229, ⟨1, false, 7, [.lit (.nilFunc)], [], none, none, none⟩),
 (230, ⟨1, false, 7, [.lit (.nilFunc)], [], none, none, none⟩),
 (231, ⟨1, false, 5, [.lit (.pointer none)], [], none, none, none⟩),
 (232, ⟨1, false, 0, [.lit (.int .u64 0)], [], none, none, none⟩),
 (233, ⟨24, true, 8, [.lit (.int .u8 0), .lit (.int .u8 0), .lit (.int .u8 0), .lit (.int .u8 0), .lit (.int .u8 0), .lit (.int .u8 0), .lit (.int .u8 0), .lit (.int .u8 0), .lit (.int .u8 0), .lit (.int .u8 0), .lit (.int .u8 0), .lit (.int .u8 0), .lit (.int .u8 0), .lit (.int .u8 0), .lit (.int .u8 0), .lit (.int .u8 0), .lit (.int .u8 0), .lit (.int .u8 0), .lit (.int .u8 0), .lit (.int .u8 0), .lit (.int .u8 0), .lit (.int .u8 0), .lit (.int .u8 0), .lit (.int .u8 0)], [], none, (some (24, (5, 1))), none⟩),
 (234, ⟨1, false, 0, [.lit (.int .u64 0)], [], none, none, none⟩),
 (235, ⟨1, false, 7, [.lit (.nilFunc)], [], none, none, none⟩),
 (236, ⟨1, false, 7, [.lit (.nilFunc)], [], none, none, none⟩),
 (237, ⟨1, false, 3, [.sl 0 []], [], (some (5, (1, 1))), none, none⟩),
 (239, ⟨1, false, 7, [.lit (.nilFunc)], [], none, none, none⟩),
 (240, ⟨1, false, 7, [.lit (.nilFunc)], [], none, none, none⟩),
 (242, ⟨1, false, 7, [.lit (.nilFunc)], [], none, none, none⟩),
 (243, ⟨1, false, 7, [.lit (.nilFunc)], [], none, none, none⟩),
 (244, ⟨20, true, 8, [.lit (.int .u64 0), .lit (.int .u64 0), .lit (.int .u64 0), .lit (.int .u64 0), .lit (.int .u64 0), .lit (.int .u64 0), .lit (.int .u64 0), .lit (.int .u64 0), .lit (.int .u64 0), .lit (.int .u64 0), .lit (.int .u64 0), .lit (.int .u64 0), .lit (.int .u64 0), .lit (.int .u64 0), .lit (.int .u64 0), .lit (.int .u64 0), .lit (.int .u64 0), .lit (.int .u64 0), .lit (.int .u64 0), .lit (.int .u64 0)], [], none, (some (20, (234, 1))), none⟩),
 (245, ⟨1, false, 0, [.lit (.int .u32 0)], [], none, none, none⟩),
 (246, ⟨65, true, 8, [.lit (.int .u8 0), .lit (.int .u8 0), .lit (.int .u8 0), .lit (.int .u8 0), .lit (.int .u8 0), .lit (.int .u8 0), .lit (.int .u8 0), .lit (.int .u8 0), .lit (.int .u8 0), .lit (.int .u8 0), .lit (.int .u8 0), .lit (.int .u8 0), .lit (.int .u8 0), .lit (.int .u8 0), .lit (.int .u8 0), .lit (.int .u8 0), .lit (.int .u8 0), .lit (.int .u8 0), .lit (.int .u8 0), .lit (.int .u8 0), .lit (.int .u8 0), .lit (.int .u8 0), .lit (.int .u8 0), .lit (.int .u8 0), .lit (.int .u8 0), .lit (.int .u8 0), .lit (.int .u8 0), .lit (.int .u8 0), .lit (.int .u8 0), .lit (.int .u8 0), .lit (.int .u8 0), .lit (.int .u8 0), .lit (.int .u8 0), .lit (.int .u8 0), .lit (.int .u8 0), .lit (.int .u8 0), .lit (.int .u8 0), .lit (.int .u8 0), .lit (.int .u8 0), .lit (.int .u8 0), .lit (.int .u8 0), .lit (.int .u8 0), .lit (.int .u8 0), .lit (.int .u8 0), .lit (.int .u8 0), .lit (.int .u8 0), .lit (.int .u8 0), .lit (.int .u8 0), .lit (.int .u8 0), .lit (.int .u8 0), .lit (.int .u8 0), .lit (.int .u8 0), .lit (.int .u8 0), .lit (.int .u8 0), .lit (.int .u8 0), .lit (.int .u8 0), .lit (.int .u8 0), .lit (.int .u8 0), .lit (.int .u8 0), .lit (.int .u8 0), .lit (.int .u8 0), .lit (.int .u8 0), .lit (.int .u8 0), .lit (.int .u8 0), .lit (.int .u8 0)], [], none, (some (65, (5, 1))), none⟩),
 (247, ⟨1, false, 7, [.lit (.nilFunc)], [], none, none, none⟩),
 (249, ⟨1, false, 7, [.lit (.nilFunc)], [], none, none, none⟩),
 (250, ⟨1, false, 7, [.lit (.nilFunc)], [], none, none, none⟩),
 (251, ⟨1, false, 7, [.lit (.nilFunc)], [], none, none, none⟩),
 (252, ⟨1, false, 7, [.lit (.nilFunc)], [], none, none, none⟩),
 (253, ⟨1, false, 7, [.lit (.nilFunc)], [], none, none, none⟩),
 (254, ⟨2, true, 8, [.lit (.int .i64 0), .lit (.int .i64 0)], [], none, (some (2, (3, 1))), none⟩),
 (255, ⟨8, true, 8, [.lit (.int .i64 0), .lit (.int .i64 0), .lit (.int .i64 0), .lit (.int .i64 0), .lit (.int .i64 0), .lit (.int .i64 0), .lit (.int .i64 0), .lit (.int .i64 0)], [], none, (some (4, (254, 2))), none⟩),
 (256, ⟨1, false, 7, [.lit (.nilFunc)], [], none, none, none⟩),
 (257, ⟨1, false, 7, [.lit (.nilFunc)], [], none, none, none⟩),
 (258, ⟨1, false, 3, [.sl 0 []], [], (some (177, (1, 8))), none, none⟩),
 (259, ⟨32, true, 8, [.lit (.int .u8 0), .lit (.int .u8 0), .lit (.int .u8 0), .lit (.int .u8 0), .lit (.int .u8 0), .lit (.int .u8 0), .lit (.int .u8 0), .lit (.int .u8 0), .lit (.int .u8 0), .lit (.int .u8 0), .lit (.int .u8 0), .lit (.int .u8 0), .lit (.int .u8 0), .lit (.int .u8 0), .lit (.int .u8 0), .lit (.int .u8 0), .lit (.int .u8 0), .lit (.int .u8 0), .lit (.int .u8 0), .lit (.int .u8 0), .lit (.int .u8 0), .lit (.int .u8 0), .lit (.int .u8 0), .lit (.int .u8 0), .lit (.int .u8 0), .lit (.int .u8 0), .lit (.int .u8 0), .lit (.int .u8 0), .lit (.int .u8 0), .lit (.int .u8 0), .lit (.int .u8 0), .lit (.int .u8 0)], [], none, (some (32, (5, 1))), none⟩),
 (260, ⟨64, true, 8, [.lit (.int .u8 0), .lit (.int .u8 0), .lit (.int .u8 0), .lit (.int .u8 0), .lit (.int .u8 0), .lit (.int .u8 0), .lit (.int .u8 0), .lit (.int .u8 0), .lit (.int .u8 0), .lit (.int .u8 0), .lit (.int .u8 0), .lit (.int .u8 0), .lit (.int .u8 0), .lit (.int .u8 0), .lit (.int .u8 0), .lit (.int .u8 0), .lit (.int .u8 0), .lit (.int .u8 0), .lit (.int .u8 0), .lit (.int .u8 0), .lit (.int .u8 0), .lit (.int .u8 0), .lit (.int .u8 0), .lit (.int .u8 0), .lit (.int .u8 0), .lit (.int .u8 0), .lit (.int .u8 0), .lit (.int .u8 0), .lit (.int .u8 0), .lit (.int .u8 0), .lit (.int .u8 0), .lit (.int .u8 0), .lit (.int .u8 0), .lit (.int .u8 0), .lit (.int .u8 0), .lit (.int .u8 0), .lit (.int .u8 0), .lit (.int .u8 0), .lit (.int .u8 0), .lit (.int .u8 0), .lit (.int .u8 0), .lit (.int .u8 0), .lit (.int .u8 0), .lit (.int .u8 0), .lit (.int .u8 0), .lit (.int .u8 0), .lit (.int .u8 0), .lit (.int .u8 0), .lit (.int .u8 0), .lit (.int .u8 0), .lit (.int .u8 0), .lit (.int .u8 0), .lit (.int .u8 0), .lit (.int .u8 0), .lit (.int .u8 0), .lit (.int .u8 0), .lit (.int .u8 0), .lit (.int .u8 0), .lit (.int .u8 0), .lit (.int .u8 0), .lit (.int .u8 0), .lit (.int .u8 0), .lit (.int .u8 0), .lit (.int .u8 0)], [], none, (some (64, (5, 1))), none⟩),
 (261, ⟨1, false, 7, [.lit (.nilFunc)], [], none, none, none⟩),
 (262, ⟨1, false, 7, [.lit (.nilFunc)], [], none, none, none⟩),
 (263, ⟨4, true, 4, [.lit (.pointer none), .lit (.pointer none), .lit (.pointer none), .lit (.string ⟨#[]⟩)], [(0, (1, false)), (1, (1, false)), (2, (1, false)), (3, (1, false))], none, none, none⟩),
 (264, ⟨4, true, 4, [.lit (.pointer none), .lit (.pointer none), .lit (.pointer none), .lit (.string ⟨#[]⟩)], [(0, (1, false)), (1, (1, false)), (2, (1, false)), (3, (1, false))], none, none, none⟩),
 (265, ⟨0, true, 8, [], [], none, (some (0, (16, 1))), none⟩),
 (266, ⟨0, true, 4, [], [(0, (0, true))], none, none, none⟩),
 (267, ⟨0, true, 4, [], [(0, (0, true))], none, none, none⟩),
 (268, ⟨1, false, 0, [.lit (.int .u8 0)], [], none, none, none⟩),
 (269, ⟨1, false, 0, [.lit (.int .u8 0)], [], none, none, none⟩),
 (270, ⟨1, false, 7, [.lit (.nilFunc)], [], none, none, none⟩),
 (271, ⟨1, false, 5, [.lit (.pointer none)], [], none, none, none⟩),
 (272, ⟨1, false, 0, [.lit (.int .i32 0)], [], none, none, none⟩),
 (273, ⟨1, false, 0, [.lit (.int .i32 0)], [], none, none, none⟩),
 (274, ⟨11, true, 4, [.lit (.int .u64 0), .lit (.int .u64 0), .lit (.int .u32 0), .lit (.int .u8 0), .lit (.int .u8 0), .lit (.int .u8 0), .lit (.int .u8 0), .lit (.nilFunc), .lit (.pointer none), .lit (.int .i32 0), .lit (.int .i32 0)], [(0, (1, false)), (1, (1, false)), (2, (1, false)), (3, (1, false)), (4, (1, false)), (5, (1, false)), (6, (1, false)), (7, (1, false)), (8, (1, false)), (9, (1, false)), (10, (1, false))], none, none, none⟩),
 (275, ⟨11, true, 4, [.lit (.int .u64 0), .lit (.int .u64 0), .lit (.int .u32 0), .lit (.int .u8 0), .lit (.int .u8 0), .lit (.int .u8 0), .lit (.int .u8 0), .lit (.nilFunc), .lit (.pointer none), .lit (.int .i32 0), .lit (.int .i32 0)], [(0, (1, false)), (1, (1, false)), (2, (1, false)), (3, (1, false)), (4, (1, false)), (5, (1, false)), (6, (1, false)), (7, (1, false)), (8, (1, false)), (9, (1, false)), (10, (1, false))], none, none, none⟩),
 (276, ⟨1, false, 98, [.lit (.pointer none)], [], none, none, none⟩)]
noncomputable def fis : List (Nat × FI) := [(2, ⟨Tryz.f2.ntmps, Tryz.f2.body.getD .skip, Tryz.f2.results.toList, []⟩),
 (3, ⟨Tryz.f3.ntmps, Tryz.f3.body.getD .skip, Tryz.f3.results.toList, [(3, [(1, 2), (2, 1), (7, 8), (8, 7), (14, 15), (15, 14), (21, 22), (22, 21), (28, 29), (29, 28), (36, 37), (37, 36)])]⟩),
 (5, ⟨Tryz.f5.ntmps, Tryz.f5.body.getD .skip, Tryz.f5.results.toList, []⟩),
 (6, ⟨Tryz.f6.ntmps, Tryz.f6.body.getD .skip, Tryz.f6.results.toList, [(10, [(21, 22), (22, 21), (21, 23), (23, 21)])]⟩),
 (7, ⟨Tryz.f7.ntmps, Tryz.f7.body.getD .skip, Tryz.f7.results.toList, []⟩),
 (8, ⟨Tryz.f8.ntmps, Tryz.f8.body.getD .skip, Tryz.f8.results.toList, []⟩),
 (9, ⟨Tryz.f9.ntmps, Tryz.f9.body.getD .skip, Tryz.f9.results.toList, []⟩),
 (10, ⟨Tryz.f10.ntmps, Tryz.f10.body.getD .skip, Tryz.f10.results.toList, []⟩),
 (11, ⟨Tryz.f11.ntmps, Tryz.f11.body.getD .skip, Tryz.f11.results.toList, []⟩),
 (12, ⟨Tryz.f12.ntmps, Tryz.f12.body.getD .skip, Tryz.f12.results.toList, []⟩),
 (13, ⟨Tryz.f13.ntmps, Tryz.f13.body.getD .skip, Tryz.f13.results.toList, []⟩),
 (14, ⟨Tryz.f14.ntmps, Tryz.f14.body.getD .skip, Tryz.f14.results.toList, []⟩),
 (15, ⟨Tryz.f15.ntmps, Tryz.f15.body.getD .skip, Tryz.f15.results.toList, []⟩),
 (16, ⟨Tryz.f16.ntmps, Tryz.f16.body.getD .skip, Tryz.f16.results.toList, []⟩),
 (17, ⟨Tryz.f17.ntmps, Tryz.f17.body.getD .skip, Tryz.f17.results.toList, []⟩),
 (18, ⟨Tryz.f18.ntmps, Tryz.f18.body.getD .skip, Tryz.f18.results.toList, []⟩),
 (19, ⟨Tryz.f19.ntmps, Tryz.f19.body.getD .skip, Tryz.f19.results.toList, []⟩),
 (20, ⟨Tryz.f20.ntmps, Tryz.f20.body.getD .skip, Tryz.f20.results.toList, []⟩),
 (21, ⟨Tryz.f21.ntmps, Tryz.f21.body.getD .skip, Tryz.f21.results.toList, []⟩),
 (22, ⟨Tryz.f22.ntmps, Tryz.f22.body.getD .skip, Tryz.f22.results.toList, []⟩),
 (23, ⟨Tryz.f23.ntmps, Tryz.f23.body.getD .skip, Tryz.f23.results.toList, []⟩),
 (24, ⟨Tryz.f24.ntmps, Tryz.f24.body.getD .skip, Tryz.f24.results.toList, []⟩),
 (25, ⟨Tryz.f25.ntmps, Tryz.f25.body.getD .skip, Tryz.f25.results.toList, [(11, [(7, 8), (8, 7)])]⟩),
 (26, ⟨Tryz.f26.ntmps, Tryz.f26.body.getD .skip, Tryz.f26.results.toList, []⟩),
 (27, ⟨Tryz.f27.ntmps, Tryz.f27.body.getD .skip, Tryz.f27.results.toList, [(4, [(7, 8), (8, 7)]), (12, [(7, 8), (8, 7)])]⟩),
 (28, ⟨Tryz.f28.ntmps, Tryz.f28.body.getD .skip, Tryz.f28.results.toList, []⟩),
 (29, ⟨Tryz.f29.ntmps, Tryz.f29.body.getD .skip, Tryz.f29.results.toList, []⟩),
 (30, ⟨Tryz.f30.ntmps, Tryz.f30.body.getD .skip, Tryz.f30.results.toList, []⟩),
 (31, ⟨Tryz.f31.ntmps, Tryz.f31.body.getD .skip, Tryz.f31.results.toList, [(2, [(0, 2), (2, 0)])]⟩),
 (32, ⟨Tryz.f32.ntmps, Tryz.f32.body.getD .skip, Tryz.f32.results.toList, []⟩),
 (33, ⟨Tryz.f33.ntmps, Tryz.f33.body.getD .skip, Tryz.f33.results.toList, []⟩),
 (34, ⟨Tryz.f34.ntmps, Tryz.f34.body.getD .skip, Tryz.f34.results.toList, []⟩),
 (35, ⟨Tryz.f35.ntmps, Tryz.f35.body.getD .skip, Tryz.f35.results.toList, []⟩),
 (36, ⟨Tryz.f36.ntmps, Tryz.f36.body.getD .skip, Tryz.f36.results.toList, [(1, [(0, 2), (2, 0)]), (9, [(7, 8), (8, 7)])]⟩),
 (37, ⟨Tryz.f37.ntmps, Tryz.f37.body.getD .skip, Tryz.f37.results.toList, [(21, [(7, 8), (8, 7)])]⟩),
 (38, ⟨Tryz.f38.ntmps, Tryz.f38.body.getD .skip, Tryz.f38.results.toList, [(12, [(1, 2), (2, 1)])]⟩),
 (39, ⟨Tryz.f39.ntmps, Tryz.f39.body.getD .skip, Tryz.f39.results.toList, [(12, [(1, 2), (2, 1)])]⟩),
 (40, ⟨Tryz.f40.ntmps, Tryz.f40.body.getD .skip, Tryz.f40.results.toList, []⟩),
 (41, ⟨Tryz.f41.ntmps, Tryz.f41.body.getD .skip, Tryz.f41.results.toList, []⟩),
 (42, ⟨Tryz.f42.ntmps, Tryz.f42.body.getD .skip, Tryz.f42.results.toList, []⟩),
 (43, ⟨Tryz.f43.ntmps, Tryz.f43.body.getD .skip, Tryz.f43.results.toList, []⟩),
 (44, ⟨Tryz.f44.ntmps, Tryz.f44.body.getD .skip, Tryz.f44.results.toList, []⟩),
 (45, ⟨Tryz.f45.ntmps, Tryz.f45.body.getD .skip, Tryz.f45.results.toList, []⟩),
 (46, ⟨Tryz.f46.ntmps, Tryz.f46.body.getD .skip, Tryz.f46.results.toList, []⟩),
 (47, ⟨Tryz.f47.ntmps, Tryz.f47.body.getD .skip, Tryz.f47.results.toList, []⟩),
 (48, ⟨Tryz.f48.ntmps, Tryz.f48.body.getD .skip, Tryz.f48.results.toList, []⟩),
 (49, ⟨Tryz.f49.ntmps, Tryz.f49.body.getD .skip, Tryz.f49.results.toList, []⟩),
 (50, ⟨Tryz.f50.ntmps, Tryz.f50.body.getD .skip, Tryz.f50.results.toList, []⟩),
 (51, ⟨Tryz.f51.ntmps, Tryz.f51.body.getD .skip, Tryz.f51.results.toList, [(1, [(0, 2), (2, 0)]), (5, [(7, 8), (8, 7)])]⟩),
 (52, ⟨Tryz.f52.ntmps, Tryz.f52.body.getD .skip, Tryz.f52.results.toList, [(4, [(7, 8), (8, 7)]), (10, [(7, 8), (8, 7)]), (11, [(5, 20), (20, 5)]), (13, [(7, 8), (8, 7)])]⟩),
 (53, ⟨Tryz.f53.ntmps, Tryz.f53.body.getD .skip, Tryz.f53.results.toList, [(8, [(1, 2), (2, 1)])]⟩),
 (54, ⟨Tryz.f54.ntmps, Tryz.f54.body.getD .skip, Tryz.f54.results.toList, []⟩),
 (56, ⟨Tryz.f56.ntmps, Tryz.f56.body.getD .skip, Tryz.f56.results.toList, [(2, [(5, 11), (11, 5), (5, 13), (13, 5)])]⟩),
 (57, ⟨Tryz.f57.ntmps, Tryz.f57.body.getD .skip, Tryz.f57.results.toList, []⟩),
 (58, ⟨Tryz.f58.ntmps, Tryz.f58.body.getD .skip, Tryz.f58.results.toList, []⟩),
 (59, ⟨Tryz.f59.ntmps, Tryz.f59.body.getD .skip, Tryz.f59.results.toList, []⟩),
 (60, ⟨Tryz.f60.ntmps, Tryz.f60.body.getD .skip, Tryz.f60.results.toList, []⟩),
 (61, ⟨Tryz.f61.ntmps, Tryz.f61.body.getD .skip, Tryz.f61.results.toList, []⟩),
 (62, ⟨Tryz.f62.ntmps, Tryz.f62.body.getD .skip, Tryz.f62.results.toList, [(12, [(11, 15), (15, 11)])]⟩),
 (63, ⟨Tryz.f63.ntmps, Tryz.f63.body.getD .skip, Tryz.f63.results.toList, []⟩),
 (64, ⟨Tryz.f64.ntmps, Tryz.f64.body.getD .skip, Tryz.f64.results.toList, []⟩),
 (65, ⟨Tryz.f65.ntmps, Tryz.f65.body.getD .skip, Tryz.f65.results.toList, []⟩),
 (66, ⟨Tryz.f66.ntmps, Tryz.f66.body.getD .skip, Tryz.f66.results.toList, []⟩),
 (67, ⟨Tryz.f67.ntmps, Tryz.f67.body.getD .skip, Tryz.f67.results.toList, []⟩),
 (68, ⟨Tryz.f68.ntmps, Tryz.f68.body.getD .skip, Tryz.f68.results.toList, [(9, [(5, 10), (10, 5)])]⟩),
 (69, ⟨Tryz.f69.ntmps, Tryz.f69.body.getD .skip, Tryz.f69.results.toList, []⟩),
 (70, ⟨Tryz.f70.ntmps, Tryz.f70.body.getD .skip, Tryz.f70.results.toList, []⟩),
 (71, ⟨Tryz.f71.ntmps, Tryz.f71.body.getD .skip, Tryz.f71.results.toList, []⟩),
 (72, ⟨Tryz.f72.ntmps, Tryz.f72.body.getD .skip, Tryz.f72.results.toList, []⟩),
 (73, ⟨Tryz.f73.ntmps, Tryz.f73.body.getD .skip, Tryz.f73.results.toList, []⟩),
 (74, ⟨Tryz.f74.ntmps, Tryz.f74.body.getD .skip, Tryz.f74.results.toList, []⟩),
 (75, ⟨Tryz.f75.ntmps, Tryz.f75.body.getD .skip, Tryz.f75.results.toList, []⟩),
 (76, ⟨Tryz.f76.ntmps, Tryz.f76.body.getD .skip, Tryz.f76.results.toList, []⟩),
 (77, ⟨Tryz.f77.ntmps, Tryz.f77.body.getD .skip, Tryz.f77.results.toList, []⟩),
 (78, ⟨Tryz.f78.ntmps, Tryz.f78.body.getD .skip, Tryz.f78.results.toList, []⟩),
 (79, ⟨Tryz.f79.ntmps, Tryz.f79.body.getD .skip, Tryz.f79.results.toList, []⟩),
 (80, ⟨Tryz.f80.ntmps, Tryz.f80.body.getD .skip, Tryz.f80.results.toList, []⟩),
 (81, ⟨Tryz.f81.ntmps, Tryz.f81.body.getD .skip, Tryz.f81.results.toList, []⟩),
 (82, ⟨Tryz.f82.ntmps, Tryz.f82.body.getD .skip, Tryz.f82.results.toList, []⟩),
 (83, ⟨Tryz.f83.ntmps, Tryz.f83.body.getD .skip, Tryz.f83.results.toList, []⟩),
 (84, ⟨Tryz.f84.ntmps, Tryz.f84.body.getD .skip, Tryz.f84.results.toList, []⟩),
 (85, ⟨Tryz.f85.ntmps, Tryz.f85.body.getD .skip, Tryz.f85.results.toList, []⟩),
 (86, ⟨Tryz.f86.ntmps, Tryz.f86.body.getD .skip, Tryz.f86.results.toList, []⟩),
 (87, ⟨Tryz.f87.ntmps, Tryz.f87.body.getD .skip, Tryz.f87.results.toList, [(1, [(5, 24), (24, 5)])]⟩),
 (88, ⟨Tryz.f88.ntmps, Tryz.f88.body.getD .skip, Tryz.f88.results.toList, []⟩),
 (89, ⟨Tryz.f89.ntmps, Tryz.f89.body.getD .skip, Tryz.f89.results.toList, []⟩),
 (90, ⟨Tryz.f90.ntmps, Tryz.f90.body.getD .skip, Tryz.f90.results.toList, []⟩),
 (91, ⟨Tryz.f91.ntmps, Tryz.f91.body.getD .skip, Tryz.f91.results.toList, []⟩),
 (92, ⟨Tryz.f92.ntmps, Tryz.f92.body.getD .skip, Tryz.f92.results.toList, []⟩),
 (94, ⟨Tryz.f94.ntmps, Tryz.f94.body.getD .skip, Tryz.f94.results.toList, [(1, [(9, 10), (10, 9)])]⟩),
 (95, ⟨Tryz.f95.ntmps, Tryz.f95.body.getD .skip, Tryz.f95.results.toList, [(1, [(9, 10), (10, 9)]), (5, [(4, 7), (7, 4)])]⟩),
 (96, ⟨Tryz.f96.ntmps, Tryz.f96.body.getD .skip, Tryz.f96.results.toList, [(11, [(2, 7), (7, 2)])]⟩),
 (97, ⟨Tryz.f97.ntmps, Tryz.f97.body.getD .skip, Tryz.f97.results.toList, [(17, [(5, 13), (13, 5)])]⟩),
 (98, ⟨Tryz.f98.ntmps, Tryz.f98.body.getD .skip, Tryz.f98.results.toList, []⟩),
 (99, ⟨Tryz.f99.ntmps, Tryz.f99.body.getD .skip, Tryz.f99.results.toList, [(2, [(4, 6), (6, 4)]), (3, [(4, 6), (6, 4)])]⟩),
 (100, ⟨Tryz.f100.ntmps, Tryz.f100.body.getD .skip, Tryz.f100.results.toList, []⟩),
 (101, ⟨Tryz.f101.ntmps, Tryz.f101.body.getD .skip, Tryz.f101.results.toList, []⟩),
 (102, ⟨Tryz.f102.ntmps, Tryz.f102.body.getD .skip, Tryz.f102.results.toList, []⟩),
 (103, ⟨Tryz.f103.ntmps, Tryz.f103.body.getD .skip, Tryz.f103.results.toList, []⟩),
 (104, ⟨Tryz.f104.ntmps, Tryz.f104.body.getD .skip, Tryz.f104.results.toList, []⟩),
 (105, ⟨Tryz.f105.ntmps, Tryz.f105.body.getD .skip, Tryz.f105.results.toList, []⟩),
 (106, ⟨Tryz.f106.ntmps, Tryz.f106.body.getD .skip, Tryz.f106.results.toList, []⟩),
 (107, ⟨Tryz.f107.ntmps, Tryz.f107.body.getD .skip, Tryz.f107.results.toList, [(0, [(5, 15), (15, 5), (5, 16), (16, 5)])]⟩),
 (108, ⟨Tryz.f108.ntmps, Tryz.f108.body.getD .skip, Tryz.f108.results.toList, []⟩),
 (109, ⟨Tryz.f109.ntmps, Tryz.f109.body.getD .skip, Tryz.f109.results.toList, []⟩),
 (110, ⟨Tryz.f110.ntmps, Tryz.f110.body.getD .skip, Tryz.f110.results.toList, []⟩),
 (111, ⟨Tryz.f111.ntmps, Tryz.f111.body.getD .skip, Tryz.f111.results.toList, []⟩),
 (112, ⟨Tryz.f112.ntmps, Tryz.f112.body.getD .skip, Tryz.f112.results.toList, []⟩),
 (113, ⟨Tryz.f113.ntmps, Tryz.f113.body.getD .skip, Tryz.f113.results.toList, []⟩),
 (114, ⟨Tryz.f114.ntmps, Tryz.f114.body.getD .skip, Tryz.f114.results.toList, []⟩),
 (115, ⟨Tryz.f115.ntmps, Tryz.f115.body.getD .skip, Tryz.f115.results.toList, []⟩),
 (116, ⟨Tryz.f116.ntmps, Tryz.f116.body.getD .skip, Tryz.f116.results.toList, [(0, [(5, 15), (15, 5), (5, 16), (16, 5)])]⟩),
 (117, ⟨Tryz.f117.ntmps, Tryz.f117.body.getD .skip, Tryz.f117.results.toList, []⟩),
 (118, ⟨Tryz.f118.ntmps, Tryz.f118.body.getD .skip, Tryz.f118.results.toList, []⟩),
 (119, ⟨Tryz.f119.ntmps, Tryz.f119.body.getD .skip, Tryz.f119.results.toList, []⟩),
 (120, ⟨Tryz.f120.ntmps, Tryz.f120.body.getD .skip, Tryz.f120.results.toList, []⟩),
 (121, ⟨Tryz.f121.ntmps, Tryz.f121.body.getD .skip, Tryz.f121.results.toList, []⟩),
 (122, ⟨Tryz.f122.ntmps, Tryz.f122.body.getD .skip, Tryz.f122.results.toList, []⟩),
 (123, ⟨Tryz.f123.ntmps, Tryz.f123.body.getD .skip, Tryz.f123.results.toList, []⟩),
 (124, ⟨Tryz.f124.ntmps, Tryz.f124.body.getD .skip, Tryz.f124.results.toList, []⟩),
 (125, ⟨Tryz.f125.ntmps, Tryz.f125.body.getD .skip, Tryz.f125.results.toList, []⟩),
 (126, ⟨Tryz.f126.ntmps, Tryz.f126.body.getD .skip, Tryz.f126.results.toList, []⟩),
 (127, ⟨Tryz.f127.ntmps, Tryz.f127.body.getD .skip, Tryz.f127.results.toList, []⟩),
 (128, ⟨Tryz.f128.ntmps, Tryz.f128.body.getD .skip, Tryz.f128.results.toList, []⟩),
 (129, ⟨Tryz.f129.ntmps, Tryz.f129.body.getD .skip, Tryz.f129.results.toList, []⟩),
 (130, ⟨Tryz.f130.ntmps, Tryz.f130.body.getD .skip, Tryz.f130.results.toList, [(4, [(40, 44), (44, 40), (44, 52), (52, 44)])]⟩),
 (131, ⟨Tryz.f131.ntmps, Tryz.f131.body.getD .skip, Tryz.f131.results.toList, []⟩),
 (132, ⟨Tryz.f132.ntmps, Tryz.f132.body.getD .skip, Tryz.f132.results.toList, []⟩),
 (133, ⟨Tryz.f133.ntmps, Tryz.f133.body.getD .skip, Tryz.f133.results.toList, []⟩),
 (134, ⟨Tryz.f134.ntmps, Tryz.f134.body.getD .skip, Tryz.f134.results.toList, [(5, [(2, 9), (9, 2), (4, 9), (9, 4), (8, 9), (9, 8)])]⟩),
 (135, ⟨Tryz.f135.ntmps, Tryz.f135.body.getD .skip, Tryz.f135.results.toList, []⟩),
 (136, ⟨Tryz.f136.ntmps, Tryz.f136.body.getD .skip, Tryz.f136.results.toList, [(3, [(4, 6), (6, 4)])]⟩),
 (137, ⟨Tryz.f137.ntmps, Tryz.f137.body.getD .skip, Tryz.f137.results.toList, []⟩),
 (138, ⟨Tryz.f138.ntmps, Tryz.f138.body.getD .skip, Tryz.f138.results.toList, []⟩),
 (139, ⟨Tryz.f139.ntmps, Tryz.f139.body.getD .skip, Tryz.f139.results.toList, []⟩),
 (140, ⟨Tryz.f140.ntmps, Tryz.f140.body.getD .skip, Tryz.f140.results.toList, []⟩),
 (141, ⟨Tryz.f141.ntmps, Tryz.f141.body.getD .skip, Tryz.f141.results.toList, []⟩),
 (142, ⟨Tryz.f142.ntmps, Tryz.f142.body.getD .skip, Tryz.f142.results.toList, []⟩),
 (143, ⟨Tryz.f143.ntmps, Tryz.f143.body.getD .skip, Tryz.f143.results.toList, []⟩),
 (144, ⟨Tryz.f144.ntmps, Tryz.f144.body.getD .skip, Tryz.f144.results.toList, [(5, [(5, 7), (7, 5)])]⟩),
 (145, ⟨Tryz.f145.ntmps, Tryz.f145.body.getD .skip, Tryz.f145.results.toList, []⟩),
 (146, ⟨Tryz.f146.ntmps, Tryz.f146.body.getD .skip, Tryz.f146.results.toList, []⟩),
 (147, ⟨Tryz.f147.ntmps, Tryz.f147.body.getD .skip, Tryz.f147.results.toList, []⟩),
 (148, ⟨Tryz.f148.ntmps, Tryz.f148.body.getD .skip, Tryz.f148.results.toList, []⟩),
 (149, ⟨Tryz.f149.ntmps, Tryz.f149.body.getD .skip, Tryz.f149.results.toList, []⟩),
 (150, ⟨Tryz.f150.ntmps, Tryz.f150.body.getD .skip, Tryz.f150.results.toList, []⟩),
 (151, ⟨Tryz.f151.ntmps, Tryz.f151.body.getD .skip, Tryz.f151.results.toList, []⟩),
 (152, ⟨Tryz.f152.ntmps, Tryz.f152.body.getD .skip, Tryz.f152.results.toList, []⟩),
 (153, ⟨Tryz.f153.ntmps, Tryz.f153.body.getD .skip, Tryz.f153.results.toList, [(5, [(5, 7), (7, 5)])]⟩),
 (154, ⟨Tryz.f154.ntmps, Tryz.f154.body.getD .skip, Tryz.f154.results.toList, []⟩),
 (155, ⟨Tryz.f155.ntmps, Tryz.f155.body.getD .skip, Tryz.f155.results.toList, []⟩),
 (156, ⟨Tryz.f156.ntmps, Tryz.f156.body.getD .skip, Tryz.f156.results.toList, []⟩),
 (157, ⟨Tryz.f157.ntmps, Tryz.f157.body.getD .skip, Tryz.f157.results.toList, []⟩),
 (158, ⟨Tryz.f158.ntmps, Tryz.f158.body.getD .skip, Tryz.f158.results.toList, []⟩),
 (159, ⟨Tryz.f159.ntmps, Tryz.f159.body.getD .skip, Tryz.f159.results.toList, []⟩),
 (160, ⟨Tryz.f160.ntmps, Tryz.f160.body.getD .skip, Tryz.f160.results.toList, []⟩),
 (161, ⟨Tryz.f161.ntmps, Tryz.f161.body.getD .skip, Tryz.f161.results.toList, []⟩),
 (162, ⟨Tryz.f162.ntmps, Tryz.f162.body.getD .skip, Tryz.f162.results.toList, []⟩),
 (163, ⟨Tryz.f163.ntmps, Tryz.f163.body.getD .skip, Tryz.f163.results.toList, []⟩),
 (164, ⟨Tryz.f164.ntmps, Tryz.f164.body.getD .skip, Tryz.f164.results.toList, []⟩),
 (165, ⟨Tryz.f165.ntmps, Tryz.f165.body.getD .skip, Tryz.f165.results.toList, []⟩),
 (166, ⟨Tryz.f166.ntmps, Tryz.f166.body.getD .skip, Tryz.f166.results.toList, []⟩),
 (167, ⟨Tryz.f167.ntmps, Tryz.f167.body.getD .skip, Tryz.f167.results.toList, [(1, [(6, 11), (11, 6)])]⟩),
 (168, ⟨Tryz.f168.ntmps, Tryz.f168.body.getD .skip, Tryz.f168.results.toList, [(1, [(6, 11), (11, 6)])]⟩),
 (171, ⟨Tryz.f171.ntmps, Tryz.f171.body.getD .skip, Tryz.f171.results.toList, [(0, [(7, 12), (12, 7)])]⟩),
 (172, ⟨Tryz.f172.ntmps, Tryz.f172.body.getD .skip, Tryz.f172.results.toList, [(0, [(7, 12), (12, 7)])]⟩),
 (173, ⟨Tryz.f173.ntmps, Tryz.f173.body.getD .skip, Tryz.f173.results.toList, [(0, [(6, 11), (11, 6)])]⟩),
 (174, ⟨Tryz.f174.ntmps, Tryz.f174.body.getD .skip, Tryz.f174.results.toList, [(0, [(6, 11), (11, 6)]), (3, [(7, 14), (14, 7)])]⟩),
 (175, ⟨Tryz.f175.ntmps, Tryz.f175.body.getD .skip, Tryz.f175.results.toList, [(3, [(4, 6), (6, 4)])]⟩),
 (176, ⟨Tryz.f176.ntmps, Tryz.f176.body.getD .skip, Tryz.f176.results.toList, [(3, [(2, 7), (7, 2)])]⟩),
 (177, ⟨Tryz.f177.ntmps, Tryz.f177.body.getD .skip, Tryz.f177.results.toList, [(17, [(5, 13), (13, 5)])]⟩),
 (178, ⟨Tryz.f178.ntmps, Tryz.f178.body.getD .skip, Tryz.f178.results.toList, []⟩),
 (179, ⟨Tryz.f179.ntmps, Tryz.f179.body.getD .skip, Tryz.f179.results.toList, []⟩),
 (180, ⟨Tryz.f180.ntmps, Tryz.f180.body.getD .skip, Tryz.f180.results.toList, []⟩),
 (181, ⟨Tryz.f181.ntmps, Tryz.f181.body.getD .skip, Tryz.f181.results.toList, []⟩),
 (182, ⟨Tryz.f182.ntmps, Tryz.f182.body.getD .skip, Tryz.f182.results.toList, []⟩),
 (183, ⟨Tryz.f183.ntmps, Tryz.f183.body.getD .skip, Tryz.f183.results.toList, [(2, [(1, 9), (9, 1), (4, 9), (9, 4)]), (3, [(1, 5), (5, 1)])]⟩),
 (184, ⟨Tryz.f184.ntmps, Tryz.f184.body.getD .skip, Tryz.f184.results.toList, []⟩),
 (185, ⟨Tryz.f185.ntmps, Tryz.f185.body.getD .skip, Tryz.f185.results.toList, []⟩),
 (186, ⟨Tryz.f186.ntmps, Tryz.f186.body.getD .skip, Tryz.f186.results.toList, []⟩),
 (187, ⟨Tryz.f187.ntmps, Tryz.f187.body.getD .skip, Tryz.f187.results.toList, []⟩),
 (188, ⟨Tryz.f188.ntmps, Tryz.f188.body.getD .skip, Tryz.f188.results.toList, []⟩),
 (189, ⟨Tryz.f189.ntmps, Tryz.f189.body.getD .skip, Tryz.f189.results.toList, []⟩),
 (190, ⟨Tryz.f190.ntmps, Tryz.f190.body.getD .skip, Tryz.f190.results.toList, []⟩),
 (191, ⟨Tryz.f191.ntmps, Tryz.f191.body.getD .skip, Tryz.f191.results.toList, []⟩),
 (192, ⟨Tryz.f192.ntmps, Tryz.f192.body.getD .skip, Tryz.f192.results.toList, []⟩),
 (193, ⟨Tryz.f193.ntmps, Tryz.f193.body.getD .skip, Tryz.f193.results.toList, []⟩),
 (194, ⟨Tryz.f194.ntmps, Tryz.f194.body.getD .skip, Tryz.f194.results.toList, []⟩),
 (195, ⟨Tryz.f195.ntmps, Tryz.f195.body.getD .skip, Tryz.f195.results.toList, []⟩),
 (196, ⟨Tryz.f196.ntmps, Tryz.f196.body.getD .skip, Tryz.f196.results.toList, []⟩),
 (197, ⟨Tryz.f197.ntmps, Tryz.f197.body.getD .skip, Tryz.f197.results.toList, []⟩),
 (198, ⟨Tryz.f198.ntmps, Tryz.f198.body.getD .skip, Tryz.f198.results.toList, [(11, [(1, 2), (2, 1)])]⟩),
 (199, ⟨Tryz.f199.ntmps, Tryz.f199.body.getD .skip, Tryz.f199.results.toList, []⟩),
 (200, ⟨Tryz.f200.ntmps, Tryz.f200.body.getD .skip, Tryz.f200.results.toList, [(5, [(2, 9), (9, 2), (4, 9), (9, 4), (8, 9), (9, 8)])]⟩),
 (201, ⟨Tryz.f201.ntmps, Tryz.f201.body.getD .skip, Tryz.f201.results.toList, [(3, [(4, 6), (6, 4)])]⟩),
 (202, ⟨Tryz.f202.ntmps, Tryz.f202.body.getD .skip, Tryz.f202.results.toList, []⟩),
 (203, ⟨Tryz.f203.ntmps, Tryz.f203.body.getD .skip, Tryz.f203.results.toList, []⟩),
 (204, ⟨Tryz.f204.ntmps, Tryz.f204.body.getD .skip, Tryz.f204.results.toList, []⟩),
 (205, ⟨Tryz.f205.ntmps, Tryz.f205.body.getD .skip, Tryz.f205.results.toList, []⟩),
 (206, ⟨Tryz.f206.ntmps, Tryz.f206.body.getD .skip, Tryz.f206.results.toList, []⟩),
 (207, ⟨Tryz.f207.ntmps, Tryz.f207.body.getD .skip, Tryz.f207.results.toList, []⟩),
 (208, ⟨Tryz.f208.ntmps, Tryz.f208.body.getD .skip, Tryz.f208.results.toList, []⟩),
 (209, ⟨Tryz.f209.ntmps, Tryz.f209.body.getD .skip, Tryz.f209.results.toList, []⟩),
 (210, ⟨Tryz.f210.ntmps, Tryz.f210.body.getD .skip, Tryz.f210.results.toList, []⟩),
 (211, ⟨Tryz.f211.ntmps, Tryz.f211.body.getD .skip, Tryz.f211.results.toList, []⟩),
 (212, ⟨Tryz.f212.ntmps, Tryz.f212.body.getD .skip, Tryz.f212.results.toList, []⟩),
 (213, ⟨Tryz.f213.ntmps, Tryz.f213.body.getD .skip, Tryz.f213.results.toList, []⟩),
 (214, ⟨Tryz.f214.ntmps, Tryz.f214.body.getD .skip, Tryz.f214.results.toList, []⟩),
 (215, ⟨Tryz.f215.ntmps, Tryz.f215.body.getD .skip, Tryz.f215.results.toList, []⟩),
 (216, ⟨Tryz.f216.ntmps, Tryz.f216.body.getD .skip, Tryz.f216.results.toList, []⟩),
 (217, ⟨Tryz.f217.ntmps, Tryz.f217.body.getD .skip, Tryz.f217.results.toList, []⟩),
 (218, ⟨Tryz.f218.ntmps, Tryz.f218.body.getD .skip, Tryz.f218.results.toList, []⟩),
 (219, ⟨Tryz.f219.ntmps, Tryz.f219.body.getD .skip, Tryz.f219.results.toList, []⟩),
 (220, ⟨Tryz.f220.ntmps, Tryz.f220.body.getD .skip, Tryz.f220.results.toList, []⟩),
 (222, ⟨Tryz.f222.ntmps, Tryz.f222.body.getD .skip, Tryz.f222.results.toList, []⟩),
 (223, ⟨Tryz.f223.ntmps, Tryz.f223.body.getD .skip, Tryz.f223.results.toList, []⟩),
 (224, ⟨Tryz.f224.ntmps, Tryz.f224.body.getD .skip, Tryz.f224.results.toList, []⟩),
 (225, ⟨Tryz.f225.ntmps, Tryz.f225.body.getD .skip, Tryz.f225.results.toList, []⟩),
 (226, ⟨Tryz.f226.ntmps, Tryz.f226.body.getD .skip, Tryz.f226.results.toList, []⟩),
 (227, ⟨Tryz.f227.ntmps, Tryz.f227.body.getD .skip, Tryz.f227.results.toList, []⟩),
 (228, ⟨Tryz.f228.ntmps, Tryz.f228.body.getD .skip, Tryz.f228.results.toList, []⟩),
 (229, ⟨Tryz.f229.ntmps, Tryz.f229.body.getD .skip, Tryz.f229.results.toList, []⟩),
 (230, ⟨Tryz.f230.ntmps, Tryz.f230.body.getD .skip, Tryz.f230.results.toList, []⟩),
 (231, ⟨Tryz.f231.ntmps, Tryz.f231.body.getD .skip, Tryz.f231.results.toList, []⟩),
 (232, ⟨Tryz.f232.ntmps, Tryz.f232.body.getD .skip, Tryz.f232.results.toList, []⟩),
 (233, ⟨Tryz.f233.ntmps, Tryz.f233.body.getD .skip, Tryz.f233.results.toList, []⟩),
 (234, ⟨Tryz.f234.ntmps, Tryz.f234.body.getD .skip, Tryz.f234.results.toList, []⟩),
 (235, ⟨Tryz.f235.ntmps, Tryz.f235.body.getD .skip, Tryz.f235.results.toList, []⟩),
 (236, ⟨Tryz.f236.ntmps, Tryz.f236.body.getD .skip, Tryz.f236.results.toList, []⟩),
 (237, ⟨Tryz.f237.ntmps, Tryz.f237.body.getD .skip, Tryz.f237.results.toList, []⟩),
 (238, ⟨Tryz.f238.ntmps, Tryz.f238.body.getD .skip, Tryz.f238.results.toList, []⟩),
 (239, ⟨Tryz.f239.ntmps, Tryz.f239.body.getD .skip, Tryz.f239.results.toList, []⟩),
 (240, ⟨Tryz.f240.ntmps, Tryz.f240.body.getD .skip, Tryz.f240.results.toList, []⟩),
 (241, ⟨Tryz.f241.ntmps, Tryz.f241.body.getD .skip, Tryz.f241.results.toList, []⟩),
 (242, ⟨Tryz.f242.ntmps, Tryz.f242.body.getD .skip, Tryz.f242.results.toList, []⟩),
 (243, ⟨Tryz.f243.ntmps, Tryz.f243.body.getD .skip, Tryz.f243.results.toList, []⟩),
 (246, ⟨Tryz.f246.ntmps, Tryz.f246.body.getD .skip, Tryz.f246.results.toList, []⟩),
 (247, ⟨Tryz.f247.ntmps, Tryz.f247.body.getD .skip, Tryz.f247.results.toList, []⟩),
 (249, ⟨Tryz.f249.ntmps, Tryz.f249.body.getD .skip, Tryz.f249.results.toList, []⟩),
 (250, ⟨Tryz.f250.ntmps, Tryz.f250.body.getD .skip, Tryz.f250.results.toList, []⟩),
 (251, ⟨Tryz.f251.ntmps, Tryz.f251.body.getD .skip, Tryz.f251.results.toList, []⟩),
 (252, ⟨Tryz.f252.ntmps, Tryz.f252.body.getD .skip, Tryz.f252.results.toList, []⟩),
 (253, ⟨Tryz.f253.ntmps, Tryz.f253.body.getD .skip, Tryz.f253.results.toList, []⟩),
 (255, ⟨Tryz.f255.ntmps, Tryz.f255.body.getD .skip, Tryz.f255.results.toList, []⟩),
 (256, ⟨Tryz.f256.ntmps, Tryz.f256.body.getD .skip, Tryz.f256.results.toList, []⟩),
 (258, ⟨Tryz.f258.ntmps, Tryz.f258.body.getD .skip, Tryz.f258.results.toList, []⟩),
 (275, ⟨Tryz.f275.ntmps, Tryz.f275.body.getD .skip, Tryz.f275.results.toList, []⟩),
 (276, ⟨Tryz.f276.ntmps, Tryz.f276.body.getD .skip, Tryz.f276.results.toList, []⟩),
 (277, ⟨Tryz.f277.ntmps, Tryz.f277.body.getD .skip, Tryz.f277.results.toList, []⟩),
 (278, ⟨Tryz.f278.ntmps, Tryz.f278.body.getD .skip, Tryz.f278.results.toList, []⟩),
 (279, ⟨Tryz.f279.ntmps, Tryz.f279.body.getD .skip, Tryz.f279.results.toList, []⟩)]
def meths : List (Nat × String × Nat) := [(111, "Bad", 275), (111, "Bool", 276), (111, "Int", 277), (111, "Len", 278), (111, "Text", 279)]
noncomputable def tab : Tab := ⟨tis, fis, [(117, spI)], meths, []⟩
theorem cfok : CfOk Tryz.prog tab.cf := Tab.ok (by kernel_rfl) (TisOk.all (by kernel_rfl)) (FisOk.all (by kernel_rfl)) (MsOk.all (by kernel_rfl))
noncomputable def t0 : List (Nat × TC U) := [(117, ⟨[.ik .i64], [.str], fun (a : Int × Unit) => itoaF a.1⟩)]
noncomputable def base : Den := baseI 117
theorem c0 : Chain Tryz.prog U tab base [] t0 := Chain.itoa rfl (by kernel_rfl) Go.Proofs.Tryz.strconv_Itoa
end Go.AW.M
