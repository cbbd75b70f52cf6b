/- The plain types of package api, how they lie in cells, and rules about their cells. Printed by typed.py. -/
import Derived.Test.YtibiooglhpjojaaGreatDoorA22
set_option linter.unusedSimpArgs false
set_option linter.unusedVariables false
namespace Go.AW

abbrev int (n : Int) : DV := .lit (.int .i64 n)
abbrev str (s : ByteArray) : DV := .lit (.string s)
abbrev bl (b : Bool) : DV := .lit (.bool b)
def ints (l : List Int) : DV := .sl 1 (l.map fun n => [int n])
def strs (l : List ByteArray) : DV := .sl 1 (l.map fun s => [str s])
theorem sub_get {cells : List AV} {off n : Nat} {v : AV} (h : cells[off]? = some v) : sub cells off n false = ⟨True, v⟩ := by
  obtain ⟨h1, h2⟩ := List.getElem?_eq_some_iff.1 h
  simp [sub, h1, h2]
theorem sub_cut {cells vs : List AV} {off n : Nat} (h1 : Nat.ble (off + n) cells.length = true) (h : (cells.drop off).take n = vs) : sub cells off n true = ⟨True, .agg vs⟩ := by
  simp [sub, h, Nat.le_of_ble_eq_true h1]

structure RelT where
  Kind : Int
  Name : ByteArray
def RelT.cells (x : RelT) : List DV := [int x.Kind, str x.Name]
def RelT.row (x : RelT) : List AV := x.cells.map .d
def RelT.av (x : RelT) : AV := .agg x.row
def RelT.sl (l : List RelT) : DV := .sl 2 (l.map RelT.cells)
theorem RelT.B : ((((∀ x : RelT, cellsL x.av = x.row) ∧
    (∀ x : RelT, x.row.all cellish = true)) ∧
    ((∀ x : RelT, x.row.length = 2) ∧
    ((∀ (x : RelT) (o n : Nat) (b : Bool), fieldV (some (o, some (n, b))) x.av = sub x.row o n b) ∧
    (∀ x : RelT, sub x.row 0 2 true = ⟨True, x.av⟩)))) ∧
    (((∀ x y : RelT, splice x.row 0 y.row = y.row) ∧
    (∀ x : RelT, sub x.row 0 1 false = ⟨True, .d (int x.Kind)⟩)) ∧
    ((∀ (x : RelT) (v : Int), splice x.row 0 [.d (int v)] = ({ x with Kind := v } : RelT).row) ∧
    ((∀ x : RelT, sub x.row 1 1 false = ⟨True, .d (str x.Name)⟩) ∧
    (∀ (x : RelT) (v : ByteArray), splice x.row 1 [.d (str v)] = ({ x with Name := v } : RelT).row))))) :=
  ⟨⟨⟨fun _ => rfl, fun _ => rfl⟩, ⟨fun _ => rfl, ⟨fun _ _ _ _ => rfl, fun _ => sub_cut rfl rfl⟩⟩⟩, ⟨⟨fun _ _ => rfl, fun _ => sub_get rfl⟩, ⟨fun _ _ => rfl, ⟨fun _ => sub_get rfl, fun _ _ => rfl⟩⟩⟩⟩

structure ExecT where
  Dash : Bool
  Words : List ByteArray
def ExecT.cells (x : ExecT) : List DV := [bl x.Dash, strs x.Words]
def ExecT.row (x : ExecT) : List AV := x.cells.map .d
def ExecT.av (x : ExecT) : AV := .agg x.row
def ExecT.sl (l : List ExecT) : DV := .sl 2 (l.map ExecT.cells)
theorem ExecT.B : ((((∀ x : ExecT, cellsL x.av = x.row) ∧
    (∀ x : ExecT, x.row.all cellish = true)) ∧
    ((∀ x : ExecT, x.row.length = 2) ∧
    ((∀ (x : ExecT) (o n : Nat) (b : Bool), fieldV (some (o, some (n, b))) x.av = sub x.row o n b) ∧
    (∀ x : ExecT, sub x.row 0 2 true = ⟨True, x.av⟩)))) ∧
    (((∀ x y : ExecT, splice x.row 0 y.row = y.row) ∧
    (∀ x : ExecT, sub x.row 0 1 false = ⟨True, .d (bl x.Dash)⟩)) ∧
    ((∀ (x : ExecT) (v : Bool), splice x.row 0 [.d (bl v)] = ({ x with Dash := v } : ExecT).row) ∧
    ((∀ x : ExecT, sub x.row 1 1 false = ⟨True, .d (strs x.Words)⟩) ∧
    (∀ (x : ExecT) (v : List ByteArray), splice x.row 1 [.d (strs v)] = ({ x with Words := v } : ExecT).row))))) :=
  ⟨⟨⟨fun _ => rfl, fun _ => rfl⟩, ⟨fun _ => rfl, ⟨fun _ _ _ _ => rfl, fun _ => sub_cut rfl rfl⟩⟩⟩, ⟨⟨fun _ _ => rfl, fun _ => sub_get rfl⟩, ⟨fun _ _ => rfl, ⟨fun _ => sub_get rfl, fun _ _ => rfl⟩⟩⟩⟩

structure PairT where
  Name : ByteArray
  Val : ByteArray
def PairT.cells (x : PairT) : List DV := [str x.Name, str x.Val]
def PairT.row (x : PairT) : List AV := x.cells.map .d
def PairT.av (x : PairT) : AV := .agg x.row
def PairT.sl (l : List PairT) : DV := .sl 2 (l.map PairT.cells)
theorem PairT.B : ((((∀ x : PairT, cellsL x.av = x.row) ∧
    (∀ x : PairT, x.row.all cellish = true)) ∧
    ((∀ x : PairT, x.row.length = 2) ∧
    ((∀ (x : PairT) (o n : Nat) (b : Bool), fieldV (some (o, some (n, b))) x.av = sub x.row o n b) ∧
    (∀ x : PairT, sub x.row 0 2 true = ⟨True, x.av⟩)))) ∧
    (((∀ x y : PairT, splice x.row 0 y.row = y.row) ∧
    (∀ x : PairT, sub x.row 0 1 false = ⟨True, .d (str x.Name)⟩)) ∧
    ((∀ (x : PairT) (v : ByteArray), splice x.row 0 [.d (str v)] = ({ x with Name := v } : PairT).row) ∧
    ((∀ x : PairT, sub x.row 1 1 false = ⟨True, .d (str x.Val)⟩) ∧
    (∀ (x : PairT) (v : ByteArray), splice x.row 1 [.d (str v)] = ({ x with Val := v } : PairT).row))))) :=
  ⟨⟨⟨fun _ => rfl, fun _ => rfl⟩, ⟨fun _ => rfl, ⟨fun _ _ _ _ => rfl, fun _ => sub_cut rfl rfl⟩⟩⟩, ⟨⟨fun _ _ => rfl, fun _ => sub_get rfl⟩, ⟨fun _ _ => rfl, ⟨fun _ => sub_get rfl, fun _ _ => rfl⟩⟩⟩⟩

structure UnitT where
  Name : ByteArray
  Kind : Int
  Desc : ByteArray
  Default : Bool
  Rels : List RelT
  Every : Int
  Burst : Int
  Typ : Int
  Pre : List ExecT
  Start : List ExecT
  Post : List ExecT
  Stop : List ExecT
  Reload : List ExecT
  Remain : Bool
  Restart : Int
  Pause : Int
  Up : Int
  Down : Int
  Success : List Int
  Env : List PairT
  Sockets : List ByteArray
  Ports : List Int
  Backlog : Int
  FdName : ByteArray
  Wakes : ByteArray
  Boot : List Int
  Active : List Int
  Idle : List Int
  Calendar : List ByteArray
  Persistent : Bool
  WantedBy : List ByteArray
  RequiredBy : List ByteArray
  Alias : List ByteArray
  Also : List ByteArray
  Instance : ByteArray
def UnitT.cells (x : UnitT) : List DV := [str x.Name, int x.Kind, str x.Desc, bl x.Default, RelT.sl x.Rels, int x.Every, int x.Burst, int x.Typ, ExecT.sl x.Pre, ExecT.sl x.Start, ExecT.sl x.Post, ExecT.sl x.Stop, ExecT.sl x.Reload, bl x.Remain, int x.Restart, int x.Pause, int x.Up, int x.Down, ints x.Success, PairT.sl x.Env, strs x.Sockets, ints x.Ports, int x.Backlog, str x.FdName, str x.Wakes, ints x.Boot, ints x.Active, ints x.Idle, strs x.Calendar, bl x.Persistent, strs x.WantedBy, strs x.RequiredBy, strs x.Alias, strs x.Also, str x.Instance]
def UnitT.row (x : UnitT) : List AV := x.cells.map .d
def UnitT.av (x : UnitT) : AV := .agg x.row
def UnitT.sl (l : List UnitT) : DV := .sl 35 (l.map UnitT.cells)
theorem UnitT.B : (((((((∀ x : UnitT, cellsL x.av = x.row) ∧
    (∀ x : UnitT, x.row.all cellish = true)) ∧
    ((∀ x : UnitT, x.row.length = 35) ∧
    (∀ (x : UnitT) (o n : Nat) (b : Bool), fieldV (some (o, some (n, b))) x.av = sub x.row o n b))) ∧
    (((∀ x : UnitT, sub x.row 0 35 true = ⟨True, x.av⟩) ∧
    (∀ x y : UnitT, splice x.row 0 y.row = y.row)) ∧
    ((∀ x : UnitT, sub x.row 0 1 false = ⟨True, .d (str x.Name)⟩) ∧
    ((∀ (x : UnitT) (v : ByteArray), splice x.row 0 [.d (str v)] = ({ x with Name := v } : UnitT).row) ∧
    (∀ x : UnitT, sub x.row 1 1 false = ⟨True, .d (int x.Kind)⟩))))) ∧
    ((((∀ (x : UnitT) (v : Int), splice x.row 1 [.d (int v)] = ({ x with Kind := v } : UnitT).row) ∧
    (∀ x : UnitT, sub x.row 2 1 false = ⟨True, .d (str x.Desc)⟩)) ∧
    ((∀ (x : UnitT) (v : ByteArray), splice x.row 2 [.d (str v)] = ({ x with Desc := v } : UnitT).row) ∧
    ((∀ x : UnitT, sub x.row 3 1 false = ⟨True, .d (bl x.Default)⟩) ∧
    (∀ (x : UnitT) (v : Bool), splice x.row 3 [.d (bl v)] = ({ x with Default := v } : UnitT).row)))) ∧
    (((∀ x : UnitT, sub x.row 4 1 false = ⟨True, .d (RelT.sl x.Rels)⟩) ∧
    (∀ (x : UnitT) (v : List RelT), splice x.row 4 [.d (RelT.sl v)] = ({ x with Rels := v } : UnitT).row)) ∧
    ((∀ x : UnitT, sub x.row 5 1 false = ⟨True, .d (int x.Every)⟩) ∧
    ((∀ (x : UnitT) (v : Int), splice x.row 5 [.d (int v)] = ({ x with Every := v } : UnitT).row) ∧
    (∀ x : UnitT, sub x.row 6 1 false = ⟨True, .d (int x.Burst)⟩)))))) ∧
    (((((∀ (x : UnitT) (v : Int), splice x.row 6 [.d (int v)] = ({ x with Burst := v } : UnitT).row) ∧
    (∀ x : UnitT, sub x.row 7 1 false = ⟨True, .d (int x.Typ)⟩)) ∧
    ((∀ (x : UnitT) (v : Int), splice x.row 7 [.d (int v)] = ({ x with Typ := v } : UnitT).row) ∧
    (∀ x : UnitT, sub x.row 8 1 false = ⟨True, .d (ExecT.sl x.Pre)⟩))) ∧
    (((∀ (x : UnitT) (v : List ExecT), splice x.row 8 [.d (ExecT.sl v)] = ({ x with Pre := v } : UnitT).row) ∧
    (∀ x : UnitT, sub x.row 9 1 false = ⟨True, .d (ExecT.sl x.Start)⟩)) ∧
    ((∀ (x : UnitT) (v : List ExecT), splice x.row 9 [.d (ExecT.sl v)] = ({ x with Start := v } : UnitT).row) ∧
    ((∀ x : UnitT, sub x.row 10 1 false = ⟨True, .d (ExecT.sl x.Post)⟩) ∧
    (∀ (x : UnitT) (v : List ExecT), splice x.row 10 [.d (ExecT.sl v)] = ({ x with Post := v } : UnitT).row))))) ∧
    ((((∀ x : UnitT, sub x.row 11 1 false = ⟨True, .d (ExecT.sl x.Stop)⟩) ∧
    (∀ (x : UnitT) (v : List ExecT), splice x.row 11 [.d (ExecT.sl v)] = ({ x with Stop := v } : UnitT).row)) ∧
    ((∀ x : UnitT, sub x.row 12 1 false = ⟨True, .d (ExecT.sl x.Reload)⟩) ∧
    ((∀ (x : UnitT) (v : List ExecT), splice x.row 12 [.d (ExecT.sl v)] = ({ x with Reload := v } : UnitT).row) ∧
    (∀ x : UnitT, sub x.row 13 1 false = ⟨True, .d (bl x.Remain)⟩)))) ∧
    (((∀ (x : UnitT) (v : Bool), splice x.row 13 [.d (bl v)] = ({ x with Remain := v } : UnitT).row) ∧
    (∀ x : UnitT, sub x.row 14 1 false = ⟨True, .d (int x.Restart)⟩)) ∧
    ((∀ (x : UnitT) (v : Int), splice x.row 14 [.d (int v)] = ({ x with Restart := v } : UnitT).row) ∧
    ((∀ x : UnitT, sub x.row 15 1 false = ⟨True, .d (int x.Pause)⟩) ∧
    (∀ (x : UnitT) (v : Int), splice x.row 15 [.d (int v)] = ({ x with Pause := v } : UnitT).row))))))) ∧
    ((((((∀ x : UnitT, sub x.row 16 1 false = ⟨True, .d (int x.Up)⟩) ∧
    (∀ (x : UnitT) (v : Int), splice x.row 16 [.d (int v)] = ({ x with Up := v } : UnitT).row)) ∧
    ((∀ x : UnitT, sub x.row 17 1 false = ⟨True, .d (int x.Down)⟩) ∧
    (∀ (x : UnitT) (v : Int), splice x.row 17 [.d (int v)] = ({ x with Down := v } : UnitT).row))) ∧
    (((∀ x : UnitT, sub x.row 18 1 false = ⟨True, .d (ints x.Success)⟩) ∧
    (∀ (x : UnitT) (v : List Int), splice x.row 18 [.d (ints v)] = ({ x with Success := v } : UnitT).row)) ∧
    ((∀ x : UnitT, sub x.row 19 1 false = ⟨True, .d (PairT.sl x.Env)⟩) ∧
    ((∀ (x : UnitT) (v : List PairT), splice x.row 19 [.d (PairT.sl v)] = ({ x with Env := v } : UnitT).row) ∧
    (∀ x : UnitT, sub x.row 20 1 false = ⟨True, .d (strs x.Sockets)⟩))))) ∧
    ((((∀ (x : UnitT) (v : List ByteArray), splice x.row 20 [.d (strs v)] = ({ x with Sockets := v } : UnitT).row) ∧
    (∀ x : UnitT, sub x.row 21 1 false = ⟨True, .d (ints x.Ports)⟩)) ∧
    ((∀ (x : UnitT) (v : List Int), splice x.row 21 [.d (ints v)] = ({ x with Ports := v } : UnitT).row) ∧
    ((∀ x : UnitT, sub x.row 22 1 false = ⟨True, .d (int x.Backlog)⟩) ∧
    (∀ (x : UnitT) (v : Int), splice x.row 22 [.d (int v)] = ({ x with Backlog := v } : UnitT).row)))) ∧
    (((∀ x : UnitT, sub x.row 23 1 false = ⟨True, .d (str x.FdName)⟩) ∧
    (∀ (x : UnitT) (v : ByteArray), splice x.row 23 [.d (str v)] = ({ x with FdName := v } : UnitT).row)) ∧
    ((∀ x : UnitT, sub x.row 24 1 false = ⟨True, .d (str x.Wakes)⟩) ∧
    ((∀ (x : UnitT) (v : ByteArray), splice x.row 24 [.d (str v)] = ({ x with Wakes := v } : UnitT).row) ∧
    (∀ x : UnitT, sub x.row 25 1 false = ⟨True, .d (ints x.Boot)⟩)))))) ∧
    (((((∀ (x : UnitT) (v : List Int), splice x.row 25 [.d (ints v)] = ({ x with Boot := v } : UnitT).row) ∧
    (∀ x : UnitT, sub x.row 26 1 false = ⟨True, .d (ints x.Active)⟩)) ∧
    ((∀ (x : UnitT) (v : List Int), splice x.row 26 [.d (ints v)] = ({ x with Active := v } : UnitT).row) ∧
    (∀ x : UnitT, sub x.row 27 1 false = ⟨True, .d (ints x.Idle)⟩))) ∧
    (((∀ (x : UnitT) (v : List Int), splice x.row 27 [.d (ints v)] = ({ x with Idle := v } : UnitT).row) ∧
    (∀ x : UnitT, sub x.row 28 1 false = ⟨True, .d (strs x.Calendar)⟩)) ∧
    ((∀ (x : UnitT) (v : List ByteArray), splice x.row 28 [.d (strs v)] = ({ x with Calendar := v } : UnitT).row) ∧
    ((∀ x : UnitT, sub x.row 29 1 false = ⟨True, .d (bl x.Persistent)⟩) ∧
    (∀ (x : UnitT) (v : Bool), splice x.row 29 [.d (bl v)] = ({ x with Persistent := v } : UnitT).row))))) ∧
    ((((∀ x : UnitT, sub x.row 30 1 false = ⟨True, .d (strs x.WantedBy)⟩) ∧
    (∀ (x : UnitT) (v : List ByteArray), splice x.row 30 [.d (strs v)] = ({ x with WantedBy := v } : UnitT).row)) ∧
    ((∀ x : UnitT, sub x.row 31 1 false = ⟨True, .d (strs x.RequiredBy)⟩) ∧
    ((∀ (x : UnitT) (v : List ByteArray), splice x.row 31 [.d (strs v)] = ({ x with RequiredBy := v } : UnitT).row) ∧
    (∀ x : UnitT, sub x.row 32 1 false = ⟨True, .d (strs x.Alias)⟩)))) ∧
    (((∀ (x : UnitT) (v : List ByteArray), splice x.row 32 [.d (strs v)] = ({ x with Alias := v } : UnitT).row) ∧
    (∀ x : UnitT, sub x.row 33 1 false = ⟨True, .d (strs x.Also)⟩)) ∧
    ((∀ (x : UnitT) (v : List ByteArray), splice x.row 33 [.d (strs v)] = ({ x with Also := v } : UnitT).row) ∧
    ((∀ x : UnitT, sub x.row 34 1 false = ⟨True, .d (str x.Instance)⟩) ∧
    (∀ (x : UnitT) (v : ByteArray), splice x.row 34 [.d (str v)] = ({ x with Instance := v } : UnitT).row)))))))) :=
  ⟨⟨⟨⟨⟨⟨fun _ => rfl, fun _ => rfl⟩, ⟨fun _ => rfl, fun _ _ _ _ => rfl⟩⟩, ⟨⟨fun _ => sub_cut rfl rfl, fun _ _ => rfl⟩, ⟨fun _ => sub_get rfl, ⟨fun _ _ => rfl, fun _ => sub_get rfl⟩⟩⟩⟩, ⟨⟨⟨fun _ _ => rfl, fun _ => sub_get rfl⟩, ⟨fun _ _ => rfl, ⟨fun _ => sub_get rfl, fun _ _ => rfl⟩⟩⟩, ⟨⟨fun _ => sub_get rfl, fun _ _ => rfl⟩, ⟨fun _ => sub_get rfl, ⟨fun _ _ => rfl, fun _ => sub_get rfl⟩⟩⟩⟩⟩, ⟨⟨⟨⟨fun _ _ => rfl, fun _ => sub_get rfl⟩, ⟨fun _ _ => rfl, fun _ => sub_get rfl⟩⟩, ⟨⟨fun _ _ => rfl, fun _ => sub_get rfl⟩, ⟨fun _ _ => rfl, ⟨fun _ => sub_get rfl, fun _ _ => rfl⟩⟩⟩⟩, ⟨⟨⟨fun _ => sub_get rfl, fun _ _ => rfl⟩, ⟨fun _ => sub_get rfl, ⟨fun _ _ => rfl, fun _ => sub_get rfl⟩⟩⟩, ⟨⟨fun _ _ => rfl, fun _ => sub_get rfl⟩, ⟨fun _ _ => rfl, ⟨fun _ => sub_get rfl, fun _ _ => rfl⟩⟩⟩⟩⟩⟩, ⟨⟨⟨⟨⟨fun _ => sub_get rfl, fun _ _ => rfl⟩, ⟨fun _ => sub_get rfl, fun _ _ => rfl⟩⟩, ⟨⟨fun _ => sub_get rfl, fun _ _ => rfl⟩, ⟨fun _ => sub_get rfl, ⟨fun _ _ => rfl, fun _ => sub_get rfl⟩⟩⟩⟩, ⟨⟨⟨fun _ _ => rfl, fun _ => sub_get rfl⟩, ⟨fun _ _ => rfl, ⟨fun _ => sub_get rfl, fun _ _ => rfl⟩⟩⟩, ⟨⟨fun _ => sub_get rfl, fun _ _ => rfl⟩, ⟨fun _ => sub_get rfl, ⟨fun _ _ => rfl, fun _ => sub_get rfl⟩⟩⟩⟩⟩, ⟨⟨⟨⟨fun _ _ => rfl, fun _ => sub_get rfl⟩, ⟨fun _ _ => rfl, fun _ => sub_get rfl⟩⟩, ⟨⟨fun _ _ => rfl, fun _ => sub_get rfl⟩, ⟨fun _ _ => rfl, ⟨fun _ => sub_get rfl, fun _ _ => rfl⟩⟩⟩⟩, ⟨⟨⟨fun _ => sub_get rfl, fun _ _ => rfl⟩, ⟨fun _ => sub_get rfl, ⟨fun _ _ => rfl, fun _ => sub_get rfl⟩⟩⟩, ⟨⟨fun _ _ => rfl, fun _ => sub_get rfl⟩, ⟨fun _ _ => rfl, ⟨fun _ => sub_get rfl, fun _ _ => rfl⟩⟩⟩⟩⟩⟩⟩

structure RunT where
  Part : Int
  Num : Int
  Begun : Int
  Told : Int
  Said : Int
  Ready : Bool
def RunT.cells (x : RunT) : List DV := [int x.Part, int x.Num, int x.Begun, int x.Told, int x.Said, bl x.Ready]
def RunT.row (x : RunT) : List AV := x.cells.map .d
def RunT.av (x : RunT) : AV := .agg x.row
def RunT.sl (l : List RunT) : DV := .sl 6 (l.map RunT.cells)
theorem RunT.B : (((((∀ x : RunT, cellsL x.av = x.row) ∧
    (∀ x : RunT, x.row.all cellish = true)) ∧
    ((∀ x : RunT, x.row.length = 6) ∧
    (∀ (x : RunT) (o n : Nat) (b : Bool), fieldV (some (o, some (n, b))) x.av = sub x.row o n b))) ∧
    (((∀ x : RunT, sub x.row 0 6 true = ⟨True, x.av⟩) ∧
    (∀ x y : RunT, splice x.row 0 y.row = y.row)) ∧
    ((∀ x : RunT, sub x.row 0 1 false = ⟨True, .d (int x.Part)⟩) ∧
    ((∀ (x : RunT) (v : Int), splice x.row 0 [.d (int v)] = ({ x with Part := v } : RunT).row) ∧
    (∀ x : RunT, sub x.row 1 1 false = ⟨True, .d (int x.Num)⟩))))) ∧
    ((((∀ (x : RunT) (v : Int), splice x.row 1 [.d (int v)] = ({ x with Num := v } : RunT).row) ∧
    (∀ x : RunT, sub x.row 2 1 false = ⟨True, .d (int x.Begun)⟩)) ∧
    ((∀ (x : RunT) (v : Int), splice x.row 2 [.d (int v)] = ({ x with Begun := v } : RunT).row) ∧
    (∀ x : RunT, sub x.row 3 1 false = ⟨True, .d (int x.Told)⟩))) ∧
    (((∀ (x : RunT) (v : Int), splice x.row 3 [.d (int v)] = ({ x with Told := v } : RunT).row) ∧
    (∀ x : RunT, sub x.row 4 1 false = ⟨True, .d (int x.Said)⟩)) ∧
    ((∀ (x : RunT) (v : Int), splice x.row 4 [.d (int v)] = ({ x with Said := v } : RunT).row) ∧
    ((∀ x : RunT, sub x.row 5 1 false = ⟨True, .d (bl x.Ready)⟩) ∧
    (∀ (x : RunT) (v : Bool), splice x.row 5 [.d (bl v)] = ({ x with Ready := v } : RunT).row)))))) :=
  ⟨⟨⟨⟨fun _ => rfl, fun _ => rfl⟩, ⟨fun _ => rfl, fun _ _ _ _ => rfl⟩⟩, ⟨⟨fun _ => sub_cut rfl rfl, fun _ _ => rfl⟩, ⟨fun _ => sub_get rfl, ⟨fun _ _ => rfl, fun _ => sub_get rfl⟩⟩⟩⟩, ⟨⟨⟨fun _ _ => rfl, fun _ => sub_get rfl⟩, ⟨fun _ _ => rfl, fun _ => sub_get rfl⟩⟩, ⟨⟨fun _ _ => rfl, fun _ => sub_get rfl⟩, ⟨fun _ _ => rfl, ⟨fun _ => sub_get rfl, fun _ _ => rfl⟩⟩⟩⟩⟩

structure ConnT where
  Socket : ByteArray
  Num : Int
  Tries : Int
  Takes : Int
  Until : Int
def ConnT.cells (x : ConnT) : List DV := [str x.Socket, int x.Num, int x.Tries, int x.Takes, int x.Until]
def ConnT.row (x : ConnT) : List AV := x.cells.map .d
def ConnT.av (x : ConnT) : AV := .agg x.row
def ConnT.sl (l : List ConnT) : DV := .sl 5 (l.map ConnT.cells)
theorem ConnT.B : (((((∀ x : ConnT, cellsL x.av = x.row) ∧
    (∀ x : ConnT, x.row.all cellish = true)) ∧
    ((∀ x : ConnT, x.row.length = 5) ∧
    (∀ (x : ConnT) (o n : Nat) (b : Bool), fieldV (some (o, some (n, b))) x.av = sub x.row o n b))) ∧
    (((∀ x : ConnT, sub x.row 0 5 true = ⟨True, x.av⟩) ∧
    (∀ x y : ConnT, splice x.row 0 y.row = y.row)) ∧
    ((∀ x : ConnT, sub x.row 0 1 false = ⟨True, .d (str x.Socket)⟩) ∧
    (∀ (x : ConnT) (v : ByteArray), splice x.row 0 [.d (str v)] = ({ x with Socket := v } : ConnT).row)))) ∧
    ((((∀ x : ConnT, sub x.row 1 1 false = ⟨True, .d (int x.Num)⟩) ∧
    (∀ (x : ConnT) (v : Int), splice x.row 1 [.d (int v)] = ({ x with Num := v } : ConnT).row)) ∧
    ((∀ x : ConnT, sub x.row 2 1 false = ⟨True, .d (int x.Tries)⟩) ∧
    (∀ (x : ConnT) (v : Int), splice x.row 2 [.d (int v)] = ({ x with Tries := v } : ConnT).row))) ∧
    (((∀ x : ConnT, sub x.row 3 1 false = ⟨True, .d (int x.Takes)⟩) ∧
    (∀ (x : ConnT) (v : Int), splice x.row 3 [.d (int v)] = ({ x with Takes := v } : ConnT).row)) ∧
    ((∀ x : ConnT, sub x.row 4 1 false = ⟨True, .d (int x.Until)⟩) ∧
    (∀ (x : ConnT) (v : Int), splice x.row 4 [.d (int v)] = ({ x with Until := v } : ConnT).row))))) :=
  ⟨⟨⟨⟨fun _ => rfl, fun _ => rfl⟩, ⟨fun _ => rfl, fun _ _ _ _ => rfl⟩⟩, ⟨⟨fun _ => sub_cut rfl rfl, fun _ _ => rfl⟩, ⟨fun _ => sub_get rfl, fun _ _ => rfl⟩⟩⟩, ⟨⟨⟨fun _ => sub_get rfl, fun _ _ => rfl⟩, ⟨fun _ => sub_get rfl, fun _ _ => rfl⟩⟩, ⟨⟨fun _ => sub_get rfl, fun _ _ => rfl⟩, ⟨fun _ => sub_get rfl, fun _ _ => rfl⟩⟩⟩⟩

structure CellT where
  U : UnitT
  State : Int
  Since : Int
  Attempt : Int
  Begins : List Int
  Result : Int
  Main : RunT
  Aux : RunT
  Over : Int
  Wish : Bool
  Bad : Bool
  Serves : List ConnT
  Waits : List ConnT
  Seen : Int
  Num : Int
  Last : Int
  Next : Int
  Rows : Int
def CellT.cells (x : CellT) : List DV := x.U.cells ++ ([int x.State, int x.Since, int x.Attempt, ints x.Begins, int x.Result] ++ (x.Main.cells ++ (x.Aux.cells ++ ([int x.Over, bl x.Wish, bl x.Bad, ConnT.sl x.Serves, ConnT.sl x.Waits, int x.Seen, int x.Num, int x.Last, int x.Next, int x.Rows]))))
def CellT.row (x : CellT) : List AV := x.cells.map .d
def CellT.av (x : CellT) : AV := .agg x.row
def CellT.sl (l : List CellT) : DV := .sl 62 (l.map CellT.cells)
theorem CellT.B : ((((((((∀ x : CellT, cellsL x.av = x.row) ∧
    (∀ x : CellT, x.row.all cellish = true)) ∧
    ((∀ x : CellT, x.row.length = 62) ∧
    (∀ (x : CellT) (o n : Nat) (b : Bool), fieldV (some (o, some (n, b))) x.av = sub x.row o n b))) ∧
    (((∀ x : CellT, sub x.row 0 62 true = ⟨True, x.av⟩) ∧
    (∀ x y : CellT, splice x.row 0 y.row = y.row)) ∧
    ((∀ x : CellT, sub x.row 0 1 false = ⟨True, .d (str x.U.Name)⟩) ∧
    (∀ (x : CellT) (v : ByteArray), splice x.row 0 [.d (str v)] = ({ x with U := { x.U with Name := v } } : CellT).row)))) ∧
    ((((∀ x : CellT, sub x.row 1 1 false = ⟨True, .d (int x.U.Kind)⟩) ∧
    (∀ (x : CellT) (v : Int), splice x.row 1 [.d (int v)] = ({ x with U := { x.U with Kind := v } } : CellT).row)) ∧
    ((∀ x : CellT, sub x.row 2 1 false = ⟨True, .d (str x.U.Desc)⟩) ∧
    (∀ (x : CellT) (v : ByteArray), splice x.row 2 [.d (str v)] = ({ x with U := { x.U with Desc := v } } : CellT).row))) ∧
    (((∀ x : CellT, sub x.row 3 1 false = ⟨True, .d (bl x.U.Default)⟩) ∧
    (∀ (x : CellT) (v : Bool), splice x.row 3 [.d (bl v)] = ({ x with U := { x.U with Default := v } } : CellT).row)) ∧
    ((∀ x : CellT, sub x.row 4 1 false = ⟨True, .d (RelT.sl x.U.Rels)⟩) ∧
    ((∀ (x : CellT) (v : List RelT), splice x.row 4 [.d (RelT.sl v)] = ({ x with U := { x.U with Rels := v } } : CellT).row) ∧
    (∀ x : CellT, sub x.row 5 1 false = ⟨True, .d (int x.U.Every)⟩)))))) ∧
    (((((∀ (x : CellT) (v : Int), splice x.row 5 [.d (int v)] = ({ x with U := { x.U with Every := v } } : CellT).row) ∧
    (∀ x : CellT, sub x.row 6 1 false = ⟨True, .d (int x.U.Burst)⟩)) ∧
    ((∀ (x : CellT) (v : Int), splice x.row 6 [.d (int v)] = ({ x with U := { x.U with Burst := v } } : CellT).row) ∧
    (∀ x : CellT, sub x.row 7 1 false = ⟨True, .d (int x.U.Typ)⟩))) ∧
    (((∀ (x : CellT) (v : Int), splice x.row 7 [.d (int v)] = ({ x with U := { x.U with Typ := v } } : CellT).row) ∧
    (∀ x : CellT, sub x.row 8 1 false = ⟨True, .d (ExecT.sl x.U.Pre)⟩)) ∧
    ((∀ (x : CellT) (v : List ExecT), splice x.row 8 [.d (ExecT.sl v)] = ({ x with U := { x.U with Pre := v } } : CellT).row) ∧
    (∀ x : CellT, sub x.row 9 1 false = ⟨True, .d (ExecT.sl x.U.Start)⟩)))) ∧
    ((((∀ (x : CellT) (v : List ExecT), splice x.row 9 [.d (ExecT.sl v)] = ({ x with U := { x.U with Start := v } } : CellT).row) ∧
    (∀ x : CellT, sub x.row 10 1 false = ⟨True, .d (ExecT.sl x.U.Post)⟩)) ∧
    ((∀ (x : CellT) (v : List ExecT), splice x.row 10 [.d (ExecT.sl v)] = ({ x with U := { x.U with Post := v } } : CellT).row) ∧
    (∀ x : CellT, sub x.row 11 1 false = ⟨True, .d (ExecT.sl x.U.Stop)⟩))) ∧
    (((∀ (x : CellT) (v : List ExecT), splice x.row 11 [.d (ExecT.sl v)] = ({ x with U := { x.U with Stop := v } } : CellT).row) ∧
    (∀ x : CellT, sub x.row 12 1 false = ⟨True, .d (ExecT.sl x.U.Reload)⟩)) ∧
    ((∀ (x : CellT) (v : List ExecT), splice x.row 12 [.d (ExecT.sl v)] = ({ x with U := { x.U with Reload := v } } : CellT).row) ∧
    ((∀ x : CellT, sub x.row 13 1 false = ⟨True, .d (bl x.U.Remain)⟩) ∧
    (∀ (x : CellT) (v : Bool), splice x.row 13 [.d (bl v)] = ({ x with U := { x.U with Remain := v } } : CellT).row))))))) ∧
    ((((((∀ x : CellT, sub x.row 14 1 false = ⟨True, .d (int x.U.Restart)⟩) ∧
    (∀ (x : CellT) (v : Int), splice x.row 14 [.d (int v)] = ({ x with U := { x.U with Restart := v } } : CellT).row)) ∧
    ((∀ x : CellT, sub x.row 15 1 false = ⟨True, .d (int x.U.Pause)⟩) ∧
    (∀ (x : CellT) (v : Int), splice x.row 15 [.d (int v)] = ({ x with U := { x.U with Pause := v } } : CellT).row))) ∧
    (((∀ x : CellT, sub x.row 16 1 false = ⟨True, .d (int x.U.Up)⟩) ∧
    (∀ (x : CellT) (v : Int), splice x.row 16 [.d (int v)] = ({ x with U := { x.U with Up := v } } : CellT).row)) ∧
    ((∀ x : CellT, sub x.row 17 1 false = ⟨True, .d (int x.U.Down)⟩) ∧
    (∀ (x : CellT) (v : Int), splice x.row 17 [.d (int v)] = ({ x with U := { x.U with Down := v } } : CellT).row)))) ∧
    ((((∀ x : CellT, sub x.row 18 1 false = ⟨True, .d (ints x.U.Success)⟩) ∧
    (∀ (x : CellT) (v : List Int), splice x.row 18 [.d (ints v)] = ({ x with U := { x.U with Success := v } } : CellT).row)) ∧
    ((∀ x : CellT, sub x.row 19 1 false = ⟨True, .d (PairT.sl x.U.Env)⟩) ∧
    (∀ (x : CellT) (v : List PairT), splice x.row 19 [.d (PairT.sl v)] = ({ x with U := { x.U with Env := v } } : CellT).row))) ∧
    (((∀ x : CellT, sub x.row 20 1 false = ⟨True, .d (strs x.U.Sockets)⟩) ∧
    (∀ (x : CellT) (v : List ByteArray), splice x.row 20 [.d (strs v)] = ({ x with U := { x.U with Sockets := v } } : CellT).row)) ∧
    ((∀ x : CellT, sub x.row 21 1 false = ⟨True, .d (ints x.U.Ports)⟩) ∧
    ((∀ (x : CellT) (v : List Int), splice x.row 21 [.d (ints v)] = ({ x with U := { x.U with Ports := v } } : CellT).row) ∧
    (∀ x : CellT, sub x.row 22 1 false = ⟨True, .d (int x.U.Backlog)⟩)))))) ∧
    (((((∀ (x : CellT) (v : Int), splice x.row 22 [.d (int v)] = ({ x with U := { x.U with Backlog := v } } : CellT).row) ∧
    (∀ x : CellT, sub x.row 23 1 false = ⟨True, .d (str x.U.FdName)⟩)) ∧
    ((∀ (x : CellT) (v : ByteArray), splice x.row 23 [.d (str v)] = ({ x with U := { x.U with FdName := v } } : CellT).row) ∧
    (∀ x : CellT, sub x.row 24 1 false = ⟨True, .d (str x.U.Wakes)⟩))) ∧
    (((∀ (x : CellT) (v : ByteArray), splice x.row 24 [.d (str v)] = ({ x with U := { x.U with Wakes := v } } : CellT).row) ∧
    (∀ x : CellT, sub x.row 25 1 false = ⟨True, .d (ints x.U.Boot)⟩)) ∧
    ((∀ (x : CellT) (v : List Int), splice x.row 25 [.d (ints v)] = ({ x with U := { x.U with Boot := v } } : CellT).row) ∧
    (∀ x : CellT, sub x.row 26 1 false = ⟨True, .d (ints x.U.Active)⟩)))) ∧
    ((((∀ (x : CellT) (v : List Int), splice x.row 26 [.d (ints v)] = ({ x with U := { x.U with Active := v } } : CellT).row) ∧
    (∀ x : CellT, sub x.row 27 1 false = ⟨True, .d (ints x.U.Idle)⟩)) ∧
    ((∀ (x : CellT) (v : List Int), splice x.row 27 [.d (ints v)] = ({ x with U := { x.U with Idle := v } } : CellT).row) ∧
    (∀ x : CellT, sub x.row 28 1 false = ⟨True, .d (strs x.U.Calendar)⟩))) ∧
    (((∀ (x : CellT) (v : List ByteArray), splice x.row 28 [.d (strs v)] = ({ x with U := { x.U with Calendar := v } } : CellT).row) ∧
    (∀ x : CellT, sub x.row 29 1 false = ⟨True, .d (bl x.U.Persistent)⟩)) ∧
    ((∀ (x : CellT) (v : Bool), splice x.row 29 [.d (bl v)] = ({ x with U := { x.U with Persistent := v } } : CellT).row) ∧
    ((∀ x : CellT, sub x.row 30 1 false = ⟨True, .d (strs x.U.WantedBy)⟩) ∧
    (∀ (x : CellT) (v : List ByteArray), splice x.row 30 [.d (strs v)] = ({ x with U := { x.U with WantedBy := v } } : CellT).row)))))))) ∧
    (((((((∀ x : CellT, sub x.row 31 1 false = ⟨True, .d (strs x.U.RequiredBy)⟩) ∧
    (∀ (x : CellT) (v : List ByteArray), splice x.row 31 [.d (strs v)] = ({ x with U := { x.U with RequiredBy := v } } : CellT).row)) ∧
    ((∀ x : CellT, sub x.row 32 1 false = ⟨True, .d (strs x.U.Alias)⟩) ∧
    (∀ (x : CellT) (v : List ByteArray), splice x.row 32 [.d (strs v)] = ({ x with U := { x.U with Alias := v } } : CellT).row))) ∧
    (((∀ x : CellT, sub x.row 33 1 false = ⟨True, .d (strs x.U.Also)⟩) ∧
    (∀ (x : CellT) (v : List ByteArray), splice x.row 33 [.d (strs v)] = ({ x with U := { x.U with Also := v } } : CellT).row)) ∧
    ((∀ x : CellT, sub x.row 34 1 false = ⟨True, .d (str x.U.Instance)⟩) ∧
    (∀ (x : CellT) (v : ByteArray), splice x.row 34 [.d (str v)] = ({ x with U := { x.U with Instance := v } } : CellT).row)))) ∧
    ((((∀ x : CellT, sub x.row 35 1 false = ⟨True, .d (int x.State)⟩) ∧
    (∀ (x : CellT) (v : Int), splice x.row 35 [.d (int v)] = ({ x with State := v } : CellT).row)) ∧
    ((∀ x : CellT, sub x.row 36 1 false = ⟨True, .d (int x.Since)⟩) ∧
    (∀ (x : CellT) (v : Int), splice x.row 36 [.d (int v)] = ({ x with Since := v } : CellT).row))) ∧
    (((∀ x : CellT, sub x.row 37 1 false = ⟨True, .d (int x.Attempt)⟩) ∧
    (∀ (x : CellT) (v : Int), splice x.row 37 [.d (int v)] = ({ x with Attempt := v } : CellT).row)) ∧
    ((∀ x : CellT, sub x.row 38 1 false = ⟨True, .d (ints x.Begins)⟩) ∧
    ((∀ (x : CellT) (v : List Int), splice x.row 38 [.d (ints v)] = ({ x with Begins := v } : CellT).row) ∧
    (∀ x : CellT, sub x.row 39 1 false = ⟨True, .d (int x.Result)⟩)))))) ∧
    (((((∀ (x : CellT) (v : Int), splice x.row 39 [.d (int v)] = ({ x with Result := v } : CellT).row) ∧
    (∀ x : CellT, sub x.row 40 1 false = ⟨True, .d (int x.Main.Part)⟩)) ∧
    ((∀ (x : CellT) (v : Int), splice x.row 40 [.d (int v)] = ({ x with Main := { x.Main with Part := v } } : CellT).row) ∧
    (∀ x : CellT, sub x.row 41 1 false = ⟨True, .d (int x.Main.Num)⟩))) ∧
    (((∀ (x : CellT) (v : Int), splice x.row 41 [.d (int v)] = ({ x with Main := { x.Main with Num := v } } : CellT).row) ∧
    (∀ x : CellT, sub x.row 42 1 false = ⟨True, .d (int x.Main.Begun)⟩)) ∧
    ((∀ (x : CellT) (v : Int), splice x.row 42 [.d (int v)] = ({ x with Main := { x.Main with Begun := v } } : CellT).row) ∧
    (∀ x : CellT, sub x.row 43 1 false = ⟨True, .d (int x.Main.Told)⟩)))) ∧
    ((((∀ (x : CellT) (v : Int), splice x.row 43 [.d (int v)] = ({ x with Main := { x.Main with Told := v } } : CellT).row) ∧
    (∀ x : CellT, sub x.row 44 1 false = ⟨True, .d (int x.Main.Said)⟩)) ∧
    ((∀ (x : CellT) (v : Int), splice x.row 44 [.d (int v)] = ({ x with Main := { x.Main with Said := v } } : CellT).row) ∧
    (∀ x : CellT, sub x.row 45 1 false = ⟨True, .d (bl x.Main.Ready)⟩))) ∧
    (((∀ (x : CellT) (v : Bool), splice x.row 45 [.d (bl v)] = ({ x with Main := { x.Main with Ready := v } } : CellT).row) ∧
    (∀ x : CellT, sub x.row 46 1 false = ⟨True, .d (int x.Aux.Part)⟩)) ∧
    ((∀ (x : CellT) (v : Int), splice x.row 46 [.d (int v)] = ({ x with Aux := { x.Aux with Part := v } } : CellT).row) ∧
    ((∀ x : CellT, sub x.row 47 1 false = ⟨True, .d (int x.Aux.Num)⟩) ∧
    (∀ (x : CellT) (v : Int), splice x.row 47 [.d (int v)] = ({ x with Aux := { x.Aux with Num := v } } : CellT).row))))))) ∧
    ((((((∀ x : CellT, sub x.row 48 1 false = ⟨True, .d (int x.Aux.Begun)⟩) ∧
    (∀ (x : CellT) (v : Int), splice x.row 48 [.d (int v)] = ({ x with Aux := { x.Aux with Begun := v } } : CellT).row)) ∧
    ((∀ x : CellT, sub x.row 49 1 false = ⟨True, .d (int x.Aux.Told)⟩) ∧
    (∀ (x : CellT) (v : Int), splice x.row 49 [.d (int v)] = ({ x with Aux := { x.Aux with Told := v } } : CellT).row))) ∧
    (((∀ x : CellT, sub x.row 50 1 false = ⟨True, .d (int x.Aux.Said)⟩) ∧
    (∀ (x : CellT) (v : Int), splice x.row 50 [.d (int v)] = ({ x with Aux := { x.Aux with Said := v } } : CellT).row)) ∧
    ((∀ x : CellT, sub x.row 51 1 false = ⟨True, .d (bl x.Aux.Ready)⟩) ∧
    (∀ (x : CellT) (v : Bool), splice x.row 51 [.d (bl v)] = ({ x with Aux := { x.Aux with Ready := v } } : CellT).row)))) ∧
    ((((∀ x : CellT, sub x.row 52 1 false = ⟨True, .d (int x.Over)⟩) ∧
    (∀ (x : CellT) (v : Int), splice x.row 52 [.d (int v)] = ({ x with Over := v } : CellT).row)) ∧
    ((∀ x : CellT, sub x.row 53 1 false = ⟨True, .d (bl x.Wish)⟩) ∧
    (∀ (x : CellT) (v : Bool), splice x.row 53 [.d (bl v)] = ({ x with Wish := v } : CellT).row))) ∧
    (((∀ x : CellT, sub x.row 54 1 false = ⟨True, .d (bl x.Bad)⟩) ∧
    (∀ (x : CellT) (v : Bool), splice x.row 54 [.d (bl v)] = ({ x with Bad := v } : CellT).row)) ∧
    ((∀ x : CellT, sub x.row 55 1 false = ⟨True, .d (ConnT.sl x.Serves)⟩) ∧
    ((∀ (x : CellT) (v : List ConnT), splice x.row 55 [.d (ConnT.sl v)] = ({ x with Serves := v } : CellT).row) ∧
    (∀ x : CellT, sub x.row 56 1 false = ⟨True, .d (ConnT.sl x.Waits)⟩)))))) ∧
    (((((∀ (x : CellT) (v : List ConnT), splice x.row 56 [.d (ConnT.sl v)] = ({ x with Waits := v } : CellT).row) ∧
    (∀ x : CellT, sub x.row 57 1 false = ⟨True, .d (int x.Seen)⟩)) ∧
    ((∀ (x : CellT) (v : Int), splice x.row 57 [.d (int v)] = ({ x with Seen := v } : CellT).row) ∧
    (∀ x : CellT, sub x.row 58 1 false = ⟨True, .d (int x.Num)⟩))) ∧
    (((∀ (x : CellT) (v : Int), splice x.row 58 [.d (int v)] = ({ x with Num := v } : CellT).row) ∧
    (∀ x : CellT, sub x.row 59 1 false = ⟨True, .d (int x.Last)⟩)) ∧
    ((∀ (x : CellT) (v : Int), splice x.row 59 [.d (int v)] = ({ x with Last := v } : CellT).row) ∧
    (∀ x : CellT, sub x.row 60 1 false = ⟨True, .d (int x.Next)⟩)))) ∧
    ((((∀ (x : CellT) (v : Int), splice x.row 60 [.d (int v)] = ({ x with Next := v } : CellT).row) ∧
    (∀ x : CellT, sub x.row 61 1 false = ⟨True, .d (int x.Rows)⟩)) ∧
    ((∀ (x : CellT) (v : Int), splice x.row 61 [.d (int v)] = ({ x with Rows := v } : CellT).row) ∧
    (∀ x : CellT, sub x.row 0 35 true = ⟨True, x.U.av⟩))) ∧
    (((∀ (x : CellT) (v : UnitT), splice x.row 0 v.row = ({ x with U := v } : CellT).row) ∧
    (∀ x : CellT, sub x.row 40 6 true = ⟨True, x.Main.av⟩)) ∧
    ((∀ (x : CellT) (v : RunT), splice x.row 40 v.row = ({ x with Main := v } : CellT).row) ∧
    ((∀ x : CellT, sub x.row 46 6 true = ⟨True, x.Aux.av⟩) ∧
    (∀ (x : CellT) (v : RunT), splice x.row 46 v.row = ({ x with Aux := v } : CellT).row))))))))) :=
  ⟨⟨⟨⟨⟨⟨⟨fun _ => rfl, fun _ => rfl⟩, ⟨fun _ => rfl, fun _ _ _ _ => rfl⟩⟩, ⟨⟨fun _ => sub_cut rfl rfl, fun _ _ => rfl⟩, ⟨fun _ => sub_get rfl, fun _ _ => rfl⟩⟩⟩, ⟨⟨⟨fun _ => sub_get rfl, fun _ _ => rfl⟩, ⟨fun _ => sub_get rfl, fun _ _ => rfl⟩⟩, ⟨⟨fun _ => sub_get rfl, fun _ _ => rfl⟩, ⟨fun _ => sub_get rfl, ⟨fun _ _ => rfl, fun _ => sub_get rfl⟩⟩⟩⟩⟩, ⟨⟨⟨⟨fun _ _ => rfl, fun _ => sub_get rfl⟩, ⟨fun _ _ => rfl, fun _ => sub_get rfl⟩⟩, ⟨⟨fun _ _ => rfl, fun _ => sub_get rfl⟩, ⟨fun _ _ => rfl, fun _ => sub_get rfl⟩⟩⟩, ⟨⟨⟨fun _ _ => rfl, fun _ => sub_get rfl⟩, ⟨fun _ _ => rfl, fun _ => sub_get rfl⟩⟩, ⟨⟨fun _ _ => rfl, fun _ => sub_get rfl⟩, ⟨fun _ _ => rfl, ⟨fun _ => sub_get rfl, fun _ _ => rfl⟩⟩⟩⟩⟩⟩, ⟨⟨⟨⟨⟨fun _ => sub_get rfl, fun _ _ => rfl⟩, ⟨fun _ => sub_get rfl, fun _ _ => rfl⟩⟩, ⟨⟨fun _ => sub_get rfl, fun _ _ => rfl⟩, ⟨fun _ => sub_get rfl, fun _ _ => rfl⟩⟩⟩, ⟨⟨⟨fun _ => sub_get rfl, fun _ _ => rfl⟩, ⟨fun _ => sub_get rfl, fun _ _ => rfl⟩⟩, ⟨⟨fun _ => sub_get rfl, fun _ _ => rfl⟩, ⟨fun _ => sub_get rfl, ⟨fun _ _ => rfl, fun _ => sub_get rfl⟩⟩⟩⟩⟩, ⟨⟨⟨⟨fun _ _ => rfl, fun _ => sub_get rfl⟩, ⟨fun _ _ => rfl, fun _ => sub_get rfl⟩⟩, ⟨⟨fun _ _ => rfl, fun _ => sub_get rfl⟩, ⟨fun _ _ => rfl, fun _ => sub_get rfl⟩⟩⟩, ⟨⟨⟨fun _ _ => rfl, fun _ => sub_get rfl⟩, ⟨fun _ _ => rfl, fun _ => sub_get rfl⟩⟩, ⟨⟨fun _ _ => rfl, fun _ => sub_get rfl⟩, ⟨fun _ _ => rfl, ⟨fun _ => sub_get rfl, fun _ _ => rfl⟩⟩⟩⟩⟩⟩⟩, ⟨⟨⟨⟨⟨⟨fun _ => sub_get rfl, fun _ _ => rfl⟩, ⟨fun _ => sub_get rfl, fun _ _ => rfl⟩⟩, ⟨⟨fun _ => sub_get rfl, fun _ _ => rfl⟩, ⟨fun _ => sub_get rfl, fun _ _ => rfl⟩⟩⟩, ⟨⟨⟨fun _ => sub_get rfl, fun _ _ => rfl⟩, ⟨fun _ => sub_get rfl, fun _ _ => rfl⟩⟩, ⟨⟨fun _ => sub_get rfl, fun _ _ => rfl⟩, ⟨fun _ => sub_get rfl, ⟨fun _ _ => rfl, fun _ => sub_get rfl⟩⟩⟩⟩⟩, ⟨⟨⟨⟨fun _ _ => rfl, fun _ => sub_get rfl⟩, ⟨fun _ _ => rfl, fun _ => sub_get rfl⟩⟩, ⟨⟨fun _ _ => rfl, fun _ => sub_get rfl⟩, ⟨fun _ _ => rfl, fun _ => sub_get rfl⟩⟩⟩, ⟨⟨⟨fun _ _ => rfl, fun _ => sub_get rfl⟩, ⟨fun _ _ => rfl, fun _ => sub_get rfl⟩⟩, ⟨⟨fun _ _ => rfl, fun _ => sub_get rfl⟩, ⟨fun _ _ => rfl, ⟨fun _ => sub_get rfl, fun _ _ => rfl⟩⟩⟩⟩⟩⟩, ⟨⟨⟨⟨⟨fun _ => sub_get rfl, fun _ _ => rfl⟩, ⟨fun _ => sub_get rfl, fun _ _ => rfl⟩⟩, ⟨⟨fun _ => sub_get rfl, fun _ _ => rfl⟩, ⟨fun _ => sub_get rfl, fun _ _ => rfl⟩⟩⟩, ⟨⟨⟨fun _ => sub_get rfl, fun _ _ => rfl⟩, ⟨fun _ => sub_get rfl, fun _ _ => rfl⟩⟩, ⟨⟨fun _ => sub_get rfl, fun _ _ => rfl⟩, ⟨fun _ => sub_get rfl, ⟨fun _ _ => rfl, fun _ => sub_get rfl⟩⟩⟩⟩⟩, ⟨⟨⟨⟨fun _ _ => rfl, fun _ => sub_get rfl⟩, ⟨fun _ _ => rfl, fun _ => sub_get rfl⟩⟩, ⟨⟨fun _ _ => rfl, fun _ => sub_get rfl⟩, ⟨fun _ _ => rfl, fun _ => sub_get rfl⟩⟩⟩, ⟨⟨⟨fun _ _ => rfl, fun _ => sub_get rfl⟩, ⟨fun _ _ => rfl, fun _ => sub_cut rfl rfl⟩⟩, ⟨⟨fun _ _ => rfl, fun _ => sub_cut rfl rfl⟩, ⟨fun _ _ => rfl, ⟨fun _ => sub_cut rfl rfl, fun _ _ => rfl⟩⟩⟩⟩⟩⟩⟩⟩

structure SaidT where
  After : Int
  Text : ByteArray
def SaidT.cells (x : SaidT) : List DV := [int x.After, str x.Text]
def SaidT.row (x : SaidT) : List AV := x.cells.map .d
def SaidT.av (x : SaidT) : AV := .agg x.row
def SaidT.sl (l : List SaidT) : DV := .sl 2 (l.map SaidT.cells)
theorem SaidT.B : ((((∀ x : SaidT, cellsL x.av = x.row) ∧
    (∀ x : SaidT, x.row.all cellish = true)) ∧
    ((∀ x : SaidT, x.row.length = 2) ∧
    ((∀ (x : SaidT) (o n : Nat) (b : Bool), fieldV (some (o, some (n, b))) x.av = sub x.row o n b) ∧
    (∀ x : SaidT, sub x.row 0 2 true = ⟨True, x.av⟩)))) ∧
    (((∀ x y : SaidT, splice x.row 0 y.row = y.row) ∧
    (∀ x : SaidT, sub x.row 0 1 false = ⟨True, .d (int x.After)⟩)) ∧
    ((∀ (x : SaidT) (v : Int), splice x.row 0 [.d (int v)] = ({ x with After := v } : SaidT).row) ∧
    ((∀ x : SaidT, sub x.row 1 1 false = ⟨True, .d (str x.Text)⟩) ∧
    (∀ (x : SaidT) (v : ByteArray), splice x.row 1 [.d (str v)] = ({ x with Text := v } : SaidT).row))))) :=
  ⟨⟨⟨fun _ => rfl, fun _ => rfl⟩, ⟨fun _ => rfl, ⟨fun _ _ _ _ => rfl, fun _ => sub_cut rfl rfl⟩⟩⟩, ⟨⟨fun _ _ => rfl, fun _ => sub_get rfl⟩, ⟨fun _ _ => rfl, ⟨fun _ => sub_get rfl, fun _ _ => rfl⟩⟩⟩⟩

structure ActT where
  UnitN : ByteArray
  Part : Int
  Num : Int
  Attempt : Int
  Lasts : Int
  Code : Int
  Ready : Int
  Dies : Int
  Says : List SaidT
def ActT.cells (x : ActT) : List DV := [str x.UnitN, int x.Part, int x.Num, int x.Attempt, int x.Lasts, int x.Code, int x.Ready, int x.Dies, SaidT.sl x.Says]
def ActT.row (x : ActT) : List AV := x.cells.map .d
def ActT.av (x : ActT) : AV := .agg x.row
def ActT.sl (l : List ActT) : DV := .sl 9 (l.map ActT.cells)
theorem ActT.B : (((((∀ x : ActT, cellsL x.av = x.row) ∧
    ((∀ x : ActT, x.row.all cellish = true) ∧
    (∀ x : ActT, x.row.length = 9))) ∧
    ((∀ (x : ActT) (o n : Nat) (b : Bool), fieldV (some (o, some (n, b))) x.av = sub x.row o n b) ∧
    ((∀ x : ActT, sub x.row 0 9 true = ⟨True, x.av⟩) ∧
    (∀ x y : ActT, splice x.row 0 y.row = y.row)))) ∧
    (((∀ x : ActT, sub x.row 0 1 false = ⟨True, .d (str x.UnitN)⟩) ∧
    ((∀ (x : ActT) (v : ByteArray), splice x.row 0 [.d (str v)] = ({ x with UnitN := v } : ActT).row) ∧
    (∀ x : ActT, sub x.row 1 1 false = ⟨True, .d (int x.Part)⟩))) ∧
    ((∀ (x : ActT) (v : Int), splice x.row 1 [.d (int v)] = ({ x with Part := v } : ActT).row) ∧
    ((∀ x : ActT, sub x.row 2 1 false = ⟨True, .d (int x.Num)⟩) ∧
    (∀ (x : ActT) (v : Int), splice x.row 2 [.d (int v)] = ({ x with Num := v } : ActT).row))))) ∧
    ((((∀ x : ActT, sub x.row 3 1 false = ⟨True, .d (int x.Attempt)⟩) ∧
    ((∀ (x : ActT) (v : Int), splice x.row 3 [.d (int v)] = ({ x with Attempt := v } : ActT).row) ∧
    (∀ x : ActT, sub x.row 4 1 false = ⟨True, .d (int x.Lasts)⟩))) ∧
    ((∀ (x : ActT) (v : Int), splice x.row 4 [.d (int v)] = ({ x with Lasts := v } : ActT).row) ∧
    ((∀ x : ActT, sub x.row 5 1 false = ⟨True, .d (int x.Code)⟩) ∧
    (∀ (x : ActT) (v : Int), splice x.row 5 [.d (int v)] = ({ x with Code := v } : ActT).row)))) ∧
    (((∀ x : ActT, sub x.row 6 1 false = ⟨True, .d (int x.Ready)⟩) ∧
    ((∀ (x : ActT) (v : Int), splice x.row 6 [.d (int v)] = ({ x with Ready := v } : ActT).row) ∧
    (∀ x : ActT, sub x.row 7 1 false = ⟨True, .d (int x.Dies)⟩))) ∧
    ((∀ (x : ActT) (v : Int), splice x.row 7 [.d (int v)] = ({ x with Dies := v } : ActT).row) ∧
    ((∀ x : ActT, sub x.row 8 1 false = ⟨True, .d (SaidT.sl x.Says)⟩) ∧
    (∀ (x : ActT) (v : List SaidT), splice x.row 8 [.d (SaidT.sl v)] = ({ x with Says := v } : ActT).row)))))) :=
  ⟨⟨⟨⟨fun _ => rfl, ⟨fun _ => rfl, fun _ => rfl⟩⟩, ⟨fun _ _ _ _ => rfl, ⟨fun _ => sub_cut rfl rfl, fun _ _ => rfl⟩⟩⟩, ⟨⟨fun _ => sub_get rfl, ⟨fun _ _ => rfl, fun _ => sub_get rfl⟩⟩, ⟨fun _ _ => rfl, ⟨fun _ => sub_get rfl, fun _ _ => rfl⟩⟩⟩⟩, ⟨⟨⟨fun _ => sub_get rfl, ⟨fun _ _ => rfl, fun _ => sub_get rfl⟩⟩, ⟨fun _ _ => rfl, ⟨fun _ => sub_get rfl, fun _ _ => rfl⟩⟩⟩, ⟨⟨fun _ => sub_get rfl, ⟨fun _ _ => rfl, fun _ => sub_get rfl⟩⟩, ⟨fun _ _ => rfl, ⟨fun _ => sub_get rfl, fun _ _ => rfl⟩⟩⟩⟩⟩

structure CallT where
  At : Int
  Port : Int
  Takes : Int
def CallT.cells (x : CallT) : List DV := [int x.At, int x.Port, int x.Takes]
def CallT.row (x : CallT) : List AV := x.cells.map .d
def CallT.av (x : CallT) : AV := .agg x.row
def CallT.sl (l : List CallT) : DV := .sl 3 (l.map CallT.cells)
theorem CallT.B : ((((∀ x : CallT, cellsL x.av = x.row) ∧
    ((∀ x : CallT, x.row.all cellish = true) ∧
    (∀ x : CallT, x.row.length = 3))) ∧
    ((∀ (x : CallT) (o n : Nat) (b : Bool), fieldV (some (o, some (n, b))) x.av = sub x.row o n b) ∧
    ((∀ x : CallT, sub x.row 0 3 true = ⟨True, x.av⟩) ∧
    (∀ x y : CallT, splice x.row 0 y.row = y.row)))) ∧
    (((∀ x : CallT, sub x.row 0 1 false = ⟨True, .d (int x.At)⟩) ∧
    ((∀ (x : CallT) (v : Int), splice x.row 0 [.d (int v)] = ({ x with At := v } : CallT).row) ∧
    (∀ x : CallT, sub x.row 1 1 false = ⟨True, .d (int x.Port)⟩))) ∧
    ((∀ (x : CallT) (v : Int), splice x.row 1 [.d (int v)] = ({ x with Port := v } : CallT).row) ∧
    ((∀ x : CallT, sub x.row 2 1 false = ⟨True, .d (int x.Takes)⟩) ∧
    (∀ (x : CallT) (v : Int), splice x.row 2 [.d (int v)] = ({ x with Takes := v } : CallT).row))))) :=
  ⟨⟨⟨fun _ => rfl, ⟨fun _ => rfl, fun _ => rfl⟩⟩, ⟨fun _ _ _ _ => rfl, ⟨fun _ => sub_cut rfl rfl, fun _ _ => rfl⟩⟩⟩, ⟨⟨fun _ => sub_get rfl, ⟨fun _ _ => rfl, fun _ => sub_get rfl⟩⟩, ⟨fun _ _ => rfl, ⟨fun _ => sub_get rfl, fun _ _ => rfl⟩⟩⟩⟩

structure AskT where
  At : Int
  UnitN : ByteArray
  Typ : Int
def AskT.cells (x : AskT) : List DV := [int x.At, str x.UnitN, int x.Typ]
def AskT.row (x : AskT) : List AV := x.cells.map .d
def AskT.av (x : AskT) : AV := .agg x.row
def AskT.sl (l : List AskT) : DV := .sl 3 (l.map AskT.cells)
theorem AskT.B : ((((∀ x : AskT, cellsL x.av = x.row) ∧
    ((∀ x : AskT, x.row.all cellish = true) ∧
    (∀ x : AskT, x.row.length = 3))) ∧
    ((∀ (x : AskT) (o n : Nat) (b : Bool), fieldV (some (o, some (n, b))) x.av = sub x.row o n b) ∧
    ((∀ x : AskT, sub x.row 0 3 true = ⟨True, x.av⟩) ∧
    (∀ x y : AskT, splice x.row 0 y.row = y.row)))) ∧
    (((∀ x : AskT, sub x.row 0 1 false = ⟨True, .d (int x.At)⟩) ∧
    ((∀ (x : AskT) (v : Int), splice x.row 0 [.d (int v)] = ({ x with At := v } : AskT).row) ∧
    (∀ x : AskT, sub x.row 1 1 false = ⟨True, .d (str x.UnitN)⟩))) ∧
    ((∀ (x : AskT) (v : ByteArray), splice x.row 1 [.d (str v)] = ({ x with UnitN := v } : AskT).row) ∧
    ((∀ x : AskT, sub x.row 2 1 false = ⟨True, .d (int x.Typ)⟩) ∧
    (∀ (x : AskT) (v : Int), splice x.row 2 [.d (int v)] = ({ x with Typ := v } : AskT).row))))) :=
  ⟨⟨⟨fun _ => rfl, ⟨fun _ => rfl, fun _ => rfl⟩⟩, ⟨fun _ _ _ _ => rfl, ⟨fun _ => sub_cut rfl rfl, fun _ _ => rfl⟩⟩⟩, ⟨⟨fun _ => sub_get rfl, ⟨fun _ _ => rfl, fun _ => sub_get rfl⟩⟩, ⟨fun _ _ => rfl, ⟨fun _ => sub_get rfl, fun _ _ => rfl⟩⟩⟩⟩

structure WorldT where
  Acts : List ActT
  Calls : List CallT
  Asks : List AskT
def WorldT.cells (x : WorldT) : List DV := [ActT.sl x.Acts, CallT.sl x.Calls, AskT.sl x.Asks]
def WorldT.row (x : WorldT) : List AV := x.cells.map .d
def WorldT.av (x : WorldT) : AV := .agg x.row
def WorldT.sl (l : List WorldT) : DV := .sl 3 (l.map WorldT.cells)
theorem WorldT.B : ((((∀ x : WorldT, cellsL x.av = x.row) ∧
    ((∀ x : WorldT, x.row.all cellish = true) ∧
    (∀ x : WorldT, x.row.length = 3))) ∧
    ((∀ (x : WorldT) (o n : Nat) (b : Bool), fieldV (some (o, some (n, b))) x.av = sub x.row o n b) ∧
    ((∀ x : WorldT, sub x.row 0 3 true = ⟨True, x.av⟩) ∧
    (∀ x y : WorldT, splice x.row 0 y.row = y.row)))) ∧
    (((∀ x : WorldT, sub x.row 0 1 false = ⟨True, .d (ActT.sl x.Acts)⟩) ∧
    ((∀ (x : WorldT) (v : List ActT), splice x.row 0 [.d (ActT.sl v)] = ({ x with Acts := v } : WorldT).row) ∧
    (∀ x : WorldT, sub x.row 1 1 false = ⟨True, .d (CallT.sl x.Calls)⟩))) ∧
    ((∀ (x : WorldT) (v : List CallT), splice x.row 1 [.d (CallT.sl v)] = ({ x with Calls := v } : WorldT).row) ∧
    ((∀ x : WorldT, sub x.row 2 1 false = ⟨True, .d (AskT.sl x.Asks)⟩) ∧
    (∀ (x : WorldT) (v : List AskT), splice x.row 2 [.d (AskT.sl v)] = ({ x with Asks := v } : WorldT).row))))) :=
  ⟨⟨⟨fun _ => rfl, ⟨fun _ => rfl, fun _ => rfl⟩⟩, ⟨fun _ _ _ _ => rfl, ⟨fun _ => sub_cut rfl rfl, fun _ _ => rfl⟩⟩⟩, ⟨⟨fun _ => sub_get rfl, ⟨fun _ _ => rfl, fun _ => sub_get rfl⟩⟩, ⟨fun _ _ => rfl, ⟨fun _ => sub_get rfl, fun _ _ => rfl⟩⟩⟩⟩

structure RowT where
  Time : Int
  UnitN : ByteArray
  N : Int
  Kind : Int
  Text : ByteArray
def RowT.cells (x : RowT) : List DV := [int x.Time, str x.UnitN, int x.N, int x.Kind, str x.Text]
def RowT.row (x : RowT) : List AV := x.cells.map .d
def RowT.av (x : RowT) : AV := .agg x.row
def RowT.sl (l : List RowT) : DV := .sl 5 (l.map RowT.cells)
theorem RowT.B : (((((∀ x : RowT, cellsL x.av = x.row) ∧
    (∀ x : RowT, x.row.all cellish = true)) ∧
    ((∀ x : RowT, x.row.length = 5) ∧
    (∀ (x : RowT) (o n : Nat) (b : Bool), fieldV (some (o, some (n, b))) x.av = sub x.row o n b))) ∧
    (((∀ x : RowT, sub x.row 0 5 true = ⟨True, x.av⟩) ∧
    (∀ x y : RowT, splice x.row 0 y.row = y.row)) ∧
    ((∀ x : RowT, sub x.row 0 1 false = ⟨True, .d (int x.Time)⟩) ∧
    (∀ (x : RowT) (v : Int), splice x.row 0 [.d (int v)] = ({ x with Time := v } : RowT).row)))) ∧
    ((((∀ x : RowT, sub x.row 1 1 false = ⟨True, .d (str x.UnitN)⟩) ∧
    (∀ (x : RowT) (v : ByteArray), splice x.row 1 [.d (str v)] = ({ x with UnitN := v } : RowT).row)) ∧
    ((∀ x : RowT, sub x.row 2 1 false = ⟨True, .d (int x.N)⟩) ∧
    (∀ (x : RowT) (v : Int), splice x.row 2 [.d (int v)] = ({ x with N := v } : RowT).row))) ∧
    (((∀ x : RowT, sub x.row 3 1 false = ⟨True, .d (int x.Kind)⟩) ∧
    (∀ (x : RowT) (v : Int), splice x.row 3 [.d (int v)] = ({ x with Kind := v } : RowT).row)) ∧
    ((∀ x : RowT, sub x.row 4 1 false = ⟨True, .d (str x.Text)⟩) ∧
    (∀ (x : RowT) (v : ByteArray), splice x.row 4 [.d (str v)] = ({ x with Text := v } : RowT).row))))) :=
  ⟨⟨⟨⟨fun _ => rfl, fun _ => rfl⟩, ⟨fun _ => rfl, fun _ _ _ _ => rfl⟩⟩, ⟨⟨fun _ => sub_cut rfl rfl, fun _ _ => rfl⟩, ⟨fun _ => sub_get rfl, fun _ _ => rfl⟩⟩⟩, ⟨⟨⟨fun _ => sub_get rfl, fun _ _ => rfl⟩, ⟨fun _ => sub_get rfl, fun _ _ => rfl⟩⟩, ⟨⟨fun _ => sub_get rfl, fun _ _ => rfl⟩, ⟨fun _ => sub_get rfl, fun _ _ => rfl⟩⟩⟩⟩

structure OutT where
  Rows : List RowT
  Asks : List AskT
  Back : List ConnT
  Fell : Bool
  Failed : Bool
def OutT.cells (x : OutT) : List DV := [RowT.sl x.Rows, AskT.sl x.Asks, ConnT.sl x.Back, bl x.Fell, bl x.Failed]
def OutT.row (x : OutT) : List AV := x.cells.map .d
def OutT.av (x : OutT) : AV := .agg x.row
def OutT.sl (l : List OutT) : DV := .sl 5 (l.map OutT.cells)
theorem OutT.B : (((((∀ x : OutT, cellsL x.av = x.row) ∧
    (∀ x : OutT, x.row.all cellish = true)) ∧
    ((∀ x : OutT, x.row.length = 5) ∧
    (∀ (x : OutT) (o n : Nat) (b : Bool), fieldV (some (o, some (n, b))) x.av = sub x.row o n b))) ∧
    (((∀ x : OutT, sub x.row 0 5 true = ⟨True, x.av⟩) ∧
    (∀ x y : OutT, splice x.row 0 y.row = y.row)) ∧
    ((∀ x : OutT, sub x.row 0 1 false = ⟨True, .d (RowT.sl x.Rows)⟩) ∧
    (∀ (x : OutT) (v : List RowT), splice x.row 0 [.d (RowT.sl v)] = ({ x with Rows := v } : OutT).row)))) ∧
    ((((∀ x : OutT, sub x.row 1 1 false = ⟨True, .d (AskT.sl x.Asks)⟩) ∧
    (∀ (x : OutT) (v : List AskT), splice x.row 1 [.d (AskT.sl v)] = ({ x with Asks := v } : OutT).row)) ∧
    ((∀ x : OutT, sub x.row 2 1 false = ⟨True, .d (ConnT.sl x.Back)⟩) ∧
    (∀ (x : OutT) (v : List ConnT), splice x.row 2 [.d (ConnT.sl v)] = ({ x with Back := v } : OutT).row))) ∧
    (((∀ x : OutT, sub x.row 3 1 false = ⟨True, .d (bl x.Fell)⟩) ∧
    (∀ (x : OutT) (v : Bool), splice x.row 3 [.d (bl v)] = ({ x with Fell := v } : OutT).row)) ∧
    ((∀ x : OutT, sub x.row 4 1 false = ⟨True, .d (bl x.Failed)⟩) ∧
    (∀ (x : OutT) (v : Bool), splice x.row 4 [.d (bl v)] = ({ x with Failed := v } : OutT).row))))) :=
  ⟨⟨⟨⟨fun _ => rfl, fun _ => rfl⟩, ⟨fun _ => rfl, fun _ _ _ _ => rfl⟩⟩, ⟨⟨fun _ => sub_cut rfl rfl, fun _ _ => rfl⟩, ⟨fun _ => sub_get rfl, fun _ _ => rfl⟩⟩⟩, ⟨⟨⟨fun _ => sub_get rfl, fun _ _ => rfl⟩, ⟨fun _ => sub_get rfl, fun _ _ => rfl⟩⟩, ⟨⟨fun _ => sub_get rfl, fun _ _ => rfl⟩, ⟨fun _ => sub_get rfl, fun _ _ => rfl⟩⟩⟩⟩

end Go.AW
