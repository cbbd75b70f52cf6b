/- The law CellStop holds of the given program: whatever the input of bulk at most 1048576, the law's function returns true, and each argument reads behind the call as it did. Conditions: those of the given statement alone (the listed package-level variables hold what the program's text lays; the card ties that). -/
import Derived.Test.YtibiooglhpjojaaGreatDoorPe
import Derived.Test.YtibiooglhpjojaaGreatDoorD0
import Derived.Test.YtibiooglhpjojaaGreatDoorF7
import Derived.Test.YtibiooglhpjojaaGreatDoorLb
import Derived.Test.YtibiooglhpjojaaGreatDoorK5
import Derived.Test.YtibiooglhpjojaaGreatDoorCards
import Derived.Test.YtibiooglhpjojaaGreatDoorTie
import Derived.WalkKit
import Derived.ProofKit
import Derived.OpenShut
import Derived.Deep.DeepHandedRow
set_option linter.unusedSimpArgs false
set_option linter.unusedVariables false
namespace Go.Proofs.YtibiooglhpjojaaGreatDoor.cellStop
open Go.ChangeShapes Go.WideShapes Go.ChangeAt Go.RowKit
set_option maxRecDepth 100000

theorem own : ownKnob Tryz.prog.godebug = none := by kernel_rfl
theorem laidOut : laidOutB Tryz.prog = true := by kernel_rfl
theorem params_ok : ∀ t ∈ Tryz.f5.params.toList, Tryz.prog.readableRec t = true ∧ t < Tryz.prog.types.size := by
  rw [Tryz.params5]
  intro t ht
  have h : ([43, 33, 3] : List Nat).all (fun t => Tryz.prog.readableRec t && decide (t < Tryz.prog.types.size)) = true := by kernel_rfl
  have := List.all_eq_true.1 h t ht
  simpa using this
theorem spec_is {H : Type} : ∀ ds : List (DataW H), ds.length = Tryz.f5.params.toList.length → Rows.cellStopSpec.fn H ds = { results := [.lit (.bool true)], args := ds } := by
  rw [Tryz.params5]
  intro ds h
  match ds, h with
  | [a0, a1, a2], _ => rfl
/-- How much a reading holds. -/
def bulk {H : Type} : Go.AW.Bulk H where
  b := Rows.uptoBulk
  all := Rows.uptoBulkAll
  str := fun s => by simp only [Rows.uptoBulk]
  slice := fun e s => by simp only [Rows.uptoBulk]
  agg := fun p => by simp only [Rows.uptoBulk]
  nil := by simp only [Rows.uptoBulkAll]
  cons := fun d r => by simp only [Rows.uptoBulkAll]
  pos := fun d => by
    cases d with
    | lit l => cases l <;> simp [Rows.uptoBulk]
    | _ => simp [Rows.uptoBulk]
/-- What the walk gives, for every argument and every world. -/
theorem contract (H : Type) (enc : TypeId × Value → H) (W : World) (base : Nat) (args : Array Value) (ds gs : List (DataW H)) (before : List MemPlace)
    (hval : ∀ (j : Nat) t v, Tryz.f5.params[j]? = some t → args[j]? = some v → Value.okWide Tryz.prog W .any base t v)
    (hlaid : laidMet Tryz.prog Rows.cellStopUptoRow.laid W)
    (hW : DataW.Whole enc Tryz.prog Tryz.f5.params.toList Rows.cellStopSpec.vars false W args.toList ds gs before) (hk : Rows.uptoSmall H (ds ++ gs) = true) :
    Calls Tryz.prog 5 args W fun e W' => ∃ v, e = .returned v ∧ Rows.cellStopSpec.post enc Tryz.prog Tryz.f5 false true false false W args v W' := by
  have hW' := hW
  obtain ⟨p, q, hA0, hV, rfl, hfz, hnd⟩ := hW
  have hlaid2 := hlaid
  have hA : DataW.TrodAll enc Tryz.prog W 0 (fun _ => true) true Tryz.f5.params.toList args.toList ds p := hA0
  rw [Tryz.params5] at hA hval
  obtain ⟨v0, vs0, d0, ds0, p0, q0, hargs0, rfl, rfl, t0, r0⟩ := trodAll_cons hA
  obtain ⟨v1, vs1, d1, ds1, p1, q1, hargs1, rfl, rfl, t1, r1⟩ := trodAll_cons r0
  obtain ⟨v2, vs2, d2, ds2, p2, q2, hargs2, rfl, rfl, t2, r2⟩ := trodAll_cons r1
  obtain ⟨rfl, rfl, rfl⟩ := trodAll_nil r2
  subst hargs2
  subst hargs1
  obtain rfl : args = #[v0] ++ (#[v1] ++ (#[v2] ++ #[])) := by
    apply Array.toList_inj.1; rw [hargs0]; simp
  have hsum : Rows.uptoBulkAll ([d0, d1, d2] ++ gs) ≤ 1048576 := of_decide_eq_true hk
  simp only [List.cons_append, List.nil_append, Rows.uptoBulkAll] at hsum
  have hb0 : (bulk (H := H)).b d0 ≤ 1048576 := by show Rows.uptoBulk d0 ≤ 1048576; omega
  have hb1 : (bulk (H := H)).b d1 ≤ 1048576 := by show Rows.uptoBulk d1 ≤ 1048576; omega
  clear hsum
  obtain ⟨cs0, rfl, -, -⟩ : ∃ cs, v0 = .agg cs ∧ cs.size = Tryz.prog.cellsOf 43 ∧ Row.okWide Tryz.prog W .any base 43 cs := by
    have := hval 0 43 _ rfl (by simp; rfl)
    unfold Value.okWide at this; rw [Tryz.underlying43] at this; exact this
  obtain ⟨fu0, tr0⟩ := t0
  obtain ⟨w, rp0, ok0⟩ := Go.AW.M.dec_api_World (B := bulk) (N := 1048576) fu0 _ _ tr0 hb0
  have x0 := Go.AW.rep_agg rp0
  obtain ⟨cs1, rfl, -, -⟩ : ∃ cs, v1 = .agg cs ∧ cs.size = Tryz.prog.cellsOf 33 ∧ Row.okWide Tryz.prog W .any base 33 cs := by
    have := hval 1 33 _ rfl (by simp; rfl)
    unfold Value.okWide at this; rw [Tryz.underlying33] at this; exact this
  obtain ⟨fu1, tr1⟩ := t1
  obtain ⟨c, rp1, ok1⟩ := Go.AW.M.dec_api_Cell (B := bulk) (N := 1048576) fu1 _ _ tr1 hb1
  have x1 := Go.AW.rep_agg rp1
  obtain ⟨now, rfl, rfl, rfl, wf2⟩ := open_int Tryz.underlying3 (hval 2 3 _ rfl (by simp)) t2
  have x2 : Go.AW.Rep (Go.AW.g0 W) (.d (.lit (.int .i64 now))) (.int .i64 now) := .d (.lit _ rfl)
  have HC := Go.AW.Chain.law Go.AW.M.c5 (k := 5) rfl rfl (w, c, now, ()) (true, ()) (Go.AW.M.law w c now ok0 ok1)
  have hok : ∀ x ∈ ([.agg w.row, .agg c.row, .one (.lit (.int .i64 now))] : List Go.AW.LA), x.ok := by
    intro x hx
    simp only [List.mem_cons, List.not_mem_nil, or_false] at hx
    rcases hx with rfl | rfl | rfl
    · exact Go.AW.repCs_dvos rp0
    · exact Go.AW.repCs_dvos rp1
    · exact rfl
  refine (Go.AW.law_run (Go.AW.glob_third (g := 0) (t := 244) (e := 234) (n := 20) (by kernel_rfl) (by kernel_rfl) (by kernel_rfl) (by kernel_rfl) (by kernel_rfl) (by kernel_rfl) (by kernel_rfl) hlaid2) (Go.AW.law_ct HC.1 [.agg w.row, .agg c.row, .one (.lit (.int .i64 now))] hok rfl rfl rfl rfl HC.2) (Go.AW.RepL.cons' x0 (Go.AW.RepL.cons' x1 (Go.AW.RepL.cons' x2 (Go.AW.RepL.nil' _))))).mono fun e W' ⟨he, hb⟩ => ?_
  exact ⟨_, he, Go.AW.law_post laidOut rfl Tryz.underlying4 params_ok rfl spec_is hW' hb⟩

/-- A world for the witness: the listed variables hold what their initialisers lay. -/
def litVal : DataW Unit → Value
  | .lit (.int k n) => .int k n
  | _ => undef
def litCells : DataW Unit → Array Value
  | .agg l => (l.map litVal).toArray
  | _ => #[]
noncomputable def laidWorld (os : Os) : World :=
  { World.holding Tryz.prog os ⟨#[], #[], []⟩ with heap := ((((World.holding Tryz.prog os ⟨#[], #[], []⟩).heap.modify 2 fun
      | .cells _ t frozen => .cells (litCells Rows.laid_math_bits_deBruijn32tab) t frozen
      | o => o).modify 3 fun
      | .cells _ t frozen => .cells (litCells Rows.laid_math_bits_deBruijn64tab) t frozen
      | o => o).modify 0 fun
      | .cells _ t frozen => .cells (litCells Rows.laid_internal_strconv_uint64pow10) t frozen
      | o => o) }
def zeros : Array Value := #[.agg #[.slice none 0 0, .slice none 0 0, .slice none 0 0], .agg #[.string ⟨#[]⟩, .int .i64 0, .string ⟨#[]⟩, .bool false, .slice none 0 0, .int .i64 0, .int .i64 0, .int .i64 0, .slice none 0 0, .slice none 0 0, .slice none 0 0, .slice none 0 0, .slice none 0 0, .bool false, .int .i64 0, .int .i64 0, .int .i64 0, .int .i64 0, .slice none 0 0, .slice none 0 0, .slice none 0 0, .slice none 0 0, .int .i64 0, .string ⟨#[]⟩, .string ⟨#[]⟩, .slice none 0 0, .slice none 0 0, .slice none 0 0, .slice none 0 0, .bool false, .slice none 0 0, .slice none 0 0, .slice none 0 0, .slice none 0 0, .string ⟨#[]⟩, .int .i64 0, .int .i64 0, .int .i64 0, .slice none 0 0, .int .i64 0, .int .i64 0, .int .i64 0, .int .i64 0, .int .i64 0, .int .i64 0, .bool false, .int .i64 0, .int .i64 0, .int .i64 0, .int .i64 0, .int .i64 0, .bool false, .int .i64 0, .bool false, .bool false, .slice none 0 0, .slice none 0 0, .int .i64 0, .int .i64 0, .int .i64 0, .int .i64 0, .int .i64 0], .int .i64 0]
def zdata (H : Type) : List (DataW H) := [.agg [.nil, .nil, .nil], .agg [.agg [.lit (.string []), .lit (.int .i64 0), .lit (.string []), .lit (.bool false), .nil, .lit (.int .i64 0), .lit (.int .i64 0), .lit (.int .i64 0), .nil, .nil, .nil, .nil, .nil, .lit (.bool false), .lit (.int .i64 0), .lit (.int .i64 0), .lit (.int .i64 0), .lit (.int .i64 0), .nil, .nil, .nil, .nil, .lit (.int .i64 0), .lit (.string []), .lit (.string []), .nil, .nil, .nil, .nil, .lit (.bool false), .nil, .nil, .nil, .nil, .lit (.string [])], .lit (.int .i64 0), .lit (.int .i64 0), .lit (.int .i64 0), .nil, .lit (.int .i64 0), .agg [.lit (.int .i64 0), .lit (.int .i64 0), .lit (.int .i64 0), .lit (.int .i64 0), .lit (.int .i64 0), .lit (.bool false)], .agg [.lit (.int .i64 0), .lit (.int .i64 0), .lit (.int .i64 0), .lit (.int .i64 0), .lit (.int .i64 0), .lit (.bool false)], .lit (.int .i64 0), .lit (.bool false), .lit (.bool false), .nil, .nil, .lit (.int .i64 0), .lit (.int .i64 0), .lit (.int .i64 0), .lit (.int .i64 0), .lit (.int .i64 0)], .lit (.int .i64 0)]
theorem laid_met (os : Os) : laidMet Tryz.prog Rows.cellStopUptoRow.laid ((laidWorld os).forCall (fun _ _ => 0) ⟨#[], zeros, []⟩).memory :=
  laidMet_of_run' 8 (by kernel_rfl) (by kernel_rfl)
theorem reads (os : Os) {H : Type} (enc : TypeId × Value → H) : ∃ places, DataW.whole enc Tryz.prog ((laidWorld os).forCall (fun _ _ => 0) ⟨#[], zeros, []⟩).memory Tryz.f5.params.toList Rows.cellStopSpec.vars false zeros.toList 12 = some (zdata H, [], places) :=
  ⟨[], by kernel_rfl⟩
theorem lifted (os : Os) (started : os.Started) (H : Type) (enc : TypeId × Value → H) (F : Stop.Interp) :
    ReturnsInHanded {} Tryz.checked os 5 .any ((Rows.OpenSpec.upto Rows.cellStopSpec).preRow enc Tryz.prog Tryz.f5 Rows.cellStopUptoRow.domain false Rows.cellStopUptoRow.laid) (((Rows.OpenSpec.upto Rows.cellStopSpec).at F).post enc Tryz.prog Tryz.f5 false true false false) := by
  obtain ⟨places, hx⟩ := reads os enc
  refine returnsInHanded_of_row (C := Tryz.checked) (s := Rows.OpenSpec.upto Rows.cellStopSpec) own started (by kernel_rfl) Tryz.func5
    (witness_row_at (enc := enc) (C := Tryz.checked) false (laidWorld os) zeros rfl (by kernel_rfl) (by kernel_rfl) (by kernel_rfl)
      (OpenSpec.preRow_of_cond 12 hx (by kernel_rfl) (fun k hk => by cases hk; kernel_rfl) (by kernel_rfl) (laid_met os))) ?_
  intro W base args ds gs before hval hW _ hcond _ hl _ _
  exact contract H enc W base args ds gs before hval hl hW (hcond _ rfl)
theorem said : Rows.CellStopUptoSaid :=
  OpenClaim.holds_of_cond 5 Tryz.f5 rfl rfl rfl rfl rfl rfl rfl ⟨rfl, rfl, rfl, rfl, rfl⟩ rfl rfl rfl rfl rfl (by kernel_rfl) Tryz.func5 closed
    (of_decide_eq_true (by kernel_rfl)) (by unfold Func.isWrapper; first | (rw [if_pos (by decide +kernel)]; kernel_rfl) | (rw [if_neg (by decide +kernel)]; exact ⟨rfl, rfl⟩))
    (fun os started H enc _ F => by rw [OpenClaim.pre_eq_preRow]; exact lifted os started H enc F)
theorem plain (f : FuncId) (fn : Func) (hf : Tryz.pinned.checked.prog.funcNamed "matins/matinslaw34.CellStop" = some f) (hfn : Tryz.pinned.checked.prog.funcs[f]? = some fn) :
    false = Tryz.pinned.checked.prog.looks [] ∧ ∀ (j : Nat) t, fn.params[j]? = some t → Tryz.pinned.checked.prog.wantsStandIn t = false := by
  obtain rfl : f = 5 := Option.some.inj ((show Tryz.prog.funcNamed "matins/matinslaw34.CellStop" = some 5 by kernel_rfl).symm.trans hf) |>.symm
  obtain rfl : fn = Tryz.f5 := (Option.some.inj (Tryz.func5.symm.trans hfn)).symm
  refine ⟨by kernel_rfl, fun j t ht => ?_⟩
  rw [Tryz.params5] at ht
  have h : ([43, 33, 3] : List Nat).all (fun t => !Tryz.prog.wantsStandIn t) = true := by kernel_rfl
  have := List.all_eq_true.1 h t (by simpa using Array.mem_of_getElem? ht)
  exact (show Tryz.prog.wantsStandIn t = false by simpa using this)
/-- The card. -/
theorem card : Rows.CellStopUptoCardSaid :=
  Claim7.holds_tied_plain_at .later [] _ _ _ _ said (fun _ h => by cases h) (by kernel_rfl) (fun _ h => by cases h) cellStopUpto_row_tie rfl ⟨rfl, rfl⟩ (by kernel_rfl) rfl plain (by kernel_rfl)
end Go.Proofs.YtibiooglhpjojaaGreatDoor.cellStop

