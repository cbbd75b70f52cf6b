/- The law CellRight holds of the given program: whatever the input of bulk at most 1048576, the law's function returns true, and each argument reads behind the call as it did. Conditions: those of the given statement alone (the listed package-level variables hold what the program's text lays; the card ties that). -/
import Derived.Test.YtibiooglhpjojaaGreatDoorPe
import Derived.Test.YtibiooglhpjojaaGreatDoorD0
import Derived.Test.YtibiooglhpjojaaGreatDoorF15
import Derived.Test.YtibiooglhpjojaaGreatDoorQa
import Derived.Test.YtibiooglhpjojaaGreatDoorK7
import Derived.Test.YtibiooglhpjojaaGreatDoorCards
import Derived.Test.YtibiooglhpjojaaGreatDoorTie
import Derived.WalkKit
import Derived.ProofKit
import Derived.OpenShut
import Derived.Deep.DeepHandedRow
set_option linter.unusedSimpArgs false
set_option linter.unusedVariables false
namespace Go.Proofs.YtibiooglhpjojaaGreatDoor.cellRight
open Go.ChangeShapes Go.WideShapes Go.ChangeAt Go.RowKit
set_option maxRecDepth 100000
theorem own:ownKnob Tryz.prog.godebug=none:=by kernel_rfl
theorem laidOut:laidOutB Tryz.prog=true:=by kernel_rfl
theorem params_ok:∀t∈Tryz.f7.params.toList,Tryz.prog.readableRec t=true∧t<Tryz.prog.types.size:=by
 rw[Tryz.params7]
 intro t ht
 have h:([43,33,3,3,3]:List Nat).all (fun t=>Tryz.prog.readableRec t&&decide (t<Tryz.prog.types.size))=true:=by kernel_rfl
 have:=List.all_eq_true.1 h t ht
 simpa using this
theorem spec_is {H:Type}:∀ds:List (DataW H),ds.length=Tryz.f7.params.toList.length→Rows.cellRightSpec.fn H ds={ results:=[.lit (.bool true)],args:=ds }:=by
 rw[Tryz.params7]
 intro ds h
 match ds,h with
 | [a0,a1,a2,a3,a4],_=>rfl
def bulk {H:Type}:Go.AW.Bulk H where
 b:=Rows.uptoBulk
 all:=Rows.uptoBulkAll
 str:=fun s=>by simp only[Rows.uptoBulk]
 slice:=fun e s=>by simp only[Rows.uptoBulk]
 agg:=fun p=>by simp only[Rows.uptoBulk]
 nil:=by simp only[Rows.uptoBulkAll]
 cons:=fun d r=>by simp only[Rows.uptoBulkAll]
 pos:=fun d=>by
  cases d with
  | lit l=>cases l <;> simp[Rows.uptoBulk]
  | _=>simp[Rows.uptoBulk]
set_option maxHeartbeats 8000000 in
theorem contract (H:Type)(enc:TypeId×Value→H)(W:World)(base:Nat)(args:Array Value)(ds gs:List (DataW H))(before:List MemPlace)
  (hval:∀(j:Nat) t v,Tryz.f7.params[j]?=some t→args[j]?=some v→Value.okWide Tryz.prog W .any base t v)
  (hlaid:laidMet Tryz.prog Rows.cellRightUptoRow.laid W)
  (hW:DataW.Whole enc Tryz.prog Tryz.f7.params.toList Rows.cellRightSpec.vars false W args.toList ds gs before) (hk:Rows.uptoSmall H (ds++gs)=true) :
  Calls Tryz.prog 7 args W fun e W'=>∃v,e=.returned v∧Rows.cellRightSpec.post enc Tryz.prog Tryz.f7 false true false false W args v W':=by
 have hW':=hW
 obtain⟨p,q,hA0,hV,rfl,hfz,hnd⟩:=hW
 have hlaid2:=hlaid
 have hA:DataW.TrodAll enc Tryz.prog W 0 (fun _=>true) true Tryz.f7.params.toList args.toList ds p:=hA0
 rw[Tryz.params7]at hA hval
 obtain⟨v0,vs0,d0,ds0,p0,q0,hargs0,rfl,rfl,t0,r0⟩:=trodAll_cons hA
 obtain⟨v1,vs1,d1,ds1,p1,q1,hargs1,rfl,rfl,t1,r1⟩:=trodAll_cons r0
 obtain⟨v2,vs2,d2,ds2,p2,q2,hargs2,rfl,rfl,t2,r2⟩:=trodAll_cons r1
 obtain⟨v3,vs3,d3,ds3,p3,q3,hargs3,rfl,rfl,t3,r3⟩:=trodAll_cons r2
 obtain⟨v4,vs4,d4,ds4,p4,q4,hargs4,rfl,rfl,t4,r4⟩:=trodAll_cons r3
 obtain⟨rfl,rfl,rfl⟩:=trodAll_nil r4
 subst hargs4
 subst hargs3
 subst hargs2
 subst hargs1
 obtain rfl:args=#[v0]++(#[v1]++(#[v2]++(#[v3]++(#[v4]++#[])))):=by
  apply Array.toList_inj.1;rw[hargs0];simp
 have hsum:Rows.uptoBulkAll ([d0,d1,d2,d3,d4]++gs)≤1048576:=of_decide_eq_true hk
 simp only[List.cons_append,List.nil_append,Rows.uptoBulkAll]at hsum
 have hb0:(bulk (H:=H)).b d0≤1048576:=by show Rows.uptoBulk d0≤1048576;omega
 have hb1:(bulk (H:=H)).b d1≤1048576:=by show Rows.uptoBulk d1≤1048576;omega
 clear hsum
 obtain⟨cs0,rfl,-,-⟩:∃cs,v0=.agg cs∧cs.size=Tryz.prog.cellsOf 43∧Row.okWide Tryz.prog W .any base 43 cs:=by
  have:=hval 0 43 _ rfl (by simp;rfl)
  unfold Value.okWide at this;rw[Tryz.underlying43]at this;exact this
 obtain⟨fu0,tr0⟩:=t0
 obtain⟨w,rp0,ok0⟩:=Go.AW.M.ZkP (B:=bulk) (N:=1048576) fu0 _ _ tr0 hb0
 have x0:=Go.AW.Zqi rp0
 obtain⟨cs1,rfl,-,-⟩:∃cs,v1=.agg cs∧cs.size=Tryz.prog.cellsOf 33∧Row.okWide Tryz.prog W .any base 33 cs:=by
  have:=hval 1 33 _ rfl (by simp;rfl)
  unfold Value.okWide at this;rw[Tryz.underlying33]at this;exact this
 obtain⟨fu1,tr1⟩:=t1
 obtain⟨c,rp1,ok1⟩:=Go.AW.M.ZlF (B:=bulk) (N:=1048576) fu1 _ _ tr1 hb1
 have x1:=Go.AW.Zqi rp1
 obtain⟨typ,rfl,rfl,rfl,wf2⟩:=open_int Tryz.underlying3 (hval 2 3 _ rfl (by simp)) t2
 have x2:Go.AW.Rep (Go.AW.g0 W) (.d (.lit (.int .i64 typ))) (.int .i64 typ):=.d (.lit _ rfl)
 obtain⟨now,rfl,rfl,rfl,wf3⟩:=open_int Tryz.underlying3 (hval 3 3 _ rfl (by simp)) t3
 have x3:Go.AW.Rep (Go.AW.g0 W) (.d (.lit (.int .i64 now))) (.int .i64 now):=.d (.lit _ rfl)
 obtain⟨many,rfl,rfl,rfl,wf4⟩:=open_int Tryz.underlying3 (hval 4 3 _ rfl (by simp)) t4
 have x4:Go.AW.Rep (Go.AW.g0 W) (.d (.lit (.int .i64 many))) (.int .i64 many):=.d (.lit _ rfl)
 have HC:=Go.AW.Chain.law Go.AW.M.c7 (k:=7) rfl rfl (w,c,typ,now,many,()) (true,()) (Go.AW.M.law w c typ now many ok0 ok1)
 have hok:∀x∈([.agg w.row,.agg c.row,.one (.lit (.int .i64 typ)),.one (.lit (.int .i64 now)),.one (.lit (.int .i64 many))]:List Go.AW.LA),x.ok:=by
  intro x hx
  simp only[List.mem_cons,List.not_mem_nil,or_false]at hx
  rcases hx with rfl | rfl | rfl | rfl | rfl
  ·exact Go.AW.ZkO rp0
  ·exact Go.AW.ZkO rp1
  ·exact rfl
  ·exact rfl
  ·exact rfl
 refine(Go.AW.law_run (Go.AW.ZoL (g:=0) (t:=244) (e:=234) (n:=20) (by kernel_rfl) (by kernel_rfl) (by kernel_rfl) (by kernel_rfl) (by kernel_rfl) (by kernel_rfl) (by kernel_rfl) hlaid2) (Go.AW.law_ct HC.1 [.agg w.row,.agg c.row,.one (.lit (.int .i64 typ)),.one (.lit (.int .i64 now)),.one (.lit (.int .i64 many))] hok rfl rfl rfl rfl HC.2) (Go.AW.RepL.cons' x0 (Go.AW.RepL.cons' x1 (Go.AW.RepL.cons' x2 (Go.AW.RepL.cons' x3 (Go.AW.RepL.cons' x4 (Go.AW.RepL.nil' _))))))).mono fun e W' ⟨he,hb⟩=>?_
 exact⟨_,he,Go.AW.ZqY laidOut rfl Tryz.underlying4 params_ok rfl spec_is hW' hb⟩
def litVal:DataW Unit→Value
 | .lit (.int k n)=>.int k n
 | _=>undef
def litCells:DataW Unit→Array Value
 | .agg l=>(l.map litVal).toArray
 | _=>#[]
noncomputable def laidWorld (os:Os):World:=
 { World.holding Tryz.prog os ⟨#[],#[],[]⟩with heap:=((((World.holding Tryz.prog os ⟨#[],#[],[]⟩).heap.modify 2 fun
    | .cells _ t frozen=>.cells (litCells Rows.laid_math_bits_deBruijn32tab) t frozen
    | o=>o).modify 3 fun
    | .cells _ t frozen=>.cells (litCells Rows.laid_math_bits_deBruijn64tab) t frozen
    | o=>o).modify 0 fun
    | .cells _ t frozen=>.cells (litCells Rows.laid_internal_strconv_uint64pow10) t frozen
    | o=>o) }
def zeros:Array Value:=#[.agg #[.slice none 0 0,.slice none 0 0,.slice none 0 0],.agg #[.string ⟨#[]⟩,.int .i64 0,.string ⟨#[]⟩,.bool false,.slice none 0 0,.int .i64 0,.int .i64 0,.int .i64 0,.slice none 0 0,.slice none 0 0,.slice none 0 0,.slice none 0 0,.slice none 0 0,.bool false,.int .i64 0,.int .i64 0,.int .i64 0,.int .i64 0,.slice none 0 0,.slice none 0 0,.slice none 0 0,.slice none 0 0,.int .i64 0,.string ⟨#[]⟩,.string ⟨#[]⟩,.slice none 0 0,.slice none 0 0,.slice none 0 0,.slice none 0 0,.bool false,.slice none 0 0,.slice none 0 0,.slice none 0 0,.slice none 0 0,.string ⟨#[]⟩,.int .i64 0,.int .i64 0,.int .i64 0,.slice none 0 0,.int .i64 0,.int .i64 0,.int .i64 0,.int .i64 0,.int .i64 0,.int .i64 0,.bool false,.int .i64 0,.int .i64 0,.int .i64 0,.int .i64 0,.int .i64 0,.bool false,.int .i64 0,.bool false,.bool false,.slice none 0 0,.slice none 0 0,.int .i64 0,.int .i64 0,.int .i64 0,.int .i64 0,.int .i64 0],.int .i64 0,.int .i64 0,.int .i64 0]
def zdata (H:Type):List (DataW H):=[.agg [.nil,.nil,.nil],.agg [.agg [.lit (.string []),.lit (.int .i64 0),.lit (.string []),.lit (.bool false),.nil,.lit (.int .i64 0),.lit (.int .i64 0),.lit (.int .i64 0),.nil,.nil,.nil,.nil,.nil,.lit (.bool false),.lit (.int .i64 0),.lit (.int .i64 0),.lit (.int .i64 0),.lit (.int .i64 0),.nil,.nil,.nil,.nil,.lit (.int .i64 0),.lit (.string []),.lit (.string []),.nil,.nil,.nil,.nil,.lit (.bool false),.nil,.nil,.nil,.nil,.lit (.string [])],.lit (.int .i64 0),.lit (.int .i64 0),.lit (.int .i64 0),.nil,.lit (.int .i64 0),.agg [.lit (.int .i64 0),.lit (.int .i64 0),.lit (.int .i64 0),.lit (.int .i64 0),.lit (.int .i64 0),.lit (.bool false)],.agg [.lit (.int .i64 0),.lit (.int .i64 0),.lit (.int .i64 0),.lit (.int .i64 0),.lit (.int .i64 0),.lit (.bool false)],.lit (.int .i64 0),.lit (.bool false),.lit (.bool false),.nil,.nil,.lit (.int .i64 0),.lit (.int .i64 0),.lit (.int .i64 0),.lit (.int .i64 0),.lit (.int .i64 0)],.lit (.int .i64 0),.lit (.int .i64 0),.lit (.int .i64 0)]
theorem laid_met (os:Os):laidMet Tryz.prog Rows.cellRightUptoRow.laid ((laidWorld os).forCall (fun _ _=>0) ⟨#[],zeros,[]⟩).memory:=
 laidMet_of_run' 8 (by kernel_rfl) (by kernel_rfl)
theorem reads (os:Os){H:Type}(enc:TypeId×Value→H):∃places,DataW.whole enc Tryz.prog ((laidWorld os).forCall (fun _ _=>0) ⟨#[],zeros,[]⟩).memory Tryz.f7.params.toList Rows.cellRightSpec.vars false zeros.toList 12=some (zdata H,[],places):=
 ⟨[],by kernel_rfl⟩
theorem lifted (os:Os)(started:os.Started)(H:Type)(enc:TypeId×Value→H)(F:Stop.Interp) :
  ReturnsInHanded {} Tryz.checked os 7 .any ((Rows.OpenSpec.upto Rows.cellRightSpec).preRow enc Tryz.prog Tryz.f7 Rows.cellRightUptoRow.domain false Rows.cellRightUptoRow.laid) (((Rows.OpenSpec.upto Rows.cellRightSpec).at F).post enc Tryz.prog Tryz.f7 false true false false):=by
 obtain⟨places,hx⟩:=reads os enc
 refine returnsInHanded_of_row (C:=Tryz.checked) (s:=Rows.OpenSpec.upto Rows.cellRightSpec) own started (by kernel_rfl) Tryz.func7
  (witness_row_at (enc:=enc) (C:=Tryz.checked) false (laidWorld os) zeros rfl (by kernel_rfl) (by kernel_rfl) (by kernel_rfl)
   (OpenSpec.preRow_of_cond 12 hx (by kernel_rfl) (fun k hk=>by cases hk;kernel_rfl) (by kernel_rfl) (laid_met os))) ?_
 intro W base args ds gs before hval hW _ hcond _ hl _ _
 exact contract H enc W base args ds gs before hval hl hW (hcond _ rfl)
theorem said:Rows.CellRightUptoSaid:=
 OpenClaim.holds_of_cond 7 Tryz.f7 rfl rfl rfl rfl rfl rfl rfl ⟨rfl,rfl,rfl,rfl,rfl⟩ rfl rfl rfl rfl rfl (by kernel_rfl) Tryz.func7 closed
  (of_decide_eq_true (by kernel_rfl)) (by unfold Func.isWrapper;first | (rw[if_pos (by decide +kernel)];kernel_rfl) | (rw[if_neg (by decide +kernel)];exact⟨rfl,rfl⟩))
  (fun os started H enc _ F=>by rw[OpenClaim.pre_eq_preRow];exact lifted os started H enc F)
theorem plain (f:FuncId)(fn:Func)(hf:Tryz.pinned.checked.prog.funcNamed "matins/matinslaw34.CellRight"=some f) (hfn:Tryz.pinned.checked.prog.funcs[f]?=some fn) :
  false=Tryz.pinned.checked.prog.looks []∧∀(j:Nat) t,fn.params[j]?=some t→Tryz.pinned.checked.prog.wantsStandIn t=false:=by
 obtain rfl:f=7:=Option.some.inj ((show Tryz.prog.funcNamed "matins/matinslaw34.CellRight"=some 7 by kernel_rfl).symm.trans hf) |>.symm
 obtain rfl:fn=Tryz.f7:=(Option.some.inj (Tryz.func7.symm.trans hfn)).symm
 refine⟨by kernel_rfl,fun j t ht=>?_⟩
 rw[Tryz.params7]at ht
 have h:([43,33,3,3,3]:List Nat).all (fun t=>!Tryz.prog.wantsStandIn t)=true:=by kernel_rfl
 have:=List.all_eq_true.1 h t (by simpa using Array.mem_of_getElem? ht)
 exact(show Tryz.prog.wantsStandIn t=false by simpa using this)
theorem card:Rows.CellRightUptoCardSaid:=
 Claim7.holds_tied_plain_at .later [] _ _ _ _ said (fun _ h=>by cases h) (by kernel_rfl) (fun _ h=>by cases h) cellRightUpto_row_tie rfl ⟨rfl,rfl⟩ (by kernel_rfl) rfl plain (by kernel_rfl)
end Go.Proofs.YtibiooglhpjojaaGreatDoor.cellRight
