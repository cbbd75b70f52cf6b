/- What a reading of an argument gives, type by type. Printed by dec.py. -/
import Derived.Test.YtibiooglhpjojaaGreatDoorB1
import Derived.Test.YtibiooglhpjojaaGreatDoorS34
set_option linter.unusedSimpArgs false
set_option linter.unusedVariables false
namespace Go.AW
open Go.RowKit Go.Proofs
section
variable {H : Type} {enc : TypeId × Value → H} {W : World}
theorem cz_3 : Tryz.prog.cellsOf 3 = 1 := by kernel_rfl
theorem cz_9 : Tryz.prog.cellsOf 9 = 1 := by kernel_rfl
theorem cz_162 : Tryz.prog.cellsOf 162 = 2 := by kernel_rfl
def RelT.Ok (x : RelT) : Prop := I64 x.Kind ∧ x.Name.size ≤ 9223372036854775807
theorem dec_RelT : Dec enc Tryz.prog W 162 RelT.cells RelT.Ok := by
  intro n cs x h
  obtain ⟨hl, m, hf⟩ := dec_fields Tryz.underlying162 h
  obtain ⟨y0, h0⟩ := hf 0 _ rfl
  change rd enc Tryz.prog W m 3 ((cs.drop 0).take (Tryz.prog.cellsOf 3)) = some y0 at h0
  rw [cz_3] at h0
  obtain ⟨a0, r0, o0⟩ := (dec_int Tryz.underlying3) m _ y0 h0
  obtain ⟨y1, h1⟩ := hf 1 _ rfl
  change rd enc Tryz.prog W m 9 ((cs.drop 1).take (Tryz.prog.cellsOf 9)) = some y1 at h1
  rw [cz_9] at h1
  obtain ⟨a1, r1, o1⟩ := (dec_str Tryz.underlying9) m _ y1 h1
  refine ⟨⟨a0, a1⟩, ?_, o0, o1⟩
  show RepAt (pubOf W) cs 0 _
  refine RepAt.one r0 ?_
  refine RepAt.one r1 ?_
  exact RepAt.nil (hl.trans cz_162)
theorem cz_4 : Tryz.prog.cellsOf 4 = 1 := by kernel_rfl
theorem cz_26 : Tryz.prog.cellsOf 26 = 1 := by kernel_rfl
theorem cz_158 : Tryz.prog.cellsOf 158 = 2 := by kernel_rfl
def ExecT.Ok (x : ExecT) : Prop := True ∧ (x.Words.length ≤ 9223372036854775807 ∧ ∀ a ∈ x.Words, a.size ≤ 9223372036854775807)
theorem dec_ExecT : Dec enc Tryz.prog W 158 ExecT.cells ExecT.Ok := by
  intro n cs x h
  obtain ⟨hl, m, hf⟩ := dec_fields Tryz.underlying158 h
  obtain ⟨y0, h0⟩ := hf 0 _ rfl
  change rd enc Tryz.prog W m 4 ((cs.drop 0).take (Tryz.prog.cellsOf 4)) = some y0 at h0
  rw [cz_4] at h0
  obtain ⟨a0, r0, o0⟩ := (dec_bool Tryz.underlying4) m _ y0 h0
  obtain ⟨y1, h1⟩ := hf 1 _ rfl
  change rd enc Tryz.prog W m 26 ((cs.drop 1).take (Tryz.prog.cellsOf 26)) = some y1 at h1
  rw [cz_26] at h1
  obtain ⟨a1, r1, o1⟩ := (dec_sl Tryz.underlying26 cz_9 (by decide) (dec_str Tryz.underlying9)) m _ y1 h1
  refine ⟨⟨a0, a1⟩, ?_, o0, o1⟩
  show RepAt (pubOf W) cs 0 _
  refine RepAt.one r0 ?_
  refine RepAt.one r1 ?_
  exact RepAt.nil (hl.trans cz_158)
theorem cz_160 : Tryz.prog.cellsOf 160 = 2 := by kernel_rfl
def PairT.Ok (x : PairT) : Prop := x.Name.size ≤ 9223372036854775807 ∧ x.Val.size ≤ 9223372036854775807
theorem dec_PairT : Dec enc Tryz.prog W 160 PairT.cells PairT.Ok := by
  intro n cs x h
  obtain ⟨hl, m, hf⟩ := dec_fields Tryz.underlying160 h
  obtain ⟨y0, h0⟩ := hf 0 _ rfl
  change rd enc Tryz.prog W m 9 ((cs.drop 0).take (Tryz.prog.cellsOf 9)) = some y0 at h0
  rw [cz_9] at h0
  obtain ⟨a0, r0, o0⟩ := (dec_str Tryz.underlying9) m _ y0 h0
  obtain ⟨y1, h1⟩ := hf 1 _ rfl
  change rd enc Tryz.prog W m 9 ((cs.drop 1).take (Tryz.prog.cellsOf 9)) = some y1 at h1
  rw [cz_9] at h1
  obtain ⟨a1, r1, o1⟩ := (dec_str Tryz.underlying9) m _ y1 h1
  refine ⟨⟨a0, a1⟩, ?_, o0, o1⟩
  show RepAt (pubOf W) cs 0 _
  refine RepAt.one r0 ?_
  refine RepAt.one r1 ?_
  exact RepAt.nil (hl.trans cz_160)
theorem cz_22 : Tryz.prog.cellsOf 22 = 1 := by kernel_rfl
theorem cz_23 : Tryz.prog.cellsOf 23 = 1 := by kernel_rfl
theorem cz_24 : Tryz.prog.cellsOf 24 = 1 := by kernel_rfl
theorem cz_25 : Tryz.prog.cellsOf 25 = 1 := by kernel_rfl
theorem cz_28 : Tryz.prog.cellsOf 28 = 35 := by kernel_rfl
def UnitT.Ok (x : UnitT) : Prop := x.Name.size ≤ 9223372036854775807 ∧ I64 x.Kind ∧ x.Desc.size ≤ 9223372036854775807 ∧ True ∧ (x.Rels.length ≤ 9223372036854775807 ∧ ∀ a ∈ x.Rels, RelT.Ok a) ∧ I64 x.Every ∧ I64 x.Burst ∧ I64 x.Typ ∧ (x.Pre.length ≤ 9223372036854775807 ∧ ∀ a ∈ x.Pre, ExecT.Ok a) ∧ (x.Start.length ≤ 9223372036854775807 ∧ ∀ a ∈ x.Start, ExecT.Ok a) ∧ (x.Post.length ≤ 9223372036854775807 ∧ ∀ a ∈ x.Post, ExecT.Ok a) ∧ (x.Stop.length ≤ 9223372036854775807 ∧ ∀ a ∈ x.Stop, ExecT.Ok a) ∧ (x.Reload.length ≤ 9223372036854775807 ∧ ∀ a ∈ x.Reload, ExecT.Ok a) ∧ True ∧ I64 x.Restart ∧ I64 x.Pause ∧ I64 x.Up ∧ I64 x.Down ∧ (x.Success.length ≤ 9223372036854775807 ∧ ∀ a ∈ x.Success, I64 a) ∧ (x.Env.length ≤ 9223372036854775807 ∧ ∀ a ∈ x.Env, PairT.Ok a) ∧ (x.Sockets.length ≤ 9223372036854775807 ∧ ∀ a ∈ x.Sockets, a.size ≤ 9223372036854775807) ∧ (x.Ports.length ≤ 9223372036854775807 ∧ ∀ a ∈ x.Ports, I64 a) ∧ I64 x.Backlog ∧ x.FdName.size ≤ 9223372036854775807 ∧ x.Wakes.size ≤ 9223372036854775807 ∧ (x.Boot.length ≤ 9223372036854775807 ∧ ∀ a ∈ x.Boot, I64 a) ∧ (x.Active.length ≤ 9223372036854775807 ∧ ∀ a ∈ x.Active, I64 a) ∧ (x.Idle.length ≤ 9223372036854775807 ∧ ∀ a ∈ x.Idle, I64 a) ∧ (x.Calendar.length ≤ 9223372036854775807 ∧ ∀ a ∈ x.Calendar, a.size ≤ 9223372036854775807) ∧ True ∧ (x.WantedBy.length ≤ 9223372036854775807 ∧ ∀ a ∈ x.WantedBy, a.size ≤ 9223372036854775807) ∧ (x.RequiredBy.length ≤ 9223372036854775807 ∧ ∀ a ∈ x.RequiredBy, a.size ≤ 9223372036854775807) ∧ (x.Alias.length ≤ 9223372036854775807 ∧ ∀ a ∈ x.Alias, a.size ≤ 9223372036854775807) ∧ (x.Also.length ≤ 9223372036854775807 ∧ ∀ a ∈ x.Also, a.size ≤ 9223372036854775807) ∧ x.Instance.size ≤ 9223372036854775807
theorem dec_UnitT : Dec enc Tryz.prog W 28 UnitT.cells UnitT.Ok := by
  intro n cs x h
  obtain ⟨hl, m, hf⟩ := dec_fields Tryz.underlying28 h
  obtain ⟨y0, h0⟩ := hf 0 _ rfl
  change rd enc Tryz.prog W m 9 ((cs.drop 0).take (Tryz.prog.cellsOf 9)) = some y0 at h0
  rw [cz_9] at h0
  obtain ⟨a0, r0, o0⟩ := (dec_str Tryz.underlying9) m _ y0 h0
  obtain ⟨y1, h1⟩ := hf 1 _ rfl
  change rd enc Tryz.prog W m 3 ((cs.drop 1).take (Tryz.prog.cellsOf 3)) = some y1 at h1
  rw [cz_3] at h1
  obtain ⟨a1, r1, o1⟩ := (dec_int Tryz.underlying3) m _ y1 h1
  obtain ⟨y2, h2⟩ := hf 2 _ rfl
  change rd enc Tryz.prog W m 9 ((cs.drop 2).take (Tryz.prog.cellsOf 9)) = some y2 at h2
  rw [cz_9] at h2
  obtain ⟨a2, r2, o2⟩ := (dec_str Tryz.underlying9) m _ y2 h2
  obtain ⟨y3, h3⟩ := hf 3 _ rfl
  change rd enc Tryz.prog W m 4 ((cs.drop 3).take (Tryz.prog.cellsOf 4)) = some y3 at h3
  rw [cz_4] at h3
  obtain ⟨a3, r3, o3⟩ := (dec_bool Tryz.underlying4) m _ y3 h3
  obtain ⟨y4, h4⟩ := hf 4 _ rfl
  change rd enc Tryz.prog W m 22 ((cs.drop 4).take (Tryz.prog.cellsOf 22)) = some y4 at h4
  rw [cz_22] at h4
  obtain ⟨a4, r4, o4⟩ := (dec_sl Tryz.underlying22 cz_162 (by decide) dec_RelT) m _ y4 h4
  obtain ⟨y5, h5⟩ := hf 5 _ rfl
  change rd enc Tryz.prog W m 3 ((cs.drop 5).take (Tryz.prog.cellsOf 3)) = some y5 at h5
  rw [cz_3] at h5
  obtain ⟨a5, r5, o5⟩ := (dec_int Tryz.underlying3) m _ y5 h5
  obtain ⟨y6, h6⟩ := hf 6 _ rfl
  change rd enc Tryz.prog W m 3 ((cs.drop 6).take (Tryz.prog.cellsOf 3)) = some y6 at h6
  rw [cz_3] at h6
  obtain ⟨a6, r6, o6⟩ := (dec_int Tryz.underlying3) m _ y6 h6
  obtain ⟨y7, h7⟩ := hf 7 _ rfl
  change rd enc Tryz.prog W m 3 ((cs.drop 7).take (Tryz.prog.cellsOf 3)) = some y7 at h7
  rw [cz_3] at h7
  obtain ⟨a7, r7, o7⟩ := (dec_int Tryz.underlying3) m _ y7 h7
  obtain ⟨y8, h8⟩ := hf 8 _ rfl
  change rd enc Tryz.prog W m 23 ((cs.drop 8).take (Tryz.prog.cellsOf 23)) = some y8 at h8
  rw [cz_23] at h8
  obtain ⟨a8, r8, o8⟩ := (dec_sl Tryz.underlying23 cz_158 (by decide) dec_ExecT) m _ y8 h8
  obtain ⟨y9, h9⟩ := hf 9 _ rfl
  change rd enc Tryz.prog W m 23 ((cs.drop 9).take (Tryz.prog.cellsOf 23)) = some y9 at h9
  rw [cz_23] at h9
  obtain ⟨a9, r9, o9⟩ := (dec_sl Tryz.underlying23 cz_158 (by decide) dec_ExecT) m _ y9 h9
  obtain ⟨y10, h10⟩ := hf 10 _ rfl
  change rd enc Tryz.prog W m 23 ((cs.drop 10).take (Tryz.prog.cellsOf 23)) = some y10 at h10
  rw [cz_23] at h10
  obtain ⟨a10, r10, o10⟩ := (dec_sl Tryz.underlying23 cz_158 (by decide) dec_ExecT) m _ y10 h10
  obtain ⟨y11, h11⟩ := hf 11 _ rfl
  change rd enc Tryz.prog W m 23 ((cs.drop 11).take (Tryz.prog.cellsOf 23)) = some y11 at h11
  rw [cz_23] at h11
  obtain ⟨a11, r11, o11⟩ := (dec_sl Tryz.underlying23 cz_158 (by decide) dec_ExecT) m _ y11 h11
  obtain ⟨y12, h12⟩ := hf 12 _ rfl
  change rd enc Tryz.prog W m 23 ((cs.drop 12).take (Tryz.prog.cellsOf 23)) = some y12 at h12
  rw [cz_23] at h12
  obtain ⟨a12, r12, o12⟩ := (dec_sl Tryz.underlying23 cz_158 (by decide) dec_ExecT) m _ y12 h12
  obtain ⟨y13, h13⟩ := hf 13 _ rfl
  change rd enc Tryz.prog W m 4 ((cs.drop 13).take (Tryz.prog.cellsOf 4)) = some y13 at h13
  rw [cz_4] at h13
  obtain ⟨a13, r13, o13⟩ := (dec_bool Tryz.underlying4) m _ y13 h13
  obtain ⟨y14, h14⟩ := hf 14 _ rfl
  change rd enc Tryz.prog W m 3 ((cs.drop 14).take (Tryz.prog.cellsOf 3)) = some y14 at h14
  rw [cz_3] at h14
  obtain ⟨a14, r14, o14⟩ := (dec_int Tryz.underlying3) m _ y14 h14
  obtain ⟨y15, h15⟩ := hf 15 _ rfl
  change rd enc Tryz.prog W m 3 ((cs.drop 15).take (Tryz.prog.cellsOf 3)) = some y15 at h15
  rw [cz_3] at h15
  obtain ⟨a15, r15, o15⟩ := (dec_int Tryz.underlying3) m _ y15 h15
  obtain ⟨y16, h16⟩ := hf 16 _ rfl
  change rd enc Tryz.prog W m 3 ((cs.drop 16).take (Tryz.prog.cellsOf 3)) = some y16 at h16
  rw [cz_3] at h16
  obtain ⟨a16, r16, o16⟩ := (dec_int Tryz.underlying3) m _ y16 h16
  obtain ⟨y17, h17⟩ := hf 17 _ rfl
  change rd enc Tryz.prog W m 3 ((cs.drop 17).take (Tryz.prog.cellsOf 3)) = some y17 at h17
  rw [cz_3] at h17
  obtain ⟨a17, r17, o17⟩ := (dec_int Tryz.underlying3) m _ y17 h17
  obtain ⟨y18, h18⟩ := hf 18 _ rfl
  change rd enc Tryz.prog W m 24 ((cs.drop 18).take (Tryz.prog.cellsOf 24)) = some y18 at h18
  rw [cz_24] at h18
  obtain ⟨a18, r18, o18⟩ := (dec_sl Tryz.underlying24 cz_3 (by decide) (dec_int Tryz.underlying3)) m _ y18 h18
  obtain ⟨y19, h19⟩ := hf 19 _ rfl
  change rd enc Tryz.prog W m 25 ((cs.drop 19).take (Tryz.prog.cellsOf 25)) = some y19 at h19
  rw [cz_25] at h19
  obtain ⟨a19, r19, o19⟩ := (dec_sl Tryz.underlying25 cz_160 (by decide) dec_PairT) m _ y19 h19
  obtain ⟨y20, h20⟩ := hf 20 _ rfl
  change rd enc Tryz.prog W m 26 ((cs.drop 20).take (Tryz.prog.cellsOf 26)) = some y20 at h20
  rw [cz_26] at h20
  obtain ⟨a20, r20, o20⟩ := (dec_sl Tryz.underlying26 cz_9 (by decide) (dec_str Tryz.underlying9)) m _ y20 h20
  obtain ⟨y21, h21⟩ := hf 21 _ rfl
  change rd enc Tryz.prog W m 24 ((cs.drop 21).take (Tryz.prog.cellsOf 24)) = some y21 at h21
  rw [cz_24] at h21
  obtain ⟨a21, r21, o21⟩ := (dec_sl Tryz.underlying24 cz_3 (by decide) (dec_int Tryz.underlying3)) m _ y21 h21
  obtain ⟨y22, h22⟩ := hf 22 _ rfl
  change rd enc Tryz.prog W m 3 ((cs.drop 22).take (Tryz.prog.cellsOf 3)) = some y22 at h22
  rw [cz_3] at h22
  obtain ⟨a22, r22, o22⟩ := (dec_int Tryz.underlying3) m _ y22 h22
  obtain ⟨y23, h23⟩ := hf 23 _ rfl
  change rd enc Tryz.prog W m 9 ((cs.drop 23).take (Tryz.prog.cellsOf 9)) = some y23 at h23
  rw [cz_9] at h23
  obtain ⟨a23, r23, o23⟩ := (dec_str Tryz.underlying9) m _ y23 h23
  obtain ⟨y24, h24⟩ := hf 24 _ rfl
  change rd enc Tryz.prog W m 9 ((cs.drop 24).take (Tryz.prog.cellsOf 9)) = some y24 at h24
  rw [cz_9] at h24
  obtain ⟨a24, r24, o24⟩ := (dec_str Tryz.underlying9) m _ y24 h24
  obtain ⟨y25, h25⟩ := hf 25 _ rfl
  change rd enc Tryz.prog W m 24 ((cs.drop 25).take (Tryz.prog.cellsOf 24)) = some y25 at h25
  rw [cz_24] at h25
  obtain ⟨a25, r25, o25⟩ := (dec_sl Tryz.underlying24 cz_3 (by decide) (dec_int Tryz.underlying3)) m _ y25 h25
  obtain ⟨y26, h26⟩ := hf 26 _ rfl
  change rd enc Tryz.prog W m 24 ((cs.drop 26).take (Tryz.prog.cellsOf 24)) = some y26 at h26
  rw [cz_24] at h26
  obtain ⟨a26, r26, o26⟩ := (dec_sl Tryz.underlying24 cz_3 (by decide) (dec_int Tryz.underlying3)) m _ y26 h26
  obtain ⟨y27, h27⟩ := hf 27 _ rfl
  change rd enc Tryz.prog W m 24 ((cs.drop 27).take (Tryz.prog.cellsOf 24)) = some y27 at h27
  rw [cz_24] at h27
  obtain ⟨a27, r27, o27⟩ := (dec_sl Tryz.underlying24 cz_3 (by decide) (dec_int Tryz.underlying3)) m _ y27 h27
  obtain ⟨y28, h28⟩ := hf 28 _ rfl
  change rd enc Tryz.prog W m 26 ((cs.drop 28).take (Tryz.prog.cellsOf 26)) = some y28 at h28
  rw [cz_26] at h28
  obtain ⟨a28, r28, o28⟩ := (dec_sl Tryz.underlying26 cz_9 (by decide) (dec_str Tryz.underlying9)) m _ y28 h28
  obtain ⟨y29, h29⟩ := hf 29 _ rfl
  change rd enc Tryz.prog W m 4 ((cs.drop 29).take (Tryz.prog.cellsOf 4)) = some y29 at h29
  rw [cz_4] at h29
  obtain ⟨a29, r29, o29⟩ := (dec_bool Tryz.underlying4) m _ y29 h29
  obtain ⟨y30, h30⟩ := hf 30 _ rfl
  change rd enc Tryz.prog W m 26 ((cs.drop 30).take (Tryz.prog.cellsOf 26)) = some y30 at h30
  rw [cz_26] at h30
  obtain ⟨a30, r30, o30⟩ := (dec_sl Tryz.underlying26 cz_9 (by decide) (dec_str Tryz.underlying9)) m _ y30 h30
  obtain ⟨y31, h31⟩ := hf 31 _ rfl
  change rd enc Tryz.prog W m 26 ((cs.drop 31).take (Tryz.prog.cellsOf 26)) = some y31 at h31
  rw [cz_26] at h31
  obtain ⟨a31, r31, o31⟩ := (dec_sl Tryz.underlying26 cz_9 (by decide) (dec_str Tryz.underlying9)) m _ y31 h31
  obtain ⟨y32, h32⟩ := hf 32 _ rfl
  change rd enc Tryz.prog W m 26 ((cs.drop 32).take (Tryz.prog.cellsOf 26)) = some y32 at h32
  rw [cz_26] at h32
  obtain ⟨a32, r32, o32⟩ := (dec_sl Tryz.underlying26 cz_9 (by decide) (dec_str Tryz.underlying9)) m _ y32 h32
  obtain ⟨y33, h33⟩ := hf 33 _ rfl
  change rd enc Tryz.prog W m 26 ((cs.drop 33).take (Tryz.prog.cellsOf 26)) = some y33 at h33
  rw [cz_26] at h33
  obtain ⟨a33, r33, o33⟩ := (dec_sl Tryz.underlying26 cz_9 (by decide) (dec_str Tryz.underlying9)) m _ y33 h33
  obtain ⟨y34, h34⟩ := hf 34 _ rfl
  change rd enc Tryz.prog W m 9 ((cs.drop 34).take (Tryz.prog.cellsOf 9)) = some y34 at h34
  rw [cz_9] at h34
  obtain ⟨a34, r34, o34⟩ := (dec_str Tryz.underlying9) m _ y34 h34
  refine ⟨⟨a0, a1, a2, a3, a4, a5, a6, a7, a8, a9, a10, a11, a12, a13, a14, a15, a16, a17, a18, a19, a20, a21, a22, a23, a24, a25, a26, a27, a28, a29, a30, a31, a32, a33, a34⟩, ?_, o0, o1, o2, o3, o4, o5, o6, o7, o8, o9, o10, o11, o12, o13, o14, o15, o16, o17, o18, o19, o20, o21, o22, o23, o24, o25, o26, o27, o28, o29, o30, o31, o32, o33, o34⟩
  show RepAt (pubOf W) cs 0 _
  refine RepAt.one r0 ?_
  refine RepAt.one r1 ?_
  refine RepAt.one r2 ?_
  refine RepAt.one r3 ?_
  refine RepAt.one r4 ?_
  refine RepAt.one r5 ?_
  refine RepAt.one r6 ?_
  refine RepAt.one r7 ?_
  refine RepAt.one r8 ?_
  refine RepAt.one r9 ?_
  refine RepAt.one r10 ?_
  refine RepAt.one r11 ?_
  refine RepAt.one r12 ?_
  refine RepAt.one r13 ?_
  refine RepAt.one r14 ?_
  refine RepAt.one r15 ?_
  refine RepAt.one r16 ?_
  refine RepAt.one r17 ?_
  refine RepAt.one r18 ?_
  refine RepAt.one r19 ?_
  refine RepAt.one r20 ?_
  refine RepAt.one r21 ?_
  refine RepAt.one r22 ?_
  refine RepAt.one r23 ?_
  refine RepAt.one r24 ?_
  refine RepAt.one r25 ?_
  refine RepAt.one r26 ?_
  refine RepAt.one r27 ?_
  refine RepAt.one r28 ?_
  refine RepAt.one r29 ?_
  refine RepAt.one r30 ?_
  refine RepAt.one r31 ?_
  refine RepAt.one r32 ?_
  refine RepAt.one r33 ?_
  refine RepAt.one r34 ?_
  exact RepAt.nil (hl.trans cz_28)
theorem cz_30 : Tryz.prog.cellsOf 30 = 6 := by kernel_rfl
def RunT.Ok (x : RunT) : Prop := I64 x.Part ∧ I64 x.Num ∧ I64 x.Begun ∧ I64 x.Told ∧ I64 x.Said ∧ True
theorem dec_RunT : Dec enc Tryz.prog W 30 RunT.cells RunT.Ok := by
  intro n cs x h
  obtain ⟨hl, m, hf⟩ := dec_fields Tryz.underlying30 h
  obtain ⟨y0, h0⟩ := hf 0 _ rfl
  change rd enc Tryz.prog W m 3 ((cs.drop 0).take (Tryz.prog.cellsOf 3)) = some y0 at h0
  rw [cz_3] at h0
  obtain ⟨a0, r0, o0⟩ := (dec_int Tryz.underlying3) m _ y0 h0
  obtain ⟨y1, h1⟩ := hf 1 _ rfl
  change rd enc Tryz.prog W m 3 ((cs.drop 1).take (Tryz.prog.cellsOf 3)) = some y1 at h1
  rw [cz_3] at h1
  obtain ⟨a1, r1, o1⟩ := (dec_int Tryz.underlying3) m _ y1 h1
  obtain ⟨y2, h2⟩ := hf 2 _ rfl
  change rd enc Tryz.prog W m 3 ((cs.drop 2).take (Tryz.prog.cellsOf 3)) = some y2 at h2
  rw [cz_3] at h2
  obtain ⟨a2, r2, o2⟩ := (dec_int Tryz.underlying3) m _ y2 h2
  obtain ⟨y3, h3⟩ := hf 3 _ rfl
  change rd enc Tryz.prog W m 3 ((cs.drop 3).take (Tryz.prog.cellsOf 3)) = some y3 at h3
  rw [cz_3] at h3
  obtain ⟨a3, r3, o3⟩ := (dec_int Tryz.underlying3) m _ y3 h3
  obtain ⟨y4, h4⟩ := hf 4 _ rfl
  change rd enc Tryz.prog W m 3 ((cs.drop 4).take (Tryz.prog.cellsOf 3)) = some y4 at h4
  rw [cz_3] at h4
  obtain ⟨a4, r4, o4⟩ := (dec_int Tryz.underlying3) m _ y4 h4
  obtain ⟨y5, h5⟩ := hf 5 _ rfl
  change rd enc Tryz.prog W m 4 ((cs.drop 5).take (Tryz.prog.cellsOf 4)) = some y5 at h5
  rw [cz_4] at h5
  obtain ⟨a5, r5, o5⟩ := (dec_bool Tryz.underlying4) m _ y5 h5
  refine ⟨⟨a0, a1, a2, a3, a4, a5⟩, ?_, o0, o1, o2, o3, o4, o5⟩
  show RepAt (pubOf W) cs 0 _
  refine RepAt.one r0 ?_
  refine RepAt.one r1 ?_
  refine RepAt.one r2 ?_
  refine RepAt.one r3 ?_
  refine RepAt.one r4 ?_
  refine RepAt.one r5 ?_
  exact RepAt.nil (hl.trans cz_30)
theorem cz_105 : Tryz.prog.cellsOf 105 = 5 := by kernel_rfl
def ConnT.Ok (x : ConnT) : Prop := x.Socket.size ≤ 9223372036854775807 ∧ I64 x.Num ∧ I64 x.Tries ∧ I64 x.Takes ∧ I64 x.Until
theorem dec_ConnT : Dec enc Tryz.prog W 105 ConnT.cells ConnT.Ok := by
  intro n cs x h
  obtain ⟨hl, m, hf⟩ := dec_fields Tryz.underlying105 h
  obtain ⟨y0, h0⟩ := hf 0 _ rfl
  change rd enc Tryz.prog W m 9 ((cs.drop 0).take (Tryz.prog.cellsOf 9)) = some y0 at h0
  rw [cz_9] at h0
  obtain ⟨a0, r0, o0⟩ := (dec_str Tryz.underlying9) m _ y0 h0
  obtain ⟨y1, h1⟩ := hf 1 _ rfl
  change rd enc Tryz.prog W m 3 ((cs.drop 1).take (Tryz.prog.cellsOf 3)) = some y1 at h1
  rw [cz_3] at h1
  obtain ⟨a1, r1, o1⟩ := (dec_int Tryz.underlying3) m _ y1 h1
  obtain ⟨y2, h2⟩ := hf 2 _ rfl
  change rd enc Tryz.prog W m 3 ((cs.drop 2).take (Tryz.prog.cellsOf 3)) = some y2 at h2
  rw [cz_3] at h2
  obtain ⟨a2, r2, o2⟩ := (dec_int Tryz.underlying3) m _ y2 h2
  obtain ⟨y3, h3⟩ := hf 3 _ rfl
  change rd enc Tryz.prog W m 3 ((cs.drop 3).take (Tryz.prog.cellsOf 3)) = some y3 at h3
  rw [cz_3] at h3
  obtain ⟨a3, r3, o3⟩ := (dec_int Tryz.underlying3) m _ y3 h3
  obtain ⟨y4, h4⟩ := hf 4 _ rfl
  change rd enc Tryz.prog W m 3 ((cs.drop 4).take (Tryz.prog.cellsOf 3)) = some y4 at h4
  rw [cz_3] at h4
  obtain ⟨a4, r4, o4⟩ := (dec_int Tryz.underlying3) m _ y4 h4
  refine ⟨⟨a0, a1, a2, a3, a4⟩, ?_, o0, o1, o2, o3, o4⟩
  show RepAt (pubOf W) cs 0 _
  refine RepAt.one r0 ?_
  refine RepAt.one r1 ?_
  refine RepAt.one r2 ?_
  refine RepAt.one r3 ?_
  refine RepAt.one r4 ?_
  exact RepAt.nil (hl.trans cz_105)
theorem cz_31 : Tryz.prog.cellsOf 31 = 1 := by kernel_rfl
theorem cz_33 : Tryz.prog.cellsOf 33 = 62 := by kernel_rfl
def CellT.Ok (x : CellT) : Prop := UnitT.Ok x.U ∧ I64 x.State ∧ I64 x.Since ∧ I64 x.Attempt ∧ (x.Begins.length ≤ 9223372036854775807 ∧ ∀ a ∈ x.Begins, I64 a) ∧ I64 x.Result ∧ RunT.Ok x.Main ∧ RunT.Ok x.Aux ∧ I64 x.Over ∧ True ∧ True ∧ (x.Serves.length ≤ 9223372036854775807 ∧ ∀ a ∈ x.Serves, ConnT.Ok a) ∧ (x.Waits.length ≤ 9223372036854775807 ∧ ∀ a ∈ x.Waits, ConnT.Ok a) ∧ I64 x.Seen ∧ I64 x.Num ∧ I64 x.Last ∧ I64 x.Next ∧ I64 x.Rows
theorem dec_CellT : Dec enc Tryz.prog W 33 CellT.cells CellT.Ok := by
  intro n cs x h
  obtain ⟨hl, m, hf⟩ := dec_fields Tryz.underlying33 h
  obtain ⟨y0, h0⟩ := hf 0 _ rfl
  change rd enc Tryz.prog W m 28 ((cs.drop 0).take (Tryz.prog.cellsOf 28)) = some y0 at h0
  rw [cz_28] at h0
  obtain ⟨a0, r0, o0⟩ := dec_UnitT m _ y0 h0
  obtain ⟨y1, h1⟩ := hf 1 _ rfl
  change rd enc Tryz.prog W m 3 ((cs.drop 35).take (Tryz.prog.cellsOf 3)) = some y1 at h1
  rw [cz_3] at h1
  obtain ⟨a1, r1, o1⟩ := (dec_int Tryz.underlying3) m _ y1 h1
  obtain ⟨y2, h2⟩ := hf 2 _ rfl
  change rd enc Tryz.prog W m 3 ((cs.drop 36).take (Tryz.prog.cellsOf 3)) = some y2 at h2
  rw [cz_3] at h2
  obtain ⟨a2, r2, o2⟩ := (dec_int Tryz.underlying3) m _ y2 h2
  obtain ⟨y3, h3⟩ := hf 3 _ rfl
  change rd enc Tryz.prog W m 3 ((cs.drop 37).take (Tryz.prog.cellsOf 3)) = some y3 at h3
  rw [cz_3] at h3
  obtain ⟨a3, r3, o3⟩ := (dec_int Tryz.underlying3) m _ y3 h3
  obtain ⟨y4, h4⟩ := hf 4 _ rfl
  change rd enc Tryz.prog W m 24 ((cs.drop 38).take (Tryz.prog.cellsOf 24)) = some y4 at h4
  rw [cz_24] at h4
  obtain ⟨a4, r4, o4⟩ := (dec_sl Tryz.underlying24 cz_3 (by decide) (dec_int Tryz.underlying3)) m _ y4 h4
  obtain ⟨y5, h5⟩ := hf 5 _ rfl
  change rd enc Tryz.prog W m 3 ((cs.drop 39).take (Tryz.prog.cellsOf 3)) = some y5 at h5
  rw [cz_3] at h5
  obtain ⟨a5, r5, o5⟩ := (dec_int Tryz.underlying3) m _ y5 h5
  obtain ⟨y6, h6⟩ := hf 6 _ rfl
  change rd enc Tryz.prog W m 30 ((cs.drop 40).take (Tryz.prog.cellsOf 30)) = some y6 at h6
  rw [cz_30] at h6
  obtain ⟨a6, r6, o6⟩ := dec_RunT m _ y6 h6
  obtain ⟨y7, h7⟩ := hf 7 _ rfl
  change rd enc Tryz.prog W m 30 ((cs.drop 46).take (Tryz.prog.cellsOf 30)) = some y7 at h7
  rw [cz_30] at h7
  obtain ⟨a7, r7, o7⟩ := dec_RunT m _ y7 h7
  obtain ⟨y8, h8⟩ := hf 8 _ rfl
  change rd enc Tryz.prog W m 3 ((cs.drop 52).take (Tryz.prog.cellsOf 3)) = some y8 at h8
  rw [cz_3] at h8
  obtain ⟨a8, r8, o8⟩ := (dec_int Tryz.underlying3) m _ y8 h8
  obtain ⟨y9, h9⟩ := hf 9 _ rfl
  change rd enc Tryz.prog W m 4 ((cs.drop 53).take (Tryz.prog.cellsOf 4)) = some y9 at h9
  rw [cz_4] at h9
  obtain ⟨a9, r9, o9⟩ := (dec_bool Tryz.underlying4) m _ y9 h9
  obtain ⟨y10, h10⟩ := hf 10 _ rfl
  change rd enc Tryz.prog W m 4 ((cs.drop 54).take (Tryz.prog.cellsOf 4)) = some y10 at h10
  rw [cz_4] at h10
  obtain ⟨a10, r10, o10⟩ := (dec_bool Tryz.underlying4) m _ y10 h10
  obtain ⟨y11, h11⟩ := hf 11 _ rfl
  change rd enc Tryz.prog W m 31 ((cs.drop 55).take (Tryz.prog.cellsOf 31)) = some y11 at h11
  rw [cz_31] at h11
  obtain ⟨a11, r11, o11⟩ := (dec_sl Tryz.underlying31 cz_105 (by decide) dec_ConnT) m _ y11 h11
  obtain ⟨y12, h12⟩ := hf 12 _ rfl
  change rd enc Tryz.prog W m 31 ((cs.drop 56).take (Tryz.prog.cellsOf 31)) = some y12 at h12
  rw [cz_31] at h12
  obtain ⟨a12, r12, o12⟩ := (dec_sl Tryz.underlying31 cz_105 (by decide) dec_ConnT) m _ y12 h12
  obtain ⟨y13, h13⟩ := hf 13 _ rfl
  change rd enc Tryz.prog W m 3 ((cs.drop 57).take (Tryz.prog.cellsOf 3)) = some y13 at h13
  rw [cz_3] at h13
  obtain ⟨a13, r13, o13⟩ := (dec_int Tryz.underlying3) m _ y13 h13
  obtain ⟨y14, h14⟩ := hf 14 _ rfl
  change rd enc Tryz.prog W m 3 ((cs.drop 58).take (Tryz.prog.cellsOf 3)) = some y14 at h14
  rw [cz_3] at h14
  obtain ⟨a14, r14, o14⟩ := (dec_int Tryz.underlying3) m _ y14 h14
  obtain ⟨y15, h15⟩ := hf 15 _ rfl
  change rd enc Tryz.prog W m 3 ((cs.drop 59).take (Tryz.prog.cellsOf 3)) = some y15 at h15
  rw [cz_3] at h15
  obtain ⟨a15, r15, o15⟩ := (dec_int Tryz.underlying3) m _ y15 h15
  obtain ⟨y16, h16⟩ := hf 16 _ rfl
  change rd enc Tryz.prog W m 3 ((cs.drop 60).take (Tryz.prog.cellsOf 3)) = some y16 at h16
  rw [cz_3] at h16
  obtain ⟨a16, r16, o16⟩ := (dec_int Tryz.underlying3) m _ y16 h16
  obtain ⟨y17, h17⟩ := hf 17 _ rfl
  change rd enc Tryz.prog W m 3 ((cs.drop 61).take (Tryz.prog.cellsOf 3)) = some y17 at h17
  rw [cz_3] at h17
  obtain ⟨a17, r17, o17⟩ := (dec_int Tryz.underlying3) m _ y17 h17
  refine ⟨⟨a0, a1, a2, a3, a4, a5, a6, a7, a8, a9, a10, a11, a12, a13, a14, a15, a16, a17⟩, ?_, o0, o1, o2, o3, o4, o5, o6, o7, o8, o9, o10, o11, o12, o13, o14, o15, o16, o17⟩
  show RepAt (pubOf W) cs 0 _
  simp only [CellT.cells, List.cons_append, List.nil_append]
  refine RepAt.app (n := 35) r0 ?_
  refine RepAt.one r1 ?_
  refine RepAt.one r2 ?_
  refine RepAt.one r3 ?_
  refine RepAt.one r4 ?_
  refine RepAt.one r5 ?_
  refine RepAt.app (n := 6) r6 ?_
  refine RepAt.app (n := 6) r7 ?_
  refine RepAt.one r8 ?_
  refine RepAt.one r9 ?_
  refine RepAt.one r10 ?_
  refine RepAt.one r11 ?_
  refine RepAt.one r12 ?_
  refine RepAt.one r13 ?_
  refine RepAt.one r14 ?_
  refine RepAt.one r15 ?_
  refine RepAt.one r16 ?_
  refine RepAt.one r17 ?_
  exact RepAt.nil (hl.trans cz_33)
theorem cz_134 : Tryz.prog.cellsOf 134 = 2 := by kernel_rfl
def SaidT.Ok (x : SaidT) : Prop := I64 x.After ∧ x.Text.size ≤ 9223372036854775807
theorem dec_SaidT : Dec enc Tryz.prog W 134 SaidT.cells SaidT.Ok := by
  intro n cs x h
  obtain ⟨hl, m, hf⟩ := dec_fields Tryz.underlying134 h
  obtain ⟨y0, h0⟩ := hf 0 _ rfl
  change rd enc Tryz.prog W m 3 ((cs.drop 0).take (Tryz.prog.cellsOf 3)) = some y0 at h0
  rw [cz_3] at h0
  obtain ⟨a0, r0, o0⟩ := (dec_int Tryz.underlying3) m _ y0 h0
  obtain ⟨y1, h1⟩ := hf 1 _ rfl
  change rd enc Tryz.prog W m 9 ((cs.drop 1).take (Tryz.prog.cellsOf 9)) = some y1 at h1
  rw [cz_9] at h1
  obtain ⟨a1, r1, o1⟩ := (dec_str Tryz.underlying9) m _ y1 h1
  refine ⟨⟨a0, a1⟩, ?_, o0, o1⟩
  show RepAt (pubOf W) cs 0 _
  refine RepAt.one r0 ?_
  refine RepAt.one r1 ?_
  exact RepAt.nil (hl.trans cz_134)
theorem cz_87 : Tryz.prog.cellsOf 87 = 1 := by kernel_rfl
theorem cz_89 : Tryz.prog.cellsOf 89 = 9 := by kernel_rfl
def ActT.Ok (x : ActT) : Prop := x.UnitN.size ≤ 9223372036854775807 ∧ I64 x.Part ∧ I64 x.Num ∧ I64 x.Attempt ∧ I64 x.Lasts ∧ I64 x.Code ∧ I64 x.Ready ∧ I64 x.Dies ∧ (x.Says.length ≤ 9223372036854775807 ∧ ∀ a ∈ x.Says, SaidT.Ok a)
theorem dec_ActT : Dec enc Tryz.prog W 89 ActT.cells ActT.Ok := by
  intro n cs x h
  obtain ⟨hl, m, hf⟩ := dec_fields Tryz.underlying89 h
  obtain ⟨y0, h0⟩ := hf 0 _ rfl
  change rd enc Tryz.prog W m 9 ((cs.drop 0).take (Tryz.prog.cellsOf 9)) = some y0 at h0
  rw [cz_9] at h0
  obtain ⟨a0, r0, o0⟩ := (dec_str Tryz.underlying9) m _ y0 h0
  obtain ⟨y1, h1⟩ := hf 1 _ rfl
  change rd enc Tryz.prog W m 3 ((cs.drop 1).take (Tryz.prog.cellsOf 3)) = some y1 at h1
  rw [cz_3] at h1
  obtain ⟨a1, r1, o1⟩ := (dec_int Tryz.underlying3) m _ y1 h1
  obtain ⟨y2, h2⟩ := hf 2 _ rfl
  change rd enc Tryz.prog W m 3 ((cs.drop 2).take (Tryz.prog.cellsOf 3)) = some y2 at h2
  rw [cz_3] at h2
  obtain ⟨a2, r2, o2⟩ := (dec_int Tryz.underlying3) m _ y2 h2
  obtain ⟨y3, h3⟩ := hf 3 _ rfl
  change rd enc Tryz.prog W m 3 ((cs.drop 3).take (Tryz.prog.cellsOf 3)) = some y3 at h3
  rw [cz_3] at h3
  obtain ⟨a3, r3, o3⟩ := (dec_int Tryz.underlying3) m _ y3 h3
  obtain ⟨y4, h4⟩ := hf 4 _ rfl
  change rd enc Tryz.prog W m 3 ((cs.drop 4).take (Tryz.prog.cellsOf 3)) = some y4 at h4
  rw [cz_3] at h4
  obtain ⟨a4, r4, o4⟩ := (dec_int Tryz.underlying3) m _ y4 h4
  obtain ⟨y5, h5⟩ := hf 5 _ rfl
  change rd enc Tryz.prog W m 3 ((cs.drop 5).take (Tryz.prog.cellsOf 3)) = some y5 at h5
  rw [cz_3] at h5
  obtain ⟨a5, r5, o5⟩ := (dec_int Tryz.underlying3) m _ y5 h5
  obtain ⟨y6, h6⟩ := hf 6 _ rfl
  change rd enc Tryz.prog W m 3 ((cs.drop 6).take (Tryz.prog.cellsOf 3)) = some y6 at h6
  rw [cz_3] at h6
  obtain ⟨a6, r6, o6⟩ := (dec_int Tryz.underlying3) m _ y6 h6
  obtain ⟨y7, h7⟩ := hf 7 _ rfl
  change rd enc Tryz.prog W m 3 ((cs.drop 7).take (Tryz.prog.cellsOf 3)) = some y7 at h7
  rw [cz_3] at h7
  obtain ⟨a7, r7, o7⟩ := (dec_int Tryz.underlying3) m _ y7 h7
  obtain ⟨y8, h8⟩ := hf 8 _ rfl
  change rd enc Tryz.prog W m 87 ((cs.drop 8).take (Tryz.prog.cellsOf 87)) = some y8 at h8
  rw [cz_87] at h8
  obtain ⟨a8, r8, o8⟩ := (dec_sl Tryz.underlying87 cz_134 (by decide) dec_SaidT) m _ y8 h8
  refine ⟨⟨a0, a1, a2, a3, a4, a5, a6, a7, a8⟩, ?_, o0, o1, o2, o3, o4, o5, o6, o7, o8⟩
  show RepAt (pubOf W) cs 0 _
  refine RepAt.one r0 ?_
  refine RepAt.one r1 ?_
  refine RepAt.one r2 ?_
  refine RepAt.one r3 ?_
  refine RepAt.one r4 ?_
  refine RepAt.one r5 ?_
  refine RepAt.one r6 ?_
  refine RepAt.one r7 ?_
  refine RepAt.one r8 ?_
  exact RepAt.nil (hl.trans cz_89)
theorem cz_82 : Tryz.prog.cellsOf 82 = 3 := by kernel_rfl
def CallT.Ok (x : CallT) : Prop := I64 x.At ∧ I64 x.Port ∧ I64 x.Takes
theorem dec_CallT : Dec enc Tryz.prog W 82 CallT.cells CallT.Ok := by
  intro n cs x h
  obtain ⟨hl, m, hf⟩ := dec_fields Tryz.underlying82 h
  obtain ⟨y0, h0⟩ := hf 0 _ rfl
  change rd enc Tryz.prog W m 3 ((cs.drop 0).take (Tryz.prog.cellsOf 3)) = some y0 at h0
  rw [cz_3] at h0
  obtain ⟨a0, r0, o0⟩ := (dec_int Tryz.underlying3) m _ y0 h0
  obtain ⟨y1, h1⟩ := hf 1 _ rfl
  change rd enc Tryz.prog W m 3 ((cs.drop 1).take (Tryz.prog.cellsOf 3)) = some y1 at h1
  rw [cz_3] at h1
  obtain ⟨a1, r1, o1⟩ := (dec_int Tryz.underlying3) m _ y1 h1
  obtain ⟨y2, h2⟩ := hf 2 _ rfl
  change rd enc Tryz.prog W m 3 ((cs.drop 2).take (Tryz.prog.cellsOf 3)) = some y2 at h2
  rw [cz_3] at h2
  obtain ⟨a2, r2, o2⟩ := (dec_int Tryz.underlying3) m _ y2 h2
  refine ⟨⟨a0, a1, a2⟩, ?_, o0, o1, o2⟩
  show RepAt (pubOf W) cs 0 _
  refine RepAt.one r0 ?_
  refine RepAt.one r1 ?_
  refine RepAt.one r2 ?_
  exact RepAt.nil (hl.trans cz_82)
theorem cz_92 : Tryz.prog.cellsOf 92 = 3 := by kernel_rfl
def AskT.Ok (x : AskT) : Prop := I64 x.At ∧ x.UnitN.size ≤ 9223372036854775807 ∧ I64 x.Typ
theorem dec_AskT : Dec enc Tryz.prog W 92 AskT.cells AskT.Ok := by
  intro n cs x h
  obtain ⟨hl, m, hf⟩ := dec_fields Tryz.underlying92 h
  obtain ⟨y0, h0⟩ := hf 0 _ rfl
  change rd enc Tryz.prog W m 3 ((cs.drop 0).take (Tryz.prog.cellsOf 3)) = some y0 at h0
  rw [cz_3] at h0
  obtain ⟨a0, r0, o0⟩ := (dec_int Tryz.underlying3) m _ y0 h0
  obtain ⟨y1, h1⟩ := hf 1 _ rfl
  change rd enc Tryz.prog W m 9 ((cs.drop 1).take (Tryz.prog.cellsOf 9)) = some y1 at h1
  rw [cz_9] at h1
  obtain ⟨a1, r1, o1⟩ := (dec_str Tryz.underlying9) m _ y1 h1
  obtain ⟨y2, h2⟩ := hf 2 _ rfl
  change rd enc Tryz.prog W m 3 ((cs.drop 2).take (Tryz.prog.cellsOf 3)) = some y2 at h2
  rw [cz_3] at h2
  obtain ⟨a2, r2, o2⟩ := (dec_int Tryz.underlying3) m _ y2 h2
  refine ⟨⟨a0, a1, a2⟩, ?_, o0, o1, o2⟩
  show RepAt (pubOf W) cs 0 _
  refine RepAt.one r0 ?_
  refine RepAt.one r1 ?_
  refine RepAt.one r2 ?_
  exact RepAt.nil (hl.trans cz_92)
theorem cz_39 : Tryz.prog.cellsOf 39 = 1 := by kernel_rfl
theorem cz_40 : Tryz.prog.cellsOf 40 = 1 := by kernel_rfl
theorem cz_41 : Tryz.prog.cellsOf 41 = 1 := by kernel_rfl
theorem cz_43 : Tryz.prog.cellsOf 43 = 3 := by kernel_rfl
def WorldT.Ok (x : WorldT) : Prop := (x.Acts.length ≤ 9223372036854775807 ∧ ∀ a ∈ x.Acts, ActT.Ok a) ∧ (x.Calls.length ≤ 9223372036854775807 ∧ ∀ a ∈ x.Calls, CallT.Ok a) ∧ (x.Asks.length ≤ 9223372036854775807 ∧ ∀ a ∈ x.Asks, AskT.Ok a)
theorem dec_WorldT : Dec enc Tryz.prog W 43 WorldT.cells WorldT.Ok := by
  intro n cs x h
  obtain ⟨hl, m, hf⟩ := dec_fields Tryz.underlying43 h
  obtain ⟨y0, h0⟩ := hf 0 _ rfl
  change rd enc Tryz.prog W m 39 ((cs.drop 0).take (Tryz.prog.cellsOf 39)) = some y0 at h0
  rw [cz_39] at h0
  obtain ⟨a0, r0, o0⟩ := (dec_sl Tryz.underlying39 cz_89 (by decide) dec_ActT) m _ y0 h0
  obtain ⟨y1, h1⟩ := hf 1 _ rfl
  change rd enc Tryz.prog W m 40 ((cs.drop 1).take (Tryz.prog.cellsOf 40)) = some y1 at h1
  rw [cz_40] at h1
  obtain ⟨a1, r1, o1⟩ := (dec_sl Tryz.underlying40 cz_82 (by decide) dec_CallT) m _ y1 h1
  obtain ⟨y2, h2⟩ := hf 2 _ rfl
  change rd enc Tryz.prog W m 41 ((cs.drop 2).take (Tryz.prog.cellsOf 41)) = some y2 at h2
  rw [cz_41] at h2
  obtain ⟨a2, r2, o2⟩ := (dec_sl Tryz.underlying41 cz_92 (by decide) dec_AskT) m _ y2 h2
  refine ⟨⟨a0, a1, a2⟩, ?_, o0, o1, o2⟩
  show RepAt (pubOf W) cs 0 _
  refine RepAt.one r0 ?_
  refine RepAt.one r1 ?_
  refine RepAt.one r2 ?_
  exact RepAt.nil (hl.trans cz_43)
theorem cz_62 : Tryz.prog.cellsOf 62 = 5 := by kernel_rfl
def RowT.Ok (x : RowT) : Prop := I64 x.Time ∧ x.UnitN.size ≤ 9223372036854775807 ∧ I64 x.N ∧ I64 x.Kind ∧ x.Text.size ≤ 9223372036854775807
theorem dec_RowT : Dec enc Tryz.prog W 62 RowT.cells RowT.Ok := by
  intro n cs x h
  obtain ⟨hl, m, hf⟩ := dec_fields Tryz.underlying62 h
  obtain ⟨y0, h0⟩ := hf 0 _ rfl
  change rd enc Tryz.prog W m 3 ((cs.drop 0).take (Tryz.prog.cellsOf 3)) = some y0 at h0
  rw [cz_3] at h0
  obtain ⟨a0, r0, o0⟩ := (dec_int Tryz.underlying3) m _ y0 h0
  obtain ⟨y1, h1⟩ := hf 1 _ rfl
  change rd enc Tryz.prog W m 9 ((cs.drop 1).take (Tryz.prog.cellsOf 9)) = some y1 at h1
  rw [cz_9] at h1
  obtain ⟨a1, r1, o1⟩ := (dec_str Tryz.underlying9) m _ y1 h1
  obtain ⟨y2, h2⟩ := hf 2 _ rfl
  change rd enc Tryz.prog W m 3 ((cs.drop 2).take (Tryz.prog.cellsOf 3)) = some y2 at h2
  rw [cz_3] at h2
  obtain ⟨a2, r2, o2⟩ := (dec_int Tryz.underlying3) m _ y2 h2
  obtain ⟨y3, h3⟩ := hf 3 _ rfl
  change rd enc Tryz.prog W m 3 ((cs.drop 3).take (Tryz.prog.cellsOf 3)) = some y3 at h3
  rw [cz_3] at h3
  obtain ⟨a3, r3, o3⟩ := (dec_int Tryz.underlying3) m _ y3 h3
  obtain ⟨y4, h4⟩ := hf 4 _ rfl
  change rd enc Tryz.prog W m 9 ((cs.drop 4).take (Tryz.prog.cellsOf 9)) = some y4 at h4
  rw [cz_9] at h4
  obtain ⟨a4, r4, o4⟩ := (dec_str Tryz.underlying9) m _ y4 h4
  refine ⟨⟨a0, a1, a2, a3, a4⟩, ?_, o0, o1, o2, o3, o4⟩
  show RepAt (pubOf W) cs 0 _
  refine RepAt.one r0 ?_
  refine RepAt.one r1 ?_
  refine RepAt.one r2 ?_
  refine RepAt.one r3 ?_
  refine RepAt.one r4 ?_
  exact RepAt.nil (hl.trans cz_62)
theorem cz_45 : Tryz.prog.cellsOf 45 = 1 := by kernel_rfl
theorem cz_47 : Tryz.prog.cellsOf 47 = 5 := by kernel_rfl
def OutT.Ok (x : OutT) : Prop := (x.Rows.length ≤ 9223372036854775807 ∧ ∀ a ∈ x.Rows, RowT.Ok a) ∧ (x.Asks.length ≤ 9223372036854775807 ∧ ∀ a ∈ x.Asks, AskT.Ok a) ∧ (x.Back.length ≤ 9223372036854775807 ∧ ∀ a ∈ x.Back, ConnT.Ok a) ∧ True ∧ True
theorem dec_OutT : Dec enc Tryz.prog W 47 OutT.cells OutT.Ok := by
  intro n cs x h
  obtain ⟨hl, m, hf⟩ := dec_fields Tryz.underlying47 h
  obtain ⟨y0, h0⟩ := hf 0 _ rfl
  change rd enc Tryz.prog W m 45 ((cs.drop 0).take (Tryz.prog.cellsOf 45)) = some y0 at h0
  rw [cz_45] at h0
  obtain ⟨a0, r0, o0⟩ := (dec_sl Tryz.underlying45 cz_62 (by decide) dec_RowT) m _ y0 h0
  obtain ⟨y1, h1⟩ := hf 1 _ rfl
  change rd enc Tryz.prog W m 41 ((cs.drop 1).take (Tryz.prog.cellsOf 41)) = some y1 at h1
  rw [cz_41] at h1
  obtain ⟨a1, r1, o1⟩ := (dec_sl Tryz.underlying41 cz_92 (by decide) dec_AskT) m _ y1 h1
  obtain ⟨y2, h2⟩ := hf 2 _ rfl
  change rd enc Tryz.prog W m 31 ((cs.drop 2).take (Tryz.prog.cellsOf 31)) = some y2 at h2
  rw [cz_31] at h2
  obtain ⟨a2, r2, o2⟩ := (dec_sl Tryz.underlying31 cz_105 (by decide) dec_ConnT) m _ y2 h2
  obtain ⟨y3, h3⟩ := hf 3 _ rfl
  change rd enc Tryz.prog W m 4 ((cs.drop 3).take (Tryz.prog.cellsOf 4)) = some y3 at h3
  rw [cz_4] at h3
  obtain ⟨a3, r3, o3⟩ := (dec_bool Tryz.underlying4) m _ y3 h3
  obtain ⟨y4, h4⟩ := hf 4 _ rfl
  change rd enc Tryz.prog W m 4 ((cs.drop 4).take (Tryz.prog.cellsOf 4)) = some y4 at h4
  rw [cz_4] at h4
  obtain ⟨a4, r4, o4⟩ := (dec_bool Tryz.underlying4) m _ y4 h4
  refine ⟨⟨a0, a1, a2, a3, a4⟩, ?_, o0, o1, o2, o3, o4⟩
  show RepAt (pubOf W) cs 0 _
  refine RepAt.one r0 ?_
  refine RepAt.one r1 ?_
  refine RepAt.one r2 ?_
  refine RepAt.one r3 ?_
  refine RepAt.one r4 ?_
  exact RepAt.nil (hl.trans cz_47)
end
end Go.AW

