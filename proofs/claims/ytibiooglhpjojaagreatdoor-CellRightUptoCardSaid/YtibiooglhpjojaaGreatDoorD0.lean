/- What a reading of an argument gives, type by type. Printed by tfn.py. -/
import Derived.Test.YtibiooglhpjojaaGreatDoorPe
import Derived.Test.YtibiooglhpjojaaGreatDoorT0
set_option linter.unusedSimpArgs false
set_option linter.unusedVariables false
namespace Go.AW.M
open Go.RowKit Go.Proofs
set_option maxRecDepth 100000
section
variable {H:Type}{enc:TypeId×Value→H}{W:World}{B:Bulk H}{N:Nat}
theorem cz_3:Tryz.prog.cellsOf 3=1:=by kernel_rfl
theorem cz_9:Tryz.prog.cellsOf 9=1:=by kernel_rfl
theorem Zq0:Tryz.prog.cellsOf 134=2:=by kernel_rfl
def Zca.Ok (N:Nat)(x:Zca):Prop:=I64 x.After∧x.Text.size≤N
theorem ZlB:Dec B N enc Tryz.prog W 134 Zca.row (Zca.Ok N):=by
 intro n cs x h hb
 obtain⟨hl,m,hf⟩:=ZcA Tryz.underlying134 h hb
 obtain⟨y0,h0,b0⟩:=hf 0 _ rfl
 change rdT enc Tryz.prog W m 3 ((cs.drop 0).take (Tryz.prog.cellsOf 3))=some y0 at h0
 rw[cz_3]at h0
 obtain⟨a0,r0,o0⟩:=(ZaP Tryz.underlying3) m _ y0 h0 b0
 obtain⟨y1,h1,b1⟩:=hf 1 _ rfl
 change rdT enc Tryz.prog W m 9 ((cs.drop 1).take (Tryz.prog.cellsOf 9))=some y1 at h1
 rw[cz_9]at h1
 obtain⟨a1,r1,o1⟩:=(Zc5 Tryz.underlying9) m _ y1 h1 b1
 refine⟨⟨a0,a1⟩,?_,o0,o1⟩
 show RepAt (pubOf W) cs 0 _
 refine RepAt.one r0 ?_
 refine RepAt.one r1 ?_
 exact RepAt.nil (hl.trans Zq0)
theorem cz_87:Tryz.prog.cellsOf 87=1:=by kernel_rfl
theorem cz_89:Tryz.prog.cellsOf 89=9:=by kernel_rfl
def Zam.Ok (N:Nat)(x:Zam):Prop:=x.Unit_.size≤N∧I64 x.Part∧I64 x.Num∧I64 x.Attempt∧I64 x.Lasts∧I64 x.Code∧I64 x.Ready∧I64 x.Dies∧(x.Says.length≤N∧∀a∈x.Says,Zca.Ok N a)
def Zam.Fit (N:Nat)(x:Zam):Prop:=(x.Says.length≤N)
theorem Zam.Ok.fit {N:Nat}{x:Zam}(h:x.Ok N):x.Fit N:=by
 obtain⟨h0,h1,h2,h3,h4,h5,h6,h7,h8⟩:=h
 exact h8.1
theorem ZmM:Dec B N enc Tryz.prog W 89 Zam.row (Zam.Ok N):=by
 intro n cs x h hb
 obtain⟨hl,m,hf⟩:=ZcA Tryz.underlying89 h hb
 obtain⟨y0,h0,b0⟩:=hf 0 _ rfl
 change rdT enc Tryz.prog W m 9 ((cs.drop 0).take (Tryz.prog.cellsOf 9))=some y0 at h0
 rw[cz_9]at h0
 obtain⟨a0,r0,o0⟩:=(Zc5 Tryz.underlying9) m _ y0 h0 b0
 obtain⟨y1,h1,b1⟩:=hf 1 _ rfl
 change rdT enc Tryz.prog W m 3 ((cs.drop 1).take (Tryz.prog.cellsOf 3))=some y1 at h1
 rw[cz_3]at h1
 obtain⟨a1,r1,o1⟩:=(ZaP Tryz.underlying3) m _ y1 h1 b1
 obtain⟨y2,h2,b2⟩:=hf 2 _ rfl
 change rdT enc Tryz.prog W m 3 ((cs.drop 2).take (Tryz.prog.cellsOf 3))=some y2 at h2
 rw[cz_3]at h2
 obtain⟨a2,r2,o2⟩:=(ZaP Tryz.underlying3) m _ y2 h2 b2
 obtain⟨y3,h3,b3⟩:=hf 3 _ rfl
 change rdT enc Tryz.prog W m 3 ((cs.drop 3).take (Tryz.prog.cellsOf 3))=some y3 at h3
 rw[cz_3]at h3
 obtain⟨a3,r3,o3⟩:=(ZaP Tryz.underlying3) m _ y3 h3 b3
 obtain⟨y4,h4,b4⟩:=hf 4 _ rfl
 change rdT enc Tryz.prog W m 3 ((cs.drop 4).take (Tryz.prog.cellsOf 3))=some y4 at h4
 rw[cz_3]at h4
 obtain⟨a4,r4,o4⟩:=(ZaP Tryz.underlying3) m _ y4 h4 b4
 obtain⟨y5,h5,b5⟩:=hf 5 _ rfl
 change rdT enc Tryz.prog W m 3 ((cs.drop 5).take (Tryz.prog.cellsOf 3))=some y5 at h5
 rw[cz_3]at h5
 obtain⟨a5,r5,o5⟩:=(ZaP Tryz.underlying3) m _ y5 h5 b5
 obtain⟨y6,h6,b6⟩:=hf 6 _ rfl
 change rdT enc Tryz.prog W m 3 ((cs.drop 6).take (Tryz.prog.cellsOf 3))=some y6 at h6
 rw[cz_3]at h6
 obtain⟨a6,r6,o6⟩:=(ZaP Tryz.underlying3) m _ y6 h6 b6
 obtain⟨y7,h7,b7⟩:=hf 7 _ rfl
 change rdT enc Tryz.prog W m 3 ((cs.drop 7).take (Tryz.prog.cellsOf 3))=some y7 at h7
 rw[cz_3]at h7
 obtain⟨a7,r7,o7⟩:=(ZaP Tryz.underlying3) m _ y7 h7 b7
 obtain⟨y8,h8,b8⟩:=hf 8 _ rfl
 change rdT enc Tryz.prog W m 87 ((cs.drop 8).take (Tryz.prog.cellsOf 87))=some y8 at h8
 rw[cz_87]at h8
 obtain⟨a8,r8,o8⟩:=(ZcY Tryz.underlying87 Zq0 (by decide) ZlB) m _ y8 h8 b8
 refine⟨⟨a0,a1,a2,a3,a4,a5,a6,a7,a8⟩,?_,o0,o1,o2,o3,o4,o5,o6,o7,o8⟩
 show RepAt (pubOf W) cs 0 _
 refine RepAt.one r0 ?_
 refine RepAt.one r1 ?_
 refine RepAt.one r2 ?_
 refine RepAt.one r3 ?_
 refine RepAt.one r4 ?_
 refine RepAt.one r5 ?_
 refine RepAt.one r6 ?_
 refine RepAt.one r7 ?_
 refine RepAt.one r8 ?_
 exact RepAt.nil (hl.trans cz_89)
theorem cz_82:Tryz.prog.cellsOf 82=3:=by kernel_rfl
def Zah.Ok (N:Nat)(x:Zah):Prop:=I64 x.At∧I64 x.Port∧I64 x.Takes
theorem ZlC:Dec B N enc Tryz.prog W 82 Zah.row (Zah.Ok N):=by
 intro n cs x h hb
 obtain⟨hl,m,hf⟩:=ZcA Tryz.underlying82 h hb
 obtain⟨y0,h0,b0⟩:=hf 0 _ rfl
 change rdT enc Tryz.prog W m 3 ((cs.drop 0).take (Tryz.prog.cellsOf 3))=some y0 at h0
 rw[cz_3]at h0
 obtain⟨a0,r0,o0⟩:=(ZaP Tryz.underlying3) m _ y0 h0 b0
 obtain⟨y1,h1,b1⟩:=hf 1 _ rfl
 change rdT enc Tryz.prog W m 3 ((cs.drop 1).take (Tryz.prog.cellsOf 3))=some y1 at h1
 rw[cz_3]at h1
 obtain⟨a1,r1,o1⟩:=(ZaP Tryz.underlying3) m _ y1 h1 b1
 obtain⟨y2,h2,b2⟩:=hf 2 _ rfl
 change rdT enc Tryz.prog W m 3 ((cs.drop 2).take (Tryz.prog.cellsOf 3))=some y2 at h2
 rw[cz_3]at h2
 obtain⟨a2,r2,o2⟩:=(ZaP Tryz.underlying3) m _ y2 h2 b2
 refine⟨⟨a0,a1,a2⟩,?_,o0,o1,o2⟩
 show RepAt (pubOf W) cs 0 _
 refine RepAt.one r0 ?_
 refine RepAt.one r1 ?_
 refine RepAt.one r2 ?_
 exact RepAt.nil (hl.trans cz_82)
theorem cz_92:Tryz.prog.cellsOf 92=3:=by kernel_rfl
def Zbu.Ok (N:Nat)(x:Zbu):Prop:=I64 x.At∧x.Unit_.size≤N∧I64 x.Type_
theorem ZmN:Dec B N enc Tryz.prog W 92 Zbu.row (Zbu.Ok N):=by
 intro n cs x h hb
 obtain⟨hl,m,hf⟩:=ZcA Tryz.underlying92 h hb
 obtain⟨y0,h0,b0⟩:=hf 0 _ rfl
 change rdT enc Tryz.prog W m 3 ((cs.drop 0).take (Tryz.prog.cellsOf 3))=some y0 at h0
 rw[cz_3]at h0
 obtain⟨a0,r0,o0⟩:=(ZaP Tryz.underlying3) m _ y0 h0 b0
 obtain⟨y1,h1,b1⟩:=hf 1 _ rfl
 change rdT enc Tryz.prog W m 9 ((cs.drop 1).take (Tryz.prog.cellsOf 9))=some y1 at h1
 rw[cz_9]at h1
 obtain⟨a1,r1,o1⟩:=(Zc5 Tryz.underlying9) m _ y1 h1 b1
 obtain⟨y2,h2,b2⟩:=hf 2 _ rfl
 change rdT enc Tryz.prog W m 3 ((cs.drop 2).take (Tryz.prog.cellsOf 3))=some y2 at h2
 rw[cz_3]at h2
 obtain⟨a2,r2,o2⟩:=(ZaP Tryz.underlying3) m _ y2 h2 b2
 refine⟨⟨a0,a1,a2⟩,?_,o0,o1,o2⟩
 show RepAt (pubOf W) cs 0 _
 refine RepAt.one r0 ?_
 refine RepAt.one r1 ?_
 refine RepAt.one r2 ?_
 exact RepAt.nil (hl.trans cz_92)
theorem cz_39:Tryz.prog.cellsOf 39=1:=by kernel_rfl
theorem cz_40:Tryz.prog.cellsOf 40=1:=by kernel_rfl
theorem cz_41:Tryz.prog.cellsOf 41=1:=by kernel_rfl
theorem cz_43:Tryz.prog.cellsOf 43=3:=by kernel_rfl
def Zaf.Ok (N:Nat)(x:Zaf):Prop:=(x.Acts.length≤N∧∀a∈x.Acts,Zam.Ok N a)∧(x.Calls.length≤N∧∀a∈x.Calls,Zah.Ok N a)∧(x.Asks.length≤N∧∀a∈x.Asks,Zbu.Ok N a)
def Zaf.Fit (N:Nat)(x:Zaf):Prop:=(x.Acts.length≤N∧∀a∈x.Acts,Zam.Fit N a)∧(x.Calls.length≤N)∧(x.Asks.length≤N)
theorem Zaf.Ok.fit {N:Nat}{x:Zaf}(h:x.Ok N):x.Fit N:=by
 obtain⟨h0,h1,h2⟩:=h
 exact⟨⟨h0.1,fun a ha=>(h0.2 a ha).fit⟩,h1.1,h2.1⟩
theorem ZkP:Dec B N enc Tryz.prog W 43 Zaf.row (Zaf.Ok N):=by
 intro n cs x h hb
 obtain⟨hl,m,hf⟩:=ZcA Tryz.underlying43 h hb
 obtain⟨y0,h0,b0⟩:=hf 0 _ rfl
 change rdT enc Tryz.prog W m 39 ((cs.drop 0).take (Tryz.prog.cellsOf 39))=some y0 at h0
 rw[cz_39]at h0
 obtain⟨a0,r0,o0⟩:=(ZcY Tryz.underlying39 cz_89 (by decide) ZmM) m _ y0 h0 b0
 obtain⟨y1,h1,b1⟩:=hf 1 _ rfl
 change rdT enc Tryz.prog W m 40 ((cs.drop 1).take (Tryz.prog.cellsOf 40))=some y1 at h1
 rw[cz_40]at h1
 obtain⟨a1,r1,o1⟩:=(ZcY Tryz.underlying40 cz_82 (by decide) ZlC) m _ y1 h1 b1
 obtain⟨y2,h2,b2⟩:=hf 2 _ rfl
 change rdT enc Tryz.prog W m 41 ((cs.drop 2).take (Tryz.prog.cellsOf 41))=some y2 at h2
 rw[cz_41]at h2
 obtain⟨a2,r2,o2⟩:=(ZcY Tryz.underlying41 cz_92 (by decide) ZmN) m _ y2 h2 b2
 refine⟨⟨a0,a1,a2⟩,?_,o0,o1,o2⟩
 show RepAt (pubOf W) cs 0 _
 refine RepAt.one r0 ?_
 refine RepAt.one r1 ?_
 refine RepAt.one r2 ?_
 exact RepAt.nil (hl.trans cz_43)
theorem Zq1:Tryz.prog.cellsOf 162=2:=by kernel_rfl
def Zau.Ok (N:Nat)(x:Zau):Prop:=I64 x.Kind∧x.Name.size≤N
theorem ZmO:Dec B N enc Tryz.prog W 162 Zau.row (Zau.Ok N):=by
 intro n cs x h hb
 obtain⟨hl,m,hf⟩:=ZcA Tryz.underlying162 h hb
 obtain⟨y0,h0,b0⟩:=hf 0 _ rfl
 change rdT enc Tryz.prog W m 3 ((cs.drop 0).take (Tryz.prog.cellsOf 3))=some y0 at h0
 rw[cz_3]at h0
 obtain⟨a0,r0,o0⟩:=(ZaP Tryz.underlying3) m _ y0 h0 b0
 obtain⟨y1,h1,b1⟩:=hf 1 _ rfl
 change rdT enc Tryz.prog W m 9 ((cs.drop 1).take (Tryz.prog.cellsOf 9))=some y1 at h1
 rw[cz_9]at h1
 obtain⟨a1,r1,o1⟩:=(Zc5 Tryz.underlying9) m _ y1 h1 b1
 refine⟨⟨a0,a1⟩,?_,o0,o1⟩
 show RepAt (pubOf W) cs 0 _
 refine RepAt.one r0 ?_
 refine RepAt.one r1 ?_
 exact RepAt.nil (hl.trans Zq1)
theorem cz_4:Tryz.prog.cellsOf 4=1:=by kernel_rfl
theorem cz_26:Tryz.prog.cellsOf 26=1:=by kernel_rfl
theorem Zka:Tryz.prog.cellsOf 158=2:=by kernel_rfl
def Zad.Ok (N:Nat)(x:Zad):Prop:=True∧(x.Words.length≤N∧∀a∈x.Words,a.size≤N)
def Zad.Fit (N:Nat)(x:Zad):Prop:=(x.Words.length≤N)
theorem Zad.Ok.fit {N:Nat}{x:Zad}(h:x.Ok N):x.Fit N:=by
 obtain⟨h0,h1⟩:=h
 exact h1.1
theorem Zez:Dec B N enc Tryz.prog W 158 Zad.row (Zad.Ok N):=by
 intro n cs x h hb
 obtain⟨hl,m,hf⟩:=ZcA Tryz.underlying158 h hb
 obtain⟨y0,h0,b0⟩:=hf 0 _ rfl
 change rdT enc Tryz.prog W m 4 ((cs.drop 0).take (Tryz.prog.cellsOf 4))=some y0 at h0
 rw[cz_4]at h0
 obtain⟨a0,r0,o0⟩:=(Zgu Tryz.underlying4) m _ y0 h0 b0
 obtain⟨y1,h1,b1⟩:=hf 1 _ rfl
 change rdT enc Tryz.prog W m 26 ((cs.drop 1).take (Tryz.prog.cellsOf 26))=some y1 at h1
 rw[cz_26]at h1
 obtain⟨a1,r1,o1⟩:=(ZcY Tryz.underlying26 cz_9 (by decide) (Zc5 Tryz.underlying9)) m _ y1 h1 b1
 refine⟨⟨a0,a1⟩,?_,o0,o1⟩
 show RepAt (pubOf W) cs 0 _
 refine RepAt.one r0 ?_
 refine RepAt.one r1 ?_
 exact RepAt.nil (hl.trans Zka)
theorem Zq2:Tryz.prog.cellsOf 160=2:=by kernel_rfl
def Zav.Ok (N:Nat)(x:Zav):Prop:=x.Name.size≤N∧x.Value.size≤N
theorem ZlD:Dec B N enc Tryz.prog W 160 Zav.row (Zav.Ok N):=by
 intro n cs x h hb
 obtain⟨hl,m,hf⟩:=ZcA Tryz.underlying160 h hb
 obtain⟨y0,h0,b0⟩:=hf 0 _ rfl
 change rdT enc Tryz.prog W m 9 ((cs.drop 0).take (Tryz.prog.cellsOf 9))=some y0 at h0
 rw[cz_9]at h0
 obtain⟨a0,r0,o0⟩:=(Zc5 Tryz.underlying9) m _ y0 h0 b0
 obtain⟨y1,h1,b1⟩:=hf 1 _ rfl
 change rdT enc Tryz.prog W m 9 ((cs.drop 1).take (Tryz.prog.cellsOf 9))=some y1 at h1
 rw[cz_9]at h1
 obtain⟨a1,r1,o1⟩:=(Zc5 Tryz.underlying9) m _ y1 h1 b1
 refine⟨⟨a0,a1⟩,?_,o0,o1⟩
 show RepAt (pubOf W) cs 0 _
 refine RepAt.one r0 ?_
 refine RepAt.one r1 ?_
 exact RepAt.nil (hl.trans Zq2)
theorem cz_22:Tryz.prog.cellsOf 22=1:=by kernel_rfl
theorem cz_23:Tryz.prog.cellsOf 23=1:=by kernel_rfl
theorem cz_24:Tryz.prog.cellsOf 24=1:=by kernel_rfl
theorem cz_25:Tryz.prog.cellsOf 25=1:=by kernel_rfl
theorem cz_28:Tryz.prog.cellsOf 28=35:=by kernel_rfl
def Zae.Ok (N:Nat)(x:Zae):Prop:=x.Name.size≤N∧I64 x.Kind∧x.Desc.size≤N∧True∧(x.Rels.length≤N∧∀a∈x.Rels,Zau.Ok N a)∧I64 x.Every∧I64 x.Burst∧I64 x.Type_∧(x.Pre.length≤N∧∀a∈x.Pre,Zad.Ok N a)∧(x.Start.length≤N∧∀a∈x.Start,Zad.Ok N a)∧(x.Post.length≤N∧∀a∈x.Post,Zad.Ok N a)∧(x.Stop.length≤N∧∀a∈x.Stop,Zad.Ok N a)∧(x.Reload.length≤N∧∀a∈x.Reload,Zad.Ok N a)∧True∧I64 x.Restart∧I64 x.Pause∧I64 x.Up∧I64 x.Down∧(x.Success.length≤N∧∀a∈x.Success,I64 a)∧(x.Env.length≤N∧∀a∈x.Env,Zav.Ok N a)∧(x.Sockets.length≤N∧∀a∈x.Sockets,a.size≤N)∧(x.Ports.length≤N∧∀a∈x.Ports,I64 a)∧I64 x.Backlog∧x.FdName.size≤N∧x.Unit_.size≤N∧(x.Boot.length≤N∧∀a∈x.Boot,I64 a)∧(x.Active.length≤N∧∀a∈x.Active,I64 a)∧(x.Idle.length≤N∧∀a∈x.Idle,I64 a)∧(x.Calendar.length≤N∧∀a∈x.Calendar,a.size≤N)∧True∧(x.WantedBy.length≤N∧∀a∈x.WantedBy,a.size≤N)∧(x.RequiredBy.length≤N∧∀a∈x.RequiredBy,a.size≤N)∧(x.Alias.length≤N∧∀a∈x.Alias,a.size≤N)∧(x.Also.length≤N∧∀a∈x.Also,a.size≤N)∧x.Instance.size≤N
def Zae.Fit (N:Nat)(x:Zae):Prop:=(x.Rels.length≤N)∧(x.Pre.length≤N∧∀a∈x.Pre,Zad.Fit N a)∧(x.Start.length≤N∧∀a∈x.Start,Zad.Fit N a)∧(x.Post.length≤N∧∀a∈x.Post,Zad.Fit N a)∧(x.Stop.length≤N∧∀a∈x.Stop,Zad.Fit N a)∧(x.Reload.length≤N∧∀a∈x.Reload,Zad.Fit N a)∧(x.Success.length≤N)∧(x.Env.length≤N)∧(x.Sockets.length≤N)∧(x.Ports.length≤N)∧(x.Boot.length≤N)∧(x.Active.length≤N)∧(x.Idle.length≤N)∧(x.Calendar.length≤N)∧(x.WantedBy.length≤N)∧(x.RequiredBy.length≤N)∧(x.Alias.length≤N)∧(x.Also.length≤N)
theorem Zae.Ok.fit {N:Nat}{x:Zae}(h:x.Ok N):x.Fit N:=by
 obtain⟨h0,h1,h2,h3,h4,h5,h6,h7,h8,h9,h10,h11,h12,h13,h14,h15,h16,h17,h18,h19,h20,h21,h22,h23,h24,h25,h26,h27,h28,h29,h30,h31,h32,h33,h34⟩:=h
 exact⟨h4.1,⟨h8.1,fun a ha=>(h8.2 a ha).fit⟩,⟨h9.1,fun a ha=>(h9.2 a ha).fit⟩,⟨h10.1,fun a ha=>(h10.2 a ha).fit⟩,⟨h11.1,fun a ha=>(h11.2 a ha).fit⟩,⟨h12.1,fun a ha=>(h12.2 a ha).fit⟩,h18.1,h19.1,h20.1,h21.1,h25.1,h26.1,h27.1,h28.1,h30.1,h31.1,h32.1,h33.1⟩
theorem ZlE:Dec B N enc Tryz.prog W 28 Zae.row (Zae.Ok N):=by
 intro n cs x h hb
 obtain⟨hl,m,hf⟩:=ZcA Tryz.underlying28 h hb
 obtain⟨y0,h0,b0⟩:=hf 0 _ rfl
 change rdT enc Tryz.prog W m 9 ((cs.drop 0).take (Tryz.prog.cellsOf 9))=some y0 at h0
 rw[cz_9]at h0
 obtain⟨a0,r0,o0⟩:=(Zc5 Tryz.underlying9) m _ y0 h0 b0
 obtain⟨y1,h1,b1⟩:=hf 1 _ rfl
 change rdT enc Tryz.prog W m 3 ((cs.drop 1).take (Tryz.prog.cellsOf 3))=some y1 at h1
 rw[cz_3]at h1
 obtain⟨a1,r1,o1⟩:=(ZaP Tryz.underlying3) m _ y1 h1 b1
 obtain⟨y2,h2,b2⟩:=hf 2 _ rfl
 change rdT enc Tryz.prog W m 9 ((cs.drop 2).take (Tryz.prog.cellsOf 9))=some y2 at h2
 rw[cz_9]at h2
 obtain⟨a2,r2,o2⟩:=(Zc5 Tryz.underlying9) m _ y2 h2 b2
 obtain⟨y3,h3,b3⟩:=hf 3 _ rfl
 change rdT enc Tryz.prog W m 4 ((cs.drop 3).take (Tryz.prog.cellsOf 4))=some y3 at h3
 rw[cz_4]at h3
 obtain⟨a3,r3,o3⟩:=(Zgu Tryz.underlying4) m _ y3 h3 b3
 obtain⟨y4,h4,b4⟩:=hf 4 _ rfl
 change rdT enc Tryz.prog W m 22 ((cs.drop 4).take (Tryz.prog.cellsOf 22))=some y4 at h4
 rw[cz_22]at h4
 obtain⟨a4,r4,o4⟩:=(ZcY Tryz.underlying22 Zq1 (by decide) ZmO) m _ y4 h4 b4
 obtain⟨y5,h5,b5⟩:=hf 5 _ rfl
 change rdT enc Tryz.prog W m 3 ((cs.drop 5).take (Tryz.prog.cellsOf 3))=some y5 at h5
 rw[cz_3]at h5
 obtain⟨a5,r5,o5⟩:=(ZaP Tryz.underlying3) m _ y5 h5 b5
 obtain⟨y6,h6,b6⟩:=hf 6 _ rfl
 change rdT enc Tryz.prog W m 3 ((cs.drop 6).take (Tryz.prog.cellsOf 3))=some y6 at h6
 rw[cz_3]at h6
 obtain⟨a6,r6,o6⟩:=(ZaP Tryz.underlying3) m _ y6 h6 b6
 obtain⟨y7,h7,b7⟩:=hf 7 _ rfl
 change rdT enc Tryz.prog W m 3 ((cs.drop 7).take (Tryz.prog.cellsOf 3))=some y7 at h7
 rw[cz_3]at h7
 obtain⟨a7,r7,o7⟩:=(ZaP Tryz.underlying3) m _ y7 h7 b7
 obtain⟨y8,h8,b8⟩:=hf 8 _ rfl
 change rdT enc Tryz.prog W m 23 ((cs.drop 8).take (Tryz.prog.cellsOf 23))=some y8 at h8
 rw[cz_23]at h8
 obtain⟨a8,r8,o8⟩:=(ZcY Tryz.underlying23 Zka (by decide) Zez) m _ y8 h8 b8
 obtain⟨y9,h9,b9⟩:=hf 9 _ rfl
 change rdT enc Tryz.prog W m 23 ((cs.drop 9).take (Tryz.prog.cellsOf 23))=some y9 at h9
 rw[cz_23]at h9
 obtain⟨a9,r9,o9⟩:=(ZcY Tryz.underlying23 Zka (by decide) Zez) m _ y9 h9 b9
 obtain⟨y10,h10,b10⟩:=hf 10 _ rfl
 change rdT enc Tryz.prog W m 23 ((cs.drop 10).take (Tryz.prog.cellsOf 23))=some y10 at h10
 rw[cz_23]at h10
 obtain⟨a10,r10,o10⟩:=(ZcY Tryz.underlying23 Zka (by decide) Zez) m _ y10 h10 b10
 obtain⟨y11,h11,b11⟩:=hf 11 _ rfl
 change rdT enc Tryz.prog W m 23 ((cs.drop 11).take (Tryz.prog.cellsOf 23))=some y11 at h11
 rw[cz_23]at h11
 obtain⟨a11,r11,o11⟩:=(ZcY Tryz.underlying23 Zka (by decide) Zez) m _ y11 h11 b11
 obtain⟨y12,h12,b12⟩:=hf 12 _ rfl
 change rdT enc Tryz.prog W m 23 ((cs.drop 12).take (Tryz.prog.cellsOf 23))=some y12 at h12
 rw[cz_23]at h12
 obtain⟨a12,r12,o12⟩:=(ZcY Tryz.underlying23 Zka (by decide) Zez) m _ y12 h12 b12
 obtain⟨y13,h13,b13⟩:=hf 13 _ rfl
 change rdT enc Tryz.prog W m 4 ((cs.drop 13).take (Tryz.prog.cellsOf 4))=some y13 at h13
 rw[cz_4]at h13
 obtain⟨a13,r13,o13⟩:=(Zgu Tryz.underlying4) m _ y13 h13 b13
 obtain⟨y14,h14,b14⟩:=hf 14 _ rfl
 change rdT enc Tryz.prog W m 3 ((cs.drop 14).take (Tryz.prog.cellsOf 3))=some y14 at h14
 rw[cz_3]at h14
 obtain⟨a14,r14,o14⟩:=(ZaP Tryz.underlying3) m _ y14 h14 b14
 obtain⟨y15,h15,b15⟩:=hf 15 _ rfl
 change rdT enc Tryz.prog W m 3 ((cs.drop 15).take (Tryz.prog.cellsOf 3))=some y15 at h15
 rw[cz_3]at h15
 obtain⟨a15,r15,o15⟩:=(ZaP Tryz.underlying3) m _ y15 h15 b15
 obtain⟨y16,h16,b16⟩:=hf 16 _ rfl
 change rdT enc Tryz.prog W m 3 ((cs.drop 16).take (Tryz.prog.cellsOf 3))=some y16 at h16
 rw[cz_3]at h16
 obtain⟨a16,r16,o16⟩:=(ZaP Tryz.underlying3) m _ y16 h16 b16
 obtain⟨y17,h17,b17⟩:=hf 17 _ rfl
 change rdT enc Tryz.prog W m 3 ((cs.drop 17).take (Tryz.prog.cellsOf 3))=some y17 at h17
 rw[cz_3]at h17
 obtain⟨a17,r17,o17⟩:=(ZaP Tryz.underlying3) m _ y17 h17 b17
 obtain⟨y18,h18,b18⟩:=hf 18 _ rfl
 change rdT enc Tryz.prog W m 24 ((cs.drop 18).take (Tryz.prog.cellsOf 24))=some y18 at h18
 rw[cz_24]at h18
 obtain⟨a18,r18,o18⟩:=(ZcY Tryz.underlying24 cz_3 (by decide) (ZaP Tryz.underlying3)) m _ y18 h18 b18
 obtain⟨y19,h19,b19⟩:=hf 19 _ rfl
 change rdT enc Tryz.prog W m 25 ((cs.drop 19).take (Tryz.prog.cellsOf 25))=some y19 at h19
 rw[cz_25]at h19
 obtain⟨a19,r19,o19⟩:=(ZcY Tryz.underlying25 Zq2 (by decide) ZlD) m _ y19 h19 b19
 obtain⟨y20,h20,b20⟩:=hf 20 _ rfl
 change rdT enc Tryz.prog W m 26 ((cs.drop 20).take (Tryz.prog.cellsOf 26))=some y20 at h20
 rw[cz_26]at h20
 obtain⟨a20,r20,o20⟩:=(ZcY Tryz.underlying26 cz_9 (by decide) (Zc5 Tryz.underlying9)) m _ y20 h20 b20
 obtain⟨y21,h21,b21⟩:=hf 21 _ rfl
 change rdT enc Tryz.prog W m 24 ((cs.drop 21).take (Tryz.prog.cellsOf 24))=some y21 at h21
 rw[cz_24]at h21
 obtain⟨a21,r21,o21⟩:=(ZcY Tryz.underlying24 cz_3 (by decide) (ZaP Tryz.underlying3)) m _ y21 h21 b21
 obtain⟨y22,h22,b22⟩:=hf 22 _ rfl
 change rdT enc Tryz.prog W m 3 ((cs.drop 22).take (Tryz.prog.cellsOf 3))=some y22 at h22
 rw[cz_3]at h22
 obtain⟨a22,r22,o22⟩:=(ZaP Tryz.underlying3) m _ y22 h22 b22
 obtain⟨y23,h23,b23⟩:=hf 23 _ rfl
 change rdT enc Tryz.prog W m 9 ((cs.drop 23).take (Tryz.prog.cellsOf 9))=some y23 at h23
 rw[cz_9]at h23
 obtain⟨a23,r23,o23⟩:=(Zc5 Tryz.underlying9) m _ y23 h23 b23
 obtain⟨y24,h24,b24⟩:=hf 24 _ rfl
 change rdT enc Tryz.prog W m 9 ((cs.drop 24).take (Tryz.prog.cellsOf 9))=some y24 at h24
 rw[cz_9]at h24
 obtain⟨a24,r24,o24⟩:=(Zc5 Tryz.underlying9) m _ y24 h24 b24
 obtain⟨y25,h25,b25⟩:=hf 25 _ rfl
 change rdT enc Tryz.prog W m 24 ((cs.drop 25).take (Tryz.prog.cellsOf 24))=some y25 at h25
 rw[cz_24]at h25
 obtain⟨a25,r25,o25⟩:=(ZcY Tryz.underlying24 cz_3 (by decide) (ZaP Tryz.underlying3)) m _ y25 h25 b25
 obtain⟨y26,h26,b26⟩:=hf 26 _ rfl
 change rdT enc Tryz.prog W m 24 ((cs.drop 26).take (Tryz.prog.cellsOf 24))=some y26 at h26
 rw[cz_24]at h26
 obtain⟨a26,r26,o26⟩:=(ZcY Tryz.underlying24 cz_3 (by decide) (ZaP Tryz.underlying3)) m _ y26 h26 b26
 obtain⟨y27,h27,b27⟩:=hf 27 _ rfl
 change rdT enc Tryz.prog W m 24 ((cs.drop 27).take (Tryz.prog.cellsOf 24))=some y27 at h27
 rw[cz_24]at h27
 obtain⟨a27,r27,o27⟩:=(ZcY Tryz.underlying24 cz_3 (by decide) (ZaP Tryz.underlying3)) m _ y27 h27 b27
 obtain⟨y28,h28,b28⟩:=hf 28 _ rfl
 change rdT enc Tryz.prog W m 26 ((cs.drop 28).take (Tryz.prog.cellsOf 26))=some y28 at h28
 rw[cz_26]at h28
 obtain⟨a28,r28,o28⟩:=(ZcY Tryz.underlying26 cz_9 (by decide) (Zc5 Tryz.underlying9)) m _ y28 h28 b28
 obtain⟨y29,h29,b29⟩:=hf 29 _ rfl
 change rdT enc Tryz.prog W m 4 ((cs.drop 29).take (Tryz.prog.cellsOf 4))=some y29 at h29
 rw[cz_4]at h29
 obtain⟨a29,r29,o29⟩:=(Zgu Tryz.underlying4) m _ y29 h29 b29
 obtain⟨y30,h30,b30⟩:=hf 30 _ rfl
 change rdT enc Tryz.prog W m 26 ((cs.drop 30).take (Tryz.prog.cellsOf 26))=some y30 at h30
 rw[cz_26]at h30
 obtain⟨a30,r30,o30⟩:=(ZcY Tryz.underlying26 cz_9 (by decide) (Zc5 Tryz.underlying9)) m _ y30 h30 b30
 obtain⟨y31,h31,b31⟩:=hf 31 _ rfl
 change rdT enc Tryz.prog W m 26 ((cs.drop 31).take (Tryz.prog.cellsOf 26))=some y31 at h31
 rw[cz_26]at h31
 obtain⟨a31,r31,o31⟩:=(ZcY Tryz.underlying26 cz_9 (by decide) (Zc5 Tryz.underlying9)) m _ y31 h31 b31
 obtain⟨y32,h32,b32⟩:=hf 32 _ rfl
 change rdT enc Tryz.prog W m 26 ((cs.drop 32).take (Tryz.prog.cellsOf 26))=some y32 at h32
 rw[cz_26]at h32
 obtain⟨a32,r32,o32⟩:=(ZcY Tryz.underlying26 cz_9 (by decide) (Zc5 Tryz.underlying9)) m _ y32 h32 b32
 obtain⟨y33,h33,b33⟩:=hf 33 _ rfl
 change rdT enc Tryz.prog W m 26 ((cs.drop 33).take (Tryz.prog.cellsOf 26))=some y33 at h33
 rw[cz_26]at h33
 obtain⟨a33,r33,o33⟩:=(ZcY Tryz.underlying26 cz_9 (by decide) (Zc5 Tryz.underlying9)) m _ y33 h33 b33
 obtain⟨y34,h34,b34⟩:=hf 34 _ rfl
 change rdT enc Tryz.prog W m 9 ((cs.drop 34).take (Tryz.prog.cellsOf 9))=some y34 at h34
 rw[cz_9]at h34
 obtain⟨a34,r34,o34⟩:=(Zc5 Tryz.underlying9) m _ y34 h34 b34
 refine⟨⟨a0,a1,a2,a3,a4,a5,a6,a7,a8,a9,a10,a11,a12,a13,a14,a15,a16,a17,a18,a19,a20,a21,a22,a23,a24,a25,a26,a27,a28,a29,a30,a31,a32,a33,a34⟩,?_,o0,o1,o2,o3,o4,o5,o6,o7,o8,o9,o10,o11,o12,o13,o14,o15,o16,o17,o18,o19,o20,o21,o22,o23,o24,o25,o26,o27,o28,o29,o30,o31,o32,o33,o34⟩
 show RepAt (pubOf W) cs 0 _
 refine RepAt.one r0 ?_
 refine RepAt.one r1 ?_
 refine RepAt.one r2 ?_
 refine RepAt.one r3 ?_
 refine RepAt.one r4 ?_
 refine RepAt.one r5 ?_
 refine RepAt.one r6 ?_
 refine RepAt.one r7 ?_
 refine RepAt.one r8 ?_
 refine RepAt.one r9 ?_
 refine RepAt.one r10 ?_
 refine RepAt.one r11 ?_
 refine RepAt.one r12 ?_
 refine RepAt.one r13 ?_
 refine RepAt.one r14 ?_
 refine RepAt.one r15 ?_
 refine RepAt.one r16 ?_
 refine RepAt.one r17 ?_
 refine RepAt.one r18 ?_
 refine RepAt.one r19 ?_
 refine RepAt.one r20 ?_
 refine RepAt.one r21 ?_
 refine RepAt.one r22 ?_
 refine RepAt.one r23 ?_
 refine RepAt.one r24 ?_
 refine RepAt.one r25 ?_
 refine RepAt.one r26 ?_
 refine RepAt.one r27 ?_
 refine RepAt.one r28 ?_
 refine RepAt.one r29 ?_
 refine RepAt.one r30 ?_
 refine RepAt.one r31 ?_
 refine RepAt.one r32 ?_
 refine RepAt.one r33 ?_
 refine RepAt.one r34 ?_
 exact RepAt.nil (hl.trans cz_28)
theorem cz_30:Tryz.prog.cellsOf 30=6:=by kernel_rfl
def Zal.Ok (N:Nat)(x:Zal):Prop:=I64 x.Part∧I64 x.Num∧I64 x.Begun∧I64 x.Told∧I64 x.Said∧True
theorem Zjn:Dec B N enc Tryz.prog W 30 Zal.row (Zal.Ok N):=by
 intro n cs x h hb
 obtain⟨hl,m,hf⟩:=ZcA Tryz.underlying30 h hb
 obtain⟨y0,h0,b0⟩:=hf 0 _ rfl
 change rdT enc Tryz.prog W m 3 ((cs.drop 0).take (Tryz.prog.cellsOf 3))=some y0 at h0
 rw[cz_3]at h0
 obtain⟨a0,r0,o0⟩:=(ZaP Tryz.underlying3) m _ y0 h0 b0
 obtain⟨y1,h1,b1⟩:=hf 1 _ rfl
 change rdT enc Tryz.prog W m 3 ((cs.drop 1).take (Tryz.prog.cellsOf 3))=some y1 at h1
 rw[cz_3]at h1
 obtain⟨a1,r1,o1⟩:=(ZaP Tryz.underlying3) m _ y1 h1 b1
 obtain⟨y2,h2,b2⟩:=hf 2 _ rfl
 change rdT enc Tryz.prog W m 3 ((cs.drop 2).take (Tryz.prog.cellsOf 3))=some y2 at h2
 rw[cz_3]at h2
 obtain⟨a2,r2,o2⟩:=(ZaP Tryz.underlying3) m _ y2 h2 b2
 obtain⟨y3,h3,b3⟩:=hf 3 _ rfl
 change rdT enc Tryz.prog W m 3 ((cs.drop 3).take (Tryz.prog.cellsOf 3))=some y3 at h3
 rw[cz_3]at h3
 obtain⟨a3,r3,o3⟩:=(ZaP Tryz.underlying3) m _ y3 h3 b3
 obtain⟨y4,h4,b4⟩:=hf 4 _ rfl
 change rdT enc Tryz.prog W m 3 ((cs.drop 4).take (Tryz.prog.cellsOf 3))=some y4 at h4
 rw[cz_3]at h4
 obtain⟨a4,r4,o4⟩:=(ZaP Tryz.underlying3) m _ y4 h4 b4
 obtain⟨y5,h5,b5⟩:=hf 5 _ rfl
 change rdT enc Tryz.prog W m 4 ((cs.drop 5).take (Tryz.prog.cellsOf 4))=some y5 at h5
 rw[cz_4]at h5
 obtain⟨a5,r5,o5⟩:=(Zgu Tryz.underlying4) m _ y5 h5 b5
 refine⟨⟨a0,a1,a2,a3,a4,a5⟩,?_,o0,o1,o2,o3,o4,o5⟩
 show RepAt (pubOf W) cs 0 _
 refine RepAt.one r0 ?_
 refine RepAt.one r1 ?_
 refine RepAt.one r2 ?_
 refine RepAt.one r3 ?_
 refine RepAt.one r4 ?_
 refine RepAt.one r5 ?_
 exact RepAt.nil (hl.trans cz_30)
theorem ZoM:Tryz.prog.cellsOf 105=5:=by kernel_rfl
def Zao.Ok (N:Nat)(x:Zao):Prop:=x.Socket.size≤N∧I64 x.Num∧I64 x.Tries∧I64 x.Takes∧I64 x.Until
theorem ZiM:Dec B N enc Tryz.prog W 105 Zao.row (Zao.Ok N):=by
 intro n cs x h hb
 obtain⟨hl,m,hf⟩:=ZcA Tryz.underlying105 h hb
 obtain⟨y0,h0,b0⟩:=hf 0 _ rfl
 change rdT enc Tryz.prog W m 9 ((cs.drop 0).take (Tryz.prog.cellsOf 9))=some y0 at h0
 rw[cz_9]at h0
 obtain⟨a0,r0,o0⟩:=(Zc5 Tryz.underlying9) m _ y0 h0 b0
 obtain⟨y1,h1,b1⟩:=hf 1 _ rfl
 change rdT enc Tryz.prog W m 3 ((cs.drop 1).take (Tryz.prog.cellsOf 3))=some y1 at h1
 rw[cz_3]at h1
 obtain⟨a1,r1,o1⟩:=(ZaP Tryz.underlying3) m _ y1 h1 b1
 obtain⟨y2,h2,b2⟩:=hf 2 _ rfl
 change rdT enc Tryz.prog W m 3 ((cs.drop 2).take (Tryz.prog.cellsOf 3))=some y2 at h2
 rw[cz_3]at h2
 obtain⟨a2,r2,o2⟩:=(ZaP Tryz.underlying3) m _ y2 h2 b2
 obtain⟨y3,h3,b3⟩:=hf 3 _ rfl
 change rdT enc Tryz.prog W m 3 ((cs.drop 3).take (Tryz.prog.cellsOf 3))=some y3 at h3
 rw[cz_3]at h3
 obtain⟨a3,r3,o3⟩:=(ZaP Tryz.underlying3) m _ y3 h3 b3
 obtain⟨y4,h4,b4⟩:=hf 4 _ rfl
 change rdT enc Tryz.prog W m 3 ((cs.drop 4).take (Tryz.prog.cellsOf 3))=some y4 at h4
 rw[cz_3]at h4
 obtain⟨a4,r4,o4⟩:=(ZaP Tryz.underlying3) m _ y4 h4 b4
 refine⟨⟨a0,a1,a2,a3,a4⟩,?_,o0,o1,o2,o3,o4⟩
 show RepAt (pubOf W) cs 0 _
 refine RepAt.one r0 ?_
 refine RepAt.one r1 ?_
 refine RepAt.one r2 ?_
 refine RepAt.one r3 ?_
 refine RepAt.one r4 ?_
 exact RepAt.nil (hl.trans ZoM)
theorem cz_31:Tryz.prog.cellsOf 31=1:=by kernel_rfl
theorem cz_33:Tryz.prog.cellsOf 33=62:=by kernel_rfl
def Zac.Ok (N:Nat)(x:Zac):Prop:=Zae.Ok N x.U∧I64 x.State∧I64 x.Since∧I64 x.Attempt∧(x.Begins.length≤N∧∀a∈x.Begins,I64 a)∧I64 x.Result∧Zal.Ok N x.Main∧Zal.Ok N x.Aux∧I64 x.Over∧True∧True∧(x.Serves.length≤N∧∀a∈x.Serves,Zao.Ok N a)∧(x.Waits.length≤N∧∀a∈x.Waits,Zao.Ok N a)∧I64 x.Seen∧I64 x.Num∧I64 x.Last∧I64 x.Next∧I64 x.Rows
def Zac.Fit (N:Nat)(x:Zac):Prop:=Zae.Fit N x.U∧(x.Begins.length≤N)∧(x.Serves.length≤N)∧(x.Waits.length≤N)
theorem Zac.Ok.fit {N:Nat}{x:Zac}(h:x.Ok N):x.Fit N:=by
 obtain⟨h0,h1,h2,h3,h4,h5,h6,h7,h8,h9,h10,h11,h12,h13,h14,h15,h16,h17⟩:=h
 exact⟨h0.fit,h4.1,h11.1,h12.1⟩
theorem ZlF:Dec B N enc Tryz.prog W 33 Zac.row (Zac.Ok N):=by
 intro n cs x h hb
 obtain⟨hl,m,hf⟩:=ZcA Tryz.underlying33 h hb
 obtain⟨y0,h0,b0⟩:=hf 0 _ rfl
 change rdT enc Tryz.prog W m 28 ((cs.drop 0).take (Tryz.prog.cellsOf 28))=some y0 at h0
 rw[cz_28]at h0
 obtain⟨a0,r0,o0⟩:=ZlE m _ y0 h0 b0
 obtain⟨y1,h1,b1⟩:=hf 1 _ rfl
 change rdT enc Tryz.prog W m 3 ((cs.drop 35).take (Tryz.prog.cellsOf 3))=some y1 at h1
 rw[cz_3]at h1
 obtain⟨a1,r1,o1⟩:=(ZaP Tryz.underlying3) m _ y1 h1 b1
 obtain⟨y2,h2,b2⟩:=hf 2 _ rfl
 change rdT enc Tryz.prog W m 3 ((cs.drop 36).take (Tryz.prog.cellsOf 3))=some y2 at h2
 rw[cz_3]at h2
 obtain⟨a2,r2,o2⟩:=(ZaP Tryz.underlying3) m _ y2 h2 b2
 obtain⟨y3,h3,b3⟩:=hf 3 _ rfl
 change rdT enc Tryz.prog W m 3 ((cs.drop 37).take (Tryz.prog.cellsOf 3))=some y3 at h3
 rw[cz_3]at h3
 obtain⟨a3,r3,o3⟩:=(ZaP Tryz.underlying3) m _ y3 h3 b3
 obtain⟨y4,h4,b4⟩:=hf 4 _ rfl
 change rdT enc Tryz.prog W m 24 ((cs.drop 38).take (Tryz.prog.cellsOf 24))=some y4 at h4
 rw[cz_24]at h4
 obtain⟨a4,r4,o4⟩:=(ZcY Tryz.underlying24 cz_3 (by decide) (ZaP Tryz.underlying3)) m _ y4 h4 b4
 obtain⟨y5,h5,b5⟩:=hf 5 _ rfl
 change rdT enc Tryz.prog W m 3 ((cs.drop 39).take (Tryz.prog.cellsOf 3))=some y5 at h5
 rw[cz_3]at h5
 obtain⟨a5,r5,o5⟩:=(ZaP Tryz.underlying3) m _ y5 h5 b5
 obtain⟨y6,h6,b6⟩:=hf 6 _ rfl
 change rdT enc Tryz.prog W m 30 ((cs.drop 40).take (Tryz.prog.cellsOf 30))=some y6 at h6
 rw[cz_30]at h6
 obtain⟨a6,r6,o6⟩:=Zjn m _ y6 h6 b6
 obtain⟨y7,h7,b7⟩:=hf 7 _ rfl
 change rdT enc Tryz.prog W m 30 ((cs.drop 46).take (Tryz.prog.cellsOf 30))=some y7 at h7
 rw[cz_30]at h7
 obtain⟨a7,r7,o7⟩:=Zjn m _ y7 h7 b7
 obtain⟨y8,h8,b8⟩:=hf 8 _ rfl
 change rdT enc Tryz.prog W m 3 ((cs.drop 52).take (Tryz.prog.cellsOf 3))=some y8 at h8
 rw[cz_3]at h8
 obtain⟨a8,r8,o8⟩:=(ZaP Tryz.underlying3) m _ y8 h8 b8
 obtain⟨y9,h9,b9⟩:=hf 9 _ rfl
 change rdT enc Tryz.prog W m 4 ((cs.drop 53).take (Tryz.prog.cellsOf 4))=some y9 at h9
 rw[cz_4]at h9
 obtain⟨a9,r9,o9⟩:=(Zgu Tryz.underlying4) m _ y9 h9 b9
 obtain⟨y10,h10,b10⟩:=hf 10 _ rfl
 change rdT enc Tryz.prog W m 4 ((cs.drop 54).take (Tryz.prog.cellsOf 4))=some y10 at h10
 rw[cz_4]at h10
 obtain⟨a10,r10,o10⟩:=(Zgu Tryz.underlying4) m _ y10 h10 b10
 obtain⟨y11,h11,b11⟩:=hf 11 _ rfl
 change rdT enc Tryz.prog W m 31 ((cs.drop 55).take (Tryz.prog.cellsOf 31))=some y11 at h11
 rw[cz_31]at h11
 obtain⟨a11,r11,o11⟩:=(ZcY Tryz.underlying31 ZoM (by decide) ZiM) m _ y11 h11 b11
 obtain⟨y12,h12,b12⟩:=hf 12 _ rfl
 change rdT enc Tryz.prog W m 31 ((cs.drop 56).take (Tryz.prog.cellsOf 31))=some y12 at h12
 rw[cz_31]at h12
 obtain⟨a12,r12,o12⟩:=(ZcY Tryz.underlying31 ZoM (by decide) ZiM) m _ y12 h12 b12
 obtain⟨y13,h13,b13⟩:=hf 13 _ rfl
 change rdT enc Tryz.prog W m 3 ((cs.drop 57).take (Tryz.prog.cellsOf 3))=some y13 at h13
 rw[cz_3]at h13
 obtain⟨a13,r13,o13⟩:=(ZaP Tryz.underlying3) m _ y13 h13 b13
 obtain⟨y14,h14,b14⟩:=hf 14 _ rfl
 change rdT enc Tryz.prog W m 3 ((cs.drop 58).take (Tryz.prog.cellsOf 3))=some y14 at h14
 rw[cz_3]at h14
 obtain⟨a14,r14,o14⟩:=(ZaP Tryz.underlying3) m _ y14 h14 b14
 obtain⟨y15,h15,b15⟩:=hf 15 _ rfl
 change rdT enc Tryz.prog W m 3 ((cs.drop 59).take (Tryz.prog.cellsOf 3))=some y15 at h15
 rw[cz_3]at h15
 obtain⟨a15,r15,o15⟩:=(ZaP Tryz.underlying3) m _ y15 h15 b15
 obtain⟨y16,h16,b16⟩:=hf 16 _ rfl
 change rdT enc Tryz.prog W m 3 ((cs.drop 60).take (Tryz.prog.cellsOf 3))=some y16 at h16
 rw[cz_3]at h16
 obtain⟨a16,r16,o16⟩:=(ZaP Tryz.underlying3) m _ y16 h16 b16
 obtain⟨y17,h17,b17⟩:=hf 17 _ rfl
 change rdT enc Tryz.prog W m 3 ((cs.drop 61).take (Tryz.prog.cellsOf 3))=some y17 at h17
 rw[cz_3]at h17
 obtain⟨a17,r17,o17⟩:=(ZaP Tryz.underlying3) m _ y17 h17 b17
 refine⟨⟨a0,a1,a2,a3,a4,a5,a6,a7,a8,a9,a10,a11,a12,a13,a14,a15,a16,a17⟩,?_,o0,o1,o2,o3,o4,o5,o6,o7,o8,o9,o10,o11,o12,o13,o14,o15,o16,o17⟩
 show RepAt (pubOf W) cs 0 _
 simp only[Zac.row,List.cons_append,List.nil_append]
 refine RepAt.app (n:=35) r0 ?_
 refine RepAt.one r1 ?_
 refine RepAt.one r2 ?_
 refine RepAt.one r3 ?_
 refine RepAt.one r4 ?_
 refine RepAt.one r5 ?_
 refine RepAt.app (n:=6) r6 ?_
 refine RepAt.app (n:=6) r7 ?_
 refine RepAt.one r8 ?_
 refine RepAt.one r9 ?_
 refine RepAt.one r10 ?_
 refine RepAt.one r11 ?_
 refine RepAt.one r12 ?_
 refine RepAt.one r13 ?_
 refine RepAt.one r14 ?_
 refine RepAt.one r15 ?_
 refine RepAt.one r16 ?_
 refine RepAt.one r17 ?_
 exact RepAt.nil (hl.trans cz_33)
end
end Go.AW.M
