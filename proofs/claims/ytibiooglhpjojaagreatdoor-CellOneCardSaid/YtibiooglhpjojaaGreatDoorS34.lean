/- What the types of this seat's program are: facts by evaluation. -/
import Derived.Test.YtibiooglhpjojaaGreatDoorA19
import Derived.Test.YtibiooglhpjojaaGreatDoorD1
import Derived.Test.YtibiooglhpjojaaGreatDoorProg
set_option linter.unusedSimpArgs false
set_option linter.unusedVariables false
namespace Go.AW
open Go.RowKit Go.Proofs

theorem mo : Tryz.prog.follows .mixedOrders = true := by kernel_rfl
theorem ar_28 : arT Tryz.prog 28 = none := by kernel_rfl
theorem ar_30 : arT Tryz.prog 30 = none := by kernel_rfl
theorem ar_33 : arT Tryz.prog 33 = none := by kernel_rfl
theorem ar_43 : arT Tryz.prog 43 = none := by kernel_rfl
theorem ar_47 : arT Tryz.prog 47 = none := by kernel_rfl
theorem ar_62 : arT Tryz.prog 62 = none := by kernel_rfl
theorem ar_77 : arT Tryz.prog 77 = none := by kernel_rfl
theorem ar_79 : arT Tryz.prog 79 = none := by kernel_rfl
theorem ar_82 : arT Tryz.prog 82 = none := by kernel_rfl
theorem ar_89 : arT Tryz.prog 89 = none := by kernel_rfl
theorem ar_92 : arT Tryz.prog 92 = none := by kernel_rfl
theorem ar_96 : arT Tryz.prog 96 = none := by kernel_rfl
theorem ar_100 : arT Tryz.prog 100 = none := by kernel_rfl
theorem ar_105 : arT Tryz.prog 105 = none := by kernel_rfl
theorem ar_111 : arT Tryz.prog 111 = none := by kernel_rfl
theorem ar_122 : arT Tryz.prog 122 = none := by kernel_rfl
theorem ar_131 : arT Tryz.prog 131 = none := by kernel_rfl
theorem ar_158 : arT Tryz.prog 158 = none := by kernel_rfl
theorem ar_200 : arT Tryz.prog 200 = none := by kernel_rfl
theorem el_22 : elT Tryz.prog 22 = some (162, 2, 24) := by kernel_rfl
theorem el_23 : elT Tryz.prog 23 = some (158, 2, 32) := by kernel_rfl
theorem el_24 : elT Tryz.prog 24 = some (3, 1, 8) := by kernel_rfl
theorem el_25 : elT Tryz.prog 25 = some (160, 2, 32) := by kernel_rfl
theorem el_26 : elT Tryz.prog 26 = some (9, 1, 16) := by kernel_rfl
theorem el_31 : elT Tryz.prog 31 = some (105, 5, 48) := by kernel_rfl
theorem el_38 : elT Tryz.prog 38 = some (4, 1, 1) := by kernel_rfl
theorem el_39 : elT Tryz.prog 39 = some (89, 9, 96) := by kernel_rfl
theorem el_40 : elT Tryz.prog 40 = some (82, 3, 24) := by kernel_rfl
theorem el_41 : elT Tryz.prog 41 = some (92, 3, 32) := by kernel_rfl
theorem el_45 : elT Tryz.prog 45 = some (62, 5, 56) := by kernel_rfl
theorem el_87 : elT Tryz.prog 87 = some (134, 2, 24) := by kernel_rfl
theorem el_126 : elT Tryz.prog 126 = some (79, 2, 16) := by kernel_rfl
theorem el_165 : elT Tryz.prog 165 = some (122, 2, 16) := by kernel_rfl
theorem el_194 : elT Tryz.prog 194 = some (146, 1, 8) := by kernel_rfl
theorem el_195 : elT Tryz.prog 195 = some (148, 1, 8) := by kernel_rfl
theorem el_202 : elT Tryz.prog 202 = some (200, 3, 24) := by kernel_rfl
theorem el_211 : elT Tryz.prog 211 = some (186, 1, 8) := by kernel_rfl
theorem el_215 : elT Tryz.prog 215 = some (191, 1, 8) := by kernel_rfl
theorem el_237 : elT Tryz.prog 237 = some (5, 1, 1) := by kernel_rfl
theorem el_258 : elT Tryz.prog 258 = some (177, 1, 8) := by kernel_rfl
theorem fa_28 : ((flds Tryz.prog 28).all fun x => x.2.isSome) = true := by kernel_rfl
theorem fa_30 : ((flds Tryz.prog 30).all fun x => x.2.isSome) = true := by kernel_rfl
theorem fa_33 : ((flds Tryz.prog 33).all fun x => x.2.isSome) = true := by kernel_rfl
theorem fa_43 : ((flds Tryz.prog 43).all fun x => x.2.isSome) = true := by kernel_rfl
theorem fa_47 : ((flds Tryz.prog 47).all fun x => x.2.isSome) = true := by kernel_rfl
theorem fa_62 : ((flds Tryz.prog 62).all fun x => x.2.isSome) = true := by kernel_rfl
theorem fa_77 : ((flds Tryz.prog 77).all fun x => x.2.isSome) = true := by kernel_rfl
theorem fa_79 : ((flds Tryz.prog 79).all fun x => x.2.isSome) = true := by kernel_rfl
theorem fa_82 : ((flds Tryz.prog 82).all fun x => x.2.isSome) = true := by kernel_rfl
theorem fa_89 : ((flds Tryz.prog 89).all fun x => x.2.isSome) = true := by kernel_rfl
theorem fa_92 : ((flds Tryz.prog 92).all fun x => x.2.isSome) = true := by kernel_rfl
theorem fa_96 : ((flds Tryz.prog 96).all fun x => x.2.isSome) = true := by kernel_rfl
theorem fa_100 : ((flds Tryz.prog 100).all fun x => x.2.isSome) = true := by kernel_rfl
theorem fa_105 : ((flds Tryz.prog 105).all fun x => x.2.isSome) = true := by kernel_rfl
theorem fa_111 : ((flds Tryz.prog 111).all fun x => x.2.isSome) = true := by kernel_rfl
theorem fa_122 : ((flds Tryz.prog 122).all fun x => x.2.isSome) = true := by kernel_rfl
theorem fa_131 : ((flds Tryz.prog 131).all fun x => x.2.isSome) = true := by kernel_rfl
theorem fa_158 : ((flds Tryz.prog 158).all fun x => x.2.isSome) = true := by kernel_rfl
theorem fa_200 : ((flds Tryz.prog 200).all fun x => x.2.isSome) = true := by kernel_rfl
theorem fd_28_0 : (flds Tryz.prog 28)[0]? = some (0, some (1, false)) := by kernel_rfl
theorem fd_28_1 : (flds Tryz.prog 28)[1]? = some (1, some (1, false)) := by kernel_rfl
theorem fd_28_2 : (flds Tryz.prog 28)[2]? = some (2, some (1, false)) := by kernel_rfl
theorem fd_28_3 : (flds Tryz.prog 28)[3]? = some (3, some (1, false)) := by kernel_rfl
theorem fd_28_4 : (flds Tryz.prog 28)[4]? = some (4, some (1, false)) := by kernel_rfl
theorem fd_28_5 : (flds Tryz.prog 28)[5]? = some (5, some (1, false)) := by kernel_rfl
theorem fd_28_6 : (flds Tryz.prog 28)[6]? = some (6, some (1, false)) := by kernel_rfl
theorem fd_28_7 : (flds Tryz.prog 28)[7]? = some (7, some (1, false)) := by kernel_rfl
theorem fd_28_8 : (flds Tryz.prog 28)[8]? = some (8, some (1, false)) := by kernel_rfl
theorem fd_28_9 : (flds Tryz.prog 28)[9]? = some (9, some (1, false)) := by kernel_rfl
theorem fd_28_10 : (flds Tryz.prog 28)[10]? = some (10, some (1, false)) := by kernel_rfl
theorem fd_28_11 : (flds Tryz.prog 28)[11]? = some (11, some (1, false)) := by kernel_rfl
theorem fd_28_12 : (flds Tryz.prog 28)[12]? = some (12, some (1, false)) := by kernel_rfl
theorem fd_28_13 : (flds Tryz.prog 28)[13]? = some (13, some (1, false)) := by kernel_rfl
theorem fd_28_14 : (flds Tryz.prog 28)[14]? = some (14, some (1, false)) := by kernel_rfl
theorem fd_28_15 : (flds Tryz.prog 28)[15]? = some (15, some (1, false)) := by kernel_rfl
theorem fd_28_16 : (flds Tryz.prog 28)[16]? = some (16, some (1, false)) := by kernel_rfl
theorem fd_28_17 : (flds Tryz.prog 28)[17]? = some (17, some (1, false)) := by kernel_rfl
theorem fd_28_18 : (flds Tryz.prog 28)[18]? = some (18, some (1, false)) := by kernel_rfl
theorem fd_28_19 : (flds Tryz.prog 28)[19]? = some (19, some (1, false)) := by kernel_rfl
theorem fd_28_20 : (flds Tryz.prog 28)[20]? = some (20, some (1, false)) := by kernel_rfl
theorem fd_28_21 : (flds Tryz.prog 28)[21]? = some (21, some (1, false)) := by kernel_rfl
theorem fd_28_22 : (flds Tryz.prog 28)[22]? = some (22, some (1, false)) := by kernel_rfl
theorem fd_28_23 : (flds Tryz.prog 28)[23]? = some (23, some (1, false)) := by kernel_rfl
theorem fd_28_24 : (flds Tryz.prog 28)[24]? = some (24, some (1, false)) := by kernel_rfl
theorem fd_28_25 : (flds Tryz.prog 28)[25]? = some (25, some (1, false)) := by kernel_rfl
theorem fd_28_26 : (flds Tryz.prog 28)[26]? = some (26, some (1, false)) := by kernel_rfl
theorem fd_28_27 : (flds Tryz.prog 28)[27]? = some (27, some (1, false)) := by kernel_rfl
theorem fd_28_28 : (flds Tryz.prog 28)[28]? = some (28, some (1, false)) := by kernel_rfl
theorem fd_28_29 : (flds Tryz.prog 28)[29]? = some (29, some (1, false)) := by kernel_rfl
theorem fd_28_30 : (flds Tryz.prog 28)[30]? = some (30, some (1, false)) := by kernel_rfl
theorem fd_28_31 : (flds Tryz.prog 28)[31]? = some (31, some (1, false)) := by kernel_rfl
theorem fd_28_32 : (flds Tryz.prog 28)[32]? = some (32, some (1, false)) := by kernel_rfl
theorem fd_28_33 : (flds Tryz.prog 28)[33]? = some (33, some (1, false)) := by kernel_rfl
theorem fd_28_34 : (flds Tryz.prog 28)[34]? = some (34, some (1, false)) := by kernel_rfl
theorem fd_30_0 : (flds Tryz.prog 30)[0]? = some (0, some (1, false)) := by kernel_rfl
theorem fd_30_1 : (flds Tryz.prog 30)[1]? = some (1, some (1, false)) := by kernel_rfl
theorem fd_30_2 : (flds Tryz.prog 30)[2]? = some (2, some (1, false)) := by kernel_rfl
theorem fd_30_3 : (flds Tryz.prog 30)[3]? = some (3, some (1, false)) := by kernel_rfl
theorem fd_30_4 : (flds Tryz.prog 30)[4]? = some (4, some (1, false)) := by kernel_rfl
theorem fd_30_5 : (flds Tryz.prog 30)[5]? = some (5, some (1, false)) := by kernel_rfl
theorem fd_33_0 : (flds Tryz.prog 33)[0]? = some (0, some (35, true)) := by kernel_rfl
theorem fd_33_1 : (flds Tryz.prog 33)[1]? = some (35, some (1, false)) := by kernel_rfl
theorem fd_33_2 : (flds Tryz.prog 33)[2]? = some (36, some (1, false)) := by kernel_rfl
theorem fd_33_3 : (flds Tryz.prog 33)[3]? = some (37, some (1, false)) := by kernel_rfl
theorem fd_33_4 : (flds Tryz.prog 33)[4]? = some (38, some (1, false)) := by kernel_rfl
theorem fd_33_5 : (flds Tryz.prog 33)[5]? = some (39, some (1, false)) := by kernel_rfl
theorem fd_33_6 : (flds Tryz.prog 33)[6]? = some (40, some (6, true)) := by kernel_rfl
theorem fd_33_7 : (flds Tryz.prog 33)[7]? = some (46, some (6, true)) := by kernel_rfl
theorem fd_33_8 : (flds Tryz.prog 33)[8]? = some (52, some (1, false)) := by kernel_rfl
theorem fd_33_9 : (flds Tryz.prog 33)[9]? = some (53, some (1, false)) := by kernel_rfl
theorem fd_33_10 : (flds Tryz.prog 33)[10]? = some (54, some (1, false)) := by kernel_rfl
theorem fd_33_11 : (flds Tryz.prog 33)[11]? = some (55, some (1, false)) := by kernel_rfl
theorem fd_33_12 : (flds Tryz.prog 33)[12]? = some (56, some (1, false)) := by kernel_rfl
theorem fd_33_13 : (flds Tryz.prog 33)[13]? = some (57, some (1, false)) := by kernel_rfl
theorem fd_33_14 : (flds Tryz.prog 33)[14]? = some (58, some (1, false)) := by kernel_rfl
theorem fd_33_15 : (flds Tryz.prog 33)[15]? = some (59, some (1, false)) := by kernel_rfl
theorem fd_33_16 : (flds Tryz.prog 33)[16]? = some (60, some (1, false)) := by kernel_rfl
theorem fd_33_17 : (flds Tryz.prog 33)[17]? = some (61, some (1, false)) := by kernel_rfl
theorem fd_43_0 : (flds Tryz.prog 43)[0]? = some (0, some (1, false)) := by kernel_rfl
theorem fd_43_1 : (flds Tryz.prog 43)[1]? = some (1, some (1, false)) := by kernel_rfl
theorem fd_43_2 : (flds Tryz.prog 43)[2]? = some (2, some (1, false)) := by kernel_rfl
theorem fd_47_0 : (flds Tryz.prog 47)[0]? = some (0, some (1, false)) := by kernel_rfl
theorem fd_47_1 : (flds Tryz.prog 47)[1]? = some (1, some (1, false)) := by kernel_rfl
theorem fd_47_2 : (flds Tryz.prog 47)[2]? = some (2, some (1, false)) := by kernel_rfl
theorem fd_47_3 : (flds Tryz.prog 47)[3]? = some (3, some (1, false)) := by kernel_rfl
theorem fd_47_4 : (flds Tryz.prog 47)[4]? = some (4, some (1, false)) := by kernel_rfl
theorem fd_62_0 : (flds Tryz.prog 62)[0]? = some (0, some (1, false)) := by kernel_rfl
theorem fd_62_1 : (flds Tryz.prog 62)[1]? = some (1, some (1, false)) := by kernel_rfl
theorem fd_62_2 : (flds Tryz.prog 62)[2]? = some (2, some (1, false)) := by kernel_rfl
theorem fd_62_3 : (flds Tryz.prog 62)[3]? = some (3, some (1, false)) := by kernel_rfl
theorem fd_62_4 : (flds Tryz.prog 62)[4]? = some (4, some (1, false)) := by kernel_rfl
theorem fd_77_0 : (flds Tryz.prog 77)[0]? = some (0, some (3, true)) := by kernel_rfl
theorem fd_77_1 : (flds Tryz.prog 77)[1]? = some (3, some (62, true)) := by kernel_rfl
theorem fd_77_2 : (flds Tryz.prog 77)[2]? = some (65, some (5, true)) := by kernel_rfl
theorem fd_77_3 : (flds Tryz.prog 77)[3]? = some (70, some (1, false)) := by kernel_rfl
theorem fd_79_0 : (flds Tryz.prog 79)[0]? = some (0, some (1, false)) := by kernel_rfl
theorem fd_79_1 : (flds Tryz.prog 79)[1]? = some (1, some (1, false)) := by kernel_rfl
theorem fd_82_0 : (flds Tryz.prog 82)[0]? = some (0, some (1, false)) := by kernel_rfl
theorem fd_82_1 : (flds Tryz.prog 82)[1]? = some (1, some (1, false)) := by kernel_rfl
theorem fd_82_2 : (flds Tryz.prog 82)[2]? = some (2, some (1, false)) := by kernel_rfl
theorem fd_89_0 : (flds Tryz.prog 89)[0]? = some (0, some (1, false)) := by kernel_rfl
theorem fd_89_1 : (flds Tryz.prog 89)[1]? = some (1, some (1, false)) := by kernel_rfl
theorem fd_89_2 : (flds Tryz.prog 89)[2]? = some (2, some (1, false)) := by kernel_rfl
theorem fd_89_3 : (flds Tryz.prog 89)[3]? = some (3, some (1, false)) := by kernel_rfl
theorem fd_89_4 : (flds Tryz.prog 89)[4]? = some (4, some (1, false)) := by kernel_rfl
theorem fd_89_5 : (flds Tryz.prog 89)[5]? = some (5, some (1, false)) := by kernel_rfl
theorem fd_89_6 : (flds Tryz.prog 89)[6]? = some (6, some (1, false)) := by kernel_rfl
theorem fd_89_7 : (flds Tryz.prog 89)[7]? = some (7, some (1, false)) := by kernel_rfl
theorem fd_89_8 : (flds Tryz.prog 89)[8]? = some (8, some (1, false)) := by kernel_rfl
theorem fd_92_0 : (flds Tryz.prog 92)[0]? = some (0, some (1, false)) := by kernel_rfl
theorem fd_92_1 : (flds Tryz.prog 92)[1]? = some (1, some (1, false)) := by kernel_rfl
theorem fd_92_2 : (flds Tryz.prog 92)[2]? = some (2, some (1, false)) := by kernel_rfl
theorem fd_96_0 : (flds Tryz.prog 96)[0]? = some (0, some (3, true)) := by kernel_rfl
theorem fd_96_1 : (flds Tryz.prog 96)[1]? = some (3, some (62, true)) := by kernel_rfl
theorem fd_96_2 : (flds Tryz.prog 96)[2]? = some (65, some (1, false)) := by kernel_rfl
theorem fd_96_3 : (flds Tryz.prog 96)[3]? = some (66, some (5, true)) := by kernel_rfl
theorem fd_100_0 : (flds Tryz.prog 100)[0]? = some (0, some (62, true)) := by kernel_rfl
theorem fd_100_1 : (flds Tryz.prog 100)[1]? = some (62, some (1, false)) := by kernel_rfl
theorem fd_100_2 : (flds Tryz.prog 100)[2]? = some (63, some (5, true)) := by kernel_rfl
theorem fd_105_0 : (flds Tryz.prog 105)[0]? = some (0, some (1, false)) := by kernel_rfl
theorem fd_105_1 : (flds Tryz.prog 105)[1]? = some (1, some (1, false)) := by kernel_rfl
theorem fd_105_2 : (flds Tryz.prog 105)[2]? = some (2, some (1, false)) := by kernel_rfl
theorem fd_105_3 : (flds Tryz.prog 105)[3]? = some (3, some (1, false)) := by kernel_rfl
theorem fd_105_4 : (flds Tryz.prog 105)[4]? = some (4, some (1, false)) := by kernel_rfl
theorem fd_122_0 : (flds Tryz.prog 122)[0]? = some (0, some (1, false)) := by kernel_rfl
theorem fd_122_1 : (flds Tryz.prog 122)[1]? = some (1, some (1, false)) := by kernel_rfl
theorem fd_131_0 : (flds Tryz.prog 131)[0]? = some (0, some (1, false)) := by kernel_rfl
theorem fd_131_1 : (flds Tryz.prog 131)[1]? = some (1, some (1, false)) := by kernel_rfl
theorem fd_131_2 : (flds Tryz.prog 131)[2]? = some (2, some (1, false)) := by kernel_rfl
theorem fd_131_3 : (flds Tryz.prog 131)[3]? = some (3, some (1, false)) := by kernel_rfl
theorem fd_134_0 : (flds Tryz.prog 134)[0]? = some (0, some (1, false)) := by kernel_rfl
theorem fd_134_1 : (flds Tryz.prog 134)[1]? = some (1, some (1, false)) := by kernel_rfl
theorem fd_158_0 : (flds Tryz.prog 158)[0]? = some (0, some (1, false)) := by kernel_rfl
theorem fd_158_1 : (flds Tryz.prog 158)[1]? = some (1, some (1, false)) := by kernel_rfl
theorem fd_160_0 : (flds Tryz.prog 160)[0]? = some (0, some (1, false)) := by kernel_rfl
theorem fd_160_1 : (flds Tryz.prog 160)[1]? = some (1, some (1, false)) := by kernel_rfl
theorem fd_162_0 : (flds Tryz.prog 162)[0]? = some (0, some (1, false)) := by kernel_rfl
theorem fd_162_1 : (flds Tryz.prog 162)[1]? = some (1, some (1, false)) := by kernel_rfl
theorem fd_200_0 : (flds Tryz.prog 200)[0]? = some (0, some (1, false)) := by kernel_rfl
theorem fd_200_1 : (flds Tryz.prog 200)[1]? = some (1, some (1, false)) := by kernel_rfl
theorem fd_200_2 : (flds Tryz.prog 200)[2]? = some (2, some (1, false)) := by kernel_rfl
theorem fe_28 : isStr Tryz.prog 28 = true := by kernel_rfl
theorem fe_30 : isStr Tryz.prog 30 = true := by kernel_rfl
theorem fe_33 : isStr Tryz.prog 33 = true := by kernel_rfl
theorem fe_43 : isStr Tryz.prog 43 = true := by kernel_rfl
theorem fe_47 : isStr Tryz.prog 47 = true := by kernel_rfl
theorem fe_62 : isStr Tryz.prog 62 = true := by kernel_rfl
theorem fe_77 : isStr Tryz.prog 77 = true := by kernel_rfl
theorem fe_79 : isStr Tryz.prog 79 = true := by kernel_rfl
theorem fe_82 : isStr Tryz.prog 82 = true := by kernel_rfl
theorem fe_89 : isStr Tryz.prog 89 = true := by kernel_rfl
theorem fe_92 : isStr Tryz.prog 92 = true := by kernel_rfl
theorem fe_96 : isStr Tryz.prog 96 = true := by kernel_rfl
theorem fe_100 : isStr Tryz.prog 100 = true := by kernel_rfl
theorem fe_105 : isStr Tryz.prog 105 = true := by kernel_rfl
theorem fe_111 : isStr Tryz.prog 111 = true := by kernel_rfl
theorem fe_122 : isStr Tryz.prog 122 = true := by kernel_rfl
theorem fe_131 : isStr Tryz.prog 131 = true := by kernel_rfl
theorem fe_158 : isStr Tryz.prog 158 = true := by kernel_rfl
theorem fe_200 : isStr Tryz.prog 200 = true := by kernel_rfl
theorem io_9 : ifcOk Tryz.prog 9 = True := by
  unfold ifcOk
  rw [Tryz.underlying9]
theorem io_111 : ifcOk Tryz.prog 111 = True := by
  unfold ifcOk
  rw [Tryz.underlying111]
theorem lt_9 : lenTy Tryz.prog 9 true = True := by
  have h : Tryz.prog.underlying 9 = Tryz.prog.underlying 9 := rfl
  unfold lenTy
  rw [Tryz.underlying9]
theorem lt_22 : lenTy Tryz.prog 22 false = True := by
  have h : Tryz.prog.underlying 22 = Tryz.prog.underlying 22 := rfl
  unfold lenTy
  rw [Tryz.underlying22]
theorem lt_23 : lenTy Tryz.prog 23 false = True := by
  have h : Tryz.prog.underlying 23 = Tryz.prog.underlying 23 := rfl
  unfold lenTy
  rw [Tryz.underlying23]
theorem lt_24 : lenTy Tryz.prog 24 false = True := by
  have h : Tryz.prog.underlying 24 = Tryz.prog.underlying 24 := rfl
  unfold lenTy
  rw [Tryz.underlying24]
theorem lt_25 : lenTy Tryz.prog 25 false = True := by
  have h : Tryz.prog.underlying 25 = Tryz.prog.underlying 25 := rfl
  unfold lenTy
  rw [Tryz.underlying25]
theorem lt_26 : lenTy Tryz.prog 26 false = True := by
  have h : Tryz.prog.underlying 26 = Tryz.prog.underlying 26 := rfl
  unfold lenTy
  rw [Tryz.underlying26]
theorem lt_31 : lenTy Tryz.prog 31 false = True := by
  have h : Tryz.prog.underlying 31 = Tryz.prog.underlying 31 := rfl
  unfold lenTy
  rw [Tryz.underlying31]
theorem lt_38 : lenTy Tryz.prog 38 false = True := by
  have h : Tryz.prog.underlying 38 = Tryz.prog.underlying 38 := rfl
  unfold lenTy
  rw [Tryz.underlying38]
theorem lt_39 : lenTy Tryz.prog 39 false = True := by
  have h : Tryz.prog.underlying 39 = Tryz.prog.underlying 39 := rfl
  unfold lenTy
  rw [Tryz.underlying39]
theorem lt_40 : lenTy Tryz.prog 40 false = True := by
  have h : Tryz.prog.underlying 40 = Tryz.prog.underlying 40 := rfl
  unfold lenTy
  rw [Tryz.underlying40]
theorem lt_41 : lenTy Tryz.prog 41 false = True := by
  have h : Tryz.prog.underlying 41 = Tryz.prog.underlying 41 := rfl
  unfold lenTy
  rw [Tryz.underlying41]
theorem lt_45 : lenTy Tryz.prog 45 false = True := by
  have h : Tryz.prog.underlying 45 = Tryz.prog.underlying 45 := rfl
  unfold lenTy
  rw [Tryz.underlying45]
theorem lt_87 : lenTy Tryz.prog 87 false = True := by
  have h : Tryz.prog.underlying 87 = Tryz.prog.underlying 87 := rfl
  unfold lenTy
  rw [Tryz.underlying87]
theorem lt_126 : lenTy Tryz.prog 126 false = True := by
  have h : Tryz.prog.underlying 126 = Tryz.prog.underlying 126 := rfl
  unfold lenTy
  rw [Tryz.underlying126]
theorem lt_165 : lenTy Tryz.prog 165 false = True := by
  have h : Tryz.prog.underlying 165 = Tryz.prog.underlying 165 := rfl
  unfold lenTy
  rw [Tryz.underlying165]
theorem lt_194 : lenTy Tryz.prog 194 false = True := by
  have h : Tryz.prog.underlying 194 = Tryz.prog.underlying 194 := rfl
  unfold lenTy
  rw [Tryz.underlying194]
theorem lt_195 : lenTy Tryz.prog 195 false = True := by
  have h : Tryz.prog.underlying 195 = Tryz.prog.underlying 195 := rfl
  unfold lenTy
  rw [Tryz.underlying195]
theorem lt_202 : lenTy Tryz.prog 202 false = True := by
  have h : Tryz.prog.underlying 202 = Tryz.prog.underlying 202 := rfl
  unfold lenTy
  rw [Tryz.underlying202]
theorem lt_211 : lenTy Tryz.prog 211 false = True := by
  have h : Tryz.prog.underlying 211 = Tryz.prog.underlying 211 := rfl
  unfold lenTy
  rw [Tryz.underlying211]
theorem lt_215 : lenTy Tryz.prog 215 false = True := by
  have h : Tryz.prog.underlying 215 = Tryz.prog.underlying 215 := rfl
  unfold lenTy
  rw [Tryz.underlying215]
theorem lt_237 : lenTy Tryz.prog 237 false = True := by
  have h : Tryz.prog.underlying 237 = Tryz.prog.underlying 237 := rfl
  unfold lenTy
  rw [Tryz.underlying237]
theorem lt_258 : lenTy Tryz.prog 258 false = True := by
  have h : Tryz.prog.underlying 258 = Tryz.prog.underlying 258 := rfl
  unfold lenTy
  rw [Tryz.underlying258]
theorem tz_1 : tsz Tryz.prog 1 = some (1, false) := by kernel_rfl
theorem tz_3 : tsz Tryz.prog 3 = some (1, false) := by kernel_rfl
theorem tz_4 : tsz Tryz.prog 4 = some (1, false) := by kernel_rfl
theorem tz_5 : tsz Tryz.prog 5 = some (1, false) := by kernel_rfl
theorem tz_9 : tsz Tryz.prog 9 = some (1, false) := by kernel_rfl
theorem tz_22 : tsz Tryz.prog 22 = some (1, false) := by kernel_rfl
theorem tz_23 : tsz Tryz.prog 23 = some (1, false) := by kernel_rfl
theorem tz_24 : tsz Tryz.prog 24 = some (1, false) := by kernel_rfl
theorem tz_25 : tsz Tryz.prog 25 = some (1, false) := by kernel_rfl
theorem tz_26 : tsz Tryz.prog 26 = some (1, false) := by kernel_rfl
theorem tz_28 : tsz Tryz.prog 28 = some (35, true) := by kernel_rfl
theorem tz_30 : tsz Tryz.prog 30 = some (6, true) := by kernel_rfl
theorem tz_31 : tsz Tryz.prog 31 = some (1, false) := by kernel_rfl
theorem tz_33 : tsz Tryz.prog 33 = some (62, true) := by kernel_rfl
theorem tz_39 : tsz Tryz.prog 39 = some (1, false) := by kernel_rfl
theorem tz_40 : tsz Tryz.prog 40 = some (1, false) := by kernel_rfl
theorem tz_41 : tsz Tryz.prog 41 = some (1, false) := by kernel_rfl
theorem tz_43 : tsz Tryz.prog 43 = some (3, true) := by kernel_rfl
theorem tz_45 : tsz Tryz.prog 45 = some (1, false) := by kernel_rfl
theorem tz_47 : tsz Tryz.prog 47 = some (5, true) := by kernel_rfl
theorem tz_62 : tsz Tryz.prog 62 = some (5, true) := by kernel_rfl
theorem tz_79 : tsz Tryz.prog 79 = some (2, true) := by kernel_rfl
theorem tz_82 : tsz Tryz.prog 82 = some (3, true) := by kernel_rfl
theorem tz_87 : tsz Tryz.prog 87 = some (1, false) := by kernel_rfl
theorem tz_89 : tsz Tryz.prog 89 = some (9, true) := by kernel_rfl
theorem tz_92 : tsz Tryz.prog 92 = some (3, true) := by kernel_rfl
theorem tz_105 : tsz Tryz.prog 105 = some (5, true) := by kernel_rfl
theorem tz_122 : tsz Tryz.prog 122 = some (2, true) := by kernel_rfl
theorem tz_131 : tsz Tryz.prog 131 = some (4, true) := by kernel_rfl
theorem tz_134 : tsz Tryz.prog 134 = some (2, true) := by kernel_rfl
theorem tz_146 : tsz Tryz.prog 146 = some (1, false) := by kernel_rfl
theorem tz_148 : tsz Tryz.prog 148 = some (1, false) := by kernel_rfl
theorem tz_158 : tsz Tryz.prog 158 = some (2, true) := by kernel_rfl
theorem tz_160 : tsz Tryz.prog 160 = some (2, true) := by kernel_rfl
theorem tz_162 : tsz Tryz.prog 162 = some (2, true) := by kernel_rfl
theorem tz_177 : tsz Tryz.prog 177 = some (1, false) := by kernel_rfl
theorem tz_186 : tsz Tryz.prog 186 = some (1, false) := by kernel_rfl
theorem tz_191 : tsz Tryz.prog 191 = some (1, false) := by kernel_rfl
theorem tz_200 : tsz Tryz.prog 200 = some (3, true) := by kernel_rfl
theorem tz_234 : tsz Tryz.prog 234 = some (1, false) := by kernel_rfl
theorem tz_244 : tsz Tryz.prog 244 = some (20, true) := by kernel_rfl
theorem tz_254 : tsz Tryz.prog 254 = some (2, true) := by kernel_rfl
theorem tz_258 : tsz Tryz.prog 258 = some (1, false) := by kernel_rfl
theorem tz_259 : tsz Tryz.prog 259 = some (32, true) := by kernel_rfl
theorem tz_260 : tsz Tryz.prog 260 = some (64, true) := by kernel_rfl
theorem ub_4 : Tryz.prog.underlying 4 = some .bool := by kernel_rfl
theorem us_9 : Tryz.prog.underlying 9 = some .string := by kernel_rfl
theorem zc_3 : zeroC Tryz.prog 3 = some [.d (.lit (.int .i64 0))] := by kernel_rfl
theorem zc_9 : zeroC Tryz.prog 9 = some [.d (.lit (.string ByteArray.empty))] := by kernel_rfl
theorem zc_28 : zeroC Tryz.prog 28 = some [.d (.lit (.string ByteArray.empty)), .d (.lit (.int .i64 0)), .d (.lit (.string ByteArray.empty)), .d (.lit (.bool false)), .nil, .d (.lit (.int .i64 0)), .d (.lit (.int .i64 0)), .d (.lit (.int .i64 0)), .nil, .nil, .nil, .nil, .nil, .d (.lit (.bool false)), .d (.lit (.int .i64 0)), .d (.lit (.int .i64 0)), .d (.lit (.int .i64 0)), .d (.lit (.int .i64 0)), .nil, .nil, .nil, .nil, .d (.lit (.int .i64 0)), .d (.lit (.string ByteArray.empty)), .d (.lit (.string ByteArray.empty)), .nil, .nil, .nil, .nil, .d (.lit (.bool false)), .nil, .nil, .nil, .nil, .d (.lit (.string ByteArray.empty))] := by kernel_rfl
theorem zc_30 : zeroC Tryz.prog 30 = some [.d (.lit (.int .i64 0)), .d (.lit (.int .i64 0)), .d (.lit (.int .i64 0)), .d (.lit (.int .i64 0)), .d (.lit (.int .i64 0)), .d (.lit (.bool false))] := by kernel_rfl
theorem zc_33 : zeroC Tryz.prog 33 = some [.d (.lit (.string ByteArray.empty)), .d (.lit (.int .i64 0)), .d (.lit (.string ByteArray.empty)), .d (.lit (.bool false)), .nil, .d (.lit (.int .i64 0)), .d (.lit (.int .i64 0)), .d (.lit (.int .i64 0)), .nil, .nil, .nil, .nil, .nil, .d (.lit (.bool false)), .d (.lit (.int .i64 0)), .d (.lit (.int .i64 0)), .d (.lit (.int .i64 0)), .d (.lit (.int .i64 0)), .nil, .nil, .nil, .nil, .d (.lit (.int .i64 0)), .d (.lit (.string ByteArray.empty)), .d (.lit (.string ByteArray.empty)), .nil, .nil, .nil, .nil, .d (.lit (.bool false)), .nil, .nil, .nil, .nil, .d (.lit (.string ByteArray.empty)), .d (.lit (.int .i64 0)), .d (.lit (.int .i64 0)), .d (.lit (.int .i64 0)), .nil, .d (.lit (.int .i64 0)), .d (.lit (.int .i64 0)), .d (.lit (.int .i64 0)), .d (.lit (.int .i64 0)), .d (.lit (.int .i64 0)), .d (.lit (.int .i64 0)), .d (.lit (.bool false)), .d (.lit (.int .i64 0)), .d (.lit (.int .i64 0)), .d (.lit (.int .i64 0)), .d (.lit (.int .i64 0)), .d (.lit (.int .i64 0)), .d (.lit (.bool false)), .d (.lit (.int .i64 0)), .d (.lit (.bool false)), .d (.lit (.bool false)), .nil, .nil, .d (.lit (.int .i64 0)), .d (.lit (.int .i64 0)), .d (.lit (.int .i64 0)), .d (.lit (.int .i64 0)), .d (.lit (.int .i64 0))] := by kernel_rfl
theorem zc_43 : zeroC Tryz.prog 43 = some [.nil, .nil, .nil] := by kernel_rfl
theorem zc_47 : zeroC Tryz.prog 47 = some [.nil, .nil, .nil, .d (.lit (.bool false)), .d (.lit (.bool false))] := by kernel_rfl
theorem zc_62 : zeroC Tryz.prog 62 = some [.d (.lit (.int .i64 0)), .d (.lit (.string ByteArray.empty)), .d (.lit (.int .i64 0)), .d (.lit (.int .i64 0)), .d (.lit (.string ByteArray.empty))] := by kernel_rfl
theorem zc_77 : zeroC Tryz.prog 77 = some [.nil, .nil, .nil, .d (.lit (.string ByteArray.empty)), .d (.lit (.int .i64 0)), .d (.lit (.string ByteArray.empty)), .d (.lit (.bool false)), .nil, .d (.lit (.int .i64 0)), .d (.lit (.int .i64 0)), .d (.lit (.int .i64 0)), .nil, .nil, .nil, .nil, .nil, .d (.lit (.bool false)), .d (.lit (.int .i64 0)), .d (.lit (.int .i64 0)), .d (.lit (.int .i64 0)), .d (.lit (.int .i64 0)), .nil, .nil, .nil, .nil, .d (.lit (.int .i64 0)), .d (.lit (.string ByteArray.empty)), .d (.lit (.string ByteArray.empty)), .nil, .nil, .nil, .nil, .d (.lit (.bool false)), .nil, .nil, .nil, .nil, .d (.lit (.string ByteArray.empty)), .d (.lit (.int .i64 0)), .d (.lit (.int .i64 0)), .d (.lit (.int .i64 0)), .nil, .d (.lit (.int .i64 0)), .d (.lit (.int .i64 0)), .d (.lit (.int .i64 0)), .d (.lit (.int .i64 0)), .d (.lit (.int .i64 0)), .d (.lit (.int .i64 0)), .d (.lit (.bool false)), .d (.lit (.int .i64 0)), .d (.lit (.int .i64 0)), .d (.lit (.int .i64 0)), .d (.lit (.int .i64 0)), .d (.lit (.int .i64 0)), .d (.lit (.bool false)), .d (.lit (.int .i64 0)), .d (.lit (.bool false)), .d (.lit (.bool false)), .nil, .nil, .d (.lit (.int .i64 0)), .d (.lit (.int .i64 0)), .d (.lit (.int .i64 0)), .d (.lit (.int .i64 0)), .d (.lit (.int .i64 0)), .nil, .nil, .nil, .d (.lit (.bool false)), .d (.lit (.bool false)), .d (.lit (.int .i64 0))] := by kernel_rfl
theorem zc_79 : zeroC Tryz.prog 79 = some [.d (.lit (.int .i64 0)), .d (.lit (.int .i64 0))] := by kernel_rfl
theorem zc_82 : zeroC Tryz.prog 82 = some [.d (.lit (.int .i64 0)), .d (.lit (.int .i64 0)), .d (.lit (.int .i64 0))] := by kernel_rfl
theorem zc_89 : zeroC Tryz.prog 89 = some [.d (.lit (.string ByteArray.empty)), .d (.lit (.int .i64 0)), .d (.lit (.int .i64 0)), .d (.lit (.int .i64 0)), .d (.lit (.int .i64 0)), .d (.lit (.int .i64 0)), .d (.lit (.int .i64 0)), .d (.lit (.int .i64 0)), .nil] := by kernel_rfl
theorem zc_92 : zeroC Tryz.prog 92 = some [.d (.lit (.int .i64 0)), .d (.lit (.string ByteArray.empty)), .d (.lit (.int .i64 0))] := by kernel_rfl
theorem zc_96 : zeroC Tryz.prog 96 = some [.nil, .nil, .nil, .d (.lit (.string ByteArray.empty)), .d (.lit (.int .i64 0)), .d (.lit (.string ByteArray.empty)), .d (.lit (.bool false)), .nil, .d (.lit (.int .i64 0)), .d (.lit (.int .i64 0)), .d (.lit (.int .i64 0)), .nil, .nil, .nil, .nil, .nil, .d (.lit (.bool false)), .d (.lit (.int .i64 0)), .d (.lit (.int .i64 0)), .d (.lit (.int .i64 0)), .d (.lit (.int .i64 0)), .nil, .nil, .nil, .nil, .d (.lit (.int .i64 0)), .d (.lit (.string ByteArray.empty)), .d (.lit (.string ByteArray.empty)), .nil, .nil, .nil, .nil, .d (.lit (.bool false)), .nil, .nil, .nil, .nil, .d (.lit (.string ByteArray.empty)), .d (.lit (.int .i64 0)), .d (.lit (.int .i64 0)), .d (.lit (.int .i64 0)), .nil, .d (.lit (.int .i64 0)), .d (.lit (.int .i64 0)), .d (.lit (.int .i64 0)), .d (.lit (.int .i64 0)), .d (.lit (.int .i64 0)), .d (.lit (.int .i64 0)), .d (.lit (.bool false)), .d (.lit (.int .i64 0)), .d (.lit (.int .i64 0)), .d (.lit (.int .i64 0)), .d (.lit (.int .i64 0)), .d (.lit (.int .i64 0)), .d (.lit (.bool false)), .d (.lit (.int .i64 0)), .d (.lit (.bool false)), .d (.lit (.bool false)), .nil, .nil, .d (.lit (.int .i64 0)), .d (.lit (.int .i64 0)), .d (.lit (.int .i64 0)), .d (.lit (.int .i64 0)), .d (.lit (.int .i64 0)), .d (.lit (.int .i64 0)), .nil, .nil, .nil, .d (.lit (.bool false)), .d (.lit (.bool false))] := by kernel_rfl
theorem zc_100 : zeroC Tryz.prog 100 = some [.d (.lit (.string ByteArray.empty)), .d (.lit (.int .i64 0)), .d (.lit (.string ByteArray.empty)), .d (.lit (.bool false)), .nil, .d (.lit (.int .i64 0)), .d (.lit (.int .i64 0)), .d (.lit (.int .i64 0)), .nil, .nil, .nil, .nil, .nil, .d (.lit (.bool false)), .d (.lit (.int .i64 0)), .d (.lit (.int .i64 0)), .d (.lit (.int .i64 0)), .d (.lit (.int .i64 0)), .nil, .nil, .nil, .nil, .d (.lit (.int .i64 0)), .d (.lit (.string ByteArray.empty)), .d (.lit (.string ByteArray.empty)), .nil, .nil, .nil, .nil, .d (.lit (.bool false)), .nil, .nil, .nil, .nil, .d (.lit (.string ByteArray.empty)), .d (.lit (.int .i64 0)), .d (.lit (.int .i64 0)), .d (.lit (.int .i64 0)), .nil, .d (.lit (.int .i64 0)), .d (.lit (.int .i64 0)), .d (.lit (.int .i64 0)), .d (.lit (.int .i64 0)), .d (.lit (.int .i64 0)), .d (.lit (.int .i64 0)), .d (.lit (.bool false)), .d (.lit (.int .i64 0)), .d (.lit (.int .i64 0)), .d (.lit (.int .i64 0)), .d (.lit (.int .i64 0)), .d (.lit (.int .i64 0)), .d (.lit (.bool false)), .d (.lit (.int .i64 0)), .d (.lit (.bool false)), .d (.lit (.bool false)), .nil, .nil, .d (.lit (.int .i64 0)), .d (.lit (.int .i64 0)), .d (.lit (.int .i64 0)), .d (.lit (.int .i64 0)), .d (.lit (.int .i64 0)), .d (.lit (.int .i64 0)), .nil, .nil, .nil, .d (.lit (.bool false)), .d (.lit (.bool false))] := by kernel_rfl
theorem zc_105 : zeroC Tryz.prog 105 = some [.d (.lit (.string ByteArray.empty)), .d (.lit (.int .i64 0)), .d (.lit (.int .i64 0)), .d (.lit (.int .i64 0)), .d (.lit (.int .i64 0))] := by kernel_rfl
theorem zc_111 : zeroC Tryz.prog 111 = some [] := by kernel_rfl
theorem zc_122 : zeroC Tryz.prog 122 = some [.d (.lit (.int .i64 0)), .d (.lit .nilFunc)] := by kernel_rfl
theorem zc_131 : zeroC Tryz.prog 131 = some [.d (.lit (.int .i64 0)), .d (.lit (.string ByteArray.empty)), .d (.lit (.string ByteArray.empty)), .d (.lit (.bool false))] := by kernel_rfl
theorem zc_134 : zeroC Tryz.prog 134 = some [.d (.lit (.int .i64 0)), .d (.lit (.string ByteArray.empty))] := by kernel_rfl
theorem zc_158 : zeroC Tryz.prog 158 = some [.d (.lit (.bool false)), .nil] := by kernel_rfl
theorem zc_160 : zeroC Tryz.prog 160 = some [.d (.lit (.string ByteArray.empty)), .d (.lit (.string ByteArray.empty))] := by kernel_rfl
theorem zc_162 : zeroC Tryz.prog 162 = some [.d (.lit (.int .i64 0)), .d (.lit (.string ByteArray.empty))] := by kernel_rfl
theorem zc_200 : zeroC Tryz.prog 200 = some [.d (.lit (.bool false)), .d (.lit (.int .i64 0)), .d (.lit .nilFunc)] := by kernel_rfl
theorem zc_233 : zeroC Tryz.prog 233 = some [.d (.lit (.int .u8 0)), .d (.lit (.int .u8 0)), .d (.lit (.int .u8 0)), .d (.lit (.int .u8 0)), .d (.lit (.int .u8 0)), .d (.lit (.int .u8 0)), .d (.lit (.int .u8 0)), .d (.lit (.int .u8 0)), .d (.lit (.int .u8 0)), .d (.lit (.int .u8 0)), .d (.lit (.int .u8 0)), .d (.lit (.int .u8 0)), .d (.lit (.int .u8 0)), .d (.lit (.int .u8 0)), .d (.lit (.int .u8 0)), .d (.lit (.int .u8 0)), .d (.lit (.int .u8 0)), .d (.lit (.int .u8 0)), .d (.lit (.int .u8 0)), .d (.lit (.int .u8 0)), .d (.lit (.int .u8 0)), .d (.lit (.int .u8 0)), .d (.lit (.int .u8 0)), .d (.lit (.int .u8 0))] := by kernel_rfl
theorem zc_246 : zeroC Tryz.prog 246 = some [.d (.lit (.int .u8 0)), .d (.lit (.int .u8 0)), .d (.lit (.int .u8 0)), .d (.lit (.int .u8 0)), .d (.lit (.int .u8 0)), .d (.lit (.int .u8 0)), .d (.lit (.int .u8 0)), .d (.lit (.int .u8 0)), .d (.lit (.int .u8 0)), .d (.lit (.int .u8 0)), .d (.lit (.int .u8 0)), .d (.lit (.int .u8 0)), .d (.lit (.int .u8 0)), .d (.lit (.int .u8 0)), .d (.lit (.int .u8 0)), .d (.lit (.int .u8 0)), .d (.lit (.int .u8 0)), .d (.lit (.int .u8 0)), .d (.lit (.int .u8 0)), .d (.lit (.int .u8 0)), .d (.lit (.int .u8 0)), .d (.lit (.int .u8 0)), .d (.lit (.int .u8 0)), .d (.lit (.int .u8 0)), .d (.lit (.int .u8 0)), .d (.lit (.int .u8 0)), .d (.lit (.int .u8 0)), .d (.lit (.int .u8 0)), .d (.lit (.int .u8 0)), .d (.lit (.int .u8 0)), .d (.lit (.int .u8 0)), .d (.lit (.int .u8 0)), .d (.lit (.int .u8 0)), .d (.lit (.int .u8 0)), .d (.lit (.int .u8 0)), .d (.lit (.int .u8 0)), .d (.lit (.int .u8 0)), .d (.lit (.int .u8 0)), .d (.lit (.int .u8 0)), .d (.lit (.int .u8 0)), .d (.lit (.int .u8 0)), .d (.lit (.int .u8 0)), .d (.lit (.int .u8 0)), .d (.lit (.int .u8 0)), .d (.lit (.int .u8 0)), .d (.lit (.int .u8 0)), .d (.lit (.int .u8 0)), .d (.lit (.int .u8 0)), .d (.lit (.int .u8 0)), .d (.lit (.int .u8 0)), .d (.lit (.int .u8 0)), .d (.lit (.int .u8 0)), .d (.lit (.int .u8 0)), .d (.lit (.int .u8 0)), .d (.lit (.int .u8 0)), .d (.lit (.int .u8 0)), .d (.lit (.int .u8 0)), .d (.lit (.int .u8 0)), .d (.lit (.int .u8 0)), .d (.lit (.int .u8 0)), .d (.lit (.int .u8 0)), .d (.lit (.int .u8 0)), .d (.lit (.int .u8 0)), .d (.lit (.int .u8 0)), .d (.lit (.int .u8 0))] := by kernel_rfl
theorem zc_254 : zeroC Tryz.prog 254 = some [.d (.lit (.int .i64 0)), .d (.lit (.int .i64 0))] := by kernel_rfl
theorem zl_3 : (zeroC Tryz.prog 3).map (·.length) = some 1 := by kernel_rfl
theorem zl_4 : (zeroC Tryz.prog 4).map (·.length) = some 1 := by kernel_rfl
theorem zl_5 : (zeroC Tryz.prog 5).map (·.length) = some 1 := by kernel_rfl
theorem zl_9 : (zeroC Tryz.prog 9).map (·.length) = some 1 := by kernel_rfl
theorem zl_62 : (zeroC Tryz.prog 62).map (·.length) = some 5 := by kernel_rfl
theorem zl_79 : (zeroC Tryz.prog 79).map (·.length) = some 2 := by kernel_rfl
theorem zl_82 : (zeroC Tryz.prog 82).map (·.length) = some 3 := by kernel_rfl
theorem zl_89 : (zeroC Tryz.prog 89).map (·.length) = some 9 := by kernel_rfl
theorem zl_92 : (zeroC Tryz.prog 92).map (·.length) = some 3 := by kernel_rfl
theorem zl_105 : (zeroC Tryz.prog 105).map (·.length) = some 5 := by kernel_rfl
theorem zl_122 : (zeroC Tryz.prog 122).map (·.length) = some 2 := by kernel_rfl
theorem zl_134 : (zeroC Tryz.prog 134).map (·.length) = some 2 := by kernel_rfl
theorem zl_146 : (zeroC Tryz.prog 146).map (·.length) = some 1 := by kernel_rfl
theorem zl_148 : (zeroC Tryz.prog 148).map (·.length) = some 1 := by kernel_rfl
theorem zl_158 : (zeroC Tryz.prog 158).map (·.length) = some 2 := by kernel_rfl
theorem zl_160 : (zeroC Tryz.prog 160).map (·.length) = some 2 := by kernel_rfl
theorem zl_162 : (zeroC Tryz.prog 162).map (·.length) = some 2 := by kernel_rfl
theorem zl_177 : (zeroC Tryz.prog 177).map (·.length) = some 1 := by kernel_rfl
theorem zl_186 : (zeroC Tryz.prog 186).map (·.length) = some 1 := by kernel_rfl
theorem zl_191 : (zeroC Tryz.prog 191).map (·.length) = some 1 := by kernel_rfl
theorem zl_200 : (zeroC Tryz.prog 200).map (·.length) = some 3 := by kernel_rfl
theorem bd_28 (parts : List (Nat × AV)) : buildR Tryz.prog 28 parts = putIn (flds Tryz.prog 28) [.d (.lit (.string ByteArray.empty)), .d (.lit (.int .i64 0)), .d (.lit (.string ByteArray.empty)), .d (.lit (.bool false)), .nil, .d (.lit (.int .i64 0)), .d (.lit (.int .i64 0)), .d (.lit (.int .i64 0)), .nil, .nil, .nil, .nil, .nil, .d (.lit (.bool false)), .d (.lit (.int .i64 0)), .d (.lit (.int .i64 0)), .d (.lit (.int .i64 0)), .d (.lit (.int .i64 0)), .nil, .nil, .nil, .nil, .d (.lit (.int .i64 0)), .d (.lit (.string ByteArray.empty)), .d (.lit (.string ByteArray.empty)), .nil, .nil, .nil, .nil, .d (.lit (.bool false)), .nil, .nil, .nil, .nil, .d (.lit (.string ByteArray.empty))] parts := buildR_struct zc_28 ar_28 fa_28 fe_28 parts
theorem bd_30 (parts : List (Nat × AV)) : buildR Tryz.prog 30 parts = putIn (flds Tryz.prog 30) [.d (.lit (.int .i64 0)), .d (.lit (.int .i64 0)), .d (.lit (.int .i64 0)), .d (.lit (.int .i64 0)), .d (.lit (.int .i64 0)), .d (.lit (.bool false))] parts := buildR_struct zc_30 ar_30 fa_30 fe_30 parts
theorem bd_33 (parts : List (Nat × AV)) : buildR Tryz.prog 33 parts = putIn (flds Tryz.prog 33) [.d (.lit (.string ByteArray.empty)), .d (.lit (.int .i64 0)), .d (.lit (.string ByteArray.empty)), .d (.lit (.bool false)), .nil, .d (.lit (.int .i64 0)), .d (.lit (.int .i64 0)), .d (.lit (.int .i64 0)), .nil, .nil, .nil, .nil, .nil, .d (.lit (.bool false)), .d (.lit (.int .i64 0)), .d (.lit (.int .i64 0)), .d (.lit (.int .i64 0)), .d (.lit (.int .i64 0)), .nil, .nil, .nil, .nil, .d (.lit (.int .i64 0)), .d (.lit (.string ByteArray.empty)), .d (.lit (.string ByteArray.empty)), .nil, .nil, .nil, .nil, .d (.lit (.bool false)), .nil, .nil, .nil, .nil, .d (.lit (.string ByteArray.empty)), .d (.lit (.int .i64 0)), .d (.lit (.int .i64 0)), .d (.lit (.int .i64 0)), .nil, .d (.lit (.int .i64 0)), .d (.lit (.int .i64 0)), .d (.lit (.int .i64 0)), .d (.lit (.int .i64 0)), .d (.lit (.int .i64 0)), .d (.lit (.int .i64 0)), .d (.lit (.bool false)), .d (.lit (.int .i64 0)), .d (.lit (.int .i64 0)), .d (.lit (.int .i64 0)), .d (.lit (.int .i64 0)), .d (.lit (.int .i64 0)), .d (.lit (.bool false)), .d (.lit (.int .i64 0)), .d (.lit (.bool false)), .d (.lit (.bool false)), .nil, .nil, .d (.lit (.int .i64 0)), .d (.lit (.int .i64 0)), .d (.lit (.int .i64 0)), .d (.lit (.int .i64 0)), .d (.lit (.int .i64 0))] parts := buildR_struct zc_33 ar_33 fa_33 fe_33 parts
theorem bd_43 (parts : List (Nat × AV)) : buildR Tryz.prog 43 parts = putIn (flds Tryz.prog 43) [.nil, .nil, .nil] parts := buildR_struct zc_43 ar_43 fa_43 fe_43 parts
theorem bd_47 (parts : List (Nat × AV)) : buildR Tryz.prog 47 parts = putIn (flds Tryz.prog 47) [.nil, .nil, .nil, .d (.lit (.bool false)), .d (.lit (.bool false))] parts := buildR_struct zc_47 ar_47 fa_47 fe_47 parts
theorem bd_62 (parts : List (Nat × AV)) : buildR Tryz.prog 62 parts = putIn (flds Tryz.prog 62) [.d (.lit (.int .i64 0)), .d (.lit (.string ByteArray.empty)), .d (.lit (.int .i64 0)), .d (.lit (.int .i64 0)), .d (.lit (.string ByteArray.empty))] parts := buildR_struct zc_62 ar_62 fa_62 fe_62 parts
theorem bd_77 (parts : List (Nat × AV)) : buildR Tryz.prog 77 parts = putIn (flds Tryz.prog 77) [.nil, .nil, .nil, .d (.lit (.string ByteArray.empty)), .d (.lit (.int .i64 0)), .d (.lit (.string ByteArray.empty)), .d (.lit (.bool false)), .nil, .d (.lit (.int .i64 0)), .d (.lit (.int .i64 0)), .d (.lit (.int .i64 0)), .nil, .nil, .nil, .nil, .nil, .d (.lit (.bool false)), .d (.lit (.int .i64 0)), .d (.lit (.int .i64 0)), .d (.lit (.int .i64 0)), .d (.lit (.int .i64 0)), .nil, .nil, .nil, .nil, .d (.lit (.int .i64 0)), .d (.lit (.string ByteArray.empty)), .d (.lit (.string ByteArray.empty)), .nil, .nil, .nil, .nil, .d (.lit (.bool false)), .nil, .nil, .nil, .nil, .d (.lit (.string ByteArray.empty)), .d (.lit (.int .i64 0)), .d (.lit (.int .i64 0)), .d (.lit (.int .i64 0)), .nil, .d (.lit (.int .i64 0)), .d (.lit (.int .i64 0)), .d (.lit (.int .i64 0)), .d (.lit (.int .i64 0)), .d (.lit (.int .i64 0)), .d (.lit (.int .i64 0)), .d (.lit (.bool false)), .d (.lit (.int .i64 0)), .d (.lit (.int .i64 0)), .d (.lit (.int .i64 0)), .d (.lit (.int .i64 0)), .d (.lit (.int .i64 0)), .d (.lit (.bool false)), .d (.lit (.int .i64 0)), .d (.lit (.bool false)), .d (.lit (.bool false)), .nil, .nil, .d (.lit (.int .i64 0)), .d (.lit (.int .i64 0)), .d (.lit (.int .i64 0)), .d (.lit (.int .i64 0)), .d (.lit (.int .i64 0)), .nil, .nil, .nil, .d (.lit (.bool false)), .d (.lit (.bool false)), .d (.lit (.int .i64 0))] parts := buildR_struct zc_77 ar_77 fa_77 fe_77 parts
theorem bd_79 (parts : List (Nat × AV)) : buildR Tryz.prog 79 parts = putIn (flds Tryz.prog 79) [.d (.lit (.int .i64 0)), .d (.lit (.int .i64 0))] parts := buildR_struct zc_79 ar_79 fa_79 fe_79 parts
theorem bd_82 (parts : List (Nat × AV)) : buildR Tryz.prog 82 parts = putIn (flds Tryz.prog 82) [.d (.lit (.int .i64 0)), .d (.lit (.int .i64 0)), .d (.lit (.int .i64 0))] parts := buildR_struct zc_82 ar_82 fa_82 fe_82 parts
theorem bd_89 (parts : List (Nat × AV)) : buildR Tryz.prog 89 parts = putIn (flds Tryz.prog 89) [.d (.lit (.string ByteArray.empty)), .d (.lit (.int .i64 0)), .d (.lit (.int .i64 0)), .d (.lit (.int .i64 0)), .d (.lit (.int .i64 0)), .d (.lit (.int .i64 0)), .d (.lit (.int .i64 0)), .d (.lit (.int .i64 0)), .nil] parts := buildR_struct zc_89 ar_89 fa_89 fe_89 parts
theorem bd_92 (parts : List (Nat × AV)) : buildR Tryz.prog 92 parts = putIn (flds Tryz.prog 92) [.d (.lit (.int .i64 0)), .d (.lit (.string ByteArray.empty)), .d (.lit (.int .i64 0))] parts := buildR_struct zc_92 ar_92 fa_92 fe_92 parts
theorem bd_96 (parts : List (Nat × AV)) : buildR Tryz.prog 96 parts = putIn (flds Tryz.prog 96) [.nil, .nil, .nil, .d (.lit (.string ByteArray.empty)), .d (.lit (.int .i64 0)), .d (.lit (.string ByteArray.empty)), .d (.lit (.bool false)), .nil, .d (.lit (.int .i64 0)), .d (.lit (.int .i64 0)), .d (.lit (.int .i64 0)), .nil, .nil, .nil, .nil, .nil, .d (.lit (.bool false)), .d (.lit (.int .i64 0)), .d (.lit (.int .i64 0)), .d (.lit (.int .i64 0)), .d (.lit (.int .i64 0)), .nil, .nil, .nil, .nil, .d (.lit (.int .i64 0)), .d (.lit (.string ByteArray.empty)), .d (.lit (.string ByteArray.empty)), .nil, .nil, .nil, .nil, .d (.lit (.bool false)), .nil, .nil, .nil, .nil, .d (.lit (.string ByteArray.empty)), .d (.lit (.int .i64 0)), .d (.lit (.int .i64 0)), .d (.lit (.int .i64 0)), .nil, .d (.lit (.int .i64 0)), .d (.lit (.int .i64 0)), .d (.lit (.int .i64 0)), .d (.lit (.int .i64 0)), .d (.lit (.int .i64 0)), .d (.lit (.int .i64 0)), .d (.lit (.bool false)), .d (.lit (.int .i64 0)), .d (.lit (.int .i64 0)), .d (.lit (.int .i64 0)), .d (.lit (.int .i64 0)), .d (.lit (.int .i64 0)), .d (.lit (.bool false)), .d (.lit (.int .i64 0)), .d (.lit (.bool false)), .d (.lit (.bool false)), .nil, .nil, .d (.lit (.int .i64 0)), .d (.lit (.int .i64 0)), .d (.lit (.int .i64 0)), .d (.lit (.int .i64 0)), .d (.lit (.int .i64 0)), .d (.lit (.int .i64 0)), .nil, .nil, .nil, .d (.lit (.bool false)), .d (.lit (.bool false))] parts := buildR_struct zc_96 ar_96 fa_96 fe_96 parts
theorem bd_100 (parts : List (Nat × AV)) : buildR Tryz.prog 100 parts = putIn (flds Tryz.prog 100) [.d (.lit (.string ByteArray.empty)), .d (.lit (.int .i64 0)), .d (.lit (.string ByteArray.empty)), .d (.lit (.bool false)), .nil, .d (.lit (.int .i64 0)), .d (.lit (.int .i64 0)), .d (.lit (.int .i64 0)), .nil, .nil, .nil, .nil, .nil, .d (.lit (.bool false)), .d (.lit (.int .i64 0)), .d (.lit (.int .i64 0)), .d (.lit (.int .i64 0)), .d (.lit (.int .i64 0)), .nil, .nil, .nil, .nil, .d (.lit (.int .i64 0)), .d (.lit (.string ByteArray.empty)), .d (.lit (.string ByteArray.empty)), .nil, .nil, .nil, .nil, .d (.lit (.bool false)), .nil, .nil, .nil, .nil, .d (.lit (.string ByteArray.empty)), .d (.lit (.int .i64 0)), .d (.lit (.int .i64 0)), .d (.lit (.int .i64 0)), .nil, .d (.lit (.int .i64 0)), .d (.lit (.int .i64 0)), .d (.lit (.int .i64 0)), .d (.lit (.int .i64 0)), .d (.lit (.int .i64 0)), .d (.lit (.int .i64 0)), .d (.lit (.bool false)), .d (.lit (.int .i64 0)), .d (.lit (.int .i64 0)), .d (.lit (.int .i64 0)), .d (.lit (.int .i64 0)), .d (.lit (.int .i64 0)), .d (.lit (.bool false)), .d (.lit (.int .i64 0)), .d (.lit (.bool false)), .d (.lit (.bool false)), .nil, .nil, .d (.lit (.int .i64 0)), .d (.lit (.int .i64 0)), .d (.lit (.int .i64 0)), .d (.lit (.int .i64 0)), .d (.lit (.int .i64 0)), .d (.lit (.int .i64 0)), .nil, .nil, .nil, .d (.lit (.bool false)), .d (.lit (.bool false))] parts := buildR_struct zc_100 ar_100 fa_100 fe_100 parts
theorem bd_105 (parts : List (Nat × AV)) : buildR Tryz.prog 105 parts = putIn (flds Tryz.prog 105) [.d (.lit (.string ByteArray.empty)), .d (.lit (.int .i64 0)), .d (.lit (.int .i64 0)), .d (.lit (.int .i64 0)), .d (.lit (.int .i64 0))] parts := buildR_struct zc_105 ar_105 fa_105 fe_105 parts
theorem bd_111 (parts : List (Nat × AV)) : buildR Tryz.prog 111 parts = putIn (flds Tryz.prog 111) [] parts := buildR_struct zc_111 ar_111 fa_111 fe_111 parts
theorem bd_122 (parts : List (Nat × AV)) : buildR Tryz.prog 122 parts = putIn (flds Tryz.prog 122) [.d (.lit (.int .i64 0)), .d (.lit .nilFunc)] parts := buildR_struct zc_122 ar_122 fa_122 fe_122 parts
theorem bd_131 (parts : List (Nat × AV)) : buildR Tryz.prog 131 parts = putIn (flds Tryz.prog 131) [.d (.lit (.int .i64 0)), .d (.lit (.string ByteArray.empty)), .d (.lit (.string ByteArray.empty)), .d (.lit (.bool false))] parts := buildR_struct zc_131 ar_131 fa_131 fe_131 parts
theorem bd_158 (parts : List (Nat × AV)) : buildR Tryz.prog 158 parts = putIn (flds Tryz.prog 158) [.d (.lit (.bool false)), .nil] parts := buildR_struct zc_158 ar_158 fa_158 fe_158 parts
theorem bd_200 (parts : List (Nat × AV)) : buildR Tryz.prog 200 parts = putIn (flds Tryz.prog 200) [.d (.lit (.bool false)), .d (.lit (.int .i64 0)), .d (.lit .nilFunc)] parts := buildR_struct zc_200 ar_200 fa_200 fe_200 parts
set_option linter.defProp false
def nd_3 := And.intro (@tz_33) (@ub_4)
def nd_4 := And.intro (And.intro (@el_38) (And.intro (@fd_33_1) (@lt_38))) (And.intro (And.intro (@tz_3) (@tz_33)) (And.intro (@tz_4) (@ub_4)))
def nd_5 := And.intro (And.intro (And.intro (And.intro (@bd_47) (@fd_28_1)) (And.intro (@fd_33_0) (@fd_33_3))) (And.intro (And.intro (@fd_47_0) (@fd_47_1)) (And.intro (@fd_47_2) (And.intro (@fd_47_3) (@fd_47_4))))) (And.intro (And.intro (And.intro (@lt_41) (@tz_28)) (And.intro (@tz_3) (@tz_33))) (And.intro (And.intro (@tz_41) (@tz_43)) (And.intro (@tz_47) (And.intro (@zc_33) (@zc_47)))))
def nd_6 := And.intro (And.intro (And.intro (@fd_28_1) (@fd_33_0)) (And.intro (@tz_28) (@tz_3))) (And.intro (And.intro (@tz_33) (@tz_43)) (And.intro (@tz_47) (And.intro (@zc_33) (@zc_47))))
def nd_7 := And.intro (And.intro (And.intro (@fd_28_1) (And.intro (@fd_28_9) (@fd_33_0))) (And.intro (@lt_23) (And.intro (@tz_23) (@tz_28)))) (And.intro (And.intro (@tz_3) (And.intro (@tz_33) (@tz_43))) (And.intro (@tz_47) (And.intro (@zc_33) (@zc_47))))
def nd_8 := And.intro (And.intro (And.intro (And.intro (@bd_43) (@el_45)) (And.intro (@fd_33_2) (And.intro (@fd_33_3) (@fd_43_0)))) (And.intro (And.intro (@fd_43_1) (@fd_43_2)) (And.intro (@fd_47_0) (And.intro (@fd_62_4) (@lt_45))))) (And.intro (And.intro (And.intro (@tz_28) (@tz_3)) (And.intro (@tz_33) (And.intro (@tz_45) (@tz_47)))) (And.intro (And.intro (@tz_9) (@zc_28)) (And.intro (@zc_33) (And.intro (@zc_43) (@zc_47)))))
def nd_9 := And.intro (@el_24) (@tz_33)
def nd_10 := And.intro (@fd_33_1) (@tz_3)
def nd_11 := And.intro (@el_24) (@tz_33)
def nd_12 := And.intro (@fd_33_1) (@tz_3)
def nd_13 := And.intro (@el_24) (@tz_33)
def nd_14 := And.intro (@fd_33_1) (@tz_3)
def nd_15 := And.intro (@el_24) (@tz_33)
def nd_16 := And.intro (@fd_33_1) (@tz_3)
def nd_17 := And.intro (And.intro (And.intro (@fd_28_1) (@fd_28_7)) (And.intro (@fd_33_0) (And.intro (@fd_33_1) (@fd_33_3)))) (And.intro (And.intro (@fd_33_5) (@fd_33_9)) (And.intro (@tz_3) (And.intro (@tz_33) (@tz_4))))
def nd_18 := And.intro (And.intro (And.intro (@fd_28_1) (@fd_28_7)) (And.intro (@fd_33_0) (And.intro (@fd_33_1) (@fd_33_3)))) (And.intro (And.intro (@fd_33_5) (@fd_33_9)) (And.intro (@tz_3) (And.intro (@tz_33) (@tz_4))))
def nd_19 := And.intro (And.intro (@el_24) (And.intro (@fd_33_1) (@fd_33_10))) (And.intro (And.intro (@fd_33_5) (@tz_3)) (And.intro (@tz_33) (@tz_4)))
def nd_20 := And.intro (And.intro (@fd_33_1) (And.intro (@fd_33_10) (@fd_33_5))) (And.intro (@tz_3) (And.intro (@tz_33) (@tz_4)))
def nd_21 := And.intro (And.intro (And.intro (And.intro (@fd_28_10) (And.intro (@fd_28_11) (@fd_28_12))) (And.intro (@fd_28_21) (And.intro (@fd_28_25) (@fd_28_26)))) (And.intro (And.intro (@fd_28_27) (And.intro (@fd_28_28) (@fd_28_8))) (And.intro (@fd_28_9) (And.intro (@fd_33_0) (@fd_33_11))))) (And.intro (And.intro (And.intro (@fd_33_12) (And.intro (@lt_23) (@lt_24))) (And.intro (@lt_26) (And.intro (@lt_31) (@tz_23)))) (And.intro (And.intro (@tz_24) (And.intro (@tz_26) (@tz_28))) (And.intro (And.intro (@tz_31) (@tz_33)) (And.intro (@tz_43) (@zc_28)))))
def nd_22 := And.intro (And.intro (And.intro (@bd_47) (And.intro (@fd_28_1) (@fd_47_0))) (And.intro (And.intro (@fd_47_1) (@fd_47_2)) (And.intro (@fd_47_3) (@fd_47_4)))) (And.intro (And.intro (@tz_28) (And.intro (@tz_3) (@tz_33))) (And.intro (And.intro (@tz_43) (@tz_47)) (And.intro (@zc_33) (@zc_47))))
def nd_23 := And.intro (And.intro (And.intro (And.intro (@fd_33_0) (And.intro (@fd_33_1) (@fd_33_10))) (And.intro (@fd_33_11) (And.intro (@fd_33_12) (@fd_33_13)))) (And.intro (And.intro (@fd_33_14) (And.intro (@fd_33_15) (@fd_33_16))) (And.intro (@fd_33_17) (And.intro (@fd_33_2) (@fd_33_3))))) (And.intro (And.intro (And.intro (@fd_33_4) (And.intro (@fd_33_5) (@fd_33_6))) (And.intro (@fd_33_7) (And.intro (@fd_33_8) (@fd_33_9)))) (And.intro (And.intro (@tz_24) (And.intro (@tz_28) (@tz_3))) (And.intro (And.intro (@tz_30) (@tz_31)) (And.intro (@tz_4) (@ub_4)))))
def nd_24 := And.intro (And.intro (And.intro (@fd_47_0) (@fd_47_1)) (And.intro (@fd_47_2) (And.intro (@fd_47_3) (@fd_47_4)))) (And.intro (And.intro (@tz_31) (@tz_4)) (And.intro (@tz_41) (And.intro (@tz_45) (@ub_4))))
def nd_25 := And.intro (And.intro (And.intro (@fd_77_1) (@fd_77_2)) (And.intro (@tz_28) (@tz_33))) (And.intro (And.intro (@tz_43) (@tz_47)) (And.intro (@zc_33) (@zc_47)))
def nd_26 := And.intro (And.intro (And.intro (@bd_47) (And.intro (@fd_28_1) (@fd_33_0))) (And.intro (And.intro (@fd_47_0) (@fd_47_1)) (And.intro (@fd_47_2) (@fd_47_3)))) (And.intro (And.intro (@fd_47_4) (And.intro (@tz_3) (@tz_33))) (And.intro (And.intro (@tz_43) (@tz_47)) (And.intro (@zc_33) (@zc_47))))
def nd_27 := And.intro (And.intro (@fd_77_1) (And.intro (@fd_77_2) (@tz_33))) (And.intro (And.intro (@tz_43) (@tz_47)) (And.intro (@zc_33) (@zc_47)))
def nd_28 := And.intro (And.intro (@fd_28_1) (@fd_33_0)) (And.intro (@tz_3) (And.intro (@tz_33) (@tz_43)))
def nd_29 := And.intro (And.intro (And.intro (@fd_33_1) (@fd_33_16)) (And.intro (@fd_79_0) (@fd_82_0))) (And.intro (And.intro (@tz_3) (@tz_33)) (And.intro (@tz_43) (And.intro (@tz_82) (@zc_82))))
def nd_30 := And.intro (And.intro (And.intro (@fd_28_1) (And.intro (@fd_33_0) (@fd_33_1))) (And.intro (And.intro (@fd_33_11) (@fd_33_12)) (And.intro (@fd_33_17) (@fd_33_3)))) (And.intro (And.intro (And.intro (@fd_33_5) (@fd_33_6)) (And.intro (@fd_33_7) (@lt_31))) (And.intro (And.intro (@tz_3) (@tz_30)) (And.intro (@tz_31) (@tz_33))))
def nd_31 := And.intro (And.intro (And.intro (And.intro (And.intro (@bd_28) (@fd_28_0)) (And.intro (@fd_28_1) (And.intro (@fd_28_10) (@fd_28_11)))) (And.intro (And.intro (@fd_28_12) (@fd_28_13)) (And.intro (@fd_28_14) (And.intro (@fd_28_15) (@fd_28_16))))) (And.intro (And.intro (And.intro (@fd_28_17) (@fd_28_18)) (And.intro (@fd_28_19) (And.intro (@fd_28_2) (@fd_28_20)))) (And.intro (And.intro (@fd_28_21) (@fd_28_22)) (And.intro (@fd_28_23) (And.intro (@fd_28_24) (@fd_28_25)))))) (And.intro (And.intro (And.intro (And.intro (@fd_28_26) (@fd_28_27)) (And.intro (@fd_28_28) (And.intro (@fd_28_29) (@fd_28_3)))) (And.intro (And.intro (@fd_28_30) (@fd_28_31)) (And.intro (@fd_28_32) (And.intro (@fd_28_33) (@fd_28_34))))) (And.intro (And.intro (And.intro (@fd_28_4) (@fd_28_5)) (And.intro (@fd_28_6) (And.intro (@fd_28_7) (@fd_28_8)))) (And.intro (And.intro (@fd_28_9) (@tz_28)) (And.intro (@tz_33) (And.intro (@zc_28) (@zc_33))))))
def nd_32 := And.intro (And.intro (@el_24) (@fd_33_1)) (And.intro (@lt_24) (@tz_3))
def nd_33 := And.intro (And.intro (And.intro (And.intro (@el_39) (And.intro (@el_40) (@el_41))) (And.intro (And.intro (@fd_43_0) (@fd_43_1)) (And.intro (@fd_43_2) (@fd_82_0)))) (And.intro (And.intro (And.intro (@fd_82_1) (@fd_82_2)) (And.intro (@fd_89_0) (@fd_89_1))) (And.intro (And.intro (@fd_89_2) (@fd_89_3)) (And.intro (@fd_92_0) (@fd_92_1))))) (And.intro (And.intro (And.intro (@fd_92_2) (And.intro (@lt_39) (@lt_40))) (And.intro (And.intro (@lt_41) (@tz_3)) (And.intro (@tz_39) (@tz_40)))) (And.intro (And.intro (And.intro (@tz_41) (@tz_82)) (And.intro (@tz_89) (@tz_9))) (And.intro (And.intro (@tz_92) (@zc_82)) (And.intro (@zc_89) (@zc_92)))))
def nd_35 := And.intro (And.intro (@fd_33_13) (@fd_33_14)) (And.intro (@fd_33_17) (And.intro (@fd_33_3) (@tz_3)))
def nd_36 := And.intro (And.intro (And.intro (@bd_96) (And.intro (@fd_33_1) (@fd_96_0))) (And.intro (And.intro (@fd_96_1) (@fd_96_2)) (And.intro (@fd_96_3) (@tz_28)))) (And.intro (And.intro (@tz_3) (And.intro (@tz_33) (@tz_43))) (And.intro (And.intro (@tz_47) (@zc_33)) (And.intro (@zc_47) (@zc_96))))
def nd_37 := And.intro (And.intro (And.intro (And.intro (@bd_100) (And.intro (@el_31) (@el_40))) (And.intro (And.intro (@fd_100_0) (@fd_100_1)) (And.intro (@fd_100_2) (@fd_105_1)))) (And.intro (And.intro (And.intro (@fd_28_21) (@fd_33_0)) (And.intro (@fd_33_1) (@fd_33_12))) (And.intro (And.intro (@fd_33_13) (@fd_33_3)) (And.intro (@fd_82_0) (@lt_31))))) (And.intro (And.intro (And.intro (@lt_40) (And.intro (@tz_105) (@tz_24))) (And.intro (And.intro (@tz_28) (@tz_3)) (And.intro (@tz_31) (@tz_33)))) (And.intro (And.intro (And.intro (@tz_43) (@tz_47)) (And.intro (@tz_82) (@zc_100))) (And.intro (And.intro (@zc_105) (@zc_33)) (And.intro (@zc_47) (@zc_82)))))
def nd_38 := And.intro (And.intro (And.intro (And.intro (@bd_47) (@el_45)) (And.intro (@fd_33_0) (@fd_33_1))) (And.intro (And.intro (@fd_33_16) (@fd_33_2)) (And.intro (@fd_33_3) (And.intro (@fd_47_0) (@fd_47_1))))) (And.intro (And.intro (And.intro (@fd_47_2) (@fd_47_3)) (And.intro (@fd_47_4) (@tz_28))) (And.intro (And.intro (@tz_3) (@tz_33)) (And.intro (@tz_47) (And.intro (@zc_33) (@zc_47)))))
def nd_39 := And.intro (And.intro (And.intro (And.intro (@bd_47) (@el_45)) (And.intro (@fd_33_0) (@fd_33_1))) (And.intro (And.intro (@fd_33_2) (@fd_33_3)) (And.intro (@fd_47_0) (@fd_47_1)))) (And.intro (And.intro (And.intro (@fd_47_2) (@fd_47_3)) (And.intro (@fd_47_4) (@tz_28))) (And.intro (And.intro (@tz_3) (@tz_33)) (And.intro (@tz_47) (And.intro (@zc_33) (@zc_47)))))
def nd_40 := And.intro (And.intro (@bd_111) (@io_111)) (And.intro (@tz_33) (And.intro (@zc_111) (@zc_33)))
def nd_41 := And.intro (And.intro (And.intro (And.intro (And.intro (@fd_28_0) (@fd_28_1)) (And.intro (@fd_28_10) (And.intro (@fd_28_11) (@fd_28_12)))) (And.intro (And.intro (@fd_28_13) (And.intro (@fd_28_14) (@fd_28_15))) (And.intro (@fd_28_16) (And.intro (@fd_28_17) (@fd_28_18))))) (And.intro (And.intro (And.intro (@fd_28_19) (@fd_28_2)) (And.intro (@fd_28_20) (And.intro (@fd_28_21) (@fd_28_22)))) (And.intro (And.intro (@fd_28_23) (And.intro (@fd_28_24) (@fd_28_25))) (And.intro (@fd_28_26) (And.intro (@fd_28_27) (@fd_28_28)))))) (And.intro (And.intro (And.intro (And.intro (@fd_28_29) (@fd_28_3)) (And.intro (@fd_28_30) (And.intro (@fd_28_31) (@fd_28_32)))) (And.intro (And.intro (@fd_28_33) (And.intro (@fd_28_34) (@fd_28_4))) (And.intro (@fd_28_5) (And.intro (@fd_28_6) (@fd_28_7))))) (And.intro (And.intro (And.intro (@fd_28_8) (@fd_28_9)) (And.intro (@tz_22) (And.intro (@tz_23) (@tz_24)))) (And.intro (And.intro (@tz_25) (And.intro (@tz_26) (@tz_3))) (And.intro (@tz_4) (And.intro (@tz_9) (@ub_4))))))
def nd_42 := And.intro (@el_24) (And.intro (@lt_24) (@tz_3))
def nd_43 := And.intro (@el_31) (And.intro (@lt_31) (@tz_105))
def nd_44 := And.intro (@el_45) (And.intro (@lt_45) (@tz_62))
def nd_45 := And.intro (@el_41) (And.intro (@lt_41) (@tz_92))
def nd_46 := And.intro (And.intro (And.intro (@bd_77) (And.intro (@el_24) (@el_31))) (And.intro (And.intro (@fd_33_11) (@fd_33_12)) (And.intro (@fd_33_4) (@fd_77_0)))) (And.intro (And.intro (And.intro (@fd_77_1) (@fd_77_2)) (And.intro (@fd_77_3) (@tz_24))) (And.intro (And.intro (@tz_31) (@tz_33)) (And.intro (@tz_43) (@zc_77))))
def nd_47 := And.intro (And.intro (And.intro (@fd_28_12) (And.intro (@fd_28_16) (@fd_33_0))) (And.intro (@fd_33_1) (And.intro (@fd_33_10) (@fd_33_8)))) (And.intro (And.intro (@fd_77_1) (And.intro (@fd_77_3) (@tz_23))) (And.intro (@tz_28) (And.intro (@tz_3) (@tz_4))))
def nd_48 := And.intro (And.intro (And.intro (And.intro (@el_31) (@el_40)) (And.intro (@fd_105_1) (And.intro (@fd_33_0) (@fd_33_1)))) (And.intro (And.intro (@fd_33_12) (And.intro (@fd_33_13) (@fd_33_3))) (And.intro (@fd_77_0) (And.intro (@fd_77_1) (@fd_77_3))))) (And.intro (And.intro (And.intro (@fd_82_0) (@lt_31)) (And.intro (@lt_40) (And.intro (@tz_105) (@tz_28)))) (And.intro (And.intro (@tz_3) (And.intro (@tz_31) (@tz_43))) (And.intro (@tz_82) (And.intro (@zc_105) (@zc_82)))))
def nd_49 := And.intro (And.intro (@fd_33_0) (And.intro (@fd_33_1) (@fd_33_16))) (And.intro (And.intro (@fd_33_3) (@fd_77_1)) (And.intro (@tz_28) (@tz_3)))
def nd_50 := And.intro (And.intro (@fd_33_0) (And.intro (@fd_33_1) (@fd_33_3))) (And.intro (@fd_77_1) (And.intro (@tz_28) (@tz_3)))
def nd_51 := And.intro (And.intro (And.intro (And.intro (@bd_96) (@fd_122_0)) (And.intro (@fd_122_1) (@fd_96_0))) (And.intro (And.intro (@fd_96_1) (@fd_96_2)) (And.intro (@fd_96_3) (@tz_1)))) (And.intro (And.intro (And.intro (@tz_122) (@tz_3)) (And.intro (@tz_33) (@tz_43))) (And.intro (And.intro (@tz_47) (@zc_122)) (And.intro (@zc_33) (And.intro (@zc_47) (@zc_96)))))
def nd_52 := And.intro (And.intro (And.intro (And.intro (And.intro (@bd_100) (@bd_105)) (And.intro (@el_31) (@fd_100_0))) (And.intro (And.intro (@fd_100_1) (@fd_100_2)) (And.intro (@fd_105_0) (@fd_105_1)))) (And.intro (And.intro (And.intro (@fd_105_2) (@fd_105_3)) (And.intro (@fd_105_4) (@fd_28_0))) (And.intro (And.intro (@fd_28_22) (@fd_33_0)) (And.intro (@fd_33_12) (@fd_33_13))))) (And.intro (And.intro (And.intro (And.intro (@fd_33_14) (@fd_82_0)) (And.intro (@fd_82_2) (@lt_31))) (And.intro (And.intro (@tz_3) (@tz_31)) (And.intro (@tz_33) (@tz_43)))) (And.intro (And.intro (And.intro (@tz_47) (@tz_82)) (And.intro (@tz_9) (@zc_100))) (And.intro (And.intro (@zc_105) (@zc_33)) (And.intro (@zc_47) (@zc_82)))))
def nd_53 := And.intro (And.intro (And.intro (And.intro (@bd_47) (And.intro (@bd_92) (@el_41))) (And.intro (@el_45) (And.intro (@fd_33_0) (@fd_33_15)))) (And.intro (And.intro (@fd_33_16) (And.intro (@fd_47_0) (@fd_47_1))) (And.intro (@fd_47_2) (And.intro (@fd_47_3) (@fd_47_4))))) (And.intro (And.intro (And.intro (@fd_92_0) (And.intro (@fd_92_1) (@fd_92_2))) (And.intro (@tz_28) (And.intro (@tz_3) (@tz_33)))) (And.intro (And.intro (@tz_41) (And.intro (@tz_43) (@tz_47))) (And.intro (@zc_33) (And.intro (@zc_47) (@zc_92)))))
def nd_54 := And.intro (And.intro (@fd_77_0) (@fd_77_1)) (And.intro (@fd_79_1) (And.intro (@tz_33) (@tz_43)))
def nd_55 := And.intro (And.intro (And.intro (And.intro (@bd_105) (And.intro (@el_31) (@fd_105_0))) (And.intro (@fd_105_1) (And.intro (@fd_105_2) (@fd_105_3)))) (And.intro (And.intro (@fd_105_4) (And.intro (@fd_28_0) (@fd_28_22))) (And.intro (@fd_33_0) (And.intro (@fd_33_12) (@fd_33_13))))) (And.intro (And.intro (And.intro (@fd_33_14) (And.intro (@fd_77_0) (@fd_77_1))) (And.intro (@fd_82_2) (And.intro (@lt_31) (@tz_3)))) (And.intro (And.intro (@tz_31) (And.intro (@tz_33) (@tz_43))) (And.intro (And.intro (@tz_82) (@tz_9)) (And.intro (@zc_105) (@zc_82)))))
def nd_56 := And.intro (And.intro (And.intro (And.intro (@bd_92) (@el_41)) (And.intro (@fd_33_0) (@fd_33_15))) (And.intro (And.intro (@fd_33_16) (@fd_47_1)) (And.intro (@fd_77_1) (@fd_77_2)))) (And.intro (And.intro (And.intro (@fd_77_3) (@fd_92_0)) (And.intro (@fd_92_1) (@fd_92_2))) (And.intro (And.intro (@tz_28) (@tz_3)) (And.intro (@tz_41) (@zc_92))))
def nd_57 := And.intro (And.intro (And.intro (@bd_96) (@fd_122_0)) (And.intro (@fd_96_0) (@fd_96_1))) (And.intro (And.intro (@fd_96_2) (@fd_96_3)) (And.intro (@tz_33) (And.intro (@tz_43) (@zc_96))))
def nd_58 := And.intro (And.intro (@fd_82_0) (And.intro (@tz_3) (@tz_33))) (And.intro (@tz_43) (And.intro (@tz_82) (@zc_82)))
def nd_59 := And.intro (@fd_33_1) (And.intro (@fd_33_16) (@tz_3))
def nd_60 := And.intro (And.intro (And.intro (@bd_79) (@el_126)) (And.intro (@fd_79_0) (And.intro (@fd_79_1) (@lt_126)))) (And.intro (And.intro (@tz_3) (@tz_33)) (And.intro (@tz_43) (And.intro (@tz_79) (@zc_79))))
def nd_61 := And.intro (And.intro (And.intro (@bd_82) (And.intro (@el_40) (@fd_33_0))) (And.intro (And.intro (@fd_33_1) (@fd_33_13)) (And.intro (@fd_82_0) (@fd_82_1)))) (And.intro (And.intro (@fd_82_2) (And.intro (@lt_40) (@tz_28))) (And.intro (And.intro (@tz_3) (@tz_43)) (And.intro (@tz_82) (@zc_82))))
def nd_62 := And.intro (And.intro (And.intro (And.intro (@el_24) (@fd_28_5)) (And.intro (@fd_28_6) (@fd_30_0))) (And.intro (And.intro (@fd_30_3) (@fd_33_0)) (And.intro (@fd_33_1) (And.intro (@fd_33_11) (@fd_33_4))))) (And.intro (And.intro (And.intro (@fd_33_6) (@fd_33_7)) (And.intro (@lt_24) (And.intro (@lt_31) (@tz_24)))) (And.intro (And.intro (@tz_3) (@tz_30)) (And.intro (@tz_31) (And.intro (@tz_33) (@ub_4)))))
def nd_63 := And.intro (@fd_30_0) (@tz_3)
def nd_64 := And.intro (@tz_28) (And.intro (@tz_33) (@zc_33))
def nd_65 := And.intro (And.intro (And.intro (And.intro (@el_87) (@fd_131_0)) (And.intro (@fd_134_0) (@fd_134_1))) (And.intro (And.intro (@fd_89_0) (@fd_89_1)) (And.intro (@fd_89_2) (And.intro (@fd_89_3) (@fd_89_4))))) (And.intro (And.intro (And.intro (@fd_89_5) (@fd_89_6)) (And.intro (@fd_89_7) (And.intro (@fd_89_8) (@lt_87)))) (And.intro (And.intro (@tz_134) (@tz_3)) (And.intro (@tz_87) (And.intro (@tz_9) (@zc_134)))))
def nd_67 := @fd_131_0
def nd_68 := And.intro (And.intro (And.intro (And.intro (@el_24) (@fd_28_16)) (And.intro (@fd_28_5) (@fd_28_6))) (And.intro (And.intro (@fd_33_0) (@fd_33_10)) (And.intro (@fd_33_3) (And.intro (@fd_33_4) (@fd_33_5))))) (And.intro (And.intro (And.intro (@fd_33_8) (@fd_33_9)) (And.intro (@fd_47_4) (And.intro (@fd_96_1) (@fd_96_2)))) (And.intro (And.intro (@fd_96_3) (@tz_24)) (And.intro (@tz_28) (And.intro (@tz_3) (@tz_4)))))
def nd_69 := And.intro (And.intro (And.intro (And.intro (@bd_30) (@fd_28_11)) (And.intro (@fd_28_17) (And.intro (@fd_30_0) (@fd_30_1)))) (And.intro (And.intro (@fd_30_2) (And.intro (@fd_30_3) (@fd_30_4))) (And.intro (@fd_30_5) (And.intro (@fd_33_0) (@fd_33_1))))) (And.intro (And.intro (And.intro (@fd_33_7) (@fd_33_8)) (And.intro (@fd_33_9) (And.intro (@fd_96_1) (@fd_96_2)))) (And.intro (And.intro (@lt_23) (And.intro (@tz_23) (@tz_3))) (And.intro (@tz_30) (And.intro (@tz_4) (@zc_30)))))
def nd_70 := And.intro (And.intro (And.intro (@fd_28_12) (@fd_28_16)) (And.intro (@fd_33_0) (And.intro (@fd_33_10) (@fd_33_8)))) (And.intro (And.intro (@fd_96_1) (And.intro (@fd_96_2) (@lt_23))) (And.intro (@tz_23) (And.intro (@tz_3) (@tz_4))))
def nd_71 := And.intro (And.intro (@bd_111) (@io_111)) (And.intro (@tz_28) (And.intro (@zc_111) (@zc_28)))
def nd_72 := And.intro (And.intro (And.intro (@el_40) (@fd_43_1)) (And.intro (@fd_82_1) (@lt_40))) (And.intro (And.intro (@tz_3) (@tz_40)) (And.intro (@tz_82) (@zc_82)))
def nd_73 := And.intro (And.intro (@fd_100_0) (@fd_100_1)) (And.intro (@fd_33_1) (And.intro (@fd_33_2) (@tz_3)))
def nd_75 := And.intro (And.intro (And.intro (@bd_62) (And.intro (@fd_28_0) (@fd_33_0))) (And.intro (@fd_33_17) (And.intro (@fd_62_0) (@fd_62_1)))) (And.intro (And.intro (@fd_62_2) (And.intro (@fd_62_3) (@fd_62_4))) (And.intro (And.intro (@tz_3) (@tz_62)) (And.intro (@tz_9) (@zc_62))))
def nd_76 := And.intro (And.intro (And.intro (And.intro (@el_194) (@el_195)) (And.intro (@fd_33_0) (And.intro (@fd_33_1) (@fd_33_10)))) (And.intro (And.intro (@fd_33_11) (@fd_33_12)) (And.intro (@fd_33_13) (And.intro (@fd_33_14) (@fd_33_15))))) (And.intro (And.intro (And.intro (@fd_33_16) (@fd_33_17)) (And.intro (@fd_33_2) (And.intro (@fd_33_3) (@fd_33_4)))) (And.intro (And.intro (@fd_33_5) (@fd_33_6)) (And.intro (@fd_33_7) (And.intro (@fd_33_8) (@fd_33_9)))))
def nd_77 := And.intro (And.intro (@el_23) (And.intro (@fd_158_0) (@fd_158_1))) (And.intro (And.intro (@lt_23) (@tz_26)) (And.intro (@tz_4) (@ub_4)))
def nd_78 := And.intro (@el_24) (And.intro (@lt_24) (@tz_3))
def nd_79 := And.intro (@el_26) (And.intro (@lt_26) (@tz_9))
def nd_80 := And.intro (@el_25) (And.intro (@lt_25) (@tz_160))
def nd_81 := And.intro (@el_22) (And.intro (@lt_22) (@tz_162))
def nd_82 := And.intro (And.intro (And.intro (And.intro (@el_24) (@fd_28_16)) (And.intro (@fd_28_5) (@fd_28_6))) (And.intro (And.intro (@fd_33_0) (@fd_33_10)) (And.intro (@fd_33_3) (And.intro (@fd_33_4) (@fd_33_5))))) (And.intro (And.intro (And.intro (@fd_33_8) (@fd_33_9)) (And.intro (@fd_47_4) (And.intro (@fd_77_1) (@fd_77_2)))) (And.intro (And.intro (@fd_77_3) (@tz_24)) (And.intro (@tz_28) (And.intro (@tz_3) (@tz_4)))))
def nd_83 := And.intro (And.intro (And.intro (And.intro (@bd_30) (@fd_28_11)) (And.intro (@fd_28_17) (And.intro (@fd_30_0) (@fd_30_1)))) (And.intro (And.intro (@fd_30_2) (@fd_30_3)) (And.intro (@fd_30_4) (And.intro (@fd_30_5) (@fd_33_0))))) (And.intro (And.intro (And.intro (@fd_33_1) (@fd_33_7)) (And.intro (@fd_33_8) (And.intro (@fd_33_9) (@fd_77_1)))) (And.intro (And.intro (@fd_77_3) (And.intro (@tz_23) (@tz_3))) (And.intro (@tz_30) (And.intro (@tz_4) (@zc_30)))))
def nd_84 := And.intro (And.intro (@fd_33_7) (And.intro (@fd_77_1) (@fd_77_3))) (And.intro (@lt_23) (And.intro (@tz_3) (@tz_30)))
def nd_85 := And.intro (And.intro (@fd_33_1) (@fd_33_2)) (And.intro (@fd_77_1) (And.intro (@fd_77_3) (@tz_3)))
def nd_87 := And.intro (And.intro (And.intro (And.intro (@bd_62) (@el_45)) (And.intro (@fd_28_0) (@fd_33_0))) (And.intro (And.intro (@fd_33_17) (@fd_47_0)) (And.intro (@fd_62_0) (And.intro (@fd_62_1) (@fd_62_2))))) (And.intro (And.intro (And.intro (@fd_62_3) (@fd_62_4)) (And.intro (@fd_77_1) (@fd_77_2))) (And.intro (And.intro (@fd_77_3) (@tz_3)) (And.intro (@tz_45) (And.intro (@tz_9) (@zc_62)))))
def nd_88 := And.intro (@fd_28_21) (And.intro (@tz_24) (@tz_43))
def nd_90 := And.intro (And.intro (And.intro (@bd_122) (@el_165)) (And.intro (@fd_122_0) (@fd_122_1))) (And.intro (And.intro (@lt_165) (@tz_122)) (And.intro (@tz_3) (@zc_122)))
def nd_91 := And.intro (And.intro (And.intro (@bd_82) (And.intro (@el_40) (@fd_28_21))) (And.intro (And.intro (@fd_33_0) (@fd_33_1)) (And.intro (@fd_33_13) (@fd_82_0)))) (And.intro (And.intro (And.intro (@fd_82_1) (@fd_82_2)) (And.intro (@lt_40) (@tz_24))) (And.intro (And.intro (@tz_3) (@tz_43)) (And.intro (@tz_82) (@zc_82))))
def nd_92 := And.intro (And.intro (@fd_28_0) (@fd_28_1)) (And.intro (@fd_28_24) (And.intro (@tz_3) (@tz_9)))
def nd_93 := And.intro (And.intro (And.intro (@fd_28_7) (And.intro (@fd_33_0) (@fd_33_1))) (And.intro (And.intro (@fd_33_6) (@fd_33_7)) (And.intro (@fd_77_0) (@fd_77_1)))) (And.intro (And.intro (@tz_3) (And.intro (@tz_30) (@tz_33))) (And.intro (And.intro (@tz_43) (@tz_89)) (And.intro (@zc_30) (@zc_89))))
def nd_94 := And.intro (And.intro (And.intro (And.intro (@bd_30) (And.intro (@fd_28_10) (@fd_28_11))) (And.intro (@fd_28_12) (And.intro (@fd_28_8) (@fd_30_0)))) (And.intro (And.intro (@fd_30_1) (And.intro (@fd_30_2) (@fd_30_3))) (And.intro (@fd_30_4) (And.intro (@fd_30_5) (@fd_33_0))))) (And.intro (And.intro (And.intro (@fd_33_1) (And.intro (@fd_33_7) (@fd_77_0))) (And.intro (@fd_77_1) (And.intro (@tz_23) (@tz_28)))) (And.intro (And.intro (@tz_3) (And.intro (@tz_30) (@tz_33))) (And.intro (@tz_43) (And.intro (@zc_28) (@zc_30)))))
def nd_95 := And.intro (And.intro (And.intro (And.intro (@bd_30) (And.intro (@fd_28_18) (@fd_28_7))) (And.intro (And.intro (@fd_28_9) (@fd_30_0)) (And.intro (@fd_30_1) (@fd_30_2)))) (And.intro (And.intro (And.intro (@fd_30_3) (@fd_30_4)) (And.intro (@fd_30_5) (@fd_33_0))) (And.intro (And.intro (@fd_33_1) (@fd_33_5)) (And.intro (@fd_33_6) (@fd_33_7))))) (And.intro (And.intro (And.intro (And.intro (@fd_47_3) (@fd_77_0)) (And.intro (@fd_77_1) (@fd_77_2))) (And.intro (And.intro (@fd_77_3) (@lt_23)) (And.intro (@tz_23) (@tz_24)))) (And.intro (And.intro (And.intro (@tz_28) (@tz_3)) (And.intro (@tz_30) (@tz_33))) (And.intro (And.intro (@tz_4) (@tz_43)) (And.intro (@zc_28) (@zc_30)))))
def nd_96 := And.intro (And.intro (And.intro (@el_31) (And.intro (@fd_105_0) (@fd_105_1))) (And.intro (@fd_105_4) (And.intro (@fd_33_11) (@fd_77_1)))) (And.intro (And.intro (@lt_31) (And.intro (@tz_105) (@tz_3))) (And.intro (@tz_31) (And.intro (@tz_9) (@zc_105))))
def nd_97 := And.intro (And.intro (And.intro (And.intro (@bd_92) (@el_41)) (And.intro (@fd_28_0) (@fd_33_0))) (And.intro (And.intro (@fd_33_1) (@fd_33_5)) (And.intro (@fd_33_8) (@fd_47_1)))) (And.intro (And.intro (And.intro (@fd_77_1) (@fd_77_2)) (And.intro (@fd_92_0) (@fd_92_1))) (And.intro (And.intro (@fd_92_2) (@tz_3)) (And.intro (@tz_41) (And.intro (@tz_9) (@zc_92)))))
def nd_98 := And.intro (And.intro (@fd_28_0) (@fd_28_1)) (And.intro (@fd_28_24) (And.intro (@tz_3) (@tz_9)))
def nd_99 := And.intro (And.intro (And.intro (And.intro (@bd_79) (@el_126)) (And.intro (@el_31) (@fd_105_4))) (And.intro (And.intro (@fd_33_11) (@fd_33_6)) (And.intro (@fd_33_7) (And.intro (@fd_33_8) (@fd_79_0))))) (And.intro (And.intro (And.intro (@fd_79_1) (@lt_31)) (And.intro (@tz_105) (And.intro (@tz_3) (@tz_30)))) (And.intro (And.intro (@tz_31) (@tz_33)) (And.intro (@tz_43) (And.intro (@zc_105) (@zc_79)))))
def nd_100 := And.intro (@el_24) (And.intro (@lt_24) (@tz_3))
def nd_101 := And.intro (And.intro (And.intro (And.intro (@bd_33) (@fd_33_0)) (And.intro (@fd_33_1) (And.intro (@fd_33_10) (@fd_33_11)))) (And.intro (And.intro (@fd_33_12) (And.intro (@fd_33_13) (@fd_33_14))) (And.intro (@fd_33_15) (And.intro (@fd_33_16) (@fd_33_17))))) (And.intro (And.intro (And.intro (@fd_33_2) (@fd_33_3)) (And.intro (@fd_33_4) (And.intro (@fd_33_5) (@fd_33_6)))) (And.intro (And.intro (@fd_33_7) (And.intro (@fd_33_8) (@fd_33_9))) (And.intro (@tz_28) (And.intro (@tz_33) (@zc_33)))))
def nd_102 := And.intro (And.intro (And.intro (@bd_131) (And.intro (@fd_131_0) (@fd_131_1))) (And.intro (@fd_131_2) (And.intro (@fd_131_3) (@lt_9)))) (And.intro (And.intro (@tz_131) (And.intro (@tz_3) (@tz_4))) (And.intro (@tz_9) (And.intro (@us_9) (@zc_131))))
def nd_103 := And.intro (@lt_9) (@us_9)
def nd_104 := And.intro (@el_24) (And.intro (@lt_24) (@tz_3))
def nd_105 := @lt_24
def nd_106 := And.intro (And.intro (@fd_33_1) (@fd_33_2)) (And.intro (@fd_96_1) (And.intro (@fd_96_2) (@tz_3)))
def nd_107 := And.intro (And.intro (@el_45) (And.intro (@fd_47_0) (@fd_96_1))) (And.intro (And.intro (@fd_96_2) (@fd_96_3)) (And.intro (@tz_3) (@tz_45)))
def nd_109 := And.intro (And.intro (@fd_28_8) (@fd_33_0)) (And.intro (@fd_96_1) (And.intro (@lt_23) (@tz_23)))
def nd_110 := And.intro (And.intro (And.intro (And.intro (@bd_30) (@fd_28_17)) (And.intro (@fd_30_0) (@fd_30_1))) (And.intro (And.intro (@fd_30_2) (@fd_30_3)) (And.intro (@fd_30_4) (@fd_30_5)))) (And.intro (And.intro (And.intro (@fd_33_0) (@fd_33_6)) (And.intro (@fd_33_7) (@fd_33_8))) (And.intro (And.intro (@fd_96_1) (@fd_96_2)) (And.intro (@tz_3) (And.intro (@tz_30) (@zc_30)))))
def nd_111 := And.intro (And.intro (@fd_33_7) (@fd_96_1)) (And.intro (@fd_96_2) (And.intro (@tz_3) (@tz_30)))
def nd_112 := And.intro (And.intro (And.intro (And.intro (And.intro (@el_194) (@el_195)) (And.intro (@el_211) (@el_215))) (And.intro (And.intro (@fd_28_0) (@fd_28_1)) (And.intro (@fd_28_10) (And.intro (@fd_28_11) (@fd_28_12))))) (And.intro (And.intro (And.intro (@fd_28_13) (@fd_28_14)) (And.intro (@fd_28_15) (And.intro (@fd_28_16) (@fd_28_17)))) (And.intro (And.intro (@fd_28_18) (@fd_28_19)) (And.intro (@fd_28_2) (And.intro (@fd_28_20) (@fd_28_21)))))) (And.intro (And.intro (And.intro (And.intro (@fd_28_22) (@fd_28_23)) (And.intro (@fd_28_24) (And.intro (@fd_28_25) (@fd_28_26)))) (And.intro (And.intro (@fd_28_27) (@fd_28_28)) (And.intro (@fd_28_29) (And.intro (@fd_28_3) (@fd_28_30))))) (And.intro (And.intro (And.intro (@fd_28_31) (@fd_28_32)) (And.intro (@fd_28_33) (And.intro (@fd_28_34) (@fd_28_4)))) (And.intro (And.intro (@fd_28_5) (@fd_28_6)) (And.intro (@fd_28_7) (And.intro (@fd_28_8) (@fd_28_9))))))
def nd_114 := @lt_40
def nd_115 := And.intro (@fd_82_0) (@tz_3)
def nd_116 := And.intro (And.intro (@el_45) (And.intro (@fd_100_0) (@fd_100_1))) (And.intro (And.intro (@fd_100_2) (@fd_47_0)) (And.intro (@tz_3) (@tz_45)))
def nd_118 := And.intro (@el_194) (And.intro (@lt_194) (@tz_146))
def nd_119 := And.intro (@el_195) (And.intro (@lt_195) (@tz_148))
def nd_120 := And.intro (And.intro (@el_194) (And.intro (@fd_30_0) (@fd_30_1))) (And.intro (And.intro (@fd_30_2) (@fd_30_3)) (And.intro (@fd_30_4) (@fd_30_5)))
def nd_121 := And.intro (And.intro (@el_31) (@lt_31)) (And.intro (@tz_105) (And.intro (@tz_31) (@zc_105)))
def nd_122 := And.intro (And.intro (@el_194) (And.intro (@fd_105_0) (@fd_105_1))) (And.intro (@fd_105_2) (And.intro (@fd_105_3) (@fd_105_4)))
def nd_123 := @lt_24
def nd_124 := And.intro (And.intro (@fd_28_8) (@fd_33_0)) (And.intro (@fd_77_1) (And.intro (@lt_23) (@tz_23)))
def nd_125 := And.intro (And.intro (And.intro (And.intro (@bd_30) (@fd_28_17)) (And.intro (@fd_30_0) (@fd_30_1))) (And.intro (And.intro (@fd_30_2) (@fd_30_3)) (And.intro (@fd_30_4) (@fd_30_5)))) (And.intro (And.intro (And.intro (@fd_33_0) (@fd_33_6)) (And.intro (@fd_33_7) (@fd_33_8))) (And.intro (And.intro (@fd_77_1) (@fd_77_3)) (And.intro (@tz_3) (And.intro (@tz_30) (@zc_30)))))
def nd_126 := And.intro (And.intro (And.intro (@bd_30) (@fd_30_0)) (And.intro (@fd_30_1) (@fd_30_2))) (And.intro (And.intro (@fd_30_3) (@fd_30_4)) (And.intro (@fd_30_5) (And.intro (@tz_30) (@zc_30))))
def nd_128 := And.intro (And.intro (And.intro (@el_24) (@el_40)) (And.intro (@fd_43_1) (And.intro (@fd_82_0) (@fd_82_1)))) (And.intro (And.intro (@lt_24) (And.intro (@lt_40) (@tz_3))) (And.intro (@tz_40) (And.intro (@tz_82) (@zc_82))))
def nd_130 := And.intro (And.intro (And.intro (And.intro (@bd_122) (@bd_200)) (And.intro (@el_165) (And.intro (@el_202) (@fd_122_0)))) (And.intro (And.intro (@fd_122_1) (@fd_200_0)) (And.intro (@fd_200_1) (And.intro (@fd_200_2) (@fd_33_11))))) (And.intro (And.intro (And.intro (@fd_33_8) (@fd_96_1)) (And.intro (@lt_202) (And.intro (@lt_31) (@tz_1)))) (And.intro (And.intro (@tz_200) (And.intro (@tz_3) (@tz_31))) (And.intro (@tz_4) (And.intro (@zc_122) (@zc_200)))))
def nd_132 := And.intro (And.intro (And.intro (@fd_30_0) (@fd_30_1)) (And.intro (@fd_33_0) (@fd_33_3))) (And.intro (And.intro (@tz_28) (@tz_3)) (And.intro (@tz_43) (And.intro (@tz_89) (@zc_89))))
def nd_133 := And.intro (And.intro (And.intro (@el_87) (And.intro (@fd_134_0) (@fd_30_0))) (And.intro (And.intro (@fd_30_2) (@fd_30_4)) (And.intro (@fd_30_5) (@fd_89_6)))) (And.intro (And.intro (@fd_89_8) (And.intro (@lt_87) (@tz_3))) (And.intro (And.intro (@tz_30) (@tz_4)) (And.intro (@tz_87) (@tz_89))))
def nd_134 := And.intro (And.intro (And.intro (And.intro (@bd_30) (@el_87)) (And.intro (@fd_134_1) (@fd_30_0))) (And.intro (And.intro (@fd_30_1) (@fd_30_2)) (And.intro (@fd_30_3) (@fd_30_4)))) (And.intro (And.intro (And.intro (@fd_30_5) (@fd_89_8)) (And.intro (@tz_3) (@tz_30))) (And.intro (And.intro (@tz_4) (@tz_87)) (And.intro (@tz_89) (And.intro (@tz_9) (@zc_30)))))
def nd_135 := And.intro (And.intro (@fd_28_10) (@fd_33_0)) (And.intro (@fd_77_1) (And.intro (@lt_23) (@tz_23)))
def nd_136 := And.intro (And.intro (@fd_30_0) (And.intro (@fd_30_2) (@fd_30_3))) (And.intro (And.intro (@fd_89_4) (@fd_89_5)) (And.intro (@fd_89_7) (@tz_3)))
def nd_137 := And.intro (@fd_158_0) (@tz_4)
def nd_138 := And.intro (And.intro (@bd_158) (And.intro (@el_23) (@fd_158_0))) (And.intro (And.intro (@fd_158_1) (@lt_23)) (And.intro (@tz_158) (@zc_158)))
def nd_139 := And.intro (@fd_33_5) (And.intro (@fd_77_1) (@tz_3))
def nd_140 := And.intro (@el_24) (And.intro (@lt_24) (@tz_3))
def nd_141 := And.intro (And.intro (@fd_28_7) (And.intro (@fd_33_0) (@fd_33_6))) (And.intro (And.intro (@fd_77_1) (@fd_77_3)) (And.intro (@tz_3) (@tz_30)))
def nd_142 := And.intro (And.intro (@fd_28_13) (And.intro (@fd_28_7) (@fd_33_0))) (And.intro (And.intro (@fd_33_8) (@fd_77_1)) (And.intro (@tz_3) (@tz_4)))
def nd_143 := And.intro (And.intro (And.intro (@bd_30) (And.intro (@fd_30_0) (@fd_30_1))) (And.intro (And.intro (@fd_30_2) (@fd_30_3)) (And.intro (@fd_30_4) (@fd_30_5)))) (And.intro (And.intro (And.intro (@fd_33_10) (@fd_33_7)) (And.intro (@fd_33_8) (@fd_77_1))) (And.intro (And.intro (@tz_3) (@tz_30)) (And.intro (@tz_4) (@zc_30))))
def nd_144 := And.intro (And.intro (And.intro (And.intro (@bd_30) (And.intro (@el_31) (@fd_105_4))) (And.intro (And.intro (@fd_30_0) (@fd_30_1)) (And.intro (@fd_30_2) (@fd_30_3)))) (And.intro (And.intro (And.intro (@fd_30_4) (@fd_30_5)) (And.intro (@fd_33_0) (@fd_33_11))) (And.intro (And.intro (@fd_33_5) (@fd_33_6)) (And.intro (@fd_33_7) (@fd_33_8))))) (And.intro (And.intro (And.intro (@fd_33_9) (And.intro (@fd_47_2) (@fd_47_4))) (And.intro (And.intro (@fd_77_1) (@fd_77_2)) (And.intro (@fd_77_3) (@lt_31)))) (And.intro (And.intro (And.intro (@tz_105) (@tz_28)) (And.intro (@tz_3) (@tz_30))) (And.intro (And.intro (@tz_31) (@tz_4)) (And.intro (@zc_105) (@zc_30)))))
def nd_145 := And.intro (And.intro (@fd_131_0) (@tz_131)) (And.intro (@tz_3) (@zc_131))
def nd_146 := And.intro (@el_24) (And.intro (@lt_24) (@tz_3))
def nd_152 := And.intro (And.intro (@fd_28_7) (And.intro (@fd_33_0) (@fd_33_6))) (And.intro (And.intro (@fd_96_1) (@fd_96_2)) (And.intro (@tz_3) (@tz_30)))
def nd_153 := And.intro (And.intro (And.intro (And.intro (@bd_30) (And.intro (@el_31) (@fd_105_4))) (And.intro (And.intro (@fd_30_0) (@fd_30_1)) (And.intro (@fd_30_2) (@fd_30_3)))) (And.intro (And.intro (And.intro (@fd_30_4) (@fd_30_5)) (And.intro (@fd_33_0) (@fd_33_11))) (And.intro (And.intro (@fd_33_5) (@fd_33_6)) (And.intro (@fd_33_7) (@fd_33_8))))) (And.intro (And.intro (And.intro (@fd_33_9) (And.intro (@fd_47_2) (@fd_47_4))) (And.intro (And.intro (@fd_96_1) (@fd_96_2)) (And.intro (@fd_96_3) (@lt_31)))) (And.intro (And.intro (And.intro (@tz_105) (@tz_28)) (And.intro (@tz_3) (@tz_30))) (And.intro (And.intro (@tz_31) (@tz_4)) (And.intro (@zc_105) (@zc_30)))))
def nd_154 := And.intro (And.intro (@fd_30_0) (@fd_30_3)) (And.intro (@tz_3) (And.intro (@tz_30) (@zc_30)))
def nd_155 := And.intro (And.intro (And.intro (@bd_30) (@fd_30_0)) (And.intro (@fd_30_1) (@fd_30_2))) (And.intro (And.intro (@fd_30_3) (@fd_30_4)) (And.intro (@fd_30_5) (And.intro (@tz_30) (@zc_30))))
def nd_156 := And.intro (And.intro (@el_22) (@lt_22)) (And.intro (@tz_162) (And.intro (@tz_22) (@zc_162)))
def nd_157 := And.intro (@fd_162_0) (@fd_162_1)
def nd_158 := And.intro (@el_211) (And.intro (@lt_211) (@tz_186))
def nd_159 := And.intro (And.intro (@el_25) (@lt_25)) (And.intro (@tz_160) (And.intro (@tz_25) (@zc_160)))
def nd_160 := And.intro (@fd_160_0) (@fd_160_1)
def nd_161 := And.intro (@el_215) (And.intro (@lt_215) (@tz_191))
def nd_162 := And.intro (@el_24) (And.intro (@lt_24) (@tz_3))
def nd_165 := And.intro (And.intro (@el_24) (@lt_24)) (And.intro (@tz_24) (And.intro (@tz_3) (@zc_3)))
def nd_166 := And.intro (And.intro (@fd_30_0) (@fd_30_3)) (And.intro (@tz_3) (And.intro (@tz_30) (@zc_30)))
def nd_167 := And.intro (@fd_33_7) (And.intro (@fd_96_1) (@tz_30))
def nd_168 := And.intro (@fd_33_6) (And.intro (@fd_96_1) (@tz_30))
def nd_169 := And.intro (And.intro (@fd_33_7) (@fd_96_1)) (And.intro (@tz_30) (@zc_30))
def nd_170 := And.intro (And.intro (@fd_33_6) (@fd_96_1)) (And.intro (@tz_30) (@zc_30))
def nd_171 := And.intro (And.intro (@fd_28_7) (And.intro (@fd_33_0) (@fd_33_1))) (And.intro (And.intro (@fd_33_6) (@fd_96_1)) (And.intro (@tz_3) (@tz_30)))
def nd_172 := And.intro (@fd_33_7) (And.intro (@fd_96_1) (@tz_30))
def nd_173 := And.intro (And.intro (And.intro (And.intro (@bd_30) (@fd_28_10)) (And.intro (@fd_28_11) (And.intro (@fd_28_12) (@fd_28_8)))) (And.intro (And.intro (@fd_30_0) (@fd_30_1)) (And.intro (@fd_30_2) (And.intro (@fd_30_3) (@fd_30_4))))) (And.intro (And.intro (And.intro (@fd_30_5) (@fd_33_0)) (And.intro (@fd_33_1) (And.intro (@fd_33_7) (@fd_96_1)))) (And.intro (And.intro (@tz_23) (And.intro (@tz_28) (@tz_3))) (And.intro (@tz_30) (And.intro (@zc_28) (@zc_30)))))
def nd_174 := And.intro (And.intro (And.intro (And.intro (@bd_30) (@fd_28_18)) (And.intro (@fd_28_9) (And.intro (@fd_30_0) (@fd_30_1)))) (And.intro (And.intro (@fd_30_2) (And.intro (@fd_30_3) (@fd_30_4))) (And.intro (@fd_30_5) (And.intro (@fd_33_0) (@fd_33_1))))) (And.intro (And.intro (And.intro (@fd_33_5) (And.intro (@fd_33_6) (@fd_33_7))) (And.intro (@fd_47_3) (And.intro (@fd_96_1) (@fd_96_3)))) (And.intro (And.intro (@tz_23) (And.intro (@tz_24) (@tz_3))) (And.intro (@tz_30) (And.intro (@tz_4) (@zc_30)))))
def nd_175 := And.intro (And.intro (@el_31) (And.intro (@fd_105_4) (@fd_33_11))) (And.intro (And.intro (@fd_96_1) (@lt_31)) (And.intro (@tz_3) (@tz_31)))
def nd_176 := And.intro (And.intro (And.intro (@el_31) (@fd_105_0)) (And.intro (@fd_105_1) (And.intro (@fd_33_11) (@fd_96_1)))) (And.intro (And.intro (@tz_105) (@tz_3)) (And.intro (@tz_31) (And.intro (@tz_9) (@zc_105))))
def nd_177 := And.intro (And.intro (And.intro (And.intro (@bd_92) (@el_41)) (And.intro (@fd_28_0) (@fd_33_0))) (And.intro (And.intro (@fd_33_1) (@fd_33_5)) (And.intro (@fd_33_8) (@fd_47_1)))) (And.intro (And.intro (And.intro (@fd_92_0) (@fd_92_1)) (And.intro (@fd_92_2) (@fd_96_1))) (And.intro (And.intro (@fd_96_3) (@tz_3)) (And.intro (@tz_41) (And.intro (@tz_9) (@zc_92)))))
def nd_181 := And.intro (And.intro (And.intro (And.intro (@bd_89) (@fd_28_0)) (And.intro (@fd_28_7) (@fd_89_0))) (And.intro (And.intro (@fd_89_1) (@fd_89_2)) (And.intro (@fd_89_3) (@fd_89_4)))) (And.intro (And.intro (And.intro (@fd_89_5) (@fd_89_6)) (And.intro (@fd_89_7) (@fd_89_8))) (And.intro (And.intro (@tz_3) (@tz_43)) (And.intro (@tz_89) (And.intro (@tz_9) (@zc_89)))))
def nd_182 := And.intro (@fd_28_14) (And.intro (@fd_28_15) (@tz_3))
def nd_183 := And.intro (And.intro (@fd_131_0) (And.intro (@fd_131_1) (@fd_131_2))) (And.intro (And.intro (@fd_131_3) (@tz_3)) (And.intro (@tz_4) (@tz_9)))
def nd_190 := And.intro (And.intro (@fd_28_10) (@fd_33_0)) (And.intro (@fd_96_1) (And.intro (@lt_23) (@tz_23)))
def nd_191 := And.intro (@fd_28_14) (And.intro (@fd_28_15) (@tz_3))
def nd_192 := And.intro (And.intro (@el_23) (@lt_23)) (And.intro (@tz_158) (And.intro (@tz_23) (@zc_158)))
def nd_193 := And.intro (@el_215) (And.intro (@fd_158_0) (@fd_158_1))
def nd_194 := And.intro (And.intro (@el_26) (@lt_26)) (And.intro (@tz_26) (And.intro (@tz_9) (@zc_9)))
def nd_195 := And.intro (@el_40) (@tz_82)
def nd_196 := And.intro (@el_40) (@tz_82)
def nd_197 := And.intro (@tz_5) (@zc_233)
def nd_198 := And.intro (And.intro (And.intro (@el_87) (And.intro (@fd_134_0) (@fd_30_0))) (And.intro (And.intro (@fd_30_2) (@fd_30_4)) (And.intro (@fd_30_5) (@fd_89_6)))) (And.intro (And.intro (And.intro (@fd_89_8) (@lt_87)) (And.intro (@tz_3) (@tz_30))) (And.intro (And.intro (@tz_4) (@tz_87)) (And.intro (@tz_89) (@zc_3))))
def nd_199 := And.intro (And.intro (And.intro (@fd_30_0) (@fd_30_1)) (And.intro (@fd_33_0) (And.intro (@fd_33_3) (@fd_96_0)))) (And.intro (And.intro (@fd_96_1) (And.intro (@tz_28) (@tz_3))) (And.intro (@tz_43) (And.intro (@tz_89) (@zc_89))))
def nd_200 := And.intro (And.intro (And.intro (And.intro (@bd_30) (@el_87)) (And.intro (@fd_134_1) (@fd_30_0))) (And.intro (And.intro (@fd_30_1) (@fd_30_2)) (And.intro (@fd_30_3) (@fd_30_4)))) (And.intro (And.intro (And.intro (@fd_30_5) (@fd_89_8)) (And.intro (@tz_3) (@tz_30))) (And.intro (And.intro (@tz_4) (@tz_87)) (And.intro (@tz_89) (And.intro (@tz_9) (@zc_30)))))
def nd_201 := And.intro (And.intro (@fd_30_0) (And.intro (@fd_30_2) (@fd_30_3))) (And.intro (And.intro (@fd_89_4) (@fd_89_5)) (And.intro (@fd_89_7) (@tz_3)))
def nd_203 := And.intro (And.intro (@fd_28_13) (And.intro (@fd_28_7) (@fd_33_0))) (And.intro (@fd_96_1) (And.intro (@tz_3) (@tz_4)))
def nd_204 := And.intro (@fd_158_0) (@tz_4)
def nd_205 := And.intro (And.intro (@bd_158) (And.intro (@el_23) (@fd_158_0))) (And.intro (And.intro (@fd_158_1) (@lt_23)) (And.intro (@tz_158) (@zc_158)))
def nd_206 := And.intro (And.intro (And.intro (@bd_30) (And.intro (@fd_30_0) (@fd_30_1))) (And.intro (@fd_30_2) (And.intro (@fd_30_3) (@fd_30_4)))) (And.intro (And.intro (@fd_30_5) (And.intro (@fd_33_10) (@fd_33_7))) (And.intro (And.intro (@fd_96_1) (@tz_30)) (And.intro (@tz_4) (@zc_30))))
def nd_207 := @lt_23
def nd_208 := And.intro (@fd_33_8) (And.intro (@fd_96_1) (@tz_3))
def nd_210 := And.intro (And.intro (And.intro (@fd_28_7) (@fd_28_9)) (And.intro (@fd_33_0) (And.intro (@fd_33_6) (@fd_96_1)))) (And.intro (And.intro (@fd_96_2) (@lt_23)) (And.intro (@tz_23) (And.intro (@tz_3) (@tz_30))))
def nd_211 := And.intro (And.intro (And.intro (@el_31) (And.intro (@fd_105_0) (@fd_105_1))) (And.intro (@fd_105_4) (And.intro (@fd_33_11) (@fd_96_1)))) (And.intro (And.intro (@lt_31) (And.intro (@tz_105) (@tz_3))) (And.intro (@tz_31) (And.intro (@tz_9) (@zc_105))))
def nd_212 := And.intro (@fd_33_5) (And.intro (@fd_96_1) (@tz_3))
def nd_213 := And.intro (@lt_9) (@us_9)
def nd_214 := @lt_9
def nd_215 := And.intro (And.intro (And.intro (And.intro (@bd_89) (@el_39)) (And.intro (@fd_43_0) (@fd_89_0))) (And.intro (And.intro (@fd_89_1) (@fd_89_2)) (And.intro (@fd_89_3) (And.intro (@fd_89_4) (@fd_89_5))))) (And.intro (And.intro (And.intro (@fd_89_6) (@fd_89_7)) (And.intro (@fd_89_8) (@lt_39))) (And.intro (And.intro (@tz_3) (@tz_39)) (And.intro (@tz_89) (And.intro (@tz_9) (@zc_89)))))
def nd_217 := And.intro (@el_24) (And.intro (@lt_24) (@tz_3))
def nd_221 := @tz_234
def nd_222 := And.intro (And.intro (@el_237) (@lt_237)) (And.intro (@tz_5) (@us_9))
def nd_223 := And.intro (And.intro (@el_237) (@io_9)) (And.intro (@tz_5) (And.intro (@us_9) (@zc_246)))
def nd_224 := @tz_3
def nd_225 := And.intro (And.intro (And.intro (And.intro (@bd_89) (@fd_28_0)) (And.intro (@fd_28_7) (@fd_89_0))) (And.intro (And.intro (@fd_89_1) (@fd_89_2)) (And.intro (@fd_89_3) (@fd_89_4)))) (And.intro (And.intro (And.intro (@fd_89_5) (@fd_89_6)) (And.intro (@fd_89_7) (@fd_89_8))) (And.intro (And.intro (@tz_3) (@tz_43)) (And.intro (@tz_89) (And.intro (@tz_9) (@zc_89)))))
def nd_226 := And.intro (@lt_9) (@us_9)
def nd_227 := And.intro (@lt_9) (@us_9)
def nd_229 := @el_258
def nd_230 := And.intro (@el_40) (@tz_82)
def nd_232 := @us_9
def nd_236 := And.intro (And.intro (And.intro (And.intro (@bd_89) (@el_39)) (And.intro (@fd_43_0) (@fd_89_0))) (And.intro (And.intro (@fd_89_1) (@fd_89_2)) (And.intro (@fd_89_3) (And.intro (@fd_89_4) (@fd_89_5))))) (And.intro (And.intro (And.intro (@fd_89_6) (@fd_89_7)) (And.intro (@fd_89_8) (And.intro (@lt_39) (@tz_254)))) (And.intro (And.intro (@tz_3) (@tz_39)) (And.intro (@tz_89) (And.intro (@zc_254) (@zc_89)))))
def nd_237 := And.intro (@lt_9) (@us_9)
def nd_238 := @lt_9
def nd_239 := And.intro (@lt_9) (@us_9)
def nd_244 := @tz_5
def nd_245 := @tz_5
def nd_246 := And.intro (And.intro (@fd_89_0) (And.intro (@fd_89_1) (@fd_89_2))) (And.intro (@fd_89_3) (And.intro (@tz_3) (@tz_9)))
def nd_247 := And.intro (And.intro (@fd_89_8) (@tz_87)) (And.intro (@tz_89) (@zc_89))
def nd_248 := And.intro (@lt_9) (And.intro (@tz_3) (@us_9))
def nd_249 := And.intro (And.intro (@el_258) (@lt_258)) (And.intro (@tz_177) (@tz_258))
def nd_250 := @tz_9
def nd_252 := @el_87
def nd_256 := And.intro (@lt_9) (@us_9)
def nd_258 := And.intro (@lt_9) (@us_9)
def nd_286 := And.intro (@tz_244) (And.intro (@tz_259) (@tz_260))
end Go.AW
