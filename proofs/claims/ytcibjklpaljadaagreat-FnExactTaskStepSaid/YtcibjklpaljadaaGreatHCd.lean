/-
  The twins, in the abstract machine, of the functions that this claim reaches; by program (part 2). No condition.
-/
import Derived.Test.YtcibjklpaljadaaGreatHC1
namespace Go.Proofs.YtcibjklpaljadaaGreat.AM
set_option linter.unusedSimpArgs false
set_option linter.unusedVariables false
set_option maxRecDepth 100000
def tab : List (Nat × AFn) := [(4, c_wFnExactTaskStep), (12, c_wszTask), (13, c_wszBoxS), (14, c_sTaskStep), (15, c_wtoTask), (16, c_wtoBoxS), (17, c_iTaskStep), (18, c_weqTask), (19, c_weqBoxS), (20, c_weqIntS), (21, c_wmarkTask), (22, c_wmarkBoxS), (23, c_wmarkIntS), (24, c_wheldTask), (25, c_wheldBoxS), (26, c_wheldIntS), (29, c_wszIntS), (33, c_wtoIntS), (41, c_wszStmtS), (42, c_wszBox), (43, c_sTaskValid), (44, c_sl15Boxes), (45, c_sl15Ready), (46, c_sl15Copy), (47, c_sl15BoxesCopy), (48, c_sl15Talk), (49, c_sl15Block), (50, c_sl15Set), (51, c_sl4Eval), (52, c_sl11Copy), (53, c_wtoStmtS), (54, c_wtoBox), (55, c_iTaskValid), (56, c_iboxesValid), (57, c_inewRunning), (58, c_iboxesCopy), (59, c_irunning_step), (60, c_iTaskStep_1), (61, c_irunning_task), (62, c_weqStmtS), (63, c_weqBox), (64, c_wmarkStmtS), (65, c_wheldStmtS), (69, c_sl6In), (76, c_slices_Clone_int_int), (84, c_wszStmt), (85, c_sStmtsValid), (86, c_sl4Words), (87, c_sBoxValid), (88, c_sBoxPut), (89, c_sBoxTake), (90, c_sl15Ahead), (91, c_sApply), (92, c_sl4Copy), (93, c_wtoStmt), (94, c_itaskValid), (95, c_iBoxValid), (96, c_iahead), (97, c_iexprEval), (98, c_iBox_put), (99, c_iBox_take), (100, c_istmtsCopy), (101, c_weqStmt), (102, c_wmarkExprS), (103, c_wheldExprS), (116, c_iapply), (118, c_wszExpr), (119, c_sl11Blocks), (120, c_sl11Count), (121, c_sWordValid), (122, c_sOpValid), (123, c_sl2Flag), (124, c_sl2Shift), (125, c_sWrap), (126, c_sl2Divide), (127, c_sl2Remain), (128, c_sl4Leaf), (129, c_sl4Both), (130, c_wtoExpr), (131, c_iareWords), (132, c_istmtsValid), (133, c_iexprCopy), (134, c_weqExpr), (142, c_itruth), (143, c_iWrap), (144, c_wszExprS), (145, c_sl11Ok), (146, c_wtoExprS), (147, c_iWordValid), (148, c_iblockValid), (149, c_weqExprS), (153, c_sl11Simple), (154, c_sl11Var), (155, c_sl11Box), (156, c_sExprValid), (157, c_istmtValid), (160, c_iOpValid), (161, c_sl11Plain), (162, c_sl4Ok), (163, c_istmtValid_1), (164, c_iExprValid), (166, c_iexprValid)]
def Cd : FuncId → Option AFn := fun f => (tab.find? fun q => q.1 == f).map (·.2)
def NG : Nat := 0
theorem e_wFnExactTaskStep : Cd f_wFnExactTaskStep = some c_wFnExactTaskStep := rfl
theorem fit4 : fitF Tryz.prog NG Tryz.f4 c_wFnExactTaskStep = true := by kernel_rfl
theorem e_wszTask : Cd f_wszTask = some c_wszTask := rfl
theorem fit12 : fitF Tryz.prog NG Tryz.f12 c_wszTask = true := by kernel_rfl
theorem e_wszBoxS : Cd f_wszBoxS = some c_wszBoxS := rfl
theorem fit13 : fitF Tryz.prog NG Tryz.f13 c_wszBoxS = true := by kernel_rfl
theorem e_sTaskStep : Cd f_sTaskStep = some c_sTaskStep := rfl
theorem fit14 : fitF Tryz.prog NG Tryz.f14 c_sTaskStep = true := by kernel_rfl
theorem e_wtoTask : Cd f_wtoTask = some c_wtoTask := rfl
theorem fit15 : fitF Tryz.prog NG Tryz.f15 c_wtoTask = true := by kernel_rfl
theorem e_wtoBoxS : Cd f_wtoBoxS = some c_wtoBoxS := rfl
theorem fit16 : fitF Tryz.prog NG Tryz.f16 c_wtoBoxS = true := by kernel_rfl
theorem e_iTaskStep : Cd f_iTaskStep = some c_iTaskStep := rfl
theorem fit17 : fitF Tryz.prog NG Tryz.f17 c_iTaskStep = true := by kernel_rfl
theorem e_weqTask : Cd f_weqTask = some c_weqTask := rfl
theorem fit18 : fitF Tryz.prog NG Tryz.f18 c_weqTask = true := by kernel_rfl
theorem e_weqBoxS : Cd f_weqBoxS = some c_weqBoxS := rfl
theorem fit19 : fitF Tryz.prog NG Tryz.f19 c_weqBoxS = true := by kernel_rfl
theorem e_weqIntS : Cd f_weqIntS = some c_weqIntS := rfl
theorem fit20 : fitF Tryz.prog NG Tryz.f20 c_weqIntS = true := by kernel_rfl
theorem e_wmarkTask : Cd f_wmarkTask = some c_wmarkTask := rfl
theorem fit21 : fitF Tryz.prog NG Tryz.f21 c_wmarkTask = true := by kernel_rfl
theorem e_wmarkBoxS : Cd f_wmarkBoxS = some c_wmarkBoxS := rfl
theorem fit22 : fitF Tryz.prog NG Tryz.f22 c_wmarkBoxS = true := by kernel_rfl
theorem e_wmarkIntS : Cd f_wmarkIntS = some c_wmarkIntS := rfl
theorem fit23 : fitF Tryz.prog NG Tryz.f23 c_wmarkIntS = true := by kernel_rfl
theorem e_wheldTask : Cd f_wheldTask = some c_wheldTask := rfl
theorem fit24 : fitF Tryz.prog NG Tryz.f24 c_wheldTask = true := by kernel_rfl
theorem e_wheldBoxS : Cd f_wheldBoxS = some c_wheldBoxS := rfl
theorem fit25 : fitF Tryz.prog NG Tryz.f25 c_wheldBoxS = true := by kernel_rfl
theorem e_wheldIntS : Cd f_wheldIntS = some c_wheldIntS := rfl
theorem fit26 : fitF Tryz.prog NG Tryz.f26 c_wheldIntS = true := by kernel_rfl
theorem e_wszIntS : Cd f_wszIntS = some c_wszIntS := rfl
theorem fit29 : fitF Tryz.prog NG Tryz.f29 c_wszIntS = true := by kernel_rfl
theorem e_wtoIntS : Cd f_wtoIntS = some c_wtoIntS := rfl
theorem fit33 : fitF Tryz.prog NG Tryz.f33 c_wtoIntS = true := by kernel_rfl
theorem e_wszStmtS : Cd f_wszStmtS = some c_wszStmtS := rfl
theorem fit41 : fitF Tryz.prog NG Tryz.f41 c_wszStmtS = true := by kernel_rfl
theorem e_wszBox : Cd f_wszBox = some c_wszBox := rfl
theorem fit42 : fitF Tryz.prog NG Tryz.f42 c_wszBox = true := by kernel_rfl
theorem e_sTaskValid : Cd f_sTaskValid = some c_sTaskValid := rfl
theorem fit43 : fitF Tryz.prog NG Tryz.f43 c_sTaskValid = true := by kernel_rfl
theorem e_sl15Boxes : Cd f_sl15Boxes = some c_sl15Boxes := rfl
theorem fit44 : fitF Tryz.prog NG Tryz.f44 c_sl15Boxes = true := by kernel_rfl
theorem e_sl15Ready : Cd f_sl15Ready = some c_sl15Ready := rfl
theorem fit45 : fitF Tryz.prog NG Tryz.f45 c_sl15Ready = true := by kernel_rfl
theorem e_sl15Copy : Cd f_sl15Copy = some c_sl15Copy := rfl
theorem fit46 : fitF Tryz.prog NG Tryz.f46 c_sl15Copy = true := by kernel_rfl
theorem e_sl15BoxesCopy : Cd f_sl15BoxesCopy = some c_sl15BoxesCopy := rfl
theorem fit47 : fitF Tryz.prog NG Tryz.f47 c_sl15BoxesCopy = true := by kernel_rfl
theorem e_sl15Talk : Cd f_sl15Talk = some c_sl15Talk := rfl
theorem fit48 : fitF Tryz.prog NG Tryz.f48 c_sl15Talk = true := by kernel_rfl
theorem e_sl15Block : Cd f_sl15Block = some c_sl15Block := rfl
theorem fit49 : fitF Tryz.prog NG Tryz.f49 c_sl15Block = true := by kernel_rfl
theorem e_sl15Set : Cd f_sl15Set = some c_sl15Set := rfl
theorem fit50 : fitF Tryz.prog NG Tryz.f50 c_sl15Set = true := by kernel_rfl
theorem e_sl4Eval : Cd f_sl4Eval = some c_sl4Eval := rfl
theorem fit51 : fitF Tryz.prog NG Tryz.f51 c_sl4Eval = true := by kernel_rfl
theorem e_sl11Copy : Cd f_sl11Copy = some c_sl11Copy := rfl
theorem fit52 : fitF Tryz.prog NG Tryz.f52 c_sl11Copy = true := by kernel_rfl
theorem e_wtoStmtS : Cd f_wtoStmtS = some c_wtoStmtS := rfl
theorem fit53 : fitF Tryz.prog NG Tryz.f53 c_wtoStmtS = true := by kernel_rfl
theorem e_wtoBox : Cd f_wtoBox = some c_wtoBox := rfl
theorem fit54 : fitF Tryz.prog NG Tryz.f54 c_wtoBox = true := by kernel_rfl
theorem e_iTaskValid : Cd f_iTaskValid = some c_iTaskValid := rfl
theorem fit55 : fitF Tryz.prog NG Tryz.f55 c_iTaskValid = true := by kernel_rfl
theorem e_iboxesValid : Cd f_iboxesValid = some c_iboxesValid := rfl
theorem fit56 : fitF Tryz.prog NG Tryz.f56 c_iboxesValid = true := by kernel_rfl
theorem e_inewRunning : Cd f_inewRunning = some c_inewRunning := rfl
theorem fit57 : fitF Tryz.prog NG Tryz.f57 c_inewRunning = true := by kernel_rfl
theorem e_iboxesCopy : Cd f_iboxesCopy = some c_iboxesCopy := rfl
theorem fit58 : fitF Tryz.prog NG Tryz.f58 c_iboxesCopy = true := by kernel_rfl
theorem e_irunning_step : Cd f_irunning_step = some c_irunning_step := rfl
theorem fit59 : fitF Tryz.prog NG Tryz.f59 c_irunning_step = true := by kernel_rfl
theorem e_iTaskStep_1 : Cd f_iTaskStep_1 = some c_iTaskStep_1 := rfl
theorem fit60 : fitF Tryz.prog NG Tryz.f60 c_iTaskStep_1 = true := by kernel_rfl
theorem e_irunning_task : Cd f_irunning_task = some c_irunning_task := rfl
theorem fit61 : fitF Tryz.prog NG Tryz.f61 c_irunning_task = true := by kernel_rfl
theorem e_weqStmtS : Cd f_weqStmtS = some c_weqStmtS := rfl
theorem fit62 : fitF Tryz.prog NG Tryz.f62 c_weqStmtS = true := by kernel_rfl
theorem e_weqBox : Cd f_weqBox = some c_weqBox := rfl
theorem fit63 : fitF Tryz.prog NG Tryz.f63 c_weqBox = true := by kernel_rfl
theorem e_wmarkStmtS : Cd f_wmarkStmtS = some c_wmarkStmtS := rfl
theorem fit64 : fitF Tryz.prog NG Tryz.f64 c_wmarkStmtS = true := by kernel_rfl
theorem e_wheldStmtS : Cd f_wheldStmtS = some c_wheldStmtS := rfl
theorem fit65 : fitF Tryz.prog NG Tryz.f65 c_wheldStmtS = true := by kernel_rfl
theorem e_sl6In : Cd f_sl6In = some c_sl6In := rfl
theorem fit69 : fitF Tryz.prog NG Tryz.f69 c_sl6In = true := by kernel_rfl
theorem e_slices_Clone_int_int : Cd f_slices_Clone_int_int = some c_slices_Clone_int_int := rfl
theorem fit76 : fitF Tryz.prog NG Tryz.f76 c_slices_Clone_int_int = true := by kernel_rfl
theorem e_wszStmt : Cd f_wszStmt = some c_wszStmt := rfl
theorem fit84 : fitF Tryz.prog NG Tryz.f84 c_wszStmt = true := by kernel_rfl
theorem e_sStmtsValid : Cd f_sStmtsValid = some c_sStmtsValid := rfl
theorem fit85 : fitF Tryz.prog NG Tryz.f85 c_sStmtsValid = true := by kernel_rfl
theorem e_sl4Words : Cd f_sl4Words = some c_sl4Words := rfl
theorem fit86 : fitF Tryz.prog NG Tryz.f86 c_sl4Words = true := by kernel_rfl
theorem e_sBoxValid : Cd f_sBoxValid = some c_sBoxValid := rfl
theorem fit87 : fitF Tryz.prog NG Tryz.f87 c_sBoxValid = true := by kernel_rfl
theorem e_sBoxPut : Cd f_sBoxPut = some c_sBoxPut := rfl
theorem fit88 : fitF Tryz.prog NG Tryz.f88 c_sBoxPut = true := by kernel_rfl
theorem e_sBoxTake : Cd f_sBoxTake = some c_sBoxTake := rfl
theorem fit89 : fitF Tryz.prog NG Tryz.f89 c_sBoxTake = true := by kernel_rfl
theorem e_sl15Ahead : Cd f_sl15Ahead = some c_sl15Ahead := rfl
theorem fit90 : fitF Tryz.prog NG Tryz.f90 c_sl15Ahead = true := by kernel_rfl
theorem e_sApply : Cd f_sApply = some c_sApply := rfl
theorem fit91 : fitF Tryz.prog NG Tryz.f91 c_sApply = true := by kernel_rfl
theorem e_sl4Copy : Cd f_sl4Copy = some c_sl4Copy := rfl
theorem fit92 : fitF Tryz.prog NG Tryz.f92 c_sl4Copy = true := by kernel_rfl
theorem e_wtoStmt : Cd f_wtoStmt = some c_wtoStmt := rfl
theorem fit93 : fitF Tryz.prog NG Tryz.f93 c_wtoStmt = true := by kernel_rfl
theorem e_itaskValid : Cd f_itaskValid = some c_itaskValid := rfl
theorem fit94 : fitF Tryz.prog NG Tryz.f94 c_itaskValid = true := by kernel_rfl
theorem e_iBoxValid : Cd f_iBoxValid = some c_iBoxValid := rfl
theorem fit95 : fitF Tryz.prog NG Tryz.f95 c_iBoxValid = true := by kernel_rfl
theorem e_iahead : Cd f_iahead = some c_iahead := rfl
theorem fit96 : fitF Tryz.prog NG Tryz.f96 c_iahead = true := by kernel_rfl
theorem e_iexprEval : Cd f_iexprEval = some c_iexprEval := rfl
theorem fit97 : fitF Tryz.prog NG Tryz.f97 c_iexprEval = true := by kernel_rfl
theorem e_iBox_put : Cd f_iBox_put = some c_iBox_put := rfl
theorem fit98 : fitF Tryz.prog NG Tryz.f98 c_iBox_put = true := by kernel_rfl
theorem e_iBox_take : Cd f_iBox_take = some c_iBox_take := rfl
theorem fit99 : fitF Tryz.prog NG Tryz.f99 c_iBox_take = true := by kernel_rfl
theorem e_istmtsCopy : Cd f_istmtsCopy = some c_istmtsCopy := rfl
theorem fit100 : fitF Tryz.prog NG Tryz.f100 c_istmtsCopy = true := by kernel_rfl
theorem e_weqStmt : Cd f_weqStmt = some c_weqStmt := rfl
theorem fit101 : fitF Tryz.prog NG Tryz.f101 c_weqStmt = true := by kernel_rfl
theorem e_wmarkExprS : Cd f_wmarkExprS = some c_wmarkExprS := rfl
theorem fit102 : fitF Tryz.prog NG Tryz.f102 c_wmarkExprS = true := by kernel_rfl
theorem e_wheldExprS : Cd f_wheldExprS = some c_wheldExprS := rfl
theorem fit103 : fitF Tryz.prog NG Tryz.f103 c_wheldExprS = true := by kernel_rfl
theorem e_iapply : Cd f_iapply = some c_iapply := rfl
theorem fit116 : fitF Tryz.prog NG Tryz.f116 c_iapply = true := by kernel_rfl
theorem e_wszExpr : Cd f_wszExpr = some c_wszExpr := rfl
theorem fit118 : fitF Tryz.prog NG Tryz.f118 c_wszExpr = true := by kernel_rfl
theorem e_sl11Blocks : Cd f_sl11Blocks = some c_sl11Blocks := rfl
theorem fit119 : fitF Tryz.prog NG Tryz.f119 c_sl11Blocks = true := by kernel_rfl
theorem e_sl11Count : Cd f_sl11Count = some c_sl11Count := rfl
theorem fit120 : fitF Tryz.prog NG Tryz.f120 c_sl11Count = true := by kernel_rfl
theorem e_sWordValid : Cd f_sWordValid = some c_sWordValid := rfl
theorem fit121 : fitF Tryz.prog NG Tryz.f121 c_sWordValid = true := by kernel_rfl
theorem e_sOpValid : Cd f_sOpValid = some c_sOpValid := rfl
theorem fit122 : fitF Tryz.prog NG Tryz.f122 c_sOpValid = true := by kernel_rfl
theorem e_sl2Flag : Cd f_sl2Flag = some c_sl2Flag := rfl
theorem fit123 : fitF Tryz.prog NG Tryz.f123 c_sl2Flag = true := by kernel_rfl
theorem e_sl2Shift : Cd f_sl2Shift = some c_sl2Shift := rfl
theorem fit124 : fitF Tryz.prog NG Tryz.f124 c_sl2Shift = true := by kernel_rfl
theorem e_sWrap : Cd f_sWrap = some c_sWrap := rfl
theorem fit125 : fitF Tryz.prog NG Tryz.f125 c_sWrap = true := by kernel_rfl
theorem e_sl2Divide : Cd f_sl2Divide = some c_sl2Divide := rfl
theorem fit126 : fitF Tryz.prog NG Tryz.f126 c_sl2Divide = true := by kernel_rfl
theorem e_sl2Remain : Cd f_sl2Remain = some c_sl2Remain := rfl
theorem fit127 : fitF Tryz.prog NG Tryz.f127 c_sl2Remain = true := by kernel_rfl
theorem e_sl4Leaf : Cd f_sl4Leaf = some c_sl4Leaf := rfl
theorem fit128 : fitF Tryz.prog NG Tryz.f128 c_sl4Leaf = true := by kernel_rfl
theorem e_sl4Both : Cd f_sl4Both = some c_sl4Both := rfl
theorem fit129 : fitF Tryz.prog NG Tryz.f129 c_sl4Both = true := by kernel_rfl
theorem e_wtoExpr : Cd f_wtoExpr = some c_wtoExpr := rfl
theorem fit130 : fitF Tryz.prog NG Tryz.f130 c_wtoExpr = true := by kernel_rfl
theorem e_iareWords : Cd f_iareWords = some c_iareWords := rfl
theorem fit131 : fitF Tryz.prog NG Tryz.f131 c_iareWords = true := by kernel_rfl
theorem e_istmtsValid : Cd f_istmtsValid = some c_istmtsValid := rfl
theorem fit132 : fitF Tryz.prog NG Tryz.f132 c_istmtsValid = true := by kernel_rfl
theorem e_iexprCopy : Cd f_iexprCopy = some c_iexprCopy := rfl
theorem fit133 : fitF Tryz.prog NG Tryz.f133 c_iexprCopy = true := by kernel_rfl
theorem e_weqExpr : Cd f_weqExpr = some c_weqExpr := rfl
theorem fit134 : fitF Tryz.prog NG Tryz.f134 c_weqExpr = true := by kernel_rfl
theorem e_itruth : Cd f_itruth = some c_itruth := rfl
theorem fit142 : fitF Tryz.prog NG Tryz.f142 c_itruth = true := by kernel_rfl
theorem e_iWrap : Cd f_iWrap = some c_iWrap := rfl
theorem fit143 : fitF Tryz.prog NG Tryz.f143 c_iWrap = true := by kernel_rfl
theorem e_wszExprS : Cd f_wszExprS = some c_wszExprS := rfl
theorem fit144 : fitF Tryz.prog NG Tryz.f144 c_wszExprS = true := by kernel_rfl
theorem e_sl11Ok : Cd f_sl11Ok = some c_sl11Ok := rfl
theorem fit145 : fitF Tryz.prog NG Tryz.f145 c_sl11Ok = true := by kernel_rfl
theorem e_wtoExprS : Cd f_wtoExprS = some c_wtoExprS := rfl
theorem fit146 : fitF Tryz.prog NG Tryz.f146 c_wtoExprS = true := by kernel_rfl
theorem e_iWordValid : Cd f_iWordValid = some c_iWordValid := rfl
theorem fit147 : fitF Tryz.prog NG Tryz.f147 c_iWordValid = true := by kernel_rfl
theorem e_iblockValid : Cd f_iblockValid = some c_iblockValid := rfl
theorem fit148 : fitF Tryz.prog NG Tryz.f148 c_iblockValid = true := by kernel_rfl
theorem e_weqExprS : Cd f_weqExprS = some c_weqExprS := rfl
theorem fit149 : fitF Tryz.prog NG Tryz.f149 c_weqExprS = true := by kernel_rfl
theorem e_sl11Simple : Cd f_sl11Simple = some c_sl11Simple := rfl
theorem fit153 : fitF Tryz.prog NG Tryz.f153 c_sl11Simple = true := by kernel_rfl
theorem e_sl11Var : Cd f_sl11Var = some c_sl11Var := rfl
theorem fit154 : fitF Tryz.prog NG Tryz.f154 c_sl11Var = true := by kernel_rfl
theorem e_sl11Box : Cd f_sl11Box = some c_sl11Box := rfl
theorem fit155 : fitF Tryz.prog NG Tryz.f155 c_sl11Box = true := by kernel_rfl
theorem e_sExprValid : Cd f_sExprValid = some c_sExprValid := rfl
theorem fit156 : fitF Tryz.prog NG Tryz.f156 c_sExprValid = true := by kernel_rfl
theorem e_istmtValid : Cd f_istmtValid = some c_istmtValid := rfl
theorem fit157 : fitF Tryz.prog NG Tryz.f157 c_istmtValid = true := by kernel_rfl
theorem e_iOpValid : Cd f_iOpValid = some c_iOpValid := rfl
theorem fit160 : fitF Tryz.prog NG Tryz.f160 c_iOpValid = true := by kernel_rfl
theorem e_sl11Plain : Cd f_sl11Plain = some c_sl11Plain := rfl
theorem fit161 : fitF Tryz.prog NG Tryz.f161 c_sl11Plain = true := by kernel_rfl
theorem e_sl4Ok : Cd f_sl4Ok = some c_sl4Ok := rfl
theorem fit162 : fitF Tryz.prog NG Tryz.f162 c_sl4Ok = true := by kernel_rfl
theorem e_istmtValid_1 : Cd f_istmtValid_1 = some c_istmtValid_1 := rfl
theorem fit163 : fitF Tryz.prog NG Tryz.f163 c_istmtValid_1 = true := by kernel_rfl
theorem e_iExprValid : Cd f_iExprValid = some c_iExprValid := rfl
theorem fit164 : fitF Tryz.prog NG Tryz.f164 c_iExprValid = true := by kernel_rfl
theorem e_iexprValid : Cd f_iexprValid = some c_iexprValid := rfl
theorem fit166 : fitF Tryz.prog NG Tryz.f166 c_iexprValid = true := by kernel_rfl
theorem fits : Fits Tryz.prog NG Cd := by
  intro f a h
  unfold Cd at h
  obtain ⟨q, hq, e⟩ := map_some h
  have hm := List.mem_of_find?_eq_some hq
  have hp := List.find?_some hq
  simp only [beq_iff_eq] at hp
  subst hp e
  simp only [tab, List.mem_cons, List.not_mem_nil, or_false] at hm
  rcases hm with rfl | rfl | rfl | rfl | rfl | rfl | rfl | rfl | rfl | rfl | rfl | rfl | rfl | rfl | rfl | rfl | rfl | rfl | rfl | rfl | rfl | rfl | rfl | rfl | rfl | rfl | rfl | rfl | rfl | rfl | rfl | rfl | rfl | rfl | rfl | rfl | rfl | rfl | rfl | rfl | rfl | rfl | rfl | rfl | rfl | rfl | rfl | rfl | rfl | rfl | rfl | rfl | rfl | rfl | rfl | rfl | rfl | rfl | rfl | rfl | rfl | rfl | rfl | rfl | rfl | rfl | rfl | rfl | rfl | rfl | rfl | rfl | rfl | rfl | rfl | rfl | rfl | rfl | rfl | rfl | rfl | rfl | rfl | rfl | rfl | rfl | rfl | rfl | rfl | rfl | rfl | rfl | rfl | rfl | rfl | rfl | rfl | rfl | rfl | rfl | rfl | rfl
  · exact ⟨_, Tryz.func4, fit4⟩
  · exact ⟨_, Tryz.func12, fit12⟩
  · exact ⟨_, Tryz.func13, fit13⟩
  · exact ⟨_, Tryz.func14, fit14⟩
  · exact ⟨_, Tryz.func15, fit15⟩
  · exact ⟨_, Tryz.func16, fit16⟩
  · exact ⟨_, Tryz.func17, fit17⟩
  · exact ⟨_, Tryz.func18, fit18⟩
  · exact ⟨_, Tryz.func19, fit19⟩
  · exact ⟨_, Tryz.func20, fit20⟩
  · exact ⟨_, Tryz.func21, fit21⟩
  · exact ⟨_, Tryz.func22, fit22⟩
  · exact ⟨_, Tryz.func23, fit23⟩
  · exact ⟨_, Tryz.func24, fit24⟩
  · exact ⟨_, Tryz.func25, fit25⟩
  · exact ⟨_, Tryz.func26, fit26⟩
  · exact ⟨_, Tryz.func29, fit29⟩
  · exact ⟨_, Tryz.func33, fit33⟩
  · exact ⟨_, Tryz.func41, fit41⟩
  · exact ⟨_, Tryz.func42, fit42⟩
  · exact ⟨_, Tryz.func43, fit43⟩
  · exact ⟨_, Tryz.func44, fit44⟩
  · exact ⟨_, Tryz.func45, fit45⟩
  · exact ⟨_, Tryz.func46, fit46⟩
  · exact ⟨_, Tryz.func47, fit47⟩
  · exact ⟨_, Tryz.func48, fit48⟩
  · exact ⟨_, Tryz.func49, fit49⟩
  · exact ⟨_, Tryz.func50, fit50⟩
  · exact ⟨_, Tryz.func51, fit51⟩
  · exact ⟨_, Tryz.func52, fit52⟩
  · exact ⟨_, Tryz.func53, fit53⟩
  · exact ⟨_, Tryz.func54, fit54⟩
  · exact ⟨_, Tryz.func55, fit55⟩
  · exact ⟨_, Tryz.func56, fit56⟩
  · exact ⟨_, Tryz.func57, fit57⟩
  · exact ⟨_, Tryz.func58, fit58⟩
  · exact ⟨_, Tryz.func59, fit59⟩
  · exact ⟨_, Tryz.func60, fit60⟩
  · exact ⟨_, Tryz.func61, fit61⟩
  · exact ⟨_, Tryz.func62, fit62⟩
  · exact ⟨_, Tryz.func63, fit63⟩
  · exact ⟨_, Tryz.func64, fit64⟩
  · exact ⟨_, Tryz.func65, fit65⟩
  · exact ⟨_, Tryz.func69, fit69⟩
  · exact ⟨_, Tryz.func76, fit76⟩
  · exact ⟨_, Tryz.func84, fit84⟩
  · exact ⟨_, Tryz.func85, fit85⟩
  · exact ⟨_, Tryz.func86, fit86⟩
  · exact ⟨_, Tryz.func87, fit87⟩
  · exact ⟨_, Tryz.func88, fit88⟩
  · exact ⟨_, Tryz.func89, fit89⟩
  · exact ⟨_, Tryz.func90, fit90⟩
  · exact ⟨_, Tryz.func91, fit91⟩
  · exact ⟨_, Tryz.func92, fit92⟩
  · exact ⟨_, Tryz.func93, fit93⟩
  · exact ⟨_, Tryz.func94, fit94⟩
  · exact ⟨_, Tryz.func95, fit95⟩
  · exact ⟨_, Tryz.func96, fit96⟩
  · exact ⟨_, Tryz.func97, fit97⟩
  · exact ⟨_, Tryz.func98, fit98⟩
  · exact ⟨_, Tryz.func99, fit99⟩
  · exact ⟨_, Tryz.func100, fit100⟩
  · exact ⟨_, Tryz.func101, fit101⟩
  · exact ⟨_, Tryz.func102, fit102⟩
  · exact ⟨_, Tryz.func103, fit103⟩
  · exact ⟨_, Tryz.func116, fit116⟩
  · exact ⟨_, Tryz.func118, fit118⟩
  · exact ⟨_, Tryz.func119, fit119⟩
  · exact ⟨_, Tryz.func120, fit120⟩
  · exact ⟨_, Tryz.func121, fit121⟩
  · exact ⟨_, Tryz.func122, fit122⟩
  · exact ⟨_, Tryz.func123, fit123⟩
  · exact ⟨_, Tryz.func124, fit124⟩
  · exact ⟨_, Tryz.func125, fit125⟩
  · exact ⟨_, Tryz.func126, fit126⟩
  · exact ⟨_, Tryz.func127, fit127⟩
  · exact ⟨_, Tryz.func128, fit128⟩
  · exact ⟨_, Tryz.func129, fit129⟩
  · exact ⟨_, Tryz.func130, fit130⟩
  · exact ⟨_, Tryz.func131, fit131⟩
  · exact ⟨_, Tryz.func132, fit132⟩
  · exact ⟨_, Tryz.func133, fit133⟩
  · exact ⟨_, Tryz.func134, fit134⟩
  · exact ⟨_, Tryz.func142, fit142⟩
  · exact ⟨_, Tryz.func143, fit143⟩
  · exact ⟨_, Tryz.func144, fit144⟩
  · exact ⟨_, Tryz.func145, fit145⟩
  · exact ⟨_, Tryz.func146, fit146⟩
  · exact ⟨_, Tryz.func147, fit147⟩
  · exact ⟨_, Tryz.func148, fit148⟩
  · exact ⟨_, Tryz.func149, fit149⟩
  · exact ⟨_, Tryz.func153, fit153⟩
  · exact ⟨_, Tryz.func154, fit154⟩
  · exact ⟨_, Tryz.func155, fit155⟩
  · exact ⟨_, Tryz.func156, fit156⟩
  · exact ⟨_, Tryz.func157, fit157⟩
  · exact ⟨_, Tryz.func160, fit160⟩
  · exact ⟨_, Tryz.func161, fit161⟩
  · exact ⟨_, Tryz.func162, fit162⟩
  · exact ⟨_, Tryz.func163, fit163⟩
  · exact ⟨_, Tryz.func164, fit164⟩
  · exact ⟨_, Tryz.func166, fit166⟩

end Go.Proofs.YtcibjklpaljadaaGreat.AM
