/-
  The twins, in the abstract machine, of the functions that this claim reaches; by program (part 2). No condition.
-/
import Derived.Test.YtmecbehegmgbhaaGreatYC1
namespace Go.Proofs.YtmecbehegmgbhaaGreat.AM
set_option linter.unusedSimpArgs false
set_option linter.unusedVariables false
set_option maxRecDepth 100000
def tab : List (Nat × AFn) := [(4, c_wFnCrewBack), (15, c_iWorldNew), (18, c_wrestOf), (19, c_iCompileProgram), (20, c_wcrewOf), (22, c_sDrawCompileProgram), (23, c_sCompileProgram), (24, c_wsameCodes), (25, c_iCrewOutcome), (26, c_wsameOutcome), (31, c_iWordValid), (32, c_iWorldRun), (36, c_wsameInts), (38, c_sl92Wrong), (39, c_sl6Open), (40, c_iProgramValid), (41, c_iboxesNew), (42, c_iTaskNew), (43, c_sProgramValid), (48, c_iWorldOutcome), (49, c_icompileTask), (50, c_iCrewNew), (51, c_iCrewRun), (52, c_sCompileTask), (53, c_wsameCode), (54, c_iCrewValid), (55, c_ioutcomeOf), (56, c_wsameLists), (57, c_wsameFlags), (58, c_sl6Rd_pick), (59, c_iWorldValid), (60, c_irunWorld), (61, c_iWorldTrace_1), (63, c_sl6In), (71, c_sl92Program), (72, c_sl91Leaf), (73, c_iroomsValid), (74, c_istmtsValid), (75, c_iStmtsValid), (76, c_istmtsCopy), (77, c_sl12Rooms), (78, c_sStmtsValid), (79, c_sl12Boxes), (83, c_icompileStmts), (84, c_icodesCopy), (85, c_iboxesCopy), (86, c_slices_Clone_int_int), (87, c_itakeTurns), (88, c_iCrewRun_1), (89, c_iThread_step), (90, c_sl22List), (91, c_iturnsValid), (92, c_iboxesValid), (93, c_iThreadValid), (94, c_iboxThere), (95, c_itaskValid), (96, c_inewRunning), (97, c_irunWorld_1), (98, c_irunning_step), (99, c_irunWorld_1_1), (100, c_irunning_task), (109, c_sl92Rooms), (110, c_sl92Stmts), (111, c_sl92Endless), (112, c_sl4Leaf), (113, c_iblockValid), (114, c_iexprCopy), (115, c_sl11Blocks), (116, c_sl11Count), (119, c_icompileStmt), (120, c_slices_Clone_iQuad_iQuad), (121, c_iNextTurn), (122, c_iapply), (123, c_iBox_put), (124, c_iBox_take), (125, c_sl22Stmt), (126, c_iareWords), (127, c_iBoxValid), (128, c_iCodeValid), (129, c_ithreadFits), (130, c_iahead), (131, c_iexprEval), (139, c_sl92Block), (140, c_istmtValid), (141, c_sl11Ok), (142, c_sl4Both), (143, c_icompileExpr), (144, c_itruth), (145, c_iWrap), (146, c_sl22Expr), (147, c_sl22If), (148, c_sl22While), (149, c_iQuadValid), (153, c_sOpValid), (159, c_sl92Stmt), (160, c_istmtValid_1), (161, c_iExprValid), (162, c_sl11Simple), (163, c_sl11Var), (164, c_sl11Box), (165, c_sExprValid), (166, c_iisReg), (167, c_iOpValid), (168, c_sl92Set), (169, c_sl92If), (170, c_sl92Loop), (171, c_sl92Talk), (172, c_sl91Expr), (173, c_iexprValid), (174, c_sl11Plain), (175, c_sl4Ok), (176, c_sl91Op)]
def Cd : FuncId → Option AFn := fun f => (tab.find? fun q => q.1 == f).map (·.2)
def NG : Nat := 0
theorem e_wFnCrewBack : Cd f_wFnCrewBack = some c_wFnCrewBack := rfl
theorem fit4 : fitF Tryz.prog NG Tryz.f4 c_wFnCrewBack = true := by kernel_rfl
theorem e_iWorldNew : Cd f_iWorldNew = some c_iWorldNew := rfl
theorem fit15 : fitF Tryz.prog NG Tryz.f15 c_iWorldNew = true := by kernel_rfl
theorem e_wrestOf : Cd f_wrestOf = some c_wrestOf := rfl
theorem fit18 : fitF Tryz.prog NG Tryz.f18 c_wrestOf = true := by kernel_rfl
theorem e_iCompileProgram : Cd f_iCompileProgram = some c_iCompileProgram := rfl
theorem fit19 : fitF Tryz.prog NG Tryz.f19 c_iCompileProgram = true := by kernel_rfl
theorem e_wcrewOf : Cd f_wcrewOf = some c_wcrewOf := rfl
theorem fit20 : fitF Tryz.prog NG Tryz.f20 c_wcrewOf = true := by kernel_rfl
theorem e_sDrawCompileProgram : Cd f_sDrawCompileProgram = some c_sDrawCompileProgram := rfl
theorem fit22 : fitF Tryz.prog NG Tryz.f22 c_sDrawCompileProgram = true := by kernel_rfl
theorem e_sCompileProgram : Cd f_sCompileProgram = some c_sCompileProgram := rfl
theorem fit23 : fitF Tryz.prog NG Tryz.f23 c_sCompileProgram = true := by kernel_rfl
theorem e_wsameCodes : Cd f_wsameCodes = some c_wsameCodes := rfl
theorem fit24 : fitF Tryz.prog NG Tryz.f24 c_wsameCodes = true := by kernel_rfl
theorem e_iCrewOutcome : Cd f_iCrewOutcome = some c_iCrewOutcome := rfl
theorem fit25 : fitF Tryz.prog NG Tryz.f25 c_iCrewOutcome = true := by kernel_rfl
theorem e_wsameOutcome : Cd f_wsameOutcome = some c_wsameOutcome := rfl
theorem fit26 : fitF Tryz.prog NG Tryz.f26 c_wsameOutcome = true := by kernel_rfl
theorem e_iWordValid : Cd f_iWordValid = some c_iWordValid := rfl
theorem fit31 : fitF Tryz.prog NG Tryz.f31 c_iWordValid = true := by kernel_rfl
theorem e_iWorldRun : Cd f_iWorldRun = some c_iWorldRun := rfl
theorem fit32 : fitF Tryz.prog NG Tryz.f32 c_iWorldRun = true := by kernel_rfl
theorem e_wsameInts : Cd f_wsameInts = some c_wsameInts := rfl
theorem fit36 : fitF Tryz.prog NG Tryz.f36 c_wsameInts = true := by kernel_rfl
theorem e_sl92Wrong : Cd f_sl92Wrong = some c_sl92Wrong := rfl
theorem fit38 : fitF Tryz.prog NG Tryz.f38 c_sl92Wrong = true := by kernel_rfl
theorem e_sl6Open : Cd f_sl6Open = some c_sl6Open := rfl
theorem fit39 : fitF Tryz.prog NG Tryz.f39 c_sl6Open = true := by kernel_rfl
theorem e_iProgramValid : Cd f_iProgramValid = some c_iProgramValid := rfl
theorem fit40 : fitF Tryz.prog NG Tryz.f40 c_iProgramValid = true := by kernel_rfl
theorem e_iboxesNew : Cd f_iboxesNew = some c_iboxesNew := rfl
theorem fit41 : fitF Tryz.prog NG Tryz.f41 c_iboxesNew = true := by kernel_rfl
theorem e_iTaskNew : Cd f_iTaskNew = some c_iTaskNew := rfl
theorem fit42 : fitF Tryz.prog NG Tryz.f42 c_iTaskNew = true := by kernel_rfl
theorem e_sProgramValid : Cd f_sProgramValid = some c_sProgramValid := rfl
theorem fit43 : fitF Tryz.prog NG Tryz.f43 c_sProgramValid = true := by kernel_rfl
theorem e_iWorldOutcome : Cd f_iWorldOutcome = some c_iWorldOutcome := rfl
theorem fit48 : fitF Tryz.prog NG Tryz.f48 c_iWorldOutcome = true := by kernel_rfl
theorem e_icompileTask : Cd f_icompileTask = some c_icompileTask := rfl
theorem fit49 : fitF Tryz.prog NG Tryz.f49 c_icompileTask = true := by kernel_rfl
theorem e_iCrewNew : Cd f_iCrewNew = some c_iCrewNew := rfl
theorem fit50 : fitF Tryz.prog NG Tryz.f50 c_iCrewNew = true := by kernel_rfl
theorem e_iCrewRun : Cd f_iCrewRun = some c_iCrewRun := rfl
theorem fit51 : fitF Tryz.prog NG Tryz.f51 c_iCrewRun = true := by kernel_rfl
theorem e_sCompileTask : Cd f_sCompileTask = some c_sCompileTask := rfl
theorem fit52 : fitF Tryz.prog NG Tryz.f52 c_sCompileTask = true := by kernel_rfl
theorem e_wsameCode : Cd f_wsameCode = some c_wsameCode := rfl
theorem fit53 : fitF Tryz.prog NG Tryz.f53 c_wsameCode = true := by kernel_rfl
theorem e_iCrewValid : Cd f_iCrewValid = some c_iCrewValid := rfl
theorem fit54 : fitF Tryz.prog NG Tryz.f54 c_iCrewValid = true := by kernel_rfl
theorem e_ioutcomeOf : Cd f_ioutcomeOf = some c_ioutcomeOf := rfl
theorem fit55 : fitF Tryz.prog NG Tryz.f55 c_ioutcomeOf = true := by kernel_rfl
theorem e_wsameLists : Cd f_wsameLists = some c_wsameLists := rfl
theorem fit56 : fitF Tryz.prog NG Tryz.f56 c_wsameLists = true := by kernel_rfl
theorem e_wsameFlags : Cd f_wsameFlags = some c_wsameFlags := rfl
theorem fit57 : fitF Tryz.prog NG Tryz.f57 c_wsameFlags = true := by kernel_rfl
theorem e_sl6Rd_pick : Cd f_sl6Rd_pick = some c_sl6Rd_pick := rfl
theorem fit58 : fitF Tryz.prog NG Tryz.f58 c_sl6Rd_pick = true := by kernel_rfl
theorem e_iWorldValid : Cd f_iWorldValid = some c_iWorldValid := rfl
theorem fit59 : fitF Tryz.prog NG Tryz.f59 c_iWorldValid = true := by kernel_rfl
theorem e_irunWorld : Cd f_irunWorld = some c_irunWorld := rfl
theorem fit60 : fitF Tryz.prog NG Tryz.f60 c_irunWorld = true := by kernel_rfl
theorem e_iWorldTrace_1 : Cd f_iWorldTrace_1 = some c_iWorldTrace_1 := rfl
theorem fit61 : fitF Tryz.prog NG Tryz.f61 c_iWorldTrace_1 = true := by kernel_rfl
theorem e_sl6In : Cd f_sl6In = some c_sl6In := rfl
theorem fit63 : fitF Tryz.prog NG Tryz.f63 c_sl6In = true := by kernel_rfl
theorem e_sl92Program : Cd f_sl92Program = some c_sl92Program := rfl
theorem fit71 : fitF Tryz.prog NG Tryz.f71 c_sl92Program = true := by kernel_rfl
theorem e_sl91Leaf : Cd f_sl91Leaf = some c_sl91Leaf := rfl
theorem fit72 : fitF Tryz.prog NG Tryz.f72 c_sl91Leaf = true := by kernel_rfl
theorem e_iroomsValid : Cd f_iroomsValid = some c_iroomsValid := rfl
theorem fit73 : fitF Tryz.prog NG Tryz.f73 c_iroomsValid = true := by kernel_rfl
theorem e_istmtsValid : Cd f_istmtsValid = some c_istmtsValid := rfl
theorem fit74 : fitF Tryz.prog NG Tryz.f74 c_istmtsValid = true := by kernel_rfl
theorem e_iStmtsValid : Cd f_iStmtsValid = some c_iStmtsValid := rfl
theorem fit75 : fitF Tryz.prog NG Tryz.f75 c_iStmtsValid = true := by kernel_rfl
theorem e_istmtsCopy : Cd f_istmtsCopy = some c_istmtsCopy := rfl
theorem fit76 : fitF Tryz.prog NG Tryz.f76 c_istmtsCopy = true := by kernel_rfl
theorem e_sl12Rooms : Cd f_sl12Rooms = some c_sl12Rooms := rfl
theorem fit77 : fitF Tryz.prog NG Tryz.f77 c_sl12Rooms = true := by kernel_rfl
theorem e_sStmtsValid : Cd f_sStmtsValid = some c_sStmtsValid := rfl
theorem fit78 : fitF Tryz.prog NG Tryz.f78 c_sStmtsValid = true := by kernel_rfl
theorem e_sl12Boxes : Cd f_sl12Boxes = some c_sl12Boxes := rfl
theorem fit79 : fitF Tryz.prog NG Tryz.f79 c_sl12Boxes = true := by kernel_rfl
theorem e_icompileStmts : Cd f_icompileStmts = some c_icompileStmts := rfl
theorem fit83 : fitF Tryz.prog NG Tryz.f83 c_icompileStmts = true := by kernel_rfl
theorem e_icodesCopy : Cd f_icodesCopy = some c_icodesCopy := rfl
theorem fit84 : fitF Tryz.prog NG Tryz.f84 c_icodesCopy = true := by kernel_rfl
theorem e_iboxesCopy : Cd f_iboxesCopy = some c_iboxesCopy := rfl
theorem fit85 : fitF Tryz.prog NG Tryz.f85 c_iboxesCopy = true := by kernel_rfl
theorem e_slices_Clone_int_int : Cd f_slices_Clone_int_int = some c_slices_Clone_int_int := rfl
theorem fit86 : fitF Tryz.prog NG Tryz.f86 c_slices_Clone_int_int = true := by kernel_rfl
theorem e_itakeTurns : Cd f_itakeTurns = some c_itakeTurns := rfl
theorem fit87 : fitF Tryz.prog NG Tryz.f87 c_itakeTurns = true := by kernel_rfl
theorem e_iCrewRun_1 : Cd f_iCrewRun_1 = some c_iCrewRun_1 := rfl
theorem fit88 : fitF Tryz.prog NG Tryz.f88 c_iCrewRun_1 = true := by kernel_rfl
theorem e_iThread_step : Cd f_iThread_step = some c_iThread_step := rfl
theorem fit89 : fitF Tryz.prog NG Tryz.f89 c_iThread_step = true := by kernel_rfl
theorem e_sl22List : Cd f_sl22List = some c_sl22List := rfl
theorem fit90 : fitF Tryz.prog NG Tryz.f90 c_sl22List = true := by kernel_rfl
theorem e_iturnsValid : Cd f_iturnsValid = some c_iturnsValid := rfl
theorem fit91 : fitF Tryz.prog NG Tryz.f91 c_iturnsValid = true := by kernel_rfl
theorem e_iboxesValid : Cd f_iboxesValid = some c_iboxesValid := rfl
theorem fit92 : fitF Tryz.prog NG Tryz.f92 c_iboxesValid = true := by kernel_rfl
theorem e_iThreadValid : Cd f_iThreadValid = some c_iThreadValid := rfl
theorem fit93 : fitF Tryz.prog NG Tryz.f93 c_iThreadValid = true := by kernel_rfl
theorem e_iboxThere : Cd f_iboxThere = some c_iboxThere := rfl
theorem fit94 : fitF Tryz.prog NG Tryz.f94 c_iboxThere = true := by kernel_rfl
theorem e_itaskValid : Cd f_itaskValid = some c_itaskValid := rfl
theorem fit95 : fitF Tryz.prog NG Tryz.f95 c_itaskValid = true := by kernel_rfl
theorem e_inewRunning : Cd f_inewRunning = some c_inewRunning := rfl
theorem fit96 : fitF Tryz.prog NG Tryz.f96 c_inewRunning = true := by kernel_rfl
theorem e_irunWorld_1 : Cd f_irunWorld_1 = some c_irunWorld_1 := rfl
theorem fit97 : fitF Tryz.prog NG Tryz.f97 c_irunWorld_1 = true := by kernel_rfl
theorem e_irunning_step : Cd f_irunning_step = some c_irunning_step := rfl
theorem fit98 : fitF Tryz.prog NG Tryz.f98 c_irunning_step = true := by kernel_rfl
theorem e_irunWorld_1_1 : Cd f_irunWorld_1_1 = some c_irunWorld_1_1 := rfl
theorem fit99 : fitF Tryz.prog NG Tryz.f99 c_irunWorld_1_1 = true := by kernel_rfl
theorem e_irunning_task : Cd f_irunning_task = some c_irunning_task := rfl
theorem fit100 : fitF Tryz.prog NG Tryz.f100 c_irunning_task = true := by kernel_rfl
theorem e_sl92Rooms : Cd f_sl92Rooms = some c_sl92Rooms := rfl
theorem fit109 : fitF Tryz.prog NG Tryz.f109 c_sl92Rooms = true := by kernel_rfl
theorem e_sl92Stmts : Cd f_sl92Stmts = some c_sl92Stmts := rfl
theorem fit110 : fitF Tryz.prog NG Tryz.f110 c_sl92Stmts = true := by kernel_rfl
theorem e_sl92Endless : Cd f_sl92Endless = some c_sl92Endless := rfl
theorem fit111 : fitF Tryz.prog NG Tryz.f111 c_sl92Endless = true := by kernel_rfl
theorem e_sl4Leaf : Cd f_sl4Leaf = some c_sl4Leaf := rfl
theorem fit112 : fitF Tryz.prog NG Tryz.f112 c_sl4Leaf = true := by kernel_rfl
theorem e_iblockValid : Cd f_iblockValid = some c_iblockValid := rfl
theorem fit113 : fitF Tryz.prog NG Tryz.f113 c_iblockValid = true := by kernel_rfl
theorem e_iexprCopy : Cd f_iexprCopy = some c_iexprCopy := rfl
theorem fit114 : fitF Tryz.prog NG Tryz.f114 c_iexprCopy = true := by kernel_rfl
theorem e_sl11Blocks : Cd f_sl11Blocks = some c_sl11Blocks := rfl
theorem fit115 : fitF Tryz.prog NG Tryz.f115 c_sl11Blocks = true := by kernel_rfl
theorem e_sl11Count : Cd f_sl11Count = some c_sl11Count := rfl
theorem fit116 : fitF Tryz.prog NG Tryz.f116 c_sl11Count = true := by kernel_rfl
theorem e_icompileStmt : Cd f_icompileStmt = some c_icompileStmt := rfl
theorem fit119 : fitF Tryz.prog NG Tryz.f119 c_icompileStmt = true := by kernel_rfl
theorem e_slices_Clone_iQuad_iQuad : Cd f_slices_Clone_iQuad_iQuad = some c_slices_Clone_iQuad_iQuad := rfl
theorem fit120 : fitF Tryz.prog NG Tryz.f120 c_slices_Clone_iQuad_iQuad = true := by kernel_rfl
theorem e_iNextTurn : Cd f_iNextTurn = some c_iNextTurn := rfl
theorem fit121 : fitF Tryz.prog NG Tryz.f121 c_iNextTurn = true := by kernel_rfl
theorem e_iapply : Cd f_iapply = some c_iapply := rfl
theorem fit122 : fitF Tryz.prog NG Tryz.f122 c_iapply = true := by kernel_rfl
theorem e_iBox_put : Cd f_iBox_put = some c_iBox_put := rfl
theorem fit123 : fitF Tryz.prog NG Tryz.f123 c_iBox_put = true := by kernel_rfl
theorem e_iBox_take : Cd f_iBox_take = some c_iBox_take := rfl
theorem fit124 : fitF Tryz.prog NG Tryz.f124 c_iBox_take = true := by kernel_rfl
theorem e_sl22Stmt : Cd f_sl22Stmt = some c_sl22Stmt := rfl
theorem fit125 : fitF Tryz.prog NG Tryz.f125 c_sl22Stmt = true := by kernel_rfl
theorem e_iareWords : Cd f_iareWords = some c_iareWords := rfl
theorem fit126 : fitF Tryz.prog NG Tryz.f126 c_iareWords = true := by kernel_rfl
theorem e_iBoxValid : Cd f_iBoxValid = some c_iBoxValid := rfl
theorem fit127 : fitF Tryz.prog NG Tryz.f127 c_iBoxValid = true := by kernel_rfl
theorem e_iCodeValid : Cd f_iCodeValid = some c_iCodeValid := rfl
theorem fit128 : fitF Tryz.prog NG Tryz.f128 c_iCodeValid = true := by kernel_rfl
theorem e_ithreadFits : Cd f_ithreadFits = some c_ithreadFits := rfl
theorem fit129 : fitF Tryz.prog NG Tryz.f129 c_ithreadFits = true := by kernel_rfl
theorem e_iahead : Cd f_iahead = some c_iahead := rfl
theorem fit130 : fitF Tryz.prog NG Tryz.f130 c_iahead = true := by kernel_rfl
theorem e_iexprEval : Cd f_iexprEval = some c_iexprEval := rfl
theorem fit131 : fitF Tryz.prog NG Tryz.f131 c_iexprEval = true := by kernel_rfl
theorem e_sl92Block : Cd f_sl92Block = some c_sl92Block := rfl
theorem fit139 : fitF Tryz.prog NG Tryz.f139 c_sl92Block = true := by kernel_rfl
theorem e_istmtValid : Cd f_istmtValid = some c_istmtValid := rfl
theorem fit140 : fitF Tryz.prog NG Tryz.f140 c_istmtValid = true := by kernel_rfl
theorem e_sl11Ok : Cd f_sl11Ok = some c_sl11Ok := rfl
theorem fit141 : fitF Tryz.prog NG Tryz.f141 c_sl11Ok = true := by kernel_rfl
theorem e_sl4Both : Cd f_sl4Both = some c_sl4Both := rfl
theorem fit142 : fitF Tryz.prog NG Tryz.f142 c_sl4Both = true := by kernel_rfl
theorem e_icompileExpr : Cd f_icompileExpr = some c_icompileExpr := rfl
theorem fit143 : fitF Tryz.prog NG Tryz.f143 c_icompileExpr = true := by kernel_rfl
theorem e_itruth : Cd f_itruth = some c_itruth := rfl
theorem fit144 : fitF Tryz.prog NG Tryz.f144 c_itruth = true := by kernel_rfl
theorem e_iWrap : Cd f_iWrap = some c_iWrap := rfl
theorem fit145 : fitF Tryz.prog NG Tryz.f145 c_iWrap = true := by kernel_rfl
theorem e_sl22Expr : Cd f_sl22Expr = some c_sl22Expr := rfl
theorem fit146 : fitF Tryz.prog NG Tryz.f146 c_sl22Expr = true := by kernel_rfl
theorem e_sl22If : Cd f_sl22If = some c_sl22If := rfl
theorem fit147 : fitF Tryz.prog NG Tryz.f147 c_sl22If = true := by kernel_rfl
theorem e_sl22While : Cd f_sl22While = some c_sl22While := rfl
theorem fit148 : fitF Tryz.prog NG Tryz.f148 c_sl22While = true := by kernel_rfl
theorem e_iQuadValid : Cd f_iQuadValid = some c_iQuadValid := rfl
theorem fit149 : fitF Tryz.prog NG Tryz.f149 c_iQuadValid = true := by kernel_rfl
theorem e_sOpValid : Cd f_sOpValid = some c_sOpValid := rfl
theorem fit153 : fitF Tryz.prog NG Tryz.f153 c_sOpValid = true := by kernel_rfl
theorem e_sl92Stmt : Cd f_sl92Stmt = some c_sl92Stmt := rfl
theorem fit159 : fitF Tryz.prog NG Tryz.f159 c_sl92Stmt = true := by kernel_rfl
theorem e_istmtValid_1 : Cd f_istmtValid_1 = some c_istmtValid_1 := rfl
theorem fit160 : fitF Tryz.prog NG Tryz.f160 c_istmtValid_1 = true := by kernel_rfl
theorem e_iExprValid : Cd f_iExprValid = some c_iExprValid := rfl
theorem fit161 : fitF Tryz.prog NG Tryz.f161 c_iExprValid = true := by kernel_rfl
theorem e_sl11Simple : Cd f_sl11Simple = some c_sl11Simple := rfl
theorem fit162 : fitF Tryz.prog NG Tryz.f162 c_sl11Simple = true := by kernel_rfl
theorem e_sl11Var : Cd f_sl11Var = some c_sl11Var := rfl
theorem fit163 : fitF Tryz.prog NG Tryz.f163 c_sl11Var = true := by kernel_rfl
theorem e_sl11Box : Cd f_sl11Box = some c_sl11Box := rfl
theorem fit164 : fitF Tryz.prog NG Tryz.f164 c_sl11Box = true := by kernel_rfl
theorem e_sExprValid : Cd f_sExprValid = some c_sExprValid := rfl
theorem fit165 : fitF Tryz.prog NG Tryz.f165 c_sExprValid = true := by kernel_rfl
theorem e_iisReg : Cd f_iisReg = some c_iisReg := rfl
theorem fit166 : fitF Tryz.prog NG Tryz.f166 c_iisReg = true := by kernel_rfl
theorem e_iOpValid : Cd f_iOpValid = some c_iOpValid := rfl
theorem fit167 : fitF Tryz.prog NG Tryz.f167 c_iOpValid = true := by kernel_rfl
theorem e_sl92Set : Cd f_sl92Set = some c_sl92Set := rfl
theorem fit168 : fitF Tryz.prog NG Tryz.f168 c_sl92Set = true := by kernel_rfl
theorem e_sl92If : Cd f_sl92If = some c_sl92If := rfl
theorem fit169 : fitF Tryz.prog NG Tryz.f169 c_sl92If = true := by kernel_rfl
theorem e_sl92Loop : Cd f_sl92Loop = some c_sl92Loop := rfl
theorem fit170 : fitF Tryz.prog NG Tryz.f170 c_sl92Loop = true := by kernel_rfl
theorem e_sl92Talk : Cd f_sl92Talk = some c_sl92Talk := rfl
theorem fit171 : fitF Tryz.prog NG Tryz.f171 c_sl92Talk = true := by kernel_rfl
theorem e_sl91Expr : Cd f_sl91Expr = some c_sl91Expr := rfl
theorem fit172 : fitF Tryz.prog NG Tryz.f172 c_sl91Expr = true := by kernel_rfl
theorem e_iexprValid : Cd f_iexprValid = some c_iexprValid := rfl
theorem fit173 : fitF Tryz.prog NG Tryz.f173 c_iexprValid = true := by kernel_rfl
theorem e_sl11Plain : Cd f_sl11Plain = some c_sl11Plain := rfl
theorem fit174 : fitF Tryz.prog NG Tryz.f174 c_sl11Plain = true := by kernel_rfl
theorem e_sl4Ok : Cd f_sl4Ok = some c_sl4Ok := rfl
theorem fit175 : fitF Tryz.prog NG Tryz.f175 c_sl4Ok = true := by kernel_rfl
theorem e_sl91Op : Cd f_sl91Op = some c_sl91Op := rfl
theorem fit176 : fitF Tryz.prog NG Tryz.f176 c_sl91Op = true := by kernel_rfl
theorem fits : Fits Tryz.prog NG Cd := by
  intro f a h
  unfold Cd at h
  obtain ⟨q, hq, e⟩ := map_some h
  have hm := List.mem_of_find?_eq_some hq
  have hp := List.find?_some hq
  simp only [beq_iff_eq] at hp
  subst hp e
  simp only [tab, List.mem_cons, List.not_mem_nil, or_false] at hm
  rcases hm with rfl | rfl | rfl | rfl | rfl | rfl | rfl | rfl | rfl | rfl | rfl | rfl | rfl | rfl | rfl | rfl | rfl | rfl | rfl | rfl | rfl | rfl | rfl | rfl | rfl | rfl | rfl | rfl | rfl | rfl | rfl | rfl | rfl | rfl | rfl | rfl | rfl | rfl | rfl | rfl | rfl | rfl | rfl | rfl | rfl | rfl | rfl | rfl | rfl | rfl | rfl | rfl | rfl | rfl | rfl | rfl | rfl | rfl | rfl | rfl | rfl | rfl | rfl | rfl | rfl | rfl | rfl | rfl | rfl | rfl | rfl | rfl | rfl | rfl | rfl | rfl | rfl | rfl | rfl | rfl | rfl | rfl | rfl | rfl | rfl | rfl | rfl | rfl | rfl | rfl | rfl | rfl | rfl | rfl | rfl | rfl | rfl | rfl | rfl | rfl | rfl | rfl | rfl | rfl | rfl | rfl | rfl | rfl | rfl | rfl | rfl | rfl
  · exact ⟨_, Tryz.func4, fit4⟩
  · exact ⟨_, Tryz.func15, fit15⟩
  · exact ⟨_, Tryz.func18, fit18⟩
  · exact ⟨_, Tryz.func19, fit19⟩
  · exact ⟨_, Tryz.func20, fit20⟩
  · exact ⟨_, Tryz.func22, fit22⟩
  · exact ⟨_, Tryz.func23, fit23⟩
  · exact ⟨_, Tryz.func24, fit24⟩
  · exact ⟨_, Tryz.func25, fit25⟩
  · exact ⟨_, Tryz.func26, fit26⟩
  · exact ⟨_, Tryz.func31, fit31⟩
  · exact ⟨_, Tryz.func32, fit32⟩
  · exact ⟨_, Tryz.func36, fit36⟩
  · exact ⟨_, Tryz.func38, fit38⟩
  · exact ⟨_, Tryz.func39, fit39⟩
  · exact ⟨_, Tryz.func40, fit40⟩
  · exact ⟨_, Tryz.func41, fit41⟩
  · exact ⟨_, Tryz.func42, fit42⟩
  · exact ⟨_, Tryz.func43, fit43⟩
  · exact ⟨_, Tryz.func48, fit48⟩
  · exact ⟨_, Tryz.func49, fit49⟩
  · exact ⟨_, Tryz.func50, fit50⟩
  · exact ⟨_, Tryz.func51, fit51⟩
  · exact ⟨_, Tryz.func52, fit52⟩
  · exact ⟨_, Tryz.func53, fit53⟩
  · exact ⟨_, Tryz.func54, fit54⟩
  · exact ⟨_, Tryz.func55, fit55⟩
  · exact ⟨_, Tryz.func56, fit56⟩
  · exact ⟨_, Tryz.func57, fit57⟩
  · exact ⟨_, Tryz.func58, fit58⟩
  · exact ⟨_, Tryz.func59, fit59⟩
  · exact ⟨_, Tryz.func60, fit60⟩
  · exact ⟨_, Tryz.func61, fit61⟩
  · exact ⟨_, Tryz.func63, fit63⟩
  · exact ⟨_, Tryz.func71, fit71⟩
  · exact ⟨_, Tryz.func72, fit72⟩
  · exact ⟨_, Tryz.func73, fit73⟩
  · exact ⟨_, Tryz.func74, fit74⟩
  · exact ⟨_, Tryz.func75, fit75⟩
  · exact ⟨_, Tryz.func76, fit76⟩
  · exact ⟨_, Tryz.func77, fit77⟩
  · exact ⟨_, Tryz.func78, fit78⟩
  · exact ⟨_, Tryz.func79, fit79⟩
  · exact ⟨_, Tryz.func83, fit83⟩
  · exact ⟨_, Tryz.func84, fit84⟩
  · exact ⟨_, Tryz.func85, fit85⟩
  · exact ⟨_, Tryz.func86, fit86⟩
  · exact ⟨_, Tryz.func87, fit87⟩
  · exact ⟨_, Tryz.func88, fit88⟩
  · exact ⟨_, Tryz.func89, fit89⟩
  · exact ⟨_, Tryz.func90, fit90⟩
  · exact ⟨_, Tryz.func91, fit91⟩
  · exact ⟨_, Tryz.func92, fit92⟩
  · exact ⟨_, Tryz.func93, fit93⟩
  · exact ⟨_, Tryz.func94, fit94⟩
  · exact ⟨_, Tryz.func95, fit95⟩
  · exact ⟨_, Tryz.func96, fit96⟩
  · exact ⟨_, Tryz.func97, fit97⟩
  · exact ⟨_, Tryz.func98, fit98⟩
  · exact ⟨_, Tryz.func99, fit99⟩
  · exact ⟨_, Tryz.func100, fit100⟩
  · exact ⟨_, Tryz.func109, fit109⟩
  · exact ⟨_, Tryz.func110, fit110⟩
  · exact ⟨_, Tryz.func111, fit111⟩
  · exact ⟨_, Tryz.func112, fit112⟩
  · exact ⟨_, Tryz.func113, fit113⟩
  · exact ⟨_, Tryz.func114, fit114⟩
  · exact ⟨_, Tryz.func115, fit115⟩
  · exact ⟨_, Tryz.func116, fit116⟩
  · exact ⟨_, Tryz.func119, fit119⟩
  · exact ⟨_, Tryz.func120, fit120⟩
  · exact ⟨_, Tryz.func121, fit121⟩
  · exact ⟨_, Tryz.func122, fit122⟩
  · exact ⟨_, Tryz.func123, fit123⟩
  · exact ⟨_, Tryz.func124, fit124⟩
  · exact ⟨_, Tryz.func125, fit125⟩
  · exact ⟨_, Tryz.func126, fit126⟩
  · exact ⟨_, Tryz.func127, fit127⟩
  · exact ⟨_, Tryz.func128, fit128⟩
  · exact ⟨_, Tryz.func129, fit129⟩
  · exact ⟨_, Tryz.func130, fit130⟩
  · exact ⟨_, Tryz.func131, fit131⟩
  · exact ⟨_, Tryz.func139, fit139⟩
  · exact ⟨_, Tryz.func140, fit140⟩
  · exact ⟨_, Tryz.func141, fit141⟩
  · exact ⟨_, Tryz.func142, fit142⟩
  · exact ⟨_, Tryz.func143, fit143⟩
  · exact ⟨_, Tryz.func144, fit144⟩
  · exact ⟨_, Tryz.func145, fit145⟩
  · exact ⟨_, Tryz.func146, fit146⟩
  · exact ⟨_, Tryz.func147, fit147⟩
  · exact ⟨_, Tryz.func148, fit148⟩
  · exact ⟨_, Tryz.func149, fit149⟩
  · exact ⟨_, Tryz.func153, fit153⟩
  · exact ⟨_, Tryz.func159, fit159⟩
  · exact ⟨_, Tryz.func160, fit160⟩
  · exact ⟨_, Tryz.func161, fit161⟩
  · exact ⟨_, Tryz.func162, fit162⟩
  · exact ⟨_, Tryz.func163, fit163⟩
  · exact ⟨_, Tryz.func164, fit164⟩
  · exact ⟨_, Tryz.func165, fit165⟩
  · exact ⟨_, Tryz.func166, fit166⟩
  · exact ⟨_, Tryz.func167, fit167⟩
  · exact ⟨_, Tryz.func168, fit168⟩
  · exact ⟨_, Tryz.func169, fit169⟩
  · exact ⟨_, Tryz.func170, fit170⟩
  · exact ⟨_, Tryz.func171, fit171⟩
  · exact ⟨_, Tryz.func172, fit172⟩
  · exact ⟨_, Tryz.func173, fit173⟩
  · exact ⟨_, Tryz.func174, fit174⟩
  · exact ⟨_, Tryz.func175, fit175⟩
  · exact ⟨_, Tryz.func176, fit176⟩

end Go.Proofs.YtmecbehegmgbhaaGreat.AM
