/-
  The twins, in the abstract machine, of the functions that this claim reaches; by program (part 2). No condition.
-/
import Derived.Test.YtfgedlbkgcejhaaGreatWC1
namespace Go.Proofs.YtfgedlbkgcejhaaGreat.AM
set_option linter.unusedSimpArgs false
set_option linter.unusedVariables false
set_option maxRecDepth 100000
def tab : List (Nat × AFn) := [(4, c_wFnWorldStepTask), (15, c_wFnWorldRun), (16, c_wFnWorldRunOne), (17, c_wFnWorldRunOut), (18, c_wFnWorldStepOthers), (19, c_wFnWorldStep), (22, c_sWorldNew), (23, c_wsameWorld), (27, c_wfirstInts), (28, c_sDrawWorldStep), (29, c_iWorldStep), (30, c_sWorldStep), (31, c_iTaskStep), (32, c_iNextTurn), (33, c_wsameTask), (34, c_wsameBoxes), (35, c_wsameInts), (45, c_iWordValid), (46, c_iWorldRun), (51, c_sDrawWorldRun), (52, c_sWorldRun), (53, c_iWorldValid), (55, c_sl6Open), (59, c_sProgramValid), (60, c_sl16Empty), (61, c_sTaskNew), (66, c_sl92World), (67, c_sWorldValid), (68, c_sl16Copy), (69, c_sl16Step), (70, c_iTaskValid), (71, c_iboxesValid), (72, c_inewRunning), (73, c_iboxesCopy), (74, c_irunning_step), (75, c_iTaskStep_1), (76, c_irunning_task), (77, c_wsameStmts), (78, c_wsameBox), (85, c_sl6Rd_pick), (86, c_irunWorld), (87, c_iWorldTrace_1), (88, c_sl6In), (94, c_iturnsValid), (95, c_itaskValid), (96, c_sl92Program), (97, c_sl91Leaf), (99, c_istmtsValid), (101, c_istmtsCopy), (102, c_sl12Rooms), (103, c_sStmtsValid), (104, c_sl12Boxes), (105, c_sl11Copy), (108, c_slices_Clone_int_int), (109, c_itakeTurns), (112, c_sl15Boxes), (113, c_sTaskValid), (114, c_sl4Words), (115, c_sl15BoxesCopy), (116, c_sl15Copy), (117, c_sTaskStep), (118, c_sNextTurn), (119, c_iBoxValid), (120, c_iahead), (121, c_iexprEval), (122, c_iBox_put), (123, c_iBox_take), (124, c_wsameExpr), (128, c_irunWorld_1), (129, c_irunWorld_1_1), (130, c_sl4Eval), (131, c_iareWords), (132, c_sl92Rooms), (133, c_sl92Stmts), (134, c_sl92Endless), (135, c_sl4Leaf), (136, c_iblockValid), (137, c_iexprCopy), (138, c_sl11Blocks), (139, c_sl11Count), (140, c_sl4Copy), (143, c_iapply), (144, c_sBoxValid), (145, c_sWordValid), (146, c_sl15Ready), (147, c_sl15Talk), (148, c_sl15Block), (149, c_sl15Set), (153, c_sApply), (154, c_sl92Block), (155, c_istmtValid), (156, c_sl11Ok), (157, c_sl4Both), (159, c_itruth), (160, c_iWrap), (161, c_sBoxPut), (162, c_sBoxTake), (163, c_sl15Ahead), (168, c_sOpValid), (169, c_sl2Flag), (170, c_sl2Shift), (171, c_sWrap), (172, c_sl2Divide), (173, c_sl2Remain), (174, c_sl92Stmt), (175, c_istmtValid_1), (176, c_iExprValid), (177, c_sl11Simple), (178, c_sl11Var), (179, c_sl11Box), (180, c_sExprValid), (182, c_iOpValid), (183, c_sl92Set), (184, c_sl92If), (185, c_sl92Loop), (186, c_sl92Talk), (187, c_sl91Expr), (188, c_iexprValid), (189, c_sl11Plain), (190, c_sl4Ok), (191, c_sl91Op)]
def Cd : FuncId → Option AFn := fun f => (tab.find? fun q => q.1 == f).map (·.2)
def NG : Nat := 0
theorem e_wFnWorldStepTask : Cd f_wFnWorldStepTask = some c_wFnWorldStepTask := rfl
theorem fit4 : fitF Tryz.prog NG Tryz.f4 c_wFnWorldStepTask = true := by kernel_rfl
theorem e_wFnWorldRun : Cd f_wFnWorldRun = some c_wFnWorldRun := rfl
theorem fit15 : fitF Tryz.prog NG Tryz.f15 c_wFnWorldRun = true := by kernel_rfl
theorem e_wFnWorldRunOne : Cd f_wFnWorldRunOne = some c_wFnWorldRunOne := rfl
theorem fit16 : fitF Tryz.prog NG Tryz.f16 c_wFnWorldRunOne = true := by kernel_rfl
theorem e_wFnWorldRunOut : Cd f_wFnWorldRunOut = some c_wFnWorldRunOut := rfl
theorem fit17 : fitF Tryz.prog NG Tryz.f17 c_wFnWorldRunOut = true := by kernel_rfl
theorem e_wFnWorldStepOthers : Cd f_wFnWorldStepOthers = some c_wFnWorldStepOthers := rfl
theorem fit18 : fitF Tryz.prog NG Tryz.f18 c_wFnWorldStepOthers = true := by kernel_rfl
theorem e_wFnWorldStep : Cd f_wFnWorldStep = some c_wFnWorldStep := rfl
theorem fit19 : fitF Tryz.prog NG Tryz.f19 c_wFnWorldStep = true := by kernel_rfl
theorem e_sWorldNew : Cd f_sWorldNew = some c_sWorldNew := rfl
theorem fit22 : fitF Tryz.prog NG Tryz.f22 c_sWorldNew = true := by kernel_rfl
theorem e_wsameWorld : Cd f_wsameWorld = some c_wsameWorld := rfl
theorem fit23 : fitF Tryz.prog NG Tryz.f23 c_wsameWorld = true := by kernel_rfl
theorem e_wfirstInts : Cd f_wfirstInts = some c_wfirstInts := rfl
theorem fit27 : fitF Tryz.prog NG Tryz.f27 c_wfirstInts = true := by kernel_rfl
theorem e_sDrawWorldStep : Cd f_sDrawWorldStep = some c_sDrawWorldStep := rfl
theorem fit28 : fitF Tryz.prog NG Tryz.f28 c_sDrawWorldStep = true := by kernel_rfl
theorem e_iWorldStep : Cd f_iWorldStep = some c_iWorldStep := rfl
theorem fit29 : fitF Tryz.prog NG Tryz.f29 c_iWorldStep = true := by kernel_rfl
theorem e_sWorldStep : Cd f_sWorldStep = some c_sWorldStep := rfl
theorem fit30 : fitF Tryz.prog NG Tryz.f30 c_sWorldStep = true := by kernel_rfl
theorem e_iTaskStep : Cd f_iTaskStep = some c_iTaskStep := rfl
theorem fit31 : fitF Tryz.prog NG Tryz.f31 c_iTaskStep = true := by kernel_rfl
theorem e_iNextTurn : Cd f_iNextTurn = some c_iNextTurn := rfl
theorem fit32 : fitF Tryz.prog NG Tryz.f32 c_iNextTurn = true := by kernel_rfl
theorem e_wsameTask : Cd f_wsameTask = some c_wsameTask := rfl
theorem fit33 : fitF Tryz.prog NG Tryz.f33 c_wsameTask = true := by kernel_rfl
theorem e_wsameBoxes : Cd f_wsameBoxes = some c_wsameBoxes := rfl
theorem fit34 : fitF Tryz.prog NG Tryz.f34 c_wsameBoxes = true := by kernel_rfl
theorem e_wsameInts : Cd f_wsameInts = some c_wsameInts := rfl
theorem fit35 : fitF Tryz.prog NG Tryz.f35 c_wsameInts = true := by kernel_rfl
theorem e_iWordValid : Cd f_iWordValid = some c_iWordValid := rfl
theorem fit45 : fitF Tryz.prog NG Tryz.f45 c_iWordValid = true := by kernel_rfl
theorem e_iWorldRun : Cd f_iWorldRun = some c_iWorldRun := rfl
theorem fit46 : fitF Tryz.prog NG Tryz.f46 c_iWorldRun = true := by kernel_rfl
theorem e_sDrawWorldRun : Cd f_sDrawWorldRun = some c_sDrawWorldRun := rfl
theorem fit51 : fitF Tryz.prog NG Tryz.f51 c_sDrawWorldRun = true := by kernel_rfl
theorem e_sWorldRun : Cd f_sWorldRun = some c_sWorldRun := rfl
theorem fit52 : fitF Tryz.prog NG Tryz.f52 c_sWorldRun = true := by kernel_rfl
theorem e_iWorldValid : Cd f_iWorldValid = some c_iWorldValid := rfl
theorem fit53 : fitF Tryz.prog NG Tryz.f53 c_iWorldValid = true := by kernel_rfl
theorem e_sl6Open : Cd f_sl6Open = some c_sl6Open := rfl
theorem fit55 : fitF Tryz.prog NG Tryz.f55 c_sl6Open = true := by kernel_rfl
theorem e_sProgramValid : Cd f_sProgramValid = some c_sProgramValid := rfl
theorem fit59 : fitF Tryz.prog NG Tryz.f59 c_sProgramValid = true := by kernel_rfl
theorem e_sl16Empty : Cd f_sl16Empty = some c_sl16Empty := rfl
theorem fit60 : fitF Tryz.prog NG Tryz.f60 c_sl16Empty = true := by kernel_rfl
theorem e_sTaskNew : Cd f_sTaskNew = some c_sTaskNew := rfl
theorem fit61 : fitF Tryz.prog NG Tryz.f61 c_sTaskNew = true := by kernel_rfl
theorem e_sl92World : Cd f_sl92World = some c_sl92World := rfl
theorem fit66 : fitF Tryz.prog NG Tryz.f66 c_sl92World = true := by kernel_rfl
theorem e_sWorldValid : Cd f_sWorldValid = some c_sWorldValid := rfl
theorem fit67 : fitF Tryz.prog NG Tryz.f67 c_sWorldValid = true := by kernel_rfl
theorem e_sl16Copy : Cd f_sl16Copy = some c_sl16Copy := rfl
theorem fit68 : fitF Tryz.prog NG Tryz.f68 c_sl16Copy = true := by kernel_rfl
theorem e_sl16Step : Cd f_sl16Step = some c_sl16Step := rfl
theorem fit69 : fitF Tryz.prog NG Tryz.f69 c_sl16Step = true := by kernel_rfl
theorem e_iTaskValid : Cd f_iTaskValid = some c_iTaskValid := rfl
theorem fit70 : fitF Tryz.prog NG Tryz.f70 c_iTaskValid = true := by kernel_rfl
theorem e_iboxesValid : Cd f_iboxesValid = some c_iboxesValid := rfl
theorem fit71 : fitF Tryz.prog NG Tryz.f71 c_iboxesValid = true := by kernel_rfl
theorem e_inewRunning : Cd f_inewRunning = some c_inewRunning := rfl
theorem fit72 : fitF Tryz.prog NG Tryz.f72 c_inewRunning = true := by kernel_rfl
theorem e_iboxesCopy : Cd f_iboxesCopy = some c_iboxesCopy := rfl
theorem fit73 : fitF Tryz.prog NG Tryz.f73 c_iboxesCopy = true := by kernel_rfl
theorem e_irunning_step : Cd f_irunning_step = some c_irunning_step := rfl
theorem fit74 : fitF Tryz.prog NG Tryz.f74 c_irunning_step = true := by kernel_rfl
theorem e_iTaskStep_1 : Cd f_iTaskStep_1 = some c_iTaskStep_1 := rfl
theorem fit75 : fitF Tryz.prog NG Tryz.f75 c_iTaskStep_1 = true := by kernel_rfl
theorem e_irunning_task : Cd f_irunning_task = some c_irunning_task := rfl
theorem fit76 : fitF Tryz.prog NG Tryz.f76 c_irunning_task = true := by kernel_rfl
theorem e_wsameStmts : Cd f_wsameStmts = some c_wsameStmts := rfl
theorem fit77 : fitF Tryz.prog NG Tryz.f77 c_wsameStmts = true := by kernel_rfl
theorem e_wsameBox : Cd f_wsameBox = some c_wsameBox := rfl
theorem fit78 : fitF Tryz.prog NG Tryz.f78 c_wsameBox = true := by kernel_rfl
theorem e_sl6Rd_pick : Cd f_sl6Rd_pick = some c_sl6Rd_pick := rfl
theorem fit85 : fitF Tryz.prog NG Tryz.f85 c_sl6Rd_pick = true := by kernel_rfl
theorem e_irunWorld : Cd f_irunWorld = some c_irunWorld := rfl
theorem fit86 : fitF Tryz.prog NG Tryz.f86 c_irunWorld = true := by kernel_rfl
theorem e_iWorldTrace_1 : Cd f_iWorldTrace_1 = some c_iWorldTrace_1 := rfl
theorem fit87 : fitF Tryz.prog NG Tryz.f87 c_iWorldTrace_1 = true := by kernel_rfl
theorem e_sl6In : Cd f_sl6In = some c_sl6In := rfl
theorem fit88 : fitF Tryz.prog NG Tryz.f88 c_sl6In = true := by kernel_rfl
theorem e_iturnsValid : Cd f_iturnsValid = some c_iturnsValid := rfl
theorem fit94 : fitF Tryz.prog NG Tryz.f94 c_iturnsValid = true := by kernel_rfl
theorem e_itaskValid : Cd f_itaskValid = some c_itaskValid := rfl
theorem fit95 : fitF Tryz.prog NG Tryz.f95 c_itaskValid = true := by kernel_rfl
theorem e_sl92Program : Cd f_sl92Program = some c_sl92Program := rfl
theorem fit96 : fitF Tryz.prog NG Tryz.f96 c_sl92Program = true := by kernel_rfl
theorem e_sl91Leaf : Cd f_sl91Leaf = some c_sl91Leaf := rfl
theorem fit97 : fitF Tryz.prog NG Tryz.f97 c_sl91Leaf = true := by kernel_rfl
theorem e_istmtsValid : Cd f_istmtsValid = some c_istmtsValid := rfl
theorem fit99 : fitF Tryz.prog NG Tryz.f99 c_istmtsValid = true := by kernel_rfl
theorem e_istmtsCopy : Cd f_istmtsCopy = some c_istmtsCopy := rfl
theorem fit101 : fitF Tryz.prog NG Tryz.f101 c_istmtsCopy = true := by kernel_rfl
theorem e_sl12Rooms : Cd f_sl12Rooms = some c_sl12Rooms := rfl
theorem fit102 : fitF Tryz.prog NG Tryz.f102 c_sl12Rooms = true := by kernel_rfl
theorem e_sStmtsValid : Cd f_sStmtsValid = some c_sStmtsValid := rfl
theorem fit103 : fitF Tryz.prog NG Tryz.f103 c_sStmtsValid = true := by kernel_rfl
theorem e_sl12Boxes : Cd f_sl12Boxes = some c_sl12Boxes := rfl
theorem fit104 : fitF Tryz.prog NG Tryz.f104 c_sl12Boxes = true := by kernel_rfl
theorem e_sl11Copy : Cd f_sl11Copy = some c_sl11Copy := rfl
theorem fit105 : fitF Tryz.prog NG Tryz.f105 c_sl11Copy = true := by kernel_rfl
theorem e_slices_Clone_int_int : Cd f_slices_Clone_int_int = some c_slices_Clone_int_int := rfl
theorem fit108 : fitF Tryz.prog NG Tryz.f108 c_slices_Clone_int_int = true := by kernel_rfl
theorem e_itakeTurns : Cd f_itakeTurns = some c_itakeTurns := rfl
theorem fit109 : fitF Tryz.prog NG Tryz.f109 c_itakeTurns = true := by kernel_rfl
theorem e_sl15Boxes : Cd f_sl15Boxes = some c_sl15Boxes := rfl
theorem fit112 : fitF Tryz.prog NG Tryz.f112 c_sl15Boxes = true := by kernel_rfl
theorem e_sTaskValid : Cd f_sTaskValid = some c_sTaskValid := rfl
theorem fit113 : fitF Tryz.prog NG Tryz.f113 c_sTaskValid = true := by kernel_rfl
theorem e_sl4Words : Cd f_sl4Words = some c_sl4Words := rfl
theorem fit114 : fitF Tryz.prog NG Tryz.f114 c_sl4Words = true := by kernel_rfl
theorem e_sl15BoxesCopy : Cd f_sl15BoxesCopy = some c_sl15BoxesCopy := rfl
theorem fit115 : fitF Tryz.prog NG Tryz.f115 c_sl15BoxesCopy = true := by kernel_rfl
theorem e_sl15Copy : Cd f_sl15Copy = some c_sl15Copy := rfl
theorem fit116 : fitF Tryz.prog NG Tryz.f116 c_sl15Copy = true := by kernel_rfl
theorem e_sTaskStep : Cd f_sTaskStep = some c_sTaskStep := rfl
theorem fit117 : fitF Tryz.prog NG Tryz.f117 c_sTaskStep = true := by kernel_rfl
theorem e_sNextTurn : Cd f_sNextTurn = some c_sNextTurn := rfl
theorem fit118 : fitF Tryz.prog NG Tryz.f118 c_sNextTurn = true := by kernel_rfl
theorem e_iBoxValid : Cd f_iBoxValid = some c_iBoxValid := rfl
theorem fit119 : fitF Tryz.prog NG Tryz.f119 c_iBoxValid = true := by kernel_rfl
theorem e_iahead : Cd f_iahead = some c_iahead := rfl
theorem fit120 : fitF Tryz.prog NG Tryz.f120 c_iahead = true := by kernel_rfl
theorem e_iexprEval : Cd f_iexprEval = some c_iexprEval := rfl
theorem fit121 : fitF Tryz.prog NG Tryz.f121 c_iexprEval = true := by kernel_rfl
theorem e_iBox_put : Cd f_iBox_put = some c_iBox_put := rfl
theorem fit122 : fitF Tryz.prog NG Tryz.f122 c_iBox_put = true := by kernel_rfl
theorem e_iBox_take : Cd f_iBox_take = some c_iBox_take := rfl
theorem fit123 : fitF Tryz.prog NG Tryz.f123 c_iBox_take = true := by kernel_rfl
theorem e_wsameExpr : Cd f_wsameExpr = some c_wsameExpr := rfl
theorem fit124 : fitF Tryz.prog NG Tryz.f124 c_wsameExpr = true := by kernel_rfl
theorem e_irunWorld_1 : Cd f_irunWorld_1 = some c_irunWorld_1 := rfl
theorem fit128 : fitF Tryz.prog NG Tryz.f128 c_irunWorld_1 = true := by kernel_rfl
theorem e_irunWorld_1_1 : Cd f_irunWorld_1_1 = some c_irunWorld_1_1 := rfl
theorem fit129 : fitF Tryz.prog NG Tryz.f129 c_irunWorld_1_1 = true := by kernel_rfl
theorem e_sl4Eval : Cd f_sl4Eval = some c_sl4Eval := rfl
theorem fit130 : fitF Tryz.prog NG Tryz.f130 c_sl4Eval = true := by kernel_rfl
theorem e_iareWords : Cd f_iareWords = some c_iareWords := rfl
theorem fit131 : fitF Tryz.prog NG Tryz.f131 c_iareWords = true := by kernel_rfl
theorem e_sl92Rooms : Cd f_sl92Rooms = some c_sl92Rooms := rfl
theorem fit132 : fitF Tryz.prog NG Tryz.f132 c_sl92Rooms = true := by kernel_rfl
theorem e_sl92Stmts : Cd f_sl92Stmts = some c_sl92Stmts := rfl
theorem fit133 : fitF Tryz.prog NG Tryz.f133 c_sl92Stmts = true := by kernel_rfl
theorem e_sl92Endless : Cd f_sl92Endless = some c_sl92Endless := rfl
theorem fit134 : fitF Tryz.prog NG Tryz.f134 c_sl92Endless = true := by kernel_rfl
theorem e_sl4Leaf : Cd f_sl4Leaf = some c_sl4Leaf := rfl
theorem fit135 : fitF Tryz.prog NG Tryz.f135 c_sl4Leaf = true := by kernel_rfl
theorem e_iblockValid : Cd f_iblockValid = some c_iblockValid := rfl
theorem fit136 : fitF Tryz.prog NG Tryz.f136 c_iblockValid = true := by kernel_rfl
theorem e_iexprCopy : Cd f_iexprCopy = some c_iexprCopy := rfl
theorem fit137 : fitF Tryz.prog NG Tryz.f137 c_iexprCopy = true := by kernel_rfl
theorem e_sl11Blocks : Cd f_sl11Blocks = some c_sl11Blocks := rfl
theorem fit138 : fitF Tryz.prog NG Tryz.f138 c_sl11Blocks = true := by kernel_rfl
theorem e_sl11Count : Cd f_sl11Count = some c_sl11Count := rfl
theorem fit139 : fitF Tryz.prog NG Tryz.f139 c_sl11Count = true := by kernel_rfl
theorem e_sl4Copy : Cd f_sl4Copy = some c_sl4Copy := rfl
theorem fit140 : fitF Tryz.prog NG Tryz.f140 c_sl4Copy = true := by kernel_rfl
theorem e_iapply : Cd f_iapply = some c_iapply := rfl
theorem fit143 : fitF Tryz.prog NG Tryz.f143 c_iapply = true := by kernel_rfl
theorem e_sBoxValid : Cd f_sBoxValid = some c_sBoxValid := rfl
theorem fit144 : fitF Tryz.prog NG Tryz.f144 c_sBoxValid = true := by kernel_rfl
theorem e_sWordValid : Cd f_sWordValid = some c_sWordValid := rfl
theorem fit145 : fitF Tryz.prog NG Tryz.f145 c_sWordValid = true := by kernel_rfl
theorem e_sl15Ready : Cd f_sl15Ready = some c_sl15Ready := rfl
theorem fit146 : fitF Tryz.prog NG Tryz.f146 c_sl15Ready = true := by kernel_rfl
theorem e_sl15Talk : Cd f_sl15Talk = some c_sl15Talk := rfl
theorem fit147 : fitF Tryz.prog NG Tryz.f147 c_sl15Talk = true := by kernel_rfl
theorem e_sl15Block : Cd f_sl15Block = some c_sl15Block := rfl
theorem fit148 : fitF Tryz.prog NG Tryz.f148 c_sl15Block = true := by kernel_rfl
theorem e_sl15Set : Cd f_sl15Set = some c_sl15Set := rfl
theorem fit149 : fitF Tryz.prog NG Tryz.f149 c_sl15Set = true := by kernel_rfl
theorem e_sApply : Cd f_sApply = some c_sApply := rfl
theorem fit153 : fitF Tryz.prog NG Tryz.f153 c_sApply = true := by kernel_rfl
theorem e_sl92Block : Cd f_sl92Block = some c_sl92Block := rfl
theorem fit154 : fitF Tryz.prog NG Tryz.f154 c_sl92Block = true := by kernel_rfl
theorem e_istmtValid : Cd f_istmtValid = some c_istmtValid := rfl
theorem fit155 : fitF Tryz.prog NG Tryz.f155 c_istmtValid = true := by kernel_rfl
theorem e_sl11Ok : Cd f_sl11Ok = some c_sl11Ok := rfl
theorem fit156 : fitF Tryz.prog NG Tryz.f156 c_sl11Ok = true := by kernel_rfl
theorem e_sl4Both : Cd f_sl4Both = some c_sl4Both := rfl
theorem fit157 : fitF Tryz.prog NG Tryz.f157 c_sl4Both = true := by kernel_rfl
theorem e_itruth : Cd f_itruth = some c_itruth := rfl
theorem fit159 : fitF Tryz.prog NG Tryz.f159 c_itruth = true := by kernel_rfl
theorem e_iWrap : Cd f_iWrap = some c_iWrap := rfl
theorem fit160 : fitF Tryz.prog NG Tryz.f160 c_iWrap = true := by kernel_rfl
theorem e_sBoxPut : Cd f_sBoxPut = some c_sBoxPut := rfl
theorem fit161 : fitF Tryz.prog NG Tryz.f161 c_sBoxPut = true := by kernel_rfl
theorem e_sBoxTake : Cd f_sBoxTake = some c_sBoxTake := rfl
theorem fit162 : fitF Tryz.prog NG Tryz.f162 c_sBoxTake = true := by kernel_rfl
theorem e_sl15Ahead : Cd f_sl15Ahead = some c_sl15Ahead := rfl
theorem fit163 : fitF Tryz.prog NG Tryz.f163 c_sl15Ahead = true := by kernel_rfl
theorem e_sOpValid : Cd f_sOpValid = some c_sOpValid := rfl
theorem fit168 : fitF Tryz.prog NG Tryz.f168 c_sOpValid = true := by kernel_rfl
theorem e_sl2Flag : Cd f_sl2Flag = some c_sl2Flag := rfl
theorem fit169 : fitF Tryz.prog NG Tryz.f169 c_sl2Flag = true := by kernel_rfl
theorem e_sl2Shift : Cd f_sl2Shift = some c_sl2Shift := rfl
theorem fit170 : fitF Tryz.prog NG Tryz.f170 c_sl2Shift = true := by kernel_rfl
theorem e_sWrap : Cd f_sWrap = some c_sWrap := rfl
theorem fit171 : fitF Tryz.prog NG Tryz.f171 c_sWrap = true := by kernel_rfl
theorem e_sl2Divide : Cd f_sl2Divide = some c_sl2Divide := rfl
theorem fit172 : fitF Tryz.prog NG Tryz.f172 c_sl2Divide = true := by kernel_rfl
theorem e_sl2Remain : Cd f_sl2Remain = some c_sl2Remain := rfl
theorem fit173 : fitF Tryz.prog NG Tryz.f173 c_sl2Remain = true := by kernel_rfl
theorem e_sl92Stmt : Cd f_sl92Stmt = some c_sl92Stmt := rfl
theorem fit174 : fitF Tryz.prog NG Tryz.f174 c_sl92Stmt = true := by kernel_rfl
theorem e_istmtValid_1 : Cd f_istmtValid_1 = some c_istmtValid_1 := rfl
theorem fit175 : fitF Tryz.prog NG Tryz.f175 c_istmtValid_1 = true := by kernel_rfl
theorem e_iExprValid : Cd f_iExprValid = some c_iExprValid := rfl
theorem fit176 : fitF Tryz.prog NG Tryz.f176 c_iExprValid = true := by kernel_rfl
theorem e_sl11Simple : Cd f_sl11Simple = some c_sl11Simple := rfl
theorem fit177 : fitF Tryz.prog NG Tryz.f177 c_sl11Simple = true := by kernel_rfl
theorem e_sl11Var : Cd f_sl11Var = some c_sl11Var := rfl
theorem fit178 : fitF Tryz.prog NG Tryz.f178 c_sl11Var = true := by kernel_rfl
theorem e_sl11Box : Cd f_sl11Box = some c_sl11Box := rfl
theorem fit179 : fitF Tryz.prog NG Tryz.f179 c_sl11Box = true := by kernel_rfl
theorem e_sExprValid : Cd f_sExprValid = some c_sExprValid := rfl
theorem fit180 : fitF Tryz.prog NG Tryz.f180 c_sExprValid = true := by kernel_rfl
theorem e_iOpValid : Cd f_iOpValid = some c_iOpValid := rfl
theorem fit182 : fitF Tryz.prog NG Tryz.f182 c_iOpValid = true := by kernel_rfl
theorem e_sl92Set : Cd f_sl92Set = some c_sl92Set := rfl
theorem fit183 : fitF Tryz.prog NG Tryz.f183 c_sl92Set = true := by kernel_rfl
theorem e_sl92If : Cd f_sl92If = some c_sl92If := rfl
theorem fit184 : fitF Tryz.prog NG Tryz.f184 c_sl92If = true := by kernel_rfl
theorem e_sl92Loop : Cd f_sl92Loop = some c_sl92Loop := rfl
theorem fit185 : fitF Tryz.prog NG Tryz.f185 c_sl92Loop = true := by kernel_rfl
theorem e_sl92Talk : Cd f_sl92Talk = some c_sl92Talk := rfl
theorem fit186 : fitF Tryz.prog NG Tryz.f186 c_sl92Talk = true := by kernel_rfl
theorem e_sl91Expr : Cd f_sl91Expr = some c_sl91Expr := rfl
theorem fit187 : fitF Tryz.prog NG Tryz.f187 c_sl91Expr = true := by kernel_rfl
theorem e_iexprValid : Cd f_iexprValid = some c_iexprValid := rfl
theorem fit188 : fitF Tryz.prog NG Tryz.f188 c_iexprValid = true := by kernel_rfl
theorem e_sl11Plain : Cd f_sl11Plain = some c_sl11Plain := rfl
theorem fit189 : fitF Tryz.prog NG Tryz.f189 c_sl11Plain = true := by kernel_rfl
theorem e_sl4Ok : Cd f_sl4Ok = some c_sl4Ok := rfl
theorem fit190 : fitF Tryz.prog NG Tryz.f190 c_sl4Ok = true := by kernel_rfl
theorem e_sl91Op : Cd f_sl91Op = some c_sl91Op := rfl
theorem fit191 : fitF Tryz.prog NG Tryz.f191 c_sl91Op = true := by kernel_rfl
theorem fits : Fits Tryz.prog NG Cd := by
  intro f a h
  unfold Cd at h
  obtain ⟨q, hq, e⟩ := map_some h
  have hm := List.mem_of_find?_eq_some hq
  have hp := List.find?_some hq
  simp only [beq_iff_eq] at hp
  subst hp e
  simp only [tab, List.mem_cons, List.not_mem_nil, or_false] at hm
  rcases hm with rfl | rfl | rfl | rfl | rfl | rfl | rfl | rfl | rfl | rfl | rfl | rfl | rfl | rfl | rfl | rfl | rfl | rfl | rfl | rfl | rfl | rfl | rfl | rfl | rfl | rfl | rfl | rfl | rfl | rfl | rfl | rfl | rfl | rfl | rfl | rfl | rfl | rfl | rfl | rfl | rfl | rfl | rfl | rfl | rfl | rfl | rfl | rfl | rfl | rfl | rfl | rfl | rfl | rfl | rfl | rfl | rfl | rfl | rfl | rfl | rfl | rfl | rfl | rfl | rfl | rfl | rfl | rfl | rfl | rfl | rfl | rfl | rfl | rfl | rfl | rfl | rfl | rfl | rfl | rfl | rfl | rfl | rfl | rfl | rfl | rfl | rfl | rfl | rfl | rfl | rfl | rfl | rfl | rfl | rfl | rfl | rfl | rfl | rfl | rfl | rfl | rfl | rfl | rfl | rfl | rfl | rfl | rfl | rfl | rfl | rfl | rfl | rfl | rfl | rfl | rfl | rfl | rfl | rfl | rfl | rfl
  · exact ⟨_, Tryz.func4, fit4⟩
  · exact ⟨_, Tryz.func15, fit15⟩
  · exact ⟨_, Tryz.func16, fit16⟩
  · exact ⟨_, Tryz.func17, fit17⟩
  · exact ⟨_, Tryz.func18, fit18⟩
  · exact ⟨_, Tryz.func19, fit19⟩
  · exact ⟨_, Tryz.func22, fit22⟩
  · exact ⟨_, Tryz.func23, fit23⟩
  · exact ⟨_, Tryz.func27, fit27⟩
  · exact ⟨_, Tryz.func28, fit28⟩
  · exact ⟨_, Tryz.func29, fit29⟩
  · exact ⟨_, Tryz.func30, fit30⟩
  · exact ⟨_, Tryz.func31, fit31⟩
  · exact ⟨_, Tryz.func32, fit32⟩
  · exact ⟨_, Tryz.func33, fit33⟩
  · exact ⟨_, Tryz.func34, fit34⟩
  · exact ⟨_, Tryz.func35, fit35⟩
  · exact ⟨_, Tryz.func45, fit45⟩
  · exact ⟨_, Tryz.func46, fit46⟩
  · exact ⟨_, Tryz.func51, fit51⟩
  · exact ⟨_, Tryz.func52, fit52⟩
  · exact ⟨_, Tryz.func53, fit53⟩
  · exact ⟨_, Tryz.func55, fit55⟩
  · exact ⟨_, Tryz.func59, fit59⟩
  · exact ⟨_, Tryz.func60, fit60⟩
  · exact ⟨_, Tryz.func61, fit61⟩
  · exact ⟨_, Tryz.func66, fit66⟩
  · exact ⟨_, Tryz.func67, fit67⟩
  · exact ⟨_, Tryz.func68, fit68⟩
  · exact ⟨_, Tryz.func69, fit69⟩
  · exact ⟨_, Tryz.func70, fit70⟩
  · exact ⟨_, Tryz.func71, fit71⟩
  · exact ⟨_, Tryz.func72, fit72⟩
  · exact ⟨_, Tryz.func73, fit73⟩
  · exact ⟨_, Tryz.func74, fit74⟩
  · exact ⟨_, Tryz.func75, fit75⟩
  · exact ⟨_, Tryz.func76, fit76⟩
  · exact ⟨_, Tryz.func77, fit77⟩
  · exact ⟨_, Tryz.func78, fit78⟩
  · exact ⟨_, Tryz.func85, fit85⟩
  · exact ⟨_, Tryz.func86, fit86⟩
  · exact ⟨_, Tryz.func87, fit87⟩
  · exact ⟨_, Tryz.func88, fit88⟩
  · exact ⟨_, Tryz.func94, fit94⟩
  · exact ⟨_, Tryz.func95, fit95⟩
  · exact ⟨_, Tryz.func96, fit96⟩
  · exact ⟨_, Tryz.func97, fit97⟩
  · exact ⟨_, Tryz.func99, fit99⟩
  · exact ⟨_, Tryz.func101, fit101⟩
  · exact ⟨_, Tryz.func102, fit102⟩
  · exact ⟨_, Tryz.func103, fit103⟩
  · exact ⟨_, Tryz.func104, fit104⟩
  · exact ⟨_, Tryz.func105, fit105⟩
  · exact ⟨_, Tryz.func108, fit108⟩
  · exact ⟨_, Tryz.func109, fit109⟩
  · exact ⟨_, Tryz.func112, fit112⟩
  · exact ⟨_, Tryz.func113, fit113⟩
  · exact ⟨_, Tryz.func114, fit114⟩
  · exact ⟨_, Tryz.func115, fit115⟩
  · exact ⟨_, Tryz.func116, fit116⟩
  · exact ⟨_, Tryz.func117, fit117⟩
  · exact ⟨_, Tryz.func118, fit118⟩
  · exact ⟨_, Tryz.func119, fit119⟩
  · exact ⟨_, Tryz.func120, fit120⟩
  · exact ⟨_, Tryz.func121, fit121⟩
  · exact ⟨_, Tryz.func122, fit122⟩
  · exact ⟨_, Tryz.func123, fit123⟩
  · exact ⟨_, Tryz.func124, fit124⟩
  · exact ⟨_, Tryz.func128, fit128⟩
  · exact ⟨_, Tryz.func129, fit129⟩
  · exact ⟨_, Tryz.func130, fit130⟩
  · exact ⟨_, Tryz.func131, fit131⟩
  · exact ⟨_, Tryz.func132, fit132⟩
  · exact ⟨_, Tryz.func133, fit133⟩
  · exact ⟨_, Tryz.func134, fit134⟩
  · exact ⟨_, Tryz.func135, fit135⟩
  · exact ⟨_, Tryz.func136, fit136⟩
  · exact ⟨_, Tryz.func137, fit137⟩
  · exact ⟨_, Tryz.func138, fit138⟩
  · exact ⟨_, Tryz.func139, fit139⟩
  · exact ⟨_, Tryz.func140, fit140⟩
  · exact ⟨_, Tryz.func143, fit143⟩
  · exact ⟨_, Tryz.func144, fit144⟩
  · exact ⟨_, Tryz.func145, fit145⟩
  · exact ⟨_, Tryz.func146, fit146⟩
  · exact ⟨_, Tryz.func147, fit147⟩
  · exact ⟨_, Tryz.func148, fit148⟩
  · exact ⟨_, Tryz.func149, fit149⟩
  · exact ⟨_, Tryz.func153, fit153⟩
  · exact ⟨_, Tryz.func154, fit154⟩
  · exact ⟨_, Tryz.func155, fit155⟩
  · exact ⟨_, Tryz.func156, fit156⟩
  · exact ⟨_, Tryz.func157, fit157⟩
  · exact ⟨_, Tryz.func159, fit159⟩
  · exact ⟨_, Tryz.func160, fit160⟩
  · exact ⟨_, Tryz.func161, fit161⟩
  · exact ⟨_, Tryz.func162, fit162⟩
  · exact ⟨_, Tryz.func163, fit163⟩
  · exact ⟨_, Tryz.func168, fit168⟩
  · exact ⟨_, Tryz.func169, fit169⟩
  · exact ⟨_, Tryz.func170, fit170⟩
  · exact ⟨_, Tryz.func171, fit171⟩
  · exact ⟨_, Tryz.func172, fit172⟩
  · exact ⟨_, Tryz.func173, fit173⟩
  · exact ⟨_, Tryz.func174, fit174⟩
  · exact ⟨_, Tryz.func175, fit175⟩
  · exact ⟨_, Tryz.func176, fit176⟩
  · exact ⟨_, Tryz.func177, fit177⟩
  · exact ⟨_, Tryz.func178, fit178⟩
  · exact ⟨_, Tryz.func179, fit179⟩
  · exact ⟨_, Tryz.func180, fit180⟩
  · exact ⟨_, Tryz.func182, fit182⟩
  · exact ⟨_, Tryz.func183, fit183⟩
  · exact ⟨_, Tryz.func184, fit184⟩
  · exact ⟨_, Tryz.func185, fit185⟩
  · exact ⟨_, Tryz.func186, fit186⟩
  · exact ⟨_, Tryz.func187, fit187⟩
  · exact ⟨_, Tryz.func188, fit188⟩
  · exact ⟨_, Tryz.func189, fit189⟩
  · exact ⟨_, Tryz.func190, fit190⟩
  · exact ⟨_, Tryz.func191, fit191⟩

end Go.Proofs.YtfgedlbkgcejhaaGreat.AM
