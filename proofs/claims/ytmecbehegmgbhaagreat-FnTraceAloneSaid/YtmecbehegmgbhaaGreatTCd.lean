/-
  The twins, in the abstract machine, of the functions that this claim reaches; by program (part 2). No condition.
-/
import Derived.Test.YtmecbehegmgbhaaGreatTC1
namespace Go.Proofs.YtmecbehegmgbhaaGreat.AM
set_option linter.unusedSimpArgs false
set_option linter.unusedVariables false
set_option maxRecDepth 100000
def tab : List (Nat × AFn) := [(5, c_wFnTraceKinds), (6, c_wFnTraceMore), (7, c_wFnTraceAlone), (8, c_wFnTraceOf), (9, c_wFnTraceRoom), (11, c_wFnTraceOut), (12, c_wFnTraceFifo), (13, c_wFnTraceItems), (16, c_sWorldNew), (21, c_wfirstInts), (27, c_sDrawWorldTrace), (28, c_iWorldTrace), (29, c_sWorldTrace), (30, c_wsameEvents), (31, c_iWordValid), (32, c_iWorldRun), (33, c_iTraceOf), (34, c_iTraceSent), (35, c_iTraceGot), (36, c_wsameInts), (37, c_iTraceOut), (38, c_sl92Wrong), (39, c_sl6Open), (43, c_sProgramValid), (44, c_sl16Empty), (45, c_sTaskNew), (58, c_sl6Rd_pick), (59, c_iWorldValid), (60, c_irunWorld), (61, c_iWorldTrace_1), (62, c_sWorldValid), (63, c_sl6In), (64, c_sl16Copy), (65, c_sl17Event), (66, c_sl16Step), (67, c_ivaluesOf), (68, c_iTraceSent_1), (69, c_iTraceGot_1), (70, c_iTraceOut_1), (71, c_sl92Program), (72, c_sl91Leaf), (74, c_istmtsValid), (76, c_istmtsCopy), (77, c_sl12Rooms), (78, c_sStmtsValid), (79, c_sl12Boxes), (80, c_sl11Copy), (85, c_iboxesCopy), (86, c_slices_Clone_int_int), (87, c_itakeTurns), (91, c_iturnsValid), (92, c_iboxesValid), (95, c_itaskValid), (96, c_inewRunning), (97, c_irunWorld_1), (98, c_irunning_step), (99, c_irunWorld_1_1), (100, c_irunning_task), (101, c_sl15Boxes), (102, c_sTaskValid), (103, c_sl4Words), (104, c_sl15BoxesCopy), (105, c_sl15Copy), (106, c_sTaskStep), (107, c_sl4Eval), (108, c_sNextTurn), (109, c_sl92Rooms), (110, c_sl92Stmts), (111, c_sl92Endless), (112, c_sl4Leaf), (113, c_iblockValid), (114, c_iexprCopy), (115, c_sl11Blocks), (116, c_sl11Count), (117, c_sl4Copy), (121, c_iNextTurn), (122, c_iapply), (123, c_iBox_put), (124, c_iBox_take), (126, c_iareWords), (127, c_iBoxValid), (130, c_iahead), (131, c_iexprEval), (132, c_sBoxValid), (133, c_sWordValid), (134, c_sl15Ready), (135, c_sl15Talk), (136, c_sl15Block), (137, c_sl15Set), (138, c_sApply), (139, c_sl92Block), (140, c_istmtValid), (141, c_sl11Ok), (142, c_sl4Both), (144, c_itruth), (145, c_iWrap), (150, c_sBoxPut), (151, c_sBoxTake), (152, c_sl15Ahead), (153, c_sOpValid), (154, c_sl2Flag), (155, c_sl2Shift), (156, c_sWrap), (157, c_sl2Divide), (158, c_sl2Remain), (159, c_sl92Stmt), (160, c_istmtValid_1), (161, c_iExprValid), (162, c_sl11Simple), (163, c_sl11Var), (164, c_sl11Box), (165, c_sExprValid), (167, c_iOpValid), (168, c_sl92Set), (169, c_sl92If), (170, c_sl92Loop), (171, c_sl92Talk), (172, c_sl91Expr), (173, c_iexprValid), (174, c_sl11Plain), (175, c_sl4Ok), (176, c_sl91Op)]
def Cd : FuncId → Option AFn := fun f => (tab.find? fun q => q.1 == f).map (·.2)
def NG : Nat := 0
theorem e_wFnTraceKinds : Cd f_wFnTraceKinds = some c_wFnTraceKinds := rfl
theorem fit5 : fitF Tryz.prog NG Tryz.f5 c_wFnTraceKinds = true := by kernel_rfl
theorem e_wFnTraceMore : Cd f_wFnTraceMore = some c_wFnTraceMore := rfl
theorem fit6 : fitF Tryz.prog NG Tryz.f6 c_wFnTraceMore = true := by kernel_rfl
theorem e_wFnTraceAlone : Cd f_wFnTraceAlone = some c_wFnTraceAlone := rfl
theorem fit7 : fitF Tryz.prog NG Tryz.f7 c_wFnTraceAlone = true := by kernel_rfl
theorem e_wFnTraceOf : Cd f_wFnTraceOf = some c_wFnTraceOf := rfl
theorem fit8 : fitF Tryz.prog NG Tryz.f8 c_wFnTraceOf = true := by kernel_rfl
theorem e_wFnTraceRoom : Cd f_wFnTraceRoom = some c_wFnTraceRoom := rfl
theorem fit9 : fitF Tryz.prog NG Tryz.f9 c_wFnTraceRoom = true := by kernel_rfl
theorem e_wFnTraceOut : Cd f_wFnTraceOut = some c_wFnTraceOut := rfl
theorem fit11 : fitF Tryz.prog NG Tryz.f11 c_wFnTraceOut = true := by kernel_rfl
theorem e_wFnTraceFifo : Cd f_wFnTraceFifo = some c_wFnTraceFifo := rfl
theorem fit12 : fitF Tryz.prog NG Tryz.f12 c_wFnTraceFifo = true := by kernel_rfl
theorem e_wFnTraceItems : Cd f_wFnTraceItems = some c_wFnTraceItems := rfl
theorem fit13 : fitF Tryz.prog NG Tryz.f13 c_wFnTraceItems = true := by kernel_rfl
theorem e_sWorldNew : Cd f_sWorldNew = some c_sWorldNew := rfl
theorem fit16 : fitF Tryz.prog NG Tryz.f16 c_sWorldNew = true := by kernel_rfl
theorem e_wfirstInts : Cd f_wfirstInts = some c_wfirstInts := rfl
theorem fit21 : fitF Tryz.prog NG Tryz.f21 c_wfirstInts = true := by kernel_rfl
theorem e_sDrawWorldTrace : Cd f_sDrawWorldTrace = some c_sDrawWorldTrace := rfl
theorem fit27 : fitF Tryz.prog NG Tryz.f27 c_sDrawWorldTrace = true := by kernel_rfl
theorem e_iWorldTrace : Cd f_iWorldTrace = some c_iWorldTrace := rfl
theorem fit28 : fitF Tryz.prog NG Tryz.f28 c_iWorldTrace = true := by kernel_rfl
theorem e_sWorldTrace : Cd f_sWorldTrace = some c_sWorldTrace := rfl
theorem fit29 : fitF Tryz.prog NG Tryz.f29 c_sWorldTrace = true := by kernel_rfl
theorem e_wsameEvents : Cd f_wsameEvents = some c_wsameEvents := rfl
theorem fit30 : fitF Tryz.prog NG Tryz.f30 c_wsameEvents = true := by kernel_rfl
theorem e_iWordValid : Cd f_iWordValid = some c_iWordValid := rfl
theorem fit31 : fitF Tryz.prog NG Tryz.f31 c_iWordValid = true := by kernel_rfl
theorem e_iWorldRun : Cd f_iWorldRun = some c_iWorldRun := rfl
theorem fit32 : fitF Tryz.prog NG Tryz.f32 c_iWorldRun = true := by kernel_rfl
theorem e_iTraceOf : Cd f_iTraceOf = some c_iTraceOf := rfl
theorem fit33 : fitF Tryz.prog NG Tryz.f33 c_iTraceOf = true := by kernel_rfl
theorem e_iTraceSent : Cd f_iTraceSent = some c_iTraceSent := rfl
theorem fit34 : fitF Tryz.prog NG Tryz.f34 c_iTraceSent = true := by kernel_rfl
theorem e_iTraceGot : Cd f_iTraceGot = some c_iTraceGot := rfl
theorem fit35 : fitF Tryz.prog NG Tryz.f35 c_iTraceGot = true := by kernel_rfl
theorem e_wsameInts : Cd f_wsameInts = some c_wsameInts := rfl
theorem fit36 : fitF Tryz.prog NG Tryz.f36 c_wsameInts = true := by kernel_rfl
theorem e_iTraceOut : Cd f_iTraceOut = some c_iTraceOut := rfl
theorem fit37 : fitF Tryz.prog NG Tryz.f37 c_iTraceOut = true := by kernel_rfl
theorem e_sl92Wrong : Cd f_sl92Wrong = some c_sl92Wrong := rfl
theorem fit38 : fitF Tryz.prog NG Tryz.f38 c_sl92Wrong = true := by kernel_rfl
theorem e_sl6Open : Cd f_sl6Open = some c_sl6Open := rfl
theorem fit39 : fitF Tryz.prog NG Tryz.f39 c_sl6Open = true := by kernel_rfl
theorem e_sProgramValid : Cd f_sProgramValid = some c_sProgramValid := rfl
theorem fit43 : fitF Tryz.prog NG Tryz.f43 c_sProgramValid = true := by kernel_rfl
theorem e_sl16Empty : Cd f_sl16Empty = some c_sl16Empty := rfl
theorem fit44 : fitF Tryz.prog NG Tryz.f44 c_sl16Empty = true := by kernel_rfl
theorem e_sTaskNew : Cd f_sTaskNew = some c_sTaskNew := rfl
theorem fit45 : fitF Tryz.prog NG Tryz.f45 c_sTaskNew = true := by kernel_rfl
theorem e_sl6Rd_pick : Cd f_sl6Rd_pick = some c_sl6Rd_pick := rfl
theorem fit58 : fitF Tryz.prog NG Tryz.f58 c_sl6Rd_pick = true := by kernel_rfl
theorem e_iWorldValid : Cd f_iWorldValid = some c_iWorldValid := rfl
theorem fit59 : fitF Tryz.prog NG Tryz.f59 c_iWorldValid = true := by kernel_rfl
theorem e_irunWorld : Cd f_irunWorld = some c_irunWorld := rfl
theorem fit60 : fitF Tryz.prog NG Tryz.f60 c_irunWorld = true := by kernel_rfl
theorem e_iWorldTrace_1 : Cd f_iWorldTrace_1 = some c_iWorldTrace_1 := rfl
theorem fit61 : fitF Tryz.prog NG Tryz.f61 c_iWorldTrace_1 = true := by kernel_rfl
theorem e_sWorldValid : Cd f_sWorldValid = some c_sWorldValid := rfl
theorem fit62 : fitF Tryz.prog NG Tryz.f62 c_sWorldValid = true := by kernel_rfl
theorem e_sl6In : Cd f_sl6In = some c_sl6In := rfl
theorem fit63 : fitF Tryz.prog NG Tryz.f63 c_sl6In = true := by kernel_rfl
theorem e_sl16Copy : Cd f_sl16Copy = some c_sl16Copy := rfl
theorem fit64 : fitF Tryz.prog NG Tryz.f64 c_sl16Copy = true := by kernel_rfl
theorem e_sl17Event : Cd f_sl17Event = some c_sl17Event := rfl
theorem fit65 : fitF Tryz.prog NG Tryz.f65 c_sl17Event = true := by kernel_rfl
theorem e_sl16Step : Cd f_sl16Step = some c_sl16Step := rfl
theorem fit66 : fitF Tryz.prog NG Tryz.f66 c_sl16Step = true := by kernel_rfl
theorem e_ivaluesOf : Cd f_ivaluesOf = some c_ivaluesOf := rfl
theorem fit67 : fitF Tryz.prog NG Tryz.f67 c_ivaluesOf = true := by kernel_rfl
theorem e_iTraceSent_1 : Cd f_iTraceSent_1 = some c_iTraceSent_1 := rfl
theorem fit68 : fitF Tryz.prog NG Tryz.f68 c_iTraceSent_1 = true := by kernel_rfl
theorem e_iTraceGot_1 : Cd f_iTraceGot_1 = some c_iTraceGot_1 := rfl
theorem fit69 : fitF Tryz.prog NG Tryz.f69 c_iTraceGot_1 = true := by kernel_rfl
theorem e_iTraceOut_1 : Cd f_iTraceOut_1 = some c_iTraceOut_1 := rfl
theorem fit70 : fitF Tryz.prog NG Tryz.f70 c_iTraceOut_1 = true := by kernel_rfl
theorem e_sl92Program : Cd f_sl92Program = some c_sl92Program := rfl
theorem fit71 : fitF Tryz.prog NG Tryz.f71 c_sl92Program = true := by kernel_rfl
theorem e_sl91Leaf : Cd f_sl91Leaf = some c_sl91Leaf := rfl
theorem fit72 : fitF Tryz.prog NG Tryz.f72 c_sl91Leaf = true := by kernel_rfl
theorem e_istmtsValid : Cd f_istmtsValid = some c_istmtsValid := rfl
theorem fit74 : fitF Tryz.prog NG Tryz.f74 c_istmtsValid = true := by kernel_rfl
theorem e_istmtsCopy : Cd f_istmtsCopy = some c_istmtsCopy := rfl
theorem fit76 : fitF Tryz.prog NG Tryz.f76 c_istmtsCopy = true := by kernel_rfl
theorem e_sl12Rooms : Cd f_sl12Rooms = some c_sl12Rooms := rfl
theorem fit77 : fitF Tryz.prog NG Tryz.f77 c_sl12Rooms = true := by kernel_rfl
theorem e_sStmtsValid : Cd f_sStmtsValid = some c_sStmtsValid := rfl
theorem fit78 : fitF Tryz.prog NG Tryz.f78 c_sStmtsValid = true := by kernel_rfl
theorem e_sl12Boxes : Cd f_sl12Boxes = some c_sl12Boxes := rfl
theorem fit79 : fitF Tryz.prog NG Tryz.f79 c_sl12Boxes = true := by kernel_rfl
theorem e_sl11Copy : Cd f_sl11Copy = some c_sl11Copy := rfl
theorem fit80 : fitF Tryz.prog NG Tryz.f80 c_sl11Copy = true := by kernel_rfl
theorem e_iboxesCopy : Cd f_iboxesCopy = some c_iboxesCopy := rfl
theorem fit85 : fitF Tryz.prog NG Tryz.f85 c_iboxesCopy = true := by kernel_rfl
theorem e_slices_Clone_int_int : Cd f_slices_Clone_int_int = some c_slices_Clone_int_int := rfl
theorem fit86 : fitF Tryz.prog NG Tryz.f86 c_slices_Clone_int_int = true := by kernel_rfl
theorem e_itakeTurns : Cd f_itakeTurns = some c_itakeTurns := rfl
theorem fit87 : fitF Tryz.prog NG Tryz.f87 c_itakeTurns = true := by kernel_rfl
theorem e_iturnsValid : Cd f_iturnsValid = some c_iturnsValid := rfl
theorem fit91 : fitF Tryz.prog NG Tryz.f91 c_iturnsValid = true := by kernel_rfl
theorem e_iboxesValid : Cd f_iboxesValid = some c_iboxesValid := rfl
theorem fit92 : fitF Tryz.prog NG Tryz.f92 c_iboxesValid = true := by kernel_rfl
theorem e_itaskValid : Cd f_itaskValid = some c_itaskValid := rfl
theorem fit95 : fitF Tryz.prog NG Tryz.f95 c_itaskValid = true := by kernel_rfl
theorem e_inewRunning : Cd f_inewRunning = some c_inewRunning := rfl
theorem fit96 : fitF Tryz.prog NG Tryz.f96 c_inewRunning = true := by kernel_rfl
theorem e_irunWorld_1 : Cd f_irunWorld_1 = some c_irunWorld_1 := rfl
theorem fit97 : fitF Tryz.prog NG Tryz.f97 c_irunWorld_1 = true := by kernel_rfl
theorem e_irunning_step : Cd f_irunning_step = some c_irunning_step := rfl
theorem fit98 : fitF Tryz.prog NG Tryz.f98 c_irunning_step = true := by kernel_rfl
theorem e_irunWorld_1_1 : Cd f_irunWorld_1_1 = some c_irunWorld_1_1 := rfl
theorem fit99 : fitF Tryz.prog NG Tryz.f99 c_irunWorld_1_1 = true := by kernel_rfl
theorem e_irunning_task : Cd f_irunning_task = some c_irunning_task := rfl
theorem fit100 : fitF Tryz.prog NG Tryz.f100 c_irunning_task = true := by kernel_rfl
theorem e_sl15Boxes : Cd f_sl15Boxes = some c_sl15Boxes := rfl
theorem fit101 : fitF Tryz.prog NG Tryz.f101 c_sl15Boxes = true := by kernel_rfl
theorem e_sTaskValid : Cd f_sTaskValid = some c_sTaskValid := rfl
theorem fit102 : fitF Tryz.prog NG Tryz.f102 c_sTaskValid = true := by kernel_rfl
theorem e_sl4Words : Cd f_sl4Words = some c_sl4Words := rfl
theorem fit103 : fitF Tryz.prog NG Tryz.f103 c_sl4Words = true := by kernel_rfl
theorem e_sl15BoxesCopy : Cd f_sl15BoxesCopy = some c_sl15BoxesCopy := rfl
theorem fit104 : fitF Tryz.prog NG Tryz.f104 c_sl15BoxesCopy = true := by kernel_rfl
theorem e_sl15Copy : Cd f_sl15Copy = some c_sl15Copy := rfl
theorem fit105 : fitF Tryz.prog NG Tryz.f105 c_sl15Copy = true := by kernel_rfl
theorem e_sTaskStep : Cd f_sTaskStep = some c_sTaskStep := rfl
theorem fit106 : fitF Tryz.prog NG Tryz.f106 c_sTaskStep = true := by kernel_rfl
theorem e_sl4Eval : Cd f_sl4Eval = some c_sl4Eval := rfl
theorem fit107 : fitF Tryz.prog NG Tryz.f107 c_sl4Eval = true := by kernel_rfl
theorem e_sNextTurn : Cd f_sNextTurn = some c_sNextTurn := rfl
theorem fit108 : fitF Tryz.prog NG Tryz.f108 c_sNextTurn = true := by kernel_rfl
theorem e_sl92Rooms : Cd f_sl92Rooms = some c_sl92Rooms := rfl
theorem fit109 : fitF Tryz.prog NG Tryz.f109 c_sl92Rooms = true := by kernel_rfl
theorem e_sl92Stmts : Cd f_sl92Stmts = some c_sl92Stmts := rfl
theorem fit110 : fitF Tryz.prog NG Tryz.f110 c_sl92Stmts = true := by kernel_rfl
theorem e_sl92Endless : Cd f_sl92Endless = some c_sl92Endless := rfl
theorem fit111 : fitF Tryz.prog NG Tryz.f111 c_sl92Endless = true := by kernel_rfl
theorem e_sl4Leaf : Cd f_sl4Leaf = some c_sl4Leaf := rfl
theorem fit112 : fitF Tryz.prog NG Tryz.f112 c_sl4Leaf = true := by kernel_rfl
theorem e_iblockValid : Cd f_iblockValid = some c_iblockValid := rfl
theorem fit113 : fitF Tryz.prog NG Tryz.f113 c_iblockValid = true := by kernel_rfl
theorem e_iexprCopy : Cd f_iexprCopy = some c_iexprCopy := rfl
theorem fit114 : fitF Tryz.prog NG Tryz.f114 c_iexprCopy = true := by kernel_rfl
theorem e_sl11Blocks : Cd f_sl11Blocks = some c_sl11Blocks := rfl
theorem fit115 : fitF Tryz.prog NG Tryz.f115 c_sl11Blocks = true := by kernel_rfl
theorem e_sl11Count : Cd f_sl11Count = some c_sl11Count := rfl
theorem fit116 : fitF Tryz.prog NG Tryz.f116 c_sl11Count = true := by kernel_rfl
theorem e_sl4Copy : Cd f_sl4Copy = some c_sl4Copy := rfl
theorem fit117 : fitF Tryz.prog NG Tryz.f117 c_sl4Copy = true := by kernel_rfl
theorem e_iNextTurn : Cd f_iNextTurn = some c_iNextTurn := rfl
theorem fit121 : fitF Tryz.prog NG Tryz.f121 c_iNextTurn = true := by kernel_rfl
theorem e_iapply : Cd f_iapply = some c_iapply := rfl
theorem fit122 : fitF Tryz.prog NG Tryz.f122 c_iapply = true := by kernel_rfl
theorem e_iBox_put : Cd f_iBox_put = some c_iBox_put := rfl
theorem fit123 : fitF Tryz.prog NG Tryz.f123 c_iBox_put = true := by kernel_rfl
theorem e_iBox_take : Cd f_iBox_take = some c_iBox_take := rfl
theorem fit124 : fitF Tryz.prog NG Tryz.f124 c_iBox_take = true := by kernel_rfl
theorem e_iareWords : Cd f_iareWords = some c_iareWords := rfl
theorem fit126 : fitF Tryz.prog NG Tryz.f126 c_iareWords = true := by kernel_rfl
theorem e_iBoxValid : Cd f_iBoxValid = some c_iBoxValid := rfl
theorem fit127 : fitF Tryz.prog NG Tryz.f127 c_iBoxValid = true := by kernel_rfl
theorem e_iahead : Cd f_iahead = some c_iahead := rfl
theorem fit130 : fitF Tryz.prog NG Tryz.f130 c_iahead = true := by kernel_rfl
theorem e_iexprEval : Cd f_iexprEval = some c_iexprEval := rfl
theorem fit131 : fitF Tryz.prog NG Tryz.f131 c_iexprEval = true := by kernel_rfl
theorem e_sBoxValid : Cd f_sBoxValid = some c_sBoxValid := rfl
theorem fit132 : fitF Tryz.prog NG Tryz.f132 c_sBoxValid = true := by kernel_rfl
theorem e_sWordValid : Cd f_sWordValid = some c_sWordValid := rfl
theorem fit133 : fitF Tryz.prog NG Tryz.f133 c_sWordValid = true := by kernel_rfl
theorem e_sl15Ready : Cd f_sl15Ready = some c_sl15Ready := rfl
theorem fit134 : fitF Tryz.prog NG Tryz.f134 c_sl15Ready = true := by kernel_rfl
theorem e_sl15Talk : Cd f_sl15Talk = some c_sl15Talk := rfl
theorem fit135 : fitF Tryz.prog NG Tryz.f135 c_sl15Talk = true := by kernel_rfl
theorem e_sl15Block : Cd f_sl15Block = some c_sl15Block := rfl
theorem fit136 : fitF Tryz.prog NG Tryz.f136 c_sl15Block = true := by kernel_rfl
theorem e_sl15Set : Cd f_sl15Set = some c_sl15Set := rfl
theorem fit137 : fitF Tryz.prog NG Tryz.f137 c_sl15Set = true := by kernel_rfl
theorem e_sApply : Cd f_sApply = some c_sApply := rfl
theorem fit138 : fitF Tryz.prog NG Tryz.f138 c_sApply = true := by kernel_rfl
theorem e_sl92Block : Cd f_sl92Block = some c_sl92Block := rfl
theorem fit139 : fitF Tryz.prog NG Tryz.f139 c_sl92Block = true := by kernel_rfl
theorem e_istmtValid : Cd f_istmtValid = some c_istmtValid := rfl
theorem fit140 : fitF Tryz.prog NG Tryz.f140 c_istmtValid = true := by kernel_rfl
theorem e_sl11Ok : Cd f_sl11Ok = some c_sl11Ok := rfl
theorem fit141 : fitF Tryz.prog NG Tryz.f141 c_sl11Ok = true := by kernel_rfl
theorem e_sl4Both : Cd f_sl4Both = some c_sl4Both := rfl
theorem fit142 : fitF Tryz.prog NG Tryz.f142 c_sl4Both = true := by kernel_rfl
theorem e_itruth : Cd f_itruth = some c_itruth := rfl
theorem fit144 : fitF Tryz.prog NG Tryz.f144 c_itruth = true := by kernel_rfl
theorem e_iWrap : Cd f_iWrap = some c_iWrap := rfl
theorem fit145 : fitF Tryz.prog NG Tryz.f145 c_iWrap = true := by kernel_rfl
theorem e_sBoxPut : Cd f_sBoxPut = some c_sBoxPut := rfl
theorem fit150 : fitF Tryz.prog NG Tryz.f150 c_sBoxPut = true := by kernel_rfl
theorem e_sBoxTake : Cd f_sBoxTake = some c_sBoxTake := rfl
theorem fit151 : fitF Tryz.prog NG Tryz.f151 c_sBoxTake = true := by kernel_rfl
theorem e_sl15Ahead : Cd f_sl15Ahead = some c_sl15Ahead := rfl
theorem fit152 : fitF Tryz.prog NG Tryz.f152 c_sl15Ahead = true := by kernel_rfl
theorem e_sOpValid : Cd f_sOpValid = some c_sOpValid := rfl
theorem fit153 : fitF Tryz.prog NG Tryz.f153 c_sOpValid = true := by kernel_rfl
theorem e_sl2Flag : Cd f_sl2Flag = some c_sl2Flag := rfl
theorem fit154 : fitF Tryz.prog NG Tryz.f154 c_sl2Flag = true := by kernel_rfl
theorem e_sl2Shift : Cd f_sl2Shift = some c_sl2Shift := rfl
theorem fit155 : fitF Tryz.prog NG Tryz.f155 c_sl2Shift = true := by kernel_rfl
theorem e_sWrap : Cd f_sWrap = some c_sWrap := rfl
theorem fit156 : fitF Tryz.prog NG Tryz.f156 c_sWrap = true := by kernel_rfl
theorem e_sl2Divide : Cd f_sl2Divide = some c_sl2Divide := rfl
theorem fit157 : fitF Tryz.prog NG Tryz.f157 c_sl2Divide = true := by kernel_rfl
theorem e_sl2Remain : Cd f_sl2Remain = some c_sl2Remain := rfl
theorem fit158 : fitF Tryz.prog NG Tryz.f158 c_sl2Remain = true := by kernel_rfl
theorem e_sl92Stmt : Cd f_sl92Stmt = some c_sl92Stmt := rfl
theorem fit159 : fitF Tryz.prog NG Tryz.f159 c_sl92Stmt = true := by kernel_rfl
theorem e_istmtValid_1 : Cd f_istmtValid_1 = some c_istmtValid_1 := rfl
theorem fit160 : fitF Tryz.prog NG Tryz.f160 c_istmtValid_1 = true := by kernel_rfl
theorem e_iExprValid : Cd f_iExprValid = some c_iExprValid := rfl
theorem fit161 : fitF Tryz.prog NG Tryz.f161 c_iExprValid = true := by kernel_rfl
theorem e_sl11Simple : Cd f_sl11Simple = some c_sl11Simple := rfl
theorem fit162 : fitF Tryz.prog NG Tryz.f162 c_sl11Simple = true := by kernel_rfl
theorem e_sl11Var : Cd f_sl11Var = some c_sl11Var := rfl
theorem fit163 : fitF Tryz.prog NG Tryz.f163 c_sl11Var = true := by kernel_rfl
theorem e_sl11Box : Cd f_sl11Box = some c_sl11Box := rfl
theorem fit164 : fitF Tryz.prog NG Tryz.f164 c_sl11Box = true := by kernel_rfl
theorem e_sExprValid : Cd f_sExprValid = some c_sExprValid := rfl
theorem fit165 : fitF Tryz.prog NG Tryz.f165 c_sExprValid = true := by kernel_rfl
theorem e_iOpValid : Cd f_iOpValid = some c_iOpValid := rfl
theorem fit167 : fitF Tryz.prog NG Tryz.f167 c_iOpValid = true := by kernel_rfl
theorem e_sl92Set : Cd f_sl92Set = some c_sl92Set := rfl
theorem fit168 : fitF Tryz.prog NG Tryz.f168 c_sl92Set = true := by kernel_rfl
theorem e_sl92If : Cd f_sl92If = some c_sl92If := rfl
theorem fit169 : fitF Tryz.prog NG Tryz.f169 c_sl92If = true := by kernel_rfl
theorem e_sl92Loop : Cd f_sl92Loop = some c_sl92Loop := rfl
theorem fit170 : fitF Tryz.prog NG Tryz.f170 c_sl92Loop = true := by kernel_rfl
theorem e_sl92Talk : Cd f_sl92Talk = some c_sl92Talk := rfl
theorem fit171 : fitF Tryz.prog NG Tryz.f171 c_sl92Talk = true := by kernel_rfl
theorem e_sl91Expr : Cd f_sl91Expr = some c_sl91Expr := rfl
theorem fit172 : fitF Tryz.prog NG Tryz.f172 c_sl91Expr = true := by kernel_rfl
theorem e_iexprValid : Cd f_iexprValid = some c_iexprValid := rfl
theorem fit173 : fitF Tryz.prog NG Tryz.f173 c_iexprValid = true := by kernel_rfl
theorem e_sl11Plain : Cd f_sl11Plain = some c_sl11Plain := rfl
theorem fit174 : fitF Tryz.prog NG Tryz.f174 c_sl11Plain = true := by kernel_rfl
theorem e_sl4Ok : Cd f_sl4Ok = some c_sl4Ok := rfl
theorem fit175 : fitF Tryz.prog NG Tryz.f175 c_sl4Ok = true := by kernel_rfl
theorem e_sl91Op : Cd f_sl91Op = some c_sl91Op := rfl
theorem fit176 : fitF Tryz.prog NG Tryz.f176 c_sl91Op = true := by kernel_rfl
theorem fits : Fits Tryz.prog NG Cd := by
  intro f a h
  unfold Cd at h
  obtain ⟨q, hq, e⟩ := map_some h
  have hm := List.mem_of_find?_eq_some hq
  have hp := List.find?_some hq
  simp only [beq_iff_eq] at hp
  subst hp e
  simp only [tab, List.mem_cons, List.not_mem_nil, or_false] at hm
  rcases hm with rfl | rfl | rfl | rfl | rfl | rfl | rfl | rfl | rfl | rfl | rfl | rfl | rfl | rfl | rfl | rfl | rfl | rfl | rfl | rfl | rfl | rfl | rfl | rfl | rfl | rfl | rfl | rfl | rfl | rfl | rfl | rfl | rfl | rfl | rfl | rfl | rfl | rfl | rfl | rfl | rfl | rfl | rfl | rfl | rfl | rfl | rfl | rfl | rfl | rfl | rfl | rfl | rfl | rfl | rfl | rfl | rfl | rfl | rfl | rfl | rfl | rfl | rfl | rfl | rfl | rfl | rfl | rfl | rfl | rfl | rfl | rfl | rfl | rfl | rfl | rfl | rfl | rfl | rfl | rfl | rfl | rfl | rfl | rfl | rfl | rfl | rfl | rfl | rfl | rfl | rfl | rfl | rfl | rfl | rfl | rfl | rfl | rfl | rfl | rfl | rfl | rfl | rfl | rfl | rfl | rfl | rfl | rfl | rfl | rfl | rfl | rfl | rfl | rfl | rfl | rfl | rfl | rfl | rfl | rfl | rfl | rfl
  · exact ⟨_, Tryz.func5, fit5⟩
  · exact ⟨_, Tryz.func6, fit6⟩
  · exact ⟨_, Tryz.func7, fit7⟩
  · exact ⟨_, Tryz.func8, fit8⟩
  · exact ⟨_, Tryz.func9, fit9⟩
  · exact ⟨_, Tryz.func11, fit11⟩
  · exact ⟨_, Tryz.func12, fit12⟩
  · exact ⟨_, Tryz.func13, fit13⟩
  · exact ⟨_, Tryz.func16, fit16⟩
  · exact ⟨_, Tryz.func21, fit21⟩
  · exact ⟨_, Tryz.func27, fit27⟩
  · exact ⟨_, Tryz.func28, fit28⟩
  · exact ⟨_, Tryz.func29, fit29⟩
  · exact ⟨_, Tryz.func30, fit30⟩
  · exact ⟨_, Tryz.func31, fit31⟩
  · exact ⟨_, Tryz.func32, fit32⟩
  · exact ⟨_, Tryz.func33, fit33⟩
  · exact ⟨_, Tryz.func34, fit34⟩
  · exact ⟨_, Tryz.func35, fit35⟩
  · exact ⟨_, Tryz.func36, fit36⟩
  · exact ⟨_, Tryz.func37, fit37⟩
  · exact ⟨_, Tryz.func38, fit38⟩
  · exact ⟨_, Tryz.func39, fit39⟩
  · exact ⟨_, Tryz.func43, fit43⟩
  · exact ⟨_, Tryz.func44, fit44⟩
  · exact ⟨_, Tryz.func45, fit45⟩
  · exact ⟨_, Tryz.func58, fit58⟩
  · exact ⟨_, Tryz.func59, fit59⟩
  · exact ⟨_, Tryz.func60, fit60⟩
  · exact ⟨_, Tryz.func61, fit61⟩
  · exact ⟨_, Tryz.func62, fit62⟩
  · exact ⟨_, Tryz.func63, fit63⟩
  · exact ⟨_, Tryz.func64, fit64⟩
  · exact ⟨_, Tryz.func65, fit65⟩
  · exact ⟨_, Tryz.func66, fit66⟩
  · exact ⟨_, Tryz.func67, fit67⟩
  · exact ⟨_, Tryz.func68, fit68⟩
  · exact ⟨_, Tryz.func69, fit69⟩
  · exact ⟨_, Tryz.func70, fit70⟩
  · exact ⟨_, Tryz.func71, fit71⟩
  · exact ⟨_, Tryz.func72, fit72⟩
  · exact ⟨_, Tryz.func74, fit74⟩
  · exact ⟨_, Tryz.func76, fit76⟩
  · exact ⟨_, Tryz.func77, fit77⟩
  · exact ⟨_, Tryz.func78, fit78⟩
  · exact ⟨_, Tryz.func79, fit79⟩
  · exact ⟨_, Tryz.func80, fit80⟩
  · exact ⟨_, Tryz.func85, fit85⟩
  · exact ⟨_, Tryz.func86, fit86⟩
  · exact ⟨_, Tryz.func87, fit87⟩
  · exact ⟨_, Tryz.func91, fit91⟩
  · exact ⟨_, Tryz.func92, fit92⟩
  · exact ⟨_, Tryz.func95, fit95⟩
  · exact ⟨_, Tryz.func96, fit96⟩
  · exact ⟨_, Tryz.func97, fit97⟩
  · exact ⟨_, Tryz.func98, fit98⟩
  · exact ⟨_, Tryz.func99, fit99⟩
  · exact ⟨_, Tryz.func100, fit100⟩
  · exact ⟨_, Tryz.func101, fit101⟩
  · exact ⟨_, Tryz.func102, fit102⟩
  · exact ⟨_, Tryz.func103, fit103⟩
  · exact ⟨_, Tryz.func104, fit104⟩
  · exact ⟨_, Tryz.func105, fit105⟩
  · exact ⟨_, Tryz.func106, fit106⟩
  · exact ⟨_, Tryz.func107, fit107⟩
  · exact ⟨_, Tryz.func108, fit108⟩
  · exact ⟨_, Tryz.func109, fit109⟩
  · exact ⟨_, Tryz.func110, fit110⟩
  · exact ⟨_, Tryz.func111, fit111⟩
  · exact ⟨_, Tryz.func112, fit112⟩
  · exact ⟨_, Tryz.func113, fit113⟩
  · exact ⟨_, Tryz.func114, fit114⟩
  · exact ⟨_, Tryz.func115, fit115⟩
  · exact ⟨_, Tryz.func116, fit116⟩
  · exact ⟨_, Tryz.func117, fit117⟩
  · exact ⟨_, Tryz.func121, fit121⟩
  · exact ⟨_, Tryz.func122, fit122⟩
  · exact ⟨_, Tryz.func123, fit123⟩
  · exact ⟨_, Tryz.func124, fit124⟩
  · exact ⟨_, Tryz.func126, fit126⟩
  · exact ⟨_, Tryz.func127, fit127⟩
  · exact ⟨_, Tryz.func130, fit130⟩
  · exact ⟨_, Tryz.func131, fit131⟩
  · exact ⟨_, Tryz.func132, fit132⟩
  · exact ⟨_, Tryz.func133, fit133⟩
  · exact ⟨_, Tryz.func134, fit134⟩
  · exact ⟨_, Tryz.func135, fit135⟩
  · exact ⟨_, Tryz.func136, fit136⟩
  · exact ⟨_, Tryz.func137, fit137⟩
  · exact ⟨_, Tryz.func138, fit138⟩
  · exact ⟨_, Tryz.func139, fit139⟩
  · exact ⟨_, Tryz.func140, fit140⟩
  · exact ⟨_, Tryz.func141, fit141⟩
  · exact ⟨_, Tryz.func142, fit142⟩
  · exact ⟨_, Tryz.func144, fit144⟩
  · exact ⟨_, Tryz.func145, fit145⟩
  · exact ⟨_, Tryz.func150, fit150⟩
  · exact ⟨_, Tryz.func151, fit151⟩
  · exact ⟨_, Tryz.func152, fit152⟩
  · exact ⟨_, Tryz.func153, fit153⟩
  · exact ⟨_, Tryz.func154, fit154⟩
  · exact ⟨_, Tryz.func155, fit155⟩
  · exact ⟨_, Tryz.func156, fit156⟩
  · exact ⟨_, Tryz.func157, fit157⟩
  · exact ⟨_, Tryz.func158, fit158⟩
  · exact ⟨_, Tryz.func159, fit159⟩
  · exact ⟨_, Tryz.func160, fit160⟩
  · exact ⟨_, Tryz.func161, fit161⟩
  · exact ⟨_, Tryz.func162, fit162⟩
  · exact ⟨_, Tryz.func163, fit163⟩
  · exact ⟨_, Tryz.func164, fit164⟩
  · exact ⟨_, Tryz.func165, fit165⟩
  · exact ⟨_, Tryz.func167, fit167⟩
  · exact ⟨_, Tryz.func168, fit168⟩
  · exact ⟨_, Tryz.func169, fit169⟩
  · exact ⟨_, Tryz.func170, fit170⟩
  · exact ⟨_, Tryz.func171, fit171⟩
  · exact ⟨_, Tryz.func172, fit172⟩
  · exact ⟨_, Tryz.func173, fit173⟩
  · exact ⟨_, Tryz.func174, fit174⟩
  · exact ⟨_, Tryz.func175, fit175⟩
  · exact ⟨_, Tryz.func176, fit176⟩

end Go.Proofs.YtmecbehegmgbhaaGreat.AM
