/-
  The twins, in the abstract machine, of the functions that this claim reaches; by program (part 2). No condition.
-/
import Derived.Test.YtmecbehegmgbhaaRC1
namespace Go.Proofs.Ytmecbehegmgbhaa.AM
set_option linter.unusedSimpArgs false
set_option linter.unusedVariables false
set_option maxRecDepth 100000
def tab : List (Nat × AFn) := [(10, c_wFnWorldNames), (11, c_wFnTraceFold), (12, c_wFnWorldFold), (20, c_wsameInts), (21, c_sDrawWorldNew), (22, c_iWorldNew), (23, c_sWorldNew), (24, c_wsameWorld), (25, c_iWorldRun), (27, c_wrestOf), (28, c_iWorldTrace), (29, c_wsameEvents), (32, c_wsameOutcome), (33, c_wotherVars), (34, c_iProgramValid), (35, c_iProgramFold), (36, c_sl6Open), (38, c_sl6Rd_pick), (39, c_iExprValid), (42, c_sExprValid), (43, c_sl6In), (47, c_iareWords), (48, c_iexprEval), (50, c_iboxesValid), (52, c_slices_Clone_int_int), (53, c_iboxesCopy), (55, c_sl92Wrong), (56, c_iboxesNew), (57, c_iTaskNew), (58, c_sProgramValid), (59, c_sl16Empty), (60, c_sTaskNew), (61, c_wsameTask), (62, c_wsameBoxes), (63, c_iWorldValid), (64, c_irunWorld), (66, c_inewRunning), (67, c_irunning_step), (69, c_irunning_task), (70, c_iWorldOutcome), (71, c_iWorldTrace_1), (75, c_wsameLists), (76, c_wsameFlags), (77, c_wotherExpr), (78, c_iroomsValid), (79, c_istmtsValid), (80, c_istmtsFold), (81, c_sl91Expr), (82, c_sl91Leaf), (83, c_sl4Both), (84, c_sl91Op), (85, c_sl4Leaf), (86, c_iexprValid), (87, c_sl4Ok), (89, c_iWordValid), (90, c_iapply), (93, c_iBoxValid), (94, c_iBox_put), (95, c_iBox_take), (96, c_sl92Program), (97, c_iStmtsValid), (98, c_istmtsCopy), (99, c_sl12Rooms), (100, c_sStmtsValid), (101, c_sl12Boxes), (102, c_sl11Copy), (103, c_wsameStmts), (104, c_wsameBox), (105, c_iturnsValid), (106, c_itaskValid), (107, c_itakeTurns), (108, c_irunWorld_1), (109, c_irunWorld_1_1), (110, c_iahead), (111, c_ioutcomeOf), (115, c_wboth), (116, c_iblockValid), (117, c_iexprFold), (118, c_iOpValid), (119, c_sOpValid), (121, c_itruth), (122, c_iWrap), (124, c_sl92Rooms), (125, c_sl92Stmts), (126, c_sl92Endless), (127, c_iexprCopy), (128, c_sl11Blocks), (129, c_sl11Count), (130, c_sl4Copy), (131, c_wsameExpr), (132, c_iNextTurn), (134, c_istmtValid), (136, c_sl92Block), (137, c_sl11Ok), (138, c_istmtValid_1), (139, c_sl92Stmt), (140, c_sl11Simple), (141, c_sl11Var), (142, c_sl11Box), (143, c_sl92Set), (144, c_sl92If), (145, c_sl92Loop), (146, c_sl92Talk), (147, c_sl11Plain)]
def Cd : FuncId → Option AFn := fun f => (tab.find? fun q => q.1 == f).map (·.2)
def NG : Nat := 0
theorem e_wFnWorldNames : Cd f_wFnWorldNames = some c_wFnWorldNames := rfl
theorem fit10 : fitF Try.prog NG Try.f10 c_wFnWorldNames = true := by kernel_rfl
theorem e_wFnTraceFold : Cd f_wFnTraceFold = some c_wFnTraceFold := rfl
theorem fit11 : fitF Try.prog NG Try.f11 c_wFnTraceFold = true := by kernel_rfl
theorem e_wFnWorldFold : Cd f_wFnWorldFold = some c_wFnWorldFold := rfl
theorem fit12 : fitF Try.prog NG Try.f12 c_wFnWorldFold = true := by kernel_rfl
theorem e_wsameInts : Cd f_wsameInts = some c_wsameInts := rfl
theorem fit20 : fitF Try.prog NG Try.f20 c_wsameInts = true := by kernel_rfl
theorem e_sDrawWorldNew : Cd f_sDrawWorldNew = some c_sDrawWorldNew := rfl
theorem fit21 : fitF Try.prog NG Try.f21 c_sDrawWorldNew = true := by kernel_rfl
theorem e_iWorldNew : Cd f_iWorldNew = some c_iWorldNew := rfl
theorem fit22 : fitF Try.prog NG Try.f22 c_iWorldNew = true := by kernel_rfl
theorem e_sWorldNew : Cd f_sWorldNew = some c_sWorldNew := rfl
theorem fit23 : fitF Try.prog NG Try.f23 c_sWorldNew = true := by kernel_rfl
theorem e_wsameWorld : Cd f_wsameWorld = some c_wsameWorld := rfl
theorem fit24 : fitF Try.prog NG Try.f24 c_wsameWorld = true := by kernel_rfl
theorem e_iWorldRun : Cd f_iWorldRun = some c_iWorldRun := rfl
theorem fit25 : fitF Try.prog NG Try.f25 c_iWorldRun = true := by kernel_rfl
theorem e_wrestOf : Cd f_wrestOf = some c_wrestOf := rfl
theorem fit27 : fitF Try.prog NG Try.f27 c_wrestOf = true := by kernel_rfl
theorem e_iWorldTrace : Cd f_iWorldTrace = some c_iWorldTrace := rfl
theorem fit28 : fitF Try.prog NG Try.f28 c_iWorldTrace = true := by kernel_rfl
theorem e_wsameEvents : Cd f_wsameEvents = some c_wsameEvents := rfl
theorem fit29 : fitF Try.prog NG Try.f29 c_wsameEvents = true := by kernel_rfl
theorem e_wsameOutcome : Cd f_wsameOutcome = some c_wsameOutcome := rfl
theorem fit32 : fitF Try.prog NG Try.f32 c_wsameOutcome = true := by kernel_rfl
theorem e_wotherVars : Cd f_wotherVars = some c_wotherVars := rfl
theorem fit33 : fitF Try.prog NG Try.f33 c_wotherVars = true := by kernel_rfl
theorem e_iProgramValid : Cd f_iProgramValid = some c_iProgramValid := rfl
theorem fit34 : fitF Try.prog NG Try.f34 c_iProgramValid = true := by kernel_rfl
theorem e_iProgramFold : Cd f_iProgramFold = some c_iProgramFold := rfl
theorem fit35 : fitF Try.prog NG Try.f35 c_iProgramFold = true := by kernel_rfl
theorem e_sl6Open : Cd f_sl6Open = some c_sl6Open := rfl
theorem fit36 : fitF Try.prog NG Try.f36 c_sl6Open = true := by kernel_rfl
theorem e_sl6Rd_pick : Cd f_sl6Rd_pick = some c_sl6Rd_pick := rfl
theorem fit38 : fitF Try.prog NG Try.f38 c_sl6Rd_pick = true := by kernel_rfl
theorem e_iExprValid : Cd f_iExprValid = some c_iExprValid := rfl
theorem fit39 : fitF Try.prog NG Try.f39 c_iExprValid = true := by kernel_rfl
theorem e_sExprValid : Cd f_sExprValid = some c_sExprValid := rfl
theorem fit42 : fitF Try.prog NG Try.f42 c_sExprValid = true := by kernel_rfl
theorem e_sl6In : Cd f_sl6In = some c_sl6In := rfl
theorem fit43 : fitF Try.prog NG Try.f43 c_sl6In = true := by kernel_rfl
theorem e_iareWords : Cd f_iareWords = some c_iareWords := rfl
theorem fit47 : fitF Try.prog NG Try.f47 c_iareWords = true := by kernel_rfl
theorem e_iexprEval : Cd f_iexprEval = some c_iexprEval := rfl
theorem fit48 : fitF Try.prog NG Try.f48 c_iexprEval = true := by kernel_rfl
theorem e_iboxesValid : Cd f_iboxesValid = some c_iboxesValid := rfl
theorem fit50 : fitF Try.prog NG Try.f50 c_iboxesValid = true := by kernel_rfl
theorem e_slices_Clone_int_int : Cd f_slices_Clone_int_int = some c_slices_Clone_int_int := rfl
theorem fit52 : fitF Try.prog NG Try.f52 c_slices_Clone_int_int = true := by kernel_rfl
theorem e_iboxesCopy : Cd f_iboxesCopy = some c_iboxesCopy := rfl
theorem fit53 : fitF Try.prog NG Try.f53 c_iboxesCopy = true := by kernel_rfl
theorem e_sl92Wrong : Cd f_sl92Wrong = some c_sl92Wrong := rfl
theorem fit55 : fitF Try.prog NG Try.f55 c_sl92Wrong = true := by kernel_rfl
theorem e_iboxesNew : Cd f_iboxesNew = some c_iboxesNew := rfl
theorem fit56 : fitF Try.prog NG Try.f56 c_iboxesNew = true := by kernel_rfl
theorem e_iTaskNew : Cd f_iTaskNew = some c_iTaskNew := rfl
theorem fit57 : fitF Try.prog NG Try.f57 c_iTaskNew = true := by kernel_rfl
theorem e_sProgramValid : Cd f_sProgramValid = some c_sProgramValid := rfl
theorem fit58 : fitF Try.prog NG Try.f58 c_sProgramValid = true := by kernel_rfl
theorem e_sl16Empty : Cd f_sl16Empty = some c_sl16Empty := rfl
theorem fit59 : fitF Try.prog NG Try.f59 c_sl16Empty = true := by kernel_rfl
theorem e_sTaskNew : Cd f_sTaskNew = some c_sTaskNew := rfl
theorem fit60 : fitF Try.prog NG Try.f60 c_sTaskNew = true := by kernel_rfl
theorem e_wsameTask : Cd f_wsameTask = some c_wsameTask := rfl
theorem fit61 : fitF Try.prog NG Try.f61 c_wsameTask = true := by kernel_rfl
theorem e_wsameBoxes : Cd f_wsameBoxes = some c_wsameBoxes := rfl
theorem fit62 : fitF Try.prog NG Try.f62 c_wsameBoxes = true := by kernel_rfl
theorem e_iWorldValid : Cd f_iWorldValid = some c_iWorldValid := rfl
theorem fit63 : fitF Try.prog NG Try.f63 c_iWorldValid = true := by kernel_rfl
theorem e_irunWorld : Cd f_irunWorld = some c_irunWorld := rfl
theorem fit64 : fitF Try.prog NG Try.f64 c_irunWorld = true := by kernel_rfl
theorem e_inewRunning : Cd f_inewRunning = some c_inewRunning := rfl
theorem fit66 : fitF Try.prog NG Try.f66 c_inewRunning = true := by kernel_rfl
theorem e_irunning_step : Cd f_irunning_step = some c_irunning_step := rfl
theorem fit67 : fitF Try.prog NG Try.f67 c_irunning_step = true := by kernel_rfl
theorem e_irunning_task : Cd f_irunning_task = some c_irunning_task := rfl
theorem fit69 : fitF Try.prog NG Try.f69 c_irunning_task = true := by kernel_rfl
theorem e_iWorldOutcome : Cd f_iWorldOutcome = some c_iWorldOutcome := rfl
theorem fit70 : fitF Try.prog NG Try.f70 c_iWorldOutcome = true := by kernel_rfl
theorem e_iWorldTrace_1 : Cd f_iWorldTrace_1 = some c_iWorldTrace_1 := rfl
theorem fit71 : fitF Try.prog NG Try.f71 c_iWorldTrace_1 = true := by kernel_rfl
theorem e_wsameLists : Cd f_wsameLists = some c_wsameLists := rfl
theorem fit75 : fitF Try.prog NG Try.f75 c_wsameLists = true := by kernel_rfl
theorem e_wsameFlags : Cd f_wsameFlags = some c_wsameFlags := rfl
theorem fit76 : fitF Try.prog NG Try.f76 c_wsameFlags = true := by kernel_rfl
theorem e_wotherExpr : Cd f_wotherExpr = some c_wotherExpr := rfl
theorem fit77 : fitF Try.prog NG Try.f77 c_wotherExpr = true := by kernel_rfl
theorem e_iroomsValid : Cd f_iroomsValid = some c_iroomsValid := rfl
theorem fit78 : fitF Try.prog NG Try.f78 c_iroomsValid = true := by kernel_rfl
theorem e_istmtsValid : Cd f_istmtsValid = some c_istmtsValid := rfl
theorem fit79 : fitF Try.prog NG Try.f79 c_istmtsValid = true := by kernel_rfl
theorem e_istmtsFold : Cd f_istmtsFold = some c_istmtsFold := rfl
theorem fit80 : fitF Try.prog NG Try.f80 c_istmtsFold = true := by kernel_rfl
theorem e_sl91Expr : Cd f_sl91Expr = some c_sl91Expr := rfl
theorem fit81 : fitF Try.prog NG Try.f81 c_sl91Expr = true := by kernel_rfl
theorem e_sl91Leaf : Cd f_sl91Leaf = some c_sl91Leaf := rfl
theorem fit82 : fitF Try.prog NG Try.f82 c_sl91Leaf = true := by kernel_rfl
theorem e_sl4Both : Cd f_sl4Both = some c_sl4Both := rfl
theorem fit83 : fitF Try.prog NG Try.f83 c_sl4Both = true := by kernel_rfl
theorem e_sl91Op : Cd f_sl91Op = some c_sl91Op := rfl
theorem fit84 : fitF Try.prog NG Try.f84 c_sl91Op = true := by kernel_rfl
theorem e_sl4Leaf : Cd f_sl4Leaf = some c_sl4Leaf := rfl
theorem fit85 : fitF Try.prog NG Try.f85 c_sl4Leaf = true := by kernel_rfl
theorem e_iexprValid : Cd f_iexprValid = some c_iexprValid := rfl
theorem fit86 : fitF Try.prog NG Try.f86 c_iexprValid = true := by kernel_rfl
theorem e_sl4Ok : Cd f_sl4Ok = some c_sl4Ok := rfl
theorem fit87 : fitF Try.prog NG Try.f87 c_sl4Ok = true := by kernel_rfl
theorem e_iWordValid : Cd f_iWordValid = some c_iWordValid := rfl
theorem fit89 : fitF Try.prog NG Try.f89 c_iWordValid = true := by kernel_rfl
theorem e_iapply : Cd f_iapply = some c_iapply := rfl
theorem fit90 : fitF Try.prog NG Try.f90 c_iapply = true := by kernel_rfl
theorem e_iBoxValid : Cd f_iBoxValid = some c_iBoxValid := rfl
theorem fit93 : fitF Try.prog NG Try.f93 c_iBoxValid = true := by kernel_rfl
theorem e_iBox_put : Cd f_iBox_put = some c_iBox_put := rfl
theorem fit94 : fitF Try.prog NG Try.f94 c_iBox_put = true := by kernel_rfl
theorem e_iBox_take : Cd f_iBox_take = some c_iBox_take := rfl
theorem fit95 : fitF Try.prog NG Try.f95 c_iBox_take = true := by kernel_rfl
theorem e_sl92Program : Cd f_sl92Program = some c_sl92Program := rfl
theorem fit96 : fitF Try.prog NG Try.f96 c_sl92Program = true := by kernel_rfl
theorem e_iStmtsValid : Cd f_iStmtsValid = some c_iStmtsValid := rfl
theorem fit97 : fitF Try.prog NG Try.f97 c_iStmtsValid = true := by kernel_rfl
theorem e_istmtsCopy : Cd f_istmtsCopy = some c_istmtsCopy := rfl
theorem fit98 : fitF Try.prog NG Try.f98 c_istmtsCopy = true := by kernel_rfl
theorem e_sl12Rooms : Cd f_sl12Rooms = some c_sl12Rooms := rfl
theorem fit99 : fitF Try.prog NG Try.f99 c_sl12Rooms = true := by kernel_rfl
theorem e_sStmtsValid : Cd f_sStmtsValid = some c_sStmtsValid := rfl
theorem fit100 : fitF Try.prog NG Try.f100 c_sStmtsValid = true := by kernel_rfl
theorem e_sl12Boxes : Cd f_sl12Boxes = some c_sl12Boxes := rfl
theorem fit101 : fitF Try.prog NG Try.f101 c_sl12Boxes = true := by kernel_rfl
theorem e_sl11Copy : Cd f_sl11Copy = some c_sl11Copy := rfl
theorem fit102 : fitF Try.prog NG Try.f102 c_sl11Copy = true := by kernel_rfl
theorem e_wsameStmts : Cd f_wsameStmts = some c_wsameStmts := rfl
theorem fit103 : fitF Try.prog NG Try.f103 c_wsameStmts = true := by kernel_rfl
theorem e_wsameBox : Cd f_wsameBox = some c_wsameBox := rfl
theorem fit104 : fitF Try.prog NG Try.f104 c_wsameBox = true := by kernel_rfl
theorem e_iturnsValid : Cd f_iturnsValid = some c_iturnsValid := rfl
theorem fit105 : fitF Try.prog NG Try.f105 c_iturnsValid = true := by kernel_rfl
theorem e_itaskValid : Cd f_itaskValid = some c_itaskValid := rfl
theorem fit106 : fitF Try.prog NG Try.f106 c_itaskValid = true := by kernel_rfl
theorem e_itakeTurns : Cd f_itakeTurns = some c_itakeTurns := rfl
theorem fit107 : fitF Try.prog NG Try.f107 c_itakeTurns = true := by kernel_rfl
theorem e_irunWorld_1 : Cd f_irunWorld_1 = some c_irunWorld_1 := rfl
theorem fit108 : fitF Try.prog NG Try.f108 c_irunWorld_1 = true := by kernel_rfl
theorem e_irunWorld_1_1 : Cd f_irunWorld_1_1 = some c_irunWorld_1_1 := rfl
theorem fit109 : fitF Try.prog NG Try.f109 c_irunWorld_1_1 = true := by kernel_rfl
theorem e_iahead : Cd f_iahead = some c_iahead := rfl
theorem fit110 : fitF Try.prog NG Try.f110 c_iahead = true := by kernel_rfl
theorem e_ioutcomeOf : Cd f_ioutcomeOf = some c_ioutcomeOf := rfl
theorem fit111 : fitF Try.prog NG Try.f111 c_ioutcomeOf = true := by kernel_rfl
theorem e_wboth : Cd f_wboth = some c_wboth := rfl
theorem fit115 : fitF Try.prog NG Try.f115 c_wboth = true := by kernel_rfl
theorem e_iblockValid : Cd f_iblockValid = some c_iblockValid := rfl
theorem fit116 : fitF Try.prog NG Try.f116 c_iblockValid = true := by kernel_rfl
theorem e_iexprFold : Cd f_iexprFold = some c_iexprFold := rfl
theorem fit117 : fitF Try.prog NG Try.f117 c_iexprFold = true := by kernel_rfl
theorem e_iOpValid : Cd f_iOpValid = some c_iOpValid := rfl
theorem fit118 : fitF Try.prog NG Try.f118 c_iOpValid = true := by kernel_rfl
theorem e_sOpValid : Cd f_sOpValid = some c_sOpValid := rfl
theorem fit119 : fitF Try.prog NG Try.f119 c_sOpValid = true := by kernel_rfl
theorem e_itruth : Cd f_itruth = some c_itruth := rfl
theorem fit121 : fitF Try.prog NG Try.f121 c_itruth = true := by kernel_rfl
theorem e_iWrap : Cd f_iWrap = some c_iWrap := rfl
theorem fit122 : fitF Try.prog NG Try.f122 c_iWrap = true := by kernel_rfl
theorem e_sl92Rooms : Cd f_sl92Rooms = some c_sl92Rooms := rfl
theorem fit124 : fitF Try.prog NG Try.f124 c_sl92Rooms = true := by kernel_rfl
theorem e_sl92Stmts : Cd f_sl92Stmts = some c_sl92Stmts := rfl
theorem fit125 : fitF Try.prog NG Try.f125 c_sl92Stmts = true := by kernel_rfl
theorem e_sl92Endless : Cd f_sl92Endless = some c_sl92Endless := rfl
theorem fit126 : fitF Try.prog NG Try.f126 c_sl92Endless = true := by kernel_rfl
theorem e_iexprCopy : Cd f_iexprCopy = some c_iexprCopy := rfl
theorem fit127 : fitF Try.prog NG Try.f127 c_iexprCopy = true := by kernel_rfl
theorem e_sl11Blocks : Cd f_sl11Blocks = some c_sl11Blocks := rfl
theorem fit128 : fitF Try.prog NG Try.f128 c_sl11Blocks = true := by kernel_rfl
theorem e_sl11Count : Cd f_sl11Count = some c_sl11Count := rfl
theorem fit129 : fitF Try.prog NG Try.f129 c_sl11Count = true := by kernel_rfl
theorem e_sl4Copy : Cd f_sl4Copy = some c_sl4Copy := rfl
theorem fit130 : fitF Try.prog NG Try.f130 c_sl4Copy = true := by kernel_rfl
theorem e_wsameExpr : Cd f_wsameExpr = some c_wsameExpr := rfl
theorem fit131 : fitF Try.prog NG Try.f131 c_wsameExpr = true := by kernel_rfl
theorem e_iNextTurn : Cd f_iNextTurn = some c_iNextTurn := rfl
theorem fit132 : fitF Try.prog NG Try.f132 c_iNextTurn = true := by kernel_rfl
theorem e_istmtValid : Cd f_istmtValid = some c_istmtValid := rfl
theorem fit134 : fitF Try.prog NG Try.f134 c_istmtValid = true := by kernel_rfl
theorem e_sl92Block : Cd f_sl92Block = some c_sl92Block := rfl
theorem fit136 : fitF Try.prog NG Try.f136 c_sl92Block = true := by kernel_rfl
theorem e_sl11Ok : Cd f_sl11Ok = some c_sl11Ok := rfl
theorem fit137 : fitF Try.prog NG Try.f137 c_sl11Ok = true := by kernel_rfl
theorem e_istmtValid_1 : Cd f_istmtValid_1 = some c_istmtValid_1 := rfl
theorem fit138 : fitF Try.prog NG Try.f138 c_istmtValid_1 = true := by kernel_rfl
theorem e_sl92Stmt : Cd f_sl92Stmt = some c_sl92Stmt := rfl
theorem fit139 : fitF Try.prog NG Try.f139 c_sl92Stmt = true := by kernel_rfl
theorem e_sl11Simple : Cd f_sl11Simple = some c_sl11Simple := rfl
theorem fit140 : fitF Try.prog NG Try.f140 c_sl11Simple = true := by kernel_rfl
theorem e_sl11Var : Cd f_sl11Var = some c_sl11Var := rfl
theorem fit141 : fitF Try.prog NG Try.f141 c_sl11Var = true := by kernel_rfl
theorem e_sl11Box : Cd f_sl11Box = some c_sl11Box := rfl
theorem fit142 : fitF Try.prog NG Try.f142 c_sl11Box = true := by kernel_rfl
theorem e_sl92Set : Cd f_sl92Set = some c_sl92Set := rfl
theorem fit143 : fitF Try.prog NG Try.f143 c_sl92Set = true := by kernel_rfl
theorem e_sl92If : Cd f_sl92If = some c_sl92If := rfl
theorem fit144 : fitF Try.prog NG Try.f144 c_sl92If = true := by kernel_rfl
theorem e_sl92Loop : Cd f_sl92Loop = some c_sl92Loop := rfl
theorem fit145 : fitF Try.prog NG Try.f145 c_sl92Loop = true := by kernel_rfl
theorem e_sl92Talk : Cd f_sl92Talk = some c_sl92Talk := rfl
theorem fit146 : fitF Try.prog NG Try.f146 c_sl92Talk = true := by kernel_rfl
theorem e_sl11Plain : Cd f_sl11Plain = some c_sl11Plain := rfl
theorem fit147 : fitF Try.prog NG Try.f147 c_sl11Plain = true := by kernel_rfl
theorem fits : Fits Try.prog NG Cd := by
  intro f a h
  unfold Cd at h
  obtain ⟨q, hq, e⟩ := map_some h
  have hm := List.mem_of_find?_eq_some hq
  have hp := List.find?_some hq
  simp only [beq_iff_eq] at hp
  subst hp e
  simp only [tab, List.mem_cons, List.not_mem_nil, or_false] at hm
  rcases hm with rfl | rfl | rfl | rfl | rfl | rfl | rfl | rfl | rfl | rfl | rfl | rfl | rfl | rfl | rfl | rfl | rfl | rfl | rfl | rfl | rfl | rfl | rfl | rfl | rfl | rfl | rfl | rfl | rfl | rfl | rfl | rfl | rfl | rfl | rfl | rfl | rfl | rfl | rfl | rfl | rfl | rfl | rfl | rfl | rfl | rfl | rfl | rfl | rfl | rfl | rfl | rfl | rfl | rfl | rfl | rfl | rfl | rfl | rfl | rfl | rfl | rfl | rfl | rfl | rfl | rfl | rfl | rfl | rfl | rfl | rfl | rfl | rfl | rfl | rfl | rfl | rfl | rfl | rfl | rfl | rfl | rfl | rfl | rfl | rfl | rfl | rfl | rfl | rfl | rfl | rfl | rfl | rfl | rfl | rfl | rfl | rfl | rfl | rfl | rfl | rfl | rfl | rfl | rfl
  · exact ⟨_, Try.func10, fit10⟩
  · exact ⟨_, Try.func11, fit11⟩
  · exact ⟨_, Try.func12, fit12⟩
  · exact ⟨_, Try.func20, fit20⟩
  · exact ⟨_, Try.func21, fit21⟩
  · exact ⟨_, Try.func22, fit22⟩
  · exact ⟨_, Try.func23, fit23⟩
  · exact ⟨_, Try.func24, fit24⟩
  · exact ⟨_, Try.func25, fit25⟩
  · exact ⟨_, Try.func27, fit27⟩
  · exact ⟨_, Try.func28, fit28⟩
  · exact ⟨_, Try.func29, fit29⟩
  · exact ⟨_, Try.func32, fit32⟩
  · exact ⟨_, Try.func33, fit33⟩
  · exact ⟨_, Try.func34, fit34⟩
  · exact ⟨_, Try.func35, fit35⟩
  · exact ⟨_, Try.func36, fit36⟩
  · exact ⟨_, Try.func38, fit38⟩
  · exact ⟨_, Try.func39, fit39⟩
  · exact ⟨_, Try.func42, fit42⟩
  · exact ⟨_, Try.func43, fit43⟩
  · exact ⟨_, Try.func47, fit47⟩
  · exact ⟨_, Try.func48, fit48⟩
  · exact ⟨_, Try.func50, fit50⟩
  · exact ⟨_, Try.func52, fit52⟩
  · exact ⟨_, Try.func53, fit53⟩
  · exact ⟨_, Try.func55, fit55⟩
  · exact ⟨_, Try.func56, fit56⟩
  · exact ⟨_, Try.func57, fit57⟩
  · exact ⟨_, Try.func58, fit58⟩
  · exact ⟨_, Try.func59, fit59⟩
  · exact ⟨_, Try.func60, fit60⟩
  · exact ⟨_, Try.func61, fit61⟩
  · exact ⟨_, Try.func62, fit62⟩
  · exact ⟨_, Try.func63, fit63⟩
  · exact ⟨_, Try.func64, fit64⟩
  · exact ⟨_, Try.func66, fit66⟩
  · exact ⟨_, Try.func67, fit67⟩
  · exact ⟨_, Try.func69, fit69⟩
  · exact ⟨_, Try.func70, fit70⟩
  · exact ⟨_, Try.func71, fit71⟩
  · exact ⟨_, Try.func75, fit75⟩
  · exact ⟨_, Try.func76, fit76⟩
  · exact ⟨_, Try.func77, fit77⟩
  · exact ⟨_, Try.func78, fit78⟩
  · exact ⟨_, Try.func79, fit79⟩
  · exact ⟨_, Try.func80, fit80⟩
  · exact ⟨_, Try.func81, fit81⟩
  · exact ⟨_, Try.func82, fit82⟩
  · exact ⟨_, Try.func83, fit83⟩
  · exact ⟨_, Try.func84, fit84⟩
  · exact ⟨_, Try.func85, fit85⟩
  · exact ⟨_, Try.func86, fit86⟩
  · exact ⟨_, Try.func87, fit87⟩
  · exact ⟨_, Try.func89, fit89⟩
  · exact ⟨_, Try.func90, fit90⟩
  · exact ⟨_, Try.func93, fit93⟩
  · exact ⟨_, Try.func94, fit94⟩
  · exact ⟨_, Try.func95, fit95⟩
  · exact ⟨_, Try.func96, fit96⟩
  · exact ⟨_, Try.func97, fit97⟩
  · exact ⟨_, Try.func98, fit98⟩
  · exact ⟨_, Try.func99, fit99⟩
  · exact ⟨_, Try.func100, fit100⟩
  · exact ⟨_, Try.func101, fit101⟩
  · exact ⟨_, Try.func102, fit102⟩
  · exact ⟨_, Try.func103, fit103⟩
  · exact ⟨_, Try.func104, fit104⟩
  · exact ⟨_, Try.func105, fit105⟩
  · exact ⟨_, Try.func106, fit106⟩
  · exact ⟨_, Try.func107, fit107⟩
  · exact ⟨_, Try.func108, fit108⟩
  · exact ⟨_, Try.func109, fit109⟩
  · exact ⟨_, Try.func110, fit110⟩
  · exact ⟨_, Try.func111, fit111⟩
  · exact ⟨_, Try.func115, fit115⟩
  · exact ⟨_, Try.func116, fit116⟩
  · exact ⟨_, Try.func117, fit117⟩
  · exact ⟨_, Try.func118, fit118⟩
  · exact ⟨_, Try.func119, fit119⟩
  · exact ⟨_, Try.func121, fit121⟩
  · exact ⟨_, Try.func122, fit122⟩
  · exact ⟨_, Try.func124, fit124⟩
  · exact ⟨_, Try.func125, fit125⟩
  · exact ⟨_, Try.func126, fit126⟩
  · exact ⟨_, Try.func127, fit127⟩
  · exact ⟨_, Try.func128, fit128⟩
  · exact ⟨_, Try.func129, fit129⟩
  · exact ⟨_, Try.func130, fit130⟩
  · exact ⟨_, Try.func131, fit131⟩
  · exact ⟨_, Try.func132, fit132⟩
  · exact ⟨_, Try.func134, fit134⟩
  · exact ⟨_, Try.func136, fit136⟩
  · exact ⟨_, Try.func137, fit137⟩
  · exact ⟨_, Try.func138, fit138⟩
  · exact ⟨_, Try.func139, fit139⟩
  · exact ⟨_, Try.func140, fit140⟩
  · exact ⟨_, Try.func141, fit141⟩
  · exact ⟨_, Try.func142, fit142⟩
  · exact ⟨_, Try.func143, fit143⟩
  · exact ⟨_, Try.func144, fit144⟩
  · exact ⟨_, Try.func145, fit145⟩
  · exact ⟨_, Try.func146, fit146⟩
  · exact ⟨_, Try.func147, fit147⟩

end Go.Proofs.Ytmecbehegmgbhaa.AM
