/-
  The twins, in the abstract machine, of the functions that this claim reaches; by program (part 2). No condition.
-/
import Derived.Test.YtfgedlbkgcejhaaSC1
namespace Go.Proofs.Ytfgedlbkgcejhaa.AM
set_option linter.unusedSimpArgs false
set_option linter.unusedVariables false
set_option maxRecDepth 100000
def tab : List (Nat × AFn) := [(10, c_wFnStep), (11, c_wFnStepEnd), (12, c_wFnStepRest), (13, c_wFnStepStill), (14, c_wFnStepWait), (15, c_wFnStepIf), (16, c_wFnStepPrint), (17, c_wFnStepSet), (18, c_wFnStepWhile), (21, c_wFnStepRecv), (23, c_wFnStepSend), (29, c_iExprEval), (31, c_wsameInts), (37, c_iTaskStep), (44, c_sDrawTaskStep), (45, c_sTaskStep), (46, c_wsameTask), (47, c_wsameBoxes), (48, c_iBoxValid), (49, c_iTaskValid), (50, c_wsameStmts), (54, c_iBoxTake), (55, c_wsameBox), (56, c_wsameElse), (57, c_iBoxPut), (58, c_sl6Open), (60, c_sl6Rd_pick), (61, c_iExprValid), (64, c_sExprValid), (65, c_sl6In), (68, c_sl91Vars), (69, c_iareWords), (70, c_iexprEval), (72, c_iboxesValid), (74, c_slices_Clone_int_int), (75, c_iboxesCopy), (85, c_inewRunning), (86, c_irunning_step), (87, c_iTaskStep_1), (88, c_irunning_task), (96, c_sl92Task), (97, c_sl92Boxes), (98, c_sTaskValid), (99, c_sl15Boxes), (100, c_sl15Ready), (101, c_sl15Copy), (102, c_sl15BoxesCopy), (103, c_sl15Talk), (104, c_sl15Block), (105, c_sl15Set), (106, c_sl4Eval), (107, c_sl11Copy), (108, c_itaskValid), (109, c_wsameExpr), (112, c_istmtsValid), (114, c_iWordValid), (115, c_sl91Expr), (116, c_sl91Leaf), (117, c_sl4Both), (118, c_sl91Op), (119, c_sl4Leaf), (120, c_iexprValid), (121, c_sl4Ok), (122, c_sl91Word), (123, c_iapply), (126, c_iBox_put), (127, c_iBox_take), (130, c_istmtsCopy), (132, c_sStmtsValid), (138, c_iahead), (143, c_sl92Stmts), (144, c_sl92Items), (145, c_sl4Words), (146, c_sBoxValid), (147, c_sBoxPut), (148, c_sBoxTake), (149, c_sl15Ahead), (150, c_sApply), (151, c_sl4Copy), (153, c_iblockValid), (155, c_iOpValid), (156, c_sOpValid), (157, c_sWrap), (158, c_itruth), (159, c_iWrap), (163, c_iexprCopy), (164, c_sl11Blocks), (165, c_sl11Count), (168, c_sl92Block), (169, c_sWordValid), (170, c_sl2Flag), (171, c_sl2Shift), (172, c_sl2Divide), (173, c_sl2Remain), (174, c_istmtValid), (176, c_sl11Ok), (177, c_sl92Stmt), (178, c_istmtValid_1), (179, c_sl11Simple), (180, c_sl11Var), (181, c_sl11Box), (182, c_sl92Set), (183, c_sl92If), (184, c_sl92Loop), (185, c_sl92Talk), (186, c_sl11Plain)]
def Cd : FuncId → Option AFn := fun f => (tab.find? fun q => q.1 == f).map (·.2)
def NG : Nat := 0
theorem e_wFnStep : Cd f_wFnStep = some c_wFnStep := rfl
theorem fit10 : fitF Try.prog NG Try.f10 c_wFnStep = true := by kernel_rfl
theorem e_wFnStepEnd : Cd f_wFnStepEnd = some c_wFnStepEnd := rfl
theorem fit11 : fitF Try.prog NG Try.f11 c_wFnStepEnd = true := by kernel_rfl
theorem e_wFnStepRest : Cd f_wFnStepRest = some c_wFnStepRest := rfl
theorem fit12 : fitF Try.prog NG Try.f12 c_wFnStepRest = true := by kernel_rfl
theorem e_wFnStepStill : Cd f_wFnStepStill = some c_wFnStepStill := rfl
theorem fit13 : fitF Try.prog NG Try.f13 c_wFnStepStill = true := by kernel_rfl
theorem e_wFnStepWait : Cd f_wFnStepWait = some c_wFnStepWait := rfl
theorem fit14 : fitF Try.prog NG Try.f14 c_wFnStepWait = true := by kernel_rfl
theorem e_wFnStepIf : Cd f_wFnStepIf = some c_wFnStepIf := rfl
theorem fit15 : fitF Try.prog NG Try.f15 c_wFnStepIf = true := by kernel_rfl
theorem e_wFnStepPrint : Cd f_wFnStepPrint = some c_wFnStepPrint := rfl
theorem fit16 : fitF Try.prog NG Try.f16 c_wFnStepPrint = true := by kernel_rfl
theorem e_wFnStepSet : Cd f_wFnStepSet = some c_wFnStepSet := rfl
theorem fit17 : fitF Try.prog NG Try.f17 c_wFnStepSet = true := by kernel_rfl
theorem e_wFnStepWhile : Cd f_wFnStepWhile = some c_wFnStepWhile := rfl
theorem fit18 : fitF Try.prog NG Try.f18 c_wFnStepWhile = true := by kernel_rfl
theorem e_wFnStepRecv : Cd f_wFnStepRecv = some c_wFnStepRecv := rfl
theorem fit21 : fitF Try.prog NG Try.f21 c_wFnStepRecv = true := by kernel_rfl
theorem e_wFnStepSend : Cd f_wFnStepSend = some c_wFnStepSend := rfl
theorem fit23 : fitF Try.prog NG Try.f23 c_wFnStepSend = true := by kernel_rfl
theorem e_iExprEval : Cd f_iExprEval = some c_iExprEval := rfl
theorem fit29 : fitF Try.prog NG Try.f29 c_iExprEval = true := by kernel_rfl
theorem e_wsameInts : Cd f_wsameInts = some c_wsameInts := rfl
theorem fit31 : fitF Try.prog NG Try.f31 c_wsameInts = true := by kernel_rfl
theorem e_iTaskStep : Cd f_iTaskStep = some c_iTaskStep := rfl
theorem fit37 : fitF Try.prog NG Try.f37 c_iTaskStep = true := by kernel_rfl
theorem e_sDrawTaskStep : Cd f_sDrawTaskStep = some c_sDrawTaskStep := rfl
theorem fit44 : fitF Try.prog NG Try.f44 c_sDrawTaskStep = true := by kernel_rfl
theorem e_sTaskStep : Cd f_sTaskStep = some c_sTaskStep := rfl
theorem fit45 : fitF Try.prog NG Try.f45 c_sTaskStep = true := by kernel_rfl
theorem e_wsameTask : Cd f_wsameTask = some c_wsameTask := rfl
theorem fit46 : fitF Try.prog NG Try.f46 c_wsameTask = true := by kernel_rfl
theorem e_wsameBoxes : Cd f_wsameBoxes = some c_wsameBoxes := rfl
theorem fit47 : fitF Try.prog NG Try.f47 c_wsameBoxes = true := by kernel_rfl
theorem e_iBoxValid : Cd f_iBoxValid = some c_iBoxValid := rfl
theorem fit48 : fitF Try.prog NG Try.f48 c_iBoxValid = true := by kernel_rfl
theorem e_iTaskValid : Cd f_iTaskValid = some c_iTaskValid := rfl
theorem fit49 : fitF Try.prog NG Try.f49 c_iTaskValid = true := by kernel_rfl
theorem e_wsameStmts : Cd f_wsameStmts = some c_wsameStmts := rfl
theorem fit50 : fitF Try.prog NG Try.f50 c_wsameStmts = true := by kernel_rfl
theorem e_iBoxTake : Cd f_iBoxTake = some c_iBoxTake := rfl
theorem fit54 : fitF Try.prog NG Try.f54 c_iBoxTake = true := by kernel_rfl
theorem e_wsameBox : Cd f_wsameBox = some c_wsameBox := rfl
theorem fit55 : fitF Try.prog NG Try.f55 c_wsameBox = true := by kernel_rfl
theorem e_wsameElse : Cd f_wsameElse = some c_wsameElse := rfl
theorem fit56 : fitF Try.prog NG Try.f56 c_wsameElse = true := by kernel_rfl
theorem e_iBoxPut : Cd f_iBoxPut = some c_iBoxPut := rfl
theorem fit57 : fitF Try.prog NG Try.f57 c_iBoxPut = true := by kernel_rfl
theorem e_sl6Open : Cd f_sl6Open = some c_sl6Open := rfl
theorem fit58 : fitF Try.prog NG Try.f58 c_sl6Open = true := by kernel_rfl
theorem e_sl6Rd_pick : Cd f_sl6Rd_pick = some c_sl6Rd_pick := rfl
theorem fit60 : fitF Try.prog NG Try.f60 c_sl6Rd_pick = true := by kernel_rfl
theorem e_iExprValid : Cd f_iExprValid = some c_iExprValid := rfl
theorem fit61 : fitF Try.prog NG Try.f61 c_iExprValid = true := by kernel_rfl
theorem e_sExprValid : Cd f_sExprValid = some c_sExprValid := rfl
theorem fit64 : fitF Try.prog NG Try.f64 c_sExprValid = true := by kernel_rfl
theorem e_sl6In : Cd f_sl6In = some c_sl6In := rfl
theorem fit65 : fitF Try.prog NG Try.f65 c_sl6In = true := by kernel_rfl
theorem e_sl91Vars : Cd f_sl91Vars = some c_sl91Vars := rfl
theorem fit68 : fitF Try.prog NG Try.f68 c_sl91Vars = true := by kernel_rfl
theorem e_iareWords : Cd f_iareWords = some c_iareWords := rfl
theorem fit69 : fitF Try.prog NG Try.f69 c_iareWords = true := by kernel_rfl
theorem e_iexprEval : Cd f_iexprEval = some c_iexprEval := rfl
theorem fit70 : fitF Try.prog NG Try.f70 c_iexprEval = true := by kernel_rfl
theorem e_iboxesValid : Cd f_iboxesValid = some c_iboxesValid := rfl
theorem fit72 : fitF Try.prog NG Try.f72 c_iboxesValid = true := by kernel_rfl
theorem e_slices_Clone_int_int : Cd f_slices_Clone_int_int = some c_slices_Clone_int_int := rfl
theorem fit74 : fitF Try.prog NG Try.f74 c_slices_Clone_int_int = true := by kernel_rfl
theorem e_iboxesCopy : Cd f_iboxesCopy = some c_iboxesCopy := rfl
theorem fit75 : fitF Try.prog NG Try.f75 c_iboxesCopy = true := by kernel_rfl
theorem e_inewRunning : Cd f_inewRunning = some c_inewRunning := rfl
theorem fit85 : fitF Try.prog NG Try.f85 c_inewRunning = true := by kernel_rfl
theorem e_irunning_step : Cd f_irunning_step = some c_irunning_step := rfl
theorem fit86 : fitF Try.prog NG Try.f86 c_irunning_step = true := by kernel_rfl
theorem e_iTaskStep_1 : Cd f_iTaskStep_1 = some c_iTaskStep_1 := rfl
theorem fit87 : fitF Try.prog NG Try.f87 c_iTaskStep_1 = true := by kernel_rfl
theorem e_irunning_task : Cd f_irunning_task = some c_irunning_task := rfl
theorem fit88 : fitF Try.prog NG Try.f88 c_irunning_task = true := by kernel_rfl
theorem e_sl92Task : Cd f_sl92Task = some c_sl92Task := rfl
theorem fit96 : fitF Try.prog NG Try.f96 c_sl92Task = true := by kernel_rfl
theorem e_sl92Boxes : Cd f_sl92Boxes = some c_sl92Boxes := rfl
theorem fit97 : fitF Try.prog NG Try.f97 c_sl92Boxes = true := by kernel_rfl
theorem e_sTaskValid : Cd f_sTaskValid = some c_sTaskValid := rfl
theorem fit98 : fitF Try.prog NG Try.f98 c_sTaskValid = true := by kernel_rfl
theorem e_sl15Boxes : Cd f_sl15Boxes = some c_sl15Boxes := rfl
theorem fit99 : fitF Try.prog NG Try.f99 c_sl15Boxes = true := by kernel_rfl
theorem e_sl15Ready : Cd f_sl15Ready = some c_sl15Ready := rfl
theorem fit100 : fitF Try.prog NG Try.f100 c_sl15Ready = true := by kernel_rfl
theorem e_sl15Copy : Cd f_sl15Copy = some c_sl15Copy := rfl
theorem fit101 : fitF Try.prog NG Try.f101 c_sl15Copy = true := by kernel_rfl
theorem e_sl15BoxesCopy : Cd f_sl15BoxesCopy = some c_sl15BoxesCopy := rfl
theorem fit102 : fitF Try.prog NG Try.f102 c_sl15BoxesCopy = true := by kernel_rfl
theorem e_sl15Talk : Cd f_sl15Talk = some c_sl15Talk := rfl
theorem fit103 : fitF Try.prog NG Try.f103 c_sl15Talk = true := by kernel_rfl
theorem e_sl15Block : Cd f_sl15Block = some c_sl15Block := rfl
theorem fit104 : fitF Try.prog NG Try.f104 c_sl15Block = true := by kernel_rfl
theorem e_sl15Set : Cd f_sl15Set = some c_sl15Set := rfl
theorem fit105 : fitF Try.prog NG Try.f105 c_sl15Set = true := by kernel_rfl
theorem e_sl4Eval : Cd f_sl4Eval = some c_sl4Eval := rfl
theorem fit106 : fitF Try.prog NG Try.f106 c_sl4Eval = true := by kernel_rfl
theorem e_sl11Copy : Cd f_sl11Copy = some c_sl11Copy := rfl
theorem fit107 : fitF Try.prog NG Try.f107 c_sl11Copy = true := by kernel_rfl
theorem e_itaskValid : Cd f_itaskValid = some c_itaskValid := rfl
theorem fit108 : fitF Try.prog NG Try.f108 c_itaskValid = true := by kernel_rfl
theorem e_wsameExpr : Cd f_wsameExpr = some c_wsameExpr := rfl
theorem fit109 : fitF Try.prog NG Try.f109 c_wsameExpr = true := by kernel_rfl
theorem e_istmtsValid : Cd f_istmtsValid = some c_istmtsValid := rfl
theorem fit112 : fitF Try.prog NG Try.f112 c_istmtsValid = true := by kernel_rfl
theorem e_iWordValid : Cd f_iWordValid = some c_iWordValid := rfl
theorem fit114 : fitF Try.prog NG Try.f114 c_iWordValid = true := by kernel_rfl
theorem e_sl91Expr : Cd f_sl91Expr = some c_sl91Expr := rfl
theorem fit115 : fitF Try.prog NG Try.f115 c_sl91Expr = true := by kernel_rfl
theorem e_sl91Leaf : Cd f_sl91Leaf = some c_sl91Leaf := rfl
theorem fit116 : fitF Try.prog NG Try.f116 c_sl91Leaf = true := by kernel_rfl
theorem e_sl4Both : Cd f_sl4Both = some c_sl4Both := rfl
theorem fit117 : fitF Try.prog NG Try.f117 c_sl4Both = true := by kernel_rfl
theorem e_sl91Op : Cd f_sl91Op = some c_sl91Op := rfl
theorem fit118 : fitF Try.prog NG Try.f118 c_sl91Op = true := by kernel_rfl
theorem e_sl4Leaf : Cd f_sl4Leaf = some c_sl4Leaf := rfl
theorem fit119 : fitF Try.prog NG Try.f119 c_sl4Leaf = true := by kernel_rfl
theorem e_iexprValid : Cd f_iexprValid = some c_iexprValid := rfl
theorem fit120 : fitF Try.prog NG Try.f120 c_iexprValid = true := by kernel_rfl
theorem e_sl4Ok : Cd f_sl4Ok = some c_sl4Ok := rfl
theorem fit121 : fitF Try.prog NG Try.f121 c_sl4Ok = true := by kernel_rfl
theorem e_sl91Word : Cd f_sl91Word = some c_sl91Word := rfl
theorem fit122 : fitF Try.prog NG Try.f122 c_sl91Word = true := by kernel_rfl
theorem e_iapply : Cd f_iapply = some c_iapply := rfl
theorem fit123 : fitF Try.prog NG Try.f123 c_iapply = true := by kernel_rfl
theorem e_iBox_put : Cd f_iBox_put = some c_iBox_put := rfl
theorem fit126 : fitF Try.prog NG Try.f126 c_iBox_put = true := by kernel_rfl
theorem e_iBox_take : Cd f_iBox_take = some c_iBox_take := rfl
theorem fit127 : fitF Try.prog NG Try.f127 c_iBox_take = true := by kernel_rfl
theorem e_istmtsCopy : Cd f_istmtsCopy = some c_istmtsCopy := rfl
theorem fit130 : fitF Try.prog NG Try.f130 c_istmtsCopy = true := by kernel_rfl
theorem e_sStmtsValid : Cd f_sStmtsValid = some c_sStmtsValid := rfl
theorem fit132 : fitF Try.prog NG Try.f132 c_sStmtsValid = true := by kernel_rfl
theorem e_iahead : Cd f_iahead = some c_iahead := rfl
theorem fit138 : fitF Try.prog NG Try.f138 c_iahead = true := by kernel_rfl
theorem e_sl92Stmts : Cd f_sl92Stmts = some c_sl92Stmts := rfl
theorem fit143 : fitF Try.prog NG Try.f143 c_sl92Stmts = true := by kernel_rfl
theorem e_sl92Items : Cd f_sl92Items = some c_sl92Items := rfl
theorem fit144 : fitF Try.prog NG Try.f144 c_sl92Items = true := by kernel_rfl
theorem e_sl4Words : Cd f_sl4Words = some c_sl4Words := rfl
theorem fit145 : fitF Try.prog NG Try.f145 c_sl4Words = true := by kernel_rfl
theorem e_sBoxValid : Cd f_sBoxValid = some c_sBoxValid := rfl
theorem fit146 : fitF Try.prog NG Try.f146 c_sBoxValid = true := by kernel_rfl
theorem e_sBoxPut : Cd f_sBoxPut = some c_sBoxPut := rfl
theorem fit147 : fitF Try.prog NG Try.f147 c_sBoxPut = true := by kernel_rfl
theorem e_sBoxTake : Cd f_sBoxTake = some c_sBoxTake := rfl
theorem fit148 : fitF Try.prog NG Try.f148 c_sBoxTake = true := by kernel_rfl
theorem e_sl15Ahead : Cd f_sl15Ahead = some c_sl15Ahead := rfl
theorem fit149 : fitF Try.prog NG Try.f149 c_sl15Ahead = true := by kernel_rfl
theorem e_sApply : Cd f_sApply = some c_sApply := rfl
theorem fit150 : fitF Try.prog NG Try.f150 c_sApply = true := by kernel_rfl
theorem e_sl4Copy : Cd f_sl4Copy = some c_sl4Copy := rfl
theorem fit151 : fitF Try.prog NG Try.f151 c_sl4Copy = true := by kernel_rfl
theorem e_iblockValid : Cd f_iblockValid = some c_iblockValid := rfl
theorem fit153 : fitF Try.prog NG Try.f153 c_iblockValid = true := by kernel_rfl
theorem e_iOpValid : Cd f_iOpValid = some c_iOpValid := rfl
theorem fit155 : fitF Try.prog NG Try.f155 c_iOpValid = true := by kernel_rfl
theorem e_sOpValid : Cd f_sOpValid = some c_sOpValid := rfl
theorem fit156 : fitF Try.prog NG Try.f156 c_sOpValid = true := by kernel_rfl
theorem e_sWrap : Cd f_sWrap = some c_sWrap := rfl
theorem fit157 : fitF Try.prog NG Try.f157 c_sWrap = true := by kernel_rfl
theorem e_itruth : Cd f_itruth = some c_itruth := rfl
theorem fit158 : fitF Try.prog NG Try.f158 c_itruth = true := by kernel_rfl
theorem e_iWrap : Cd f_iWrap = some c_iWrap := rfl
theorem fit159 : fitF Try.prog NG Try.f159 c_iWrap = true := by kernel_rfl
theorem e_iexprCopy : Cd f_iexprCopy = some c_iexprCopy := rfl
theorem fit163 : fitF Try.prog NG Try.f163 c_iexprCopy = true := by kernel_rfl
theorem e_sl11Blocks : Cd f_sl11Blocks = some c_sl11Blocks := rfl
theorem fit164 : fitF Try.prog NG Try.f164 c_sl11Blocks = true := by kernel_rfl
theorem e_sl11Count : Cd f_sl11Count = some c_sl11Count := rfl
theorem fit165 : fitF Try.prog NG Try.f165 c_sl11Count = true := by kernel_rfl
theorem e_sl92Block : Cd f_sl92Block = some c_sl92Block := rfl
theorem fit168 : fitF Try.prog NG Try.f168 c_sl92Block = true := by kernel_rfl
theorem e_sWordValid : Cd f_sWordValid = some c_sWordValid := rfl
theorem fit169 : fitF Try.prog NG Try.f169 c_sWordValid = true := by kernel_rfl
theorem e_sl2Flag : Cd f_sl2Flag = some c_sl2Flag := rfl
theorem fit170 : fitF Try.prog NG Try.f170 c_sl2Flag = true := by kernel_rfl
theorem e_sl2Shift : Cd f_sl2Shift = some c_sl2Shift := rfl
theorem fit171 : fitF Try.prog NG Try.f171 c_sl2Shift = true := by kernel_rfl
theorem e_sl2Divide : Cd f_sl2Divide = some c_sl2Divide := rfl
theorem fit172 : fitF Try.prog NG Try.f172 c_sl2Divide = true := by kernel_rfl
theorem e_sl2Remain : Cd f_sl2Remain = some c_sl2Remain := rfl
theorem fit173 : fitF Try.prog NG Try.f173 c_sl2Remain = true := by kernel_rfl
theorem e_istmtValid : Cd f_istmtValid = some c_istmtValid := rfl
theorem fit174 : fitF Try.prog NG Try.f174 c_istmtValid = true := by kernel_rfl
theorem e_sl11Ok : Cd f_sl11Ok = some c_sl11Ok := rfl
theorem fit176 : fitF Try.prog NG Try.f176 c_sl11Ok = true := by kernel_rfl
theorem e_sl92Stmt : Cd f_sl92Stmt = some c_sl92Stmt := rfl
theorem fit177 : fitF Try.prog NG Try.f177 c_sl92Stmt = true := by kernel_rfl
theorem e_istmtValid_1 : Cd f_istmtValid_1 = some c_istmtValid_1 := rfl
theorem fit178 : fitF Try.prog NG Try.f178 c_istmtValid_1 = true := by kernel_rfl
theorem e_sl11Simple : Cd f_sl11Simple = some c_sl11Simple := rfl
theorem fit179 : fitF Try.prog NG Try.f179 c_sl11Simple = true := by kernel_rfl
theorem e_sl11Var : Cd f_sl11Var = some c_sl11Var := rfl
theorem fit180 : fitF Try.prog NG Try.f180 c_sl11Var = true := by kernel_rfl
theorem e_sl11Box : Cd f_sl11Box = some c_sl11Box := rfl
theorem fit181 : fitF Try.prog NG Try.f181 c_sl11Box = true := by kernel_rfl
theorem e_sl92Set : Cd f_sl92Set = some c_sl92Set := rfl
theorem fit182 : fitF Try.prog NG Try.f182 c_sl92Set = true := by kernel_rfl
theorem e_sl92If : Cd f_sl92If = some c_sl92If := rfl
theorem fit183 : fitF Try.prog NG Try.f183 c_sl92If = true := by kernel_rfl
theorem e_sl92Loop : Cd f_sl92Loop = some c_sl92Loop := rfl
theorem fit184 : fitF Try.prog NG Try.f184 c_sl92Loop = true := by kernel_rfl
theorem e_sl92Talk : Cd f_sl92Talk = some c_sl92Talk := rfl
theorem fit185 : fitF Try.prog NG Try.f185 c_sl92Talk = true := by kernel_rfl
theorem e_sl11Plain : Cd f_sl11Plain = some c_sl11Plain := rfl
theorem fit186 : fitF Try.prog NG Try.f186 c_sl11Plain = true := by kernel_rfl
theorem fits : Fits Try.prog NG Cd := by
  intro f a h
  unfold Cd at h
  obtain ⟨q, hq, e⟩ := map_some h
  have hm := List.mem_of_find?_eq_some hq
  have hp := List.find?_some hq
  simp only [beq_iff_eq] at hp
  subst hp e
  simp only [tab, List.mem_cons, List.not_mem_nil, or_false] at hm
  rcases hm with rfl | rfl | rfl | rfl | rfl | rfl | rfl | rfl | rfl | rfl | rfl | rfl | rfl | rfl | rfl | rfl | rfl | rfl | rfl | rfl | rfl | rfl | rfl | rfl | rfl | rfl | rfl | rfl | rfl | rfl | rfl | rfl | rfl | rfl | rfl | rfl | rfl | rfl | rfl | rfl | rfl | rfl | rfl | rfl | rfl | rfl | rfl | rfl | rfl | rfl | rfl | rfl | rfl | rfl | rfl | rfl | rfl | rfl | rfl | rfl | rfl | rfl | rfl | rfl | rfl | rfl | rfl | rfl | rfl | rfl | rfl | rfl | rfl | rfl | rfl | rfl | rfl | rfl | rfl | rfl | rfl | rfl | rfl | rfl | rfl | rfl | rfl | rfl | rfl | rfl | rfl | rfl | rfl | rfl | rfl | rfl | rfl | rfl | rfl | rfl | rfl | rfl | rfl | rfl | rfl | rfl
  · exact ⟨_, Try.func10, fit10⟩
  · exact ⟨_, Try.func11, fit11⟩
  · exact ⟨_, Try.func12, fit12⟩
  · exact ⟨_, Try.func13, fit13⟩
  · exact ⟨_, Try.func14, fit14⟩
  · exact ⟨_, Try.func15, fit15⟩
  · exact ⟨_, Try.func16, fit16⟩
  · exact ⟨_, Try.func17, fit17⟩
  · exact ⟨_, Try.func18, fit18⟩
  · exact ⟨_, Try.func21, fit21⟩
  · exact ⟨_, Try.func23, fit23⟩
  · exact ⟨_, Try.func29, fit29⟩
  · exact ⟨_, Try.func31, fit31⟩
  · exact ⟨_, Try.func37, fit37⟩
  · exact ⟨_, Try.func44, fit44⟩
  · exact ⟨_, Try.func45, fit45⟩
  · exact ⟨_, Try.func46, fit46⟩
  · exact ⟨_, Try.func47, fit47⟩
  · exact ⟨_, Try.func48, fit48⟩
  · exact ⟨_, Try.func49, fit49⟩
  · exact ⟨_, Try.func50, fit50⟩
  · exact ⟨_, Try.func54, fit54⟩
  · exact ⟨_, Try.func55, fit55⟩
  · exact ⟨_, Try.func56, fit56⟩
  · exact ⟨_, Try.func57, fit57⟩
  · exact ⟨_, Try.func58, fit58⟩
  · exact ⟨_, Try.func60, fit60⟩
  · exact ⟨_, Try.func61, fit61⟩
  · exact ⟨_, Try.func64, fit64⟩
  · exact ⟨_, Try.func65, fit65⟩
  · exact ⟨_, Try.func68, fit68⟩
  · exact ⟨_, Try.func69, fit69⟩
  · exact ⟨_, Try.func70, fit70⟩
  · exact ⟨_, Try.func72, fit72⟩
  · exact ⟨_, Try.func74, fit74⟩
  · exact ⟨_, Try.func75, fit75⟩
  · exact ⟨_, Try.func85, fit85⟩
  · exact ⟨_, Try.func86, fit86⟩
  · exact ⟨_, Try.func87, fit87⟩
  · exact ⟨_, Try.func88, fit88⟩
  · exact ⟨_, Try.func96, fit96⟩
  · exact ⟨_, Try.func97, fit97⟩
  · exact ⟨_, Try.func98, fit98⟩
  · exact ⟨_, Try.func99, fit99⟩
  · exact ⟨_, Try.func100, fit100⟩
  · exact ⟨_, Try.func101, fit101⟩
  · exact ⟨_, Try.func102, fit102⟩
  · exact ⟨_, Try.func103, fit103⟩
  · exact ⟨_, Try.func104, fit104⟩
  · exact ⟨_, Try.func105, fit105⟩
  · exact ⟨_, Try.func106, fit106⟩
  · exact ⟨_, Try.func107, fit107⟩
  · exact ⟨_, Try.func108, fit108⟩
  · exact ⟨_, Try.func109, fit109⟩
  · exact ⟨_, Try.func112, fit112⟩
  · exact ⟨_, Try.func114, fit114⟩
  · exact ⟨_, Try.func115, fit115⟩
  · exact ⟨_, Try.func116, fit116⟩
  · exact ⟨_, Try.func117, fit117⟩
  · exact ⟨_, Try.func118, fit118⟩
  · exact ⟨_, Try.func119, fit119⟩
  · exact ⟨_, Try.func120, fit120⟩
  · exact ⟨_, Try.func121, fit121⟩
  · exact ⟨_, Try.func122, fit122⟩
  · exact ⟨_, Try.func123, fit123⟩
  · exact ⟨_, Try.func126, fit126⟩
  · exact ⟨_, Try.func127, fit127⟩
  · exact ⟨_, Try.func130, fit130⟩
  · exact ⟨_, Try.func132, fit132⟩
  · exact ⟨_, Try.func138, fit138⟩
  · exact ⟨_, Try.func143, fit143⟩
  · exact ⟨_, Try.func144, fit144⟩
  · exact ⟨_, Try.func145, fit145⟩
  · exact ⟨_, Try.func146, fit146⟩
  · exact ⟨_, Try.func147, fit147⟩
  · exact ⟨_, Try.func148, fit148⟩
  · exact ⟨_, Try.func149, fit149⟩
  · exact ⟨_, Try.func150, fit150⟩
  · exact ⟨_, Try.func151, fit151⟩
  · exact ⟨_, Try.func153, fit153⟩
  · exact ⟨_, Try.func155, fit155⟩
  · exact ⟨_, Try.func156, fit156⟩
  · exact ⟨_, Try.func157, fit157⟩
  · exact ⟨_, Try.func158, fit158⟩
  · exact ⟨_, Try.func159, fit159⟩
  · exact ⟨_, Try.func163, fit163⟩
  · exact ⟨_, Try.func164, fit164⟩
  · exact ⟨_, Try.func165, fit165⟩
  · exact ⟨_, Try.func168, fit168⟩
  · exact ⟨_, Try.func169, fit169⟩
  · exact ⟨_, Try.func170, fit170⟩
  · exact ⟨_, Try.func171, fit171⟩
  · exact ⟨_, Try.func172, fit172⟩
  · exact ⟨_, Try.func173, fit173⟩
  · exact ⟨_, Try.func174, fit174⟩
  · exact ⟨_, Try.func176, fit176⟩
  · exact ⟨_, Try.func177, fit177⟩
  · exact ⟨_, Try.func178, fit178⟩
  · exact ⟨_, Try.func179, fit179⟩
  · exact ⟨_, Try.func180, fit180⟩
  · exact ⟨_, Try.func181, fit181⟩
  · exact ⟨_, Try.func182, fit182⟩
  · exact ⟨_, Try.func183, fit183⟩
  · exact ⟨_, Try.func184, fit184⟩
  · exact ⟨_, Try.func185, fit185⟩
  · exact ⟨_, Try.func186, fit186⟩

end Go.Proofs.Ytfgedlbkgcejhaa.AM
