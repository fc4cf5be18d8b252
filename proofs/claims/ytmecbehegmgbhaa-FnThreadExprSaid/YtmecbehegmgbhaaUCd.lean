/-
  The twins, in the abstract machine, of the functions that this claim reaches; by program (part 2). No condition.
-/
import Derived.Test.YtmecbehegmgbhaaUC1
namespace Go.Proofs.Ytmecbehegmgbhaa.AM
set_option linter.unusedSimpArgs false
set_option linter.unusedVariables false
set_option maxRecDepth 100000
def tab : List (Nat × AFn) := [(3, c_wFnThreadExpr), (13, c_sDrawCompileExpr), (14, c_iCompileExpr), (15, c_sCompileExpr), (16, c_wsameCode), (17, c_sDrawExprEval), (18, c_iExprEval), (19, c_iThreadStep), (20, c_wsameInts), (36, c_sl6Open), (37, c_sl91Spoilt), (38, c_sl6Rd_pick), (39, c_iExprValid), (40, c_iexprDepth), (41, c_icompileExpr), (42, c_sExprValid), (43, c_sl6In), (44, c_sl4Depth), (45, c_sl22Expr), (46, c_sl91Vars), (47, c_iareWords), (48, c_iexprEval), (49, c_iThreadValid), (50, c_iboxesValid), (51, c_iboxThere), (52, c_slices_Clone_int_int), (53, c_iboxesCopy), (54, c_iThread_step), (81, c_sl91Expr), (82, c_sl91Leaf), (83, c_sl4Both), (84, c_sl91Op), (85, c_sl4Leaf), (86, c_iexprValid), (87, c_sl4Ok), (88, c_sl91Word), (89, c_iWordValid), (90, c_iapply), (91, c_iCodeValid), (92, c_ithreadFits), (93, c_iBoxValid), (94, c_iBox_put), (95, c_iBox_take), (118, c_iOpValid), (119, c_sOpValid), (120, c_sWrap), (121, c_itruth), (122, c_iWrap), (123, c_iQuadValid), (135, c_iisReg)]
def Cd : FuncId → Option AFn := fun f => (tab.find? fun q => q.1 == f).map (·.2)
def NG : Nat := 0
theorem e_wFnThreadExpr : Cd f_wFnThreadExpr = some c_wFnThreadExpr := rfl
theorem fit3 : fitF Try.prog NG Try.f3 c_wFnThreadExpr = true := by kernel_rfl
theorem e_sDrawCompileExpr : Cd f_sDrawCompileExpr = some c_sDrawCompileExpr := rfl
theorem fit13 : fitF Try.prog NG Try.f13 c_sDrawCompileExpr = true := by kernel_rfl
theorem e_iCompileExpr : Cd f_iCompileExpr = some c_iCompileExpr := rfl
theorem fit14 : fitF Try.prog NG Try.f14 c_iCompileExpr = true := by kernel_rfl
theorem e_sCompileExpr : Cd f_sCompileExpr = some c_sCompileExpr := rfl
theorem fit15 : fitF Try.prog NG Try.f15 c_sCompileExpr = true := by kernel_rfl
theorem e_wsameCode : Cd f_wsameCode = some c_wsameCode := rfl
theorem fit16 : fitF Try.prog NG Try.f16 c_wsameCode = true := by kernel_rfl
theorem e_sDrawExprEval : Cd f_sDrawExprEval = some c_sDrawExprEval := rfl
theorem fit17 : fitF Try.prog NG Try.f17 c_sDrawExprEval = true := by kernel_rfl
theorem e_iExprEval : Cd f_iExprEval = some c_iExprEval := rfl
theorem fit18 : fitF Try.prog NG Try.f18 c_iExprEval = true := by kernel_rfl
theorem e_iThreadStep : Cd f_iThreadStep = some c_iThreadStep := rfl
theorem fit19 : fitF Try.prog NG Try.f19 c_iThreadStep = true := by kernel_rfl
theorem e_wsameInts : Cd f_wsameInts = some c_wsameInts := rfl
theorem fit20 : fitF Try.prog NG Try.f20 c_wsameInts = true := by kernel_rfl
theorem e_sl6Open : Cd f_sl6Open = some c_sl6Open := rfl
theorem fit36 : fitF Try.prog NG Try.f36 c_sl6Open = true := by kernel_rfl
theorem e_sl91Spoilt : Cd f_sl91Spoilt = some c_sl91Spoilt := rfl
theorem fit37 : fitF Try.prog NG Try.f37 c_sl91Spoilt = true := by kernel_rfl
theorem e_sl6Rd_pick : Cd f_sl6Rd_pick = some c_sl6Rd_pick := rfl
theorem fit38 : fitF Try.prog NG Try.f38 c_sl6Rd_pick = true := by kernel_rfl
theorem e_iExprValid : Cd f_iExprValid = some c_iExprValid := rfl
theorem fit39 : fitF Try.prog NG Try.f39 c_iExprValid = true := by kernel_rfl
theorem e_iexprDepth : Cd f_iexprDepth = some c_iexprDepth := rfl
theorem fit40 : fitF Try.prog NG Try.f40 c_iexprDepth = true := by kernel_rfl
theorem e_icompileExpr : Cd f_icompileExpr = some c_icompileExpr := rfl
theorem fit41 : fitF Try.prog NG Try.f41 c_icompileExpr = true := by kernel_rfl
theorem e_sExprValid : Cd f_sExprValid = some c_sExprValid := rfl
theorem fit42 : fitF Try.prog NG Try.f42 c_sExprValid = true := by kernel_rfl
theorem e_sl6In : Cd f_sl6In = some c_sl6In := rfl
theorem fit43 : fitF Try.prog NG Try.f43 c_sl6In = true := by kernel_rfl
theorem e_sl4Depth : Cd f_sl4Depth = some c_sl4Depth := rfl
theorem fit44 : fitF Try.prog NG Try.f44 c_sl4Depth = true := by kernel_rfl
theorem e_sl22Expr : Cd f_sl22Expr = some c_sl22Expr := rfl
theorem fit45 : fitF Try.prog NG Try.f45 c_sl22Expr = true := by kernel_rfl
theorem e_sl91Vars : Cd f_sl91Vars = some c_sl91Vars := rfl
theorem fit46 : fitF Try.prog NG Try.f46 c_sl91Vars = true := by kernel_rfl
theorem e_iareWords : Cd f_iareWords = some c_iareWords := rfl
theorem fit47 : fitF Try.prog NG Try.f47 c_iareWords = true := by kernel_rfl
theorem e_iexprEval : Cd f_iexprEval = some c_iexprEval := rfl
theorem fit48 : fitF Try.prog NG Try.f48 c_iexprEval = true := by kernel_rfl
theorem e_iThreadValid : Cd f_iThreadValid = some c_iThreadValid := rfl
theorem fit49 : fitF Try.prog NG Try.f49 c_iThreadValid = true := by kernel_rfl
theorem e_iboxesValid : Cd f_iboxesValid = some c_iboxesValid := rfl
theorem fit50 : fitF Try.prog NG Try.f50 c_iboxesValid = true := by kernel_rfl
theorem e_iboxThere : Cd f_iboxThere = some c_iboxThere := rfl
theorem fit51 : fitF Try.prog NG Try.f51 c_iboxThere = true := by kernel_rfl
theorem e_slices_Clone_int_int : Cd f_slices_Clone_int_int = some c_slices_Clone_int_int := rfl
theorem fit52 : fitF Try.prog NG Try.f52 c_slices_Clone_int_int = true := by kernel_rfl
theorem e_iboxesCopy : Cd f_iboxesCopy = some c_iboxesCopy := rfl
theorem fit53 : fitF Try.prog NG Try.f53 c_iboxesCopy = true := by kernel_rfl
theorem e_iThread_step : Cd f_iThread_step = some c_iThread_step := rfl
theorem fit54 : fitF Try.prog NG Try.f54 c_iThread_step = true := by kernel_rfl
theorem e_sl91Expr : Cd f_sl91Expr = some c_sl91Expr := rfl
theorem fit81 : fitF Try.prog NG Try.f81 c_sl91Expr = true := by kernel_rfl
theorem e_sl91Leaf : Cd f_sl91Leaf = some c_sl91Leaf := rfl
theorem fit82 : fitF Try.prog NG Try.f82 c_sl91Leaf = true := by kernel_rfl
theorem e_sl4Both : Cd f_sl4Both = some c_sl4Both := rfl
theorem fit83 : fitF Try.prog NG Try.f83 c_sl4Both = true := by kernel_rfl
theorem e_sl91Op : Cd f_sl91Op = some c_sl91Op := rfl
theorem fit84 : fitF Try.prog NG Try.f84 c_sl91Op = true := by kernel_rfl
theorem e_sl4Leaf : Cd f_sl4Leaf = some c_sl4Leaf := rfl
theorem fit85 : fitF Try.prog NG Try.f85 c_sl4Leaf = true := by kernel_rfl
theorem e_iexprValid : Cd f_iexprValid = some c_iexprValid := rfl
theorem fit86 : fitF Try.prog NG Try.f86 c_iexprValid = true := by kernel_rfl
theorem e_sl4Ok : Cd f_sl4Ok = some c_sl4Ok := rfl
theorem fit87 : fitF Try.prog NG Try.f87 c_sl4Ok = true := by kernel_rfl
theorem e_sl91Word : Cd f_sl91Word = some c_sl91Word := rfl
theorem fit88 : fitF Try.prog NG Try.f88 c_sl91Word = true := by kernel_rfl
theorem e_iWordValid : Cd f_iWordValid = some c_iWordValid := rfl
theorem fit89 : fitF Try.prog NG Try.f89 c_iWordValid = true := by kernel_rfl
theorem e_iapply : Cd f_iapply = some c_iapply := rfl
theorem fit90 : fitF Try.prog NG Try.f90 c_iapply = true := by kernel_rfl
theorem e_iCodeValid : Cd f_iCodeValid = some c_iCodeValid := rfl
theorem fit91 : fitF Try.prog NG Try.f91 c_iCodeValid = true := by kernel_rfl
theorem e_ithreadFits : Cd f_ithreadFits = some c_ithreadFits := rfl
theorem fit92 : fitF Try.prog NG Try.f92 c_ithreadFits = true := by kernel_rfl
theorem e_iBoxValid : Cd f_iBoxValid = some c_iBoxValid := rfl
theorem fit93 : fitF Try.prog NG Try.f93 c_iBoxValid = true := by kernel_rfl
theorem e_iBox_put : Cd f_iBox_put = some c_iBox_put := rfl
theorem fit94 : fitF Try.prog NG Try.f94 c_iBox_put = true := by kernel_rfl
theorem e_iBox_take : Cd f_iBox_take = some c_iBox_take := rfl
theorem fit95 : fitF Try.prog NG Try.f95 c_iBox_take = true := by kernel_rfl
theorem e_iOpValid : Cd f_iOpValid = some c_iOpValid := rfl
theorem fit118 : fitF Try.prog NG Try.f118 c_iOpValid = true := by kernel_rfl
theorem e_sOpValid : Cd f_sOpValid = some c_sOpValid := rfl
theorem fit119 : fitF Try.prog NG Try.f119 c_sOpValid = true := by kernel_rfl
theorem e_sWrap : Cd f_sWrap = some c_sWrap := rfl
theorem fit120 : fitF Try.prog NG Try.f120 c_sWrap = true := by kernel_rfl
theorem e_itruth : Cd f_itruth = some c_itruth := rfl
theorem fit121 : fitF Try.prog NG Try.f121 c_itruth = true := by kernel_rfl
theorem e_iWrap : Cd f_iWrap = some c_iWrap := rfl
theorem fit122 : fitF Try.prog NG Try.f122 c_iWrap = true := by kernel_rfl
theorem e_iQuadValid : Cd f_iQuadValid = some c_iQuadValid := rfl
theorem fit123 : fitF Try.prog NG Try.f123 c_iQuadValid = true := by kernel_rfl
theorem e_iisReg : Cd f_iisReg = some c_iisReg := rfl
theorem fit135 : fitF Try.prog NG Try.f135 c_iisReg = true := by kernel_rfl
theorem fits : Fits Try.prog NG Cd := by
  intro f a h
  unfold Cd at h
  obtain ⟨q, hq, e⟩ := map_some h
  have hm := List.mem_of_find?_eq_some hq
  have hp := List.find?_some hq
  simp only [beq_iff_eq] at hp
  subst hp e
  simp only [tab, List.mem_cons, List.not_mem_nil, or_false] at hm
  rcases hm with rfl | rfl | rfl | rfl | rfl | rfl | rfl | rfl | rfl | rfl | rfl | rfl | rfl | rfl | rfl | rfl | rfl | rfl | rfl | rfl | rfl | rfl | rfl | rfl | rfl | rfl | rfl | rfl | rfl | rfl | rfl | rfl | rfl | rfl | rfl | rfl | rfl | rfl | rfl | rfl | rfl | rfl | rfl | rfl | rfl | rfl | rfl | rfl | rfl | rfl
  · exact ⟨_, Try.func3, fit3⟩
  · exact ⟨_, Try.func13, fit13⟩
  · exact ⟨_, Try.func14, fit14⟩
  · exact ⟨_, Try.func15, fit15⟩
  · exact ⟨_, Try.func16, fit16⟩
  · exact ⟨_, Try.func17, fit17⟩
  · exact ⟨_, Try.func18, fit18⟩
  · exact ⟨_, Try.func19, fit19⟩
  · exact ⟨_, Try.func20, fit20⟩
  · exact ⟨_, Try.func36, fit36⟩
  · exact ⟨_, Try.func37, fit37⟩
  · exact ⟨_, Try.func38, fit38⟩
  · exact ⟨_, Try.func39, fit39⟩
  · exact ⟨_, Try.func40, fit40⟩
  · exact ⟨_, Try.func41, fit41⟩
  · exact ⟨_, Try.func42, fit42⟩
  · exact ⟨_, Try.func43, fit43⟩
  · exact ⟨_, Try.func44, fit44⟩
  · exact ⟨_, Try.func45, fit45⟩
  · exact ⟨_, Try.func46, fit46⟩
  · exact ⟨_, Try.func47, fit47⟩
  · exact ⟨_, Try.func48, fit48⟩
  · exact ⟨_, Try.func49, fit49⟩
  · exact ⟨_, Try.func50, fit50⟩
  · exact ⟨_, Try.func51, fit51⟩
  · exact ⟨_, Try.func52, fit52⟩
  · exact ⟨_, Try.func53, fit53⟩
  · exact ⟨_, Try.func54, fit54⟩
  · exact ⟨_, Try.func81, fit81⟩
  · exact ⟨_, Try.func82, fit82⟩
  · exact ⟨_, Try.func83, fit83⟩
  · exact ⟨_, Try.func84, fit84⟩
  · exact ⟨_, Try.func85, fit85⟩
  · exact ⟨_, Try.func86, fit86⟩
  · exact ⟨_, Try.func87, fit87⟩
  · exact ⟨_, Try.func88, fit88⟩
  · exact ⟨_, Try.func89, fit89⟩
  · exact ⟨_, Try.func90, fit90⟩
  · exact ⟨_, Try.func91, fit91⟩
  · exact ⟨_, Try.func92, fit92⟩
  · exact ⟨_, Try.func93, fit93⟩
  · exact ⟨_, Try.func94, fit94⟩
  · exact ⟨_, Try.func95, fit95⟩
  · exact ⟨_, Try.func118, fit118⟩
  · exact ⟨_, Try.func119, fit119⟩
  · exact ⟨_, Try.func120, fit120⟩
  · exact ⟨_, Try.func121, fit121⟩
  · exact ⟨_, Try.func122, fit122⟩
  · exact ⟨_, Try.func123, fit123⟩
  · exact ⟨_, Try.func135, fit135⟩

end Go.Proofs.Ytmecbehegmgbhaa.AM
