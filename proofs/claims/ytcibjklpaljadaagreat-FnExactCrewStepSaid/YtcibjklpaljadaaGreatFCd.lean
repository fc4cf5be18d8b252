/-
  The twins, in the abstract machine, of the functions that this claim reaches; by program (part 2). No condition.
-/
import Derived.Test.YtcibjklpaljadaaGreatFC1
namespace Go.Proofs.YtcibjklpaljadaaGreat.AM
set_option linter.unusedSimpArgs false
set_option linter.unusedVariables false
set_option maxRecDepth 100000
def tab : List (Nat × AFn) := [(3, c_wFnExactCrewStep), (5, c_wszCrew), (6, c_sCrewStep), (7, c_wtoCrew), (8, c_iCrewStep), (9, c_weqCrew), (10, c_wmarkCrew), (11, c_wheldCrew), (13, c_wszBoxS), (16, c_wtoBoxS), (19, c_weqBoxS), (20, c_weqIntS), (22, c_wmarkBoxS), (23, c_wmarkIntS), (25, c_wheldBoxS), (26, c_wheldIntS), (27, c_wszQuadSS), (28, c_wszThreadS), (29, c_wszIntS), (30, c_sCrewRun), (31, c_wtoQuadSS), (32, c_wtoThreadS), (33, c_wtoIntS), (34, c_iCrewRun), (35, c_weqQuadSS), (36, c_weqThreadS), (37, c_wmarkQuadSS), (38, c_wmarkThreadS), (39, c_wheldQuadSS), (40, c_wheldThreadS), (42, c_wszBox), (44, c_sl15Boxes), (47, c_sl15BoxesCopy), (54, c_wtoBox), (56, c_iboxesValid), (58, c_iboxesCopy), (63, c_weqBox), (66, c_wszQuadS), (67, c_wszThread), (68, c_sCrewValid), (69, c_sl6In), (70, c_sl24Copy), (71, c_sl24Step), (72, c_wtoQuadS), (73, c_wtoThread), (74, c_iCrewValid), (75, c_icodesCopy), (76, c_slices_Clone_int_int), (77, c_itakeTurns), (78, c_iCrewRun_1), (79, c_iThread_step), (80, c_weqQuadS), (81, c_weqThread), (82, c_wmarkQuadS), (83, c_wheldQuadS), (86, c_sl4Words), (87, c_sBoxValid), (88, c_sBoxPut), (89, c_sBoxTake), (91, c_sApply), (95, c_iBoxValid), (98, c_iBox_put), (99, c_iBox_take), (104, c_sThreadValid), (105, c_sl24Code), (106, c_sl24Codes), (107, c_sl23Go), (108, c_sl23Step), (109, c_sNextTurn), (110, c_wtoQuad), (111, c_iturnsValid), (112, c_iThreadValid), (113, c_iboxThere), (114, c_slices_Clone_iQuad_iQuad), (115, c_iNextTurn), (116, c_iapply), (117, c_weqQuad), (121, c_sWordValid), (122, c_sOpValid), (123, c_sl2Flag), (124, c_sl2Shift), (125, c_sWrap), (126, c_sl2Divide), (127, c_sl2Remain), (131, c_iareWords), (135, c_sCodeValid), (136, c_sl23Fits), (137, c_sl23Quad), (138, c_sl23Talk), (139, c_sl23Pure), (140, c_iCodeValid), (141, c_ithreadFits), (142, c_itruth), (143, c_iWrap), (147, c_iWordValid), (150, c_sQuadValid), (151, c_sl23Set), (152, c_iQuadValid), (158, c_sl21Regs), (159, c_iisReg), (160, c_iOpValid), (165, c_sl21Reg)]
def Cd : FuncId → Option AFn := fun f => (tab.find? fun q => q.1 == f).map (·.2)
def NG : Nat := 0
theorem e_wFnExactCrewStep : Cd f_wFnExactCrewStep = some c_wFnExactCrewStep := rfl
theorem fit3 : fitF Tryz.prog NG Tryz.f3 c_wFnExactCrewStep = true := by kernel_rfl
theorem e_wszCrew : Cd f_wszCrew = some c_wszCrew := rfl
theorem fit5 : fitF Tryz.prog NG Tryz.f5 c_wszCrew = true := by kernel_rfl
theorem e_sCrewStep : Cd f_sCrewStep = some c_sCrewStep := rfl
theorem fit6 : fitF Tryz.prog NG Tryz.f6 c_sCrewStep = true := by kernel_rfl
theorem e_wtoCrew : Cd f_wtoCrew = some c_wtoCrew := rfl
theorem fit7 : fitF Tryz.prog NG Tryz.f7 c_wtoCrew = true := by kernel_rfl
theorem e_iCrewStep : Cd f_iCrewStep = some c_iCrewStep := rfl
theorem fit8 : fitF Tryz.prog NG Tryz.f8 c_iCrewStep = true := by kernel_rfl
theorem e_weqCrew : Cd f_weqCrew = some c_weqCrew := rfl
theorem fit9 : fitF Tryz.prog NG Tryz.f9 c_weqCrew = true := by kernel_rfl
theorem e_wmarkCrew : Cd f_wmarkCrew = some c_wmarkCrew := rfl
theorem fit10 : fitF Tryz.prog NG Tryz.f10 c_wmarkCrew = true := by kernel_rfl
theorem e_wheldCrew : Cd f_wheldCrew = some c_wheldCrew := rfl
theorem fit11 : fitF Tryz.prog NG Tryz.f11 c_wheldCrew = true := by kernel_rfl
theorem e_wszBoxS : Cd f_wszBoxS = some c_wszBoxS := rfl
theorem fit13 : fitF Tryz.prog NG Tryz.f13 c_wszBoxS = true := by kernel_rfl
theorem e_wtoBoxS : Cd f_wtoBoxS = some c_wtoBoxS := rfl
theorem fit16 : fitF Tryz.prog NG Tryz.f16 c_wtoBoxS = true := by kernel_rfl
theorem e_weqBoxS : Cd f_weqBoxS = some c_weqBoxS := rfl
theorem fit19 : fitF Tryz.prog NG Tryz.f19 c_weqBoxS = true := by kernel_rfl
theorem e_weqIntS : Cd f_weqIntS = some c_weqIntS := rfl
theorem fit20 : fitF Tryz.prog NG Tryz.f20 c_weqIntS = true := by kernel_rfl
theorem e_wmarkBoxS : Cd f_wmarkBoxS = some c_wmarkBoxS := rfl
theorem fit22 : fitF Tryz.prog NG Tryz.f22 c_wmarkBoxS = true := by kernel_rfl
theorem e_wmarkIntS : Cd f_wmarkIntS = some c_wmarkIntS := rfl
theorem fit23 : fitF Tryz.prog NG Tryz.f23 c_wmarkIntS = true := by kernel_rfl
theorem e_wheldBoxS : Cd f_wheldBoxS = some c_wheldBoxS := rfl
theorem fit25 : fitF Tryz.prog NG Tryz.f25 c_wheldBoxS = true := by kernel_rfl
theorem e_wheldIntS : Cd f_wheldIntS = some c_wheldIntS := rfl
theorem fit26 : fitF Tryz.prog NG Tryz.f26 c_wheldIntS = true := by kernel_rfl
theorem e_wszQuadSS : Cd f_wszQuadSS = some c_wszQuadSS := rfl
theorem fit27 : fitF Tryz.prog NG Tryz.f27 c_wszQuadSS = true := by kernel_rfl
theorem e_wszThreadS : Cd f_wszThreadS = some c_wszThreadS := rfl
theorem fit28 : fitF Tryz.prog NG Tryz.f28 c_wszThreadS = true := by kernel_rfl
theorem e_wszIntS : Cd f_wszIntS = some c_wszIntS := rfl
theorem fit29 : fitF Tryz.prog NG Tryz.f29 c_wszIntS = true := by kernel_rfl
theorem e_sCrewRun : Cd f_sCrewRun = some c_sCrewRun := rfl
theorem fit30 : fitF Tryz.prog NG Tryz.f30 c_sCrewRun = true := by kernel_rfl
theorem e_wtoQuadSS : Cd f_wtoQuadSS = some c_wtoQuadSS := rfl
theorem fit31 : fitF Tryz.prog NG Tryz.f31 c_wtoQuadSS = true := by kernel_rfl
theorem e_wtoThreadS : Cd f_wtoThreadS = some c_wtoThreadS := rfl
theorem fit32 : fitF Tryz.prog NG Tryz.f32 c_wtoThreadS = true := by kernel_rfl
theorem e_wtoIntS : Cd f_wtoIntS = some c_wtoIntS := rfl
theorem fit33 : fitF Tryz.prog NG Tryz.f33 c_wtoIntS = true := by kernel_rfl
theorem e_iCrewRun : Cd f_iCrewRun = some c_iCrewRun := rfl
theorem fit34 : fitF Tryz.prog NG Tryz.f34 c_iCrewRun = true := by kernel_rfl
theorem e_weqQuadSS : Cd f_weqQuadSS = some c_weqQuadSS := rfl
theorem fit35 : fitF Tryz.prog NG Tryz.f35 c_weqQuadSS = true := by kernel_rfl
theorem e_weqThreadS : Cd f_weqThreadS = some c_weqThreadS := rfl
theorem fit36 : fitF Tryz.prog NG Tryz.f36 c_weqThreadS = true := by kernel_rfl
theorem e_wmarkQuadSS : Cd f_wmarkQuadSS = some c_wmarkQuadSS := rfl
theorem fit37 : fitF Tryz.prog NG Tryz.f37 c_wmarkQuadSS = true := by kernel_rfl
theorem e_wmarkThreadS : Cd f_wmarkThreadS = some c_wmarkThreadS := rfl
theorem fit38 : fitF Tryz.prog NG Tryz.f38 c_wmarkThreadS = true := by kernel_rfl
theorem e_wheldQuadSS : Cd f_wheldQuadSS = some c_wheldQuadSS := rfl
theorem fit39 : fitF Tryz.prog NG Tryz.f39 c_wheldQuadSS = true := by kernel_rfl
theorem e_wheldThreadS : Cd f_wheldThreadS = some c_wheldThreadS := rfl
theorem fit40 : fitF Tryz.prog NG Tryz.f40 c_wheldThreadS = true := by kernel_rfl
theorem e_wszBox : Cd f_wszBox = some c_wszBox := rfl
theorem fit42 : fitF Tryz.prog NG Tryz.f42 c_wszBox = true := by kernel_rfl
theorem e_sl15Boxes : Cd f_sl15Boxes = some c_sl15Boxes := rfl
theorem fit44 : fitF Tryz.prog NG Tryz.f44 c_sl15Boxes = true := by kernel_rfl
theorem e_sl15BoxesCopy : Cd f_sl15BoxesCopy = some c_sl15BoxesCopy := rfl
theorem fit47 : fitF Tryz.prog NG Tryz.f47 c_sl15BoxesCopy = true := by kernel_rfl
theorem e_wtoBox : Cd f_wtoBox = some c_wtoBox := rfl
theorem fit54 : fitF Tryz.prog NG Tryz.f54 c_wtoBox = true := by kernel_rfl
theorem e_iboxesValid : Cd f_iboxesValid = some c_iboxesValid := rfl
theorem fit56 : fitF Tryz.prog NG Tryz.f56 c_iboxesValid = true := by kernel_rfl
theorem e_iboxesCopy : Cd f_iboxesCopy = some c_iboxesCopy := rfl
theorem fit58 : fitF Tryz.prog NG Tryz.f58 c_iboxesCopy = true := by kernel_rfl
theorem e_weqBox : Cd f_weqBox = some c_weqBox := rfl
theorem fit63 : fitF Tryz.prog NG Tryz.f63 c_weqBox = true := by kernel_rfl
theorem e_wszQuadS : Cd f_wszQuadS = some c_wszQuadS := rfl
theorem fit66 : fitF Tryz.prog NG Tryz.f66 c_wszQuadS = true := by kernel_rfl
theorem e_wszThread : Cd f_wszThread = some c_wszThread := rfl
theorem fit67 : fitF Tryz.prog NG Tryz.f67 c_wszThread = true := by kernel_rfl
theorem e_sCrewValid : Cd f_sCrewValid = some c_sCrewValid := rfl
theorem fit68 : fitF Tryz.prog NG Tryz.f68 c_sCrewValid = true := by kernel_rfl
theorem e_sl6In : Cd f_sl6In = some c_sl6In := rfl
theorem fit69 : fitF Tryz.prog NG Tryz.f69 c_sl6In = true := by kernel_rfl
theorem e_sl24Copy : Cd f_sl24Copy = some c_sl24Copy := rfl
theorem fit70 : fitF Tryz.prog NG Tryz.f70 c_sl24Copy = true := by kernel_rfl
theorem e_sl24Step : Cd f_sl24Step = some c_sl24Step := rfl
theorem fit71 : fitF Tryz.prog NG Tryz.f71 c_sl24Step = true := by kernel_rfl
theorem e_wtoQuadS : Cd f_wtoQuadS = some c_wtoQuadS := rfl
theorem fit72 : fitF Tryz.prog NG Tryz.f72 c_wtoQuadS = true := by kernel_rfl
theorem e_wtoThread : Cd f_wtoThread = some c_wtoThread := rfl
theorem fit73 : fitF Tryz.prog NG Tryz.f73 c_wtoThread = true := by kernel_rfl
theorem e_iCrewValid : Cd f_iCrewValid = some c_iCrewValid := rfl
theorem fit74 : fitF Tryz.prog NG Tryz.f74 c_iCrewValid = true := by kernel_rfl
theorem e_icodesCopy : Cd f_icodesCopy = some c_icodesCopy := rfl
theorem fit75 : fitF Tryz.prog NG Tryz.f75 c_icodesCopy = true := by kernel_rfl
theorem e_slices_Clone_int_int : Cd f_slices_Clone_int_int = some c_slices_Clone_int_int := rfl
theorem fit76 : fitF Tryz.prog NG Tryz.f76 c_slices_Clone_int_int = true := by kernel_rfl
theorem e_itakeTurns : Cd f_itakeTurns = some c_itakeTurns := rfl
theorem fit77 : fitF Tryz.prog NG Tryz.f77 c_itakeTurns = true := by kernel_rfl
theorem e_iCrewRun_1 : Cd f_iCrewRun_1 = some c_iCrewRun_1 := rfl
theorem fit78 : fitF Tryz.prog NG Tryz.f78 c_iCrewRun_1 = true := by kernel_rfl
theorem e_iThread_step : Cd f_iThread_step = some c_iThread_step := rfl
theorem fit79 : fitF Tryz.prog NG Tryz.f79 c_iThread_step = true := by kernel_rfl
theorem e_weqQuadS : Cd f_weqQuadS = some c_weqQuadS := rfl
theorem fit80 : fitF Tryz.prog NG Tryz.f80 c_weqQuadS = true := by kernel_rfl
theorem e_weqThread : Cd f_weqThread = some c_weqThread := rfl
theorem fit81 : fitF Tryz.prog NG Tryz.f81 c_weqThread = true := by kernel_rfl
theorem e_wmarkQuadS : Cd f_wmarkQuadS = some c_wmarkQuadS := rfl
theorem fit82 : fitF Tryz.prog NG Tryz.f82 c_wmarkQuadS = true := by kernel_rfl
theorem e_wheldQuadS : Cd f_wheldQuadS = some c_wheldQuadS := rfl
theorem fit83 : fitF Tryz.prog NG Tryz.f83 c_wheldQuadS = true := by kernel_rfl
theorem e_sl4Words : Cd f_sl4Words = some c_sl4Words := rfl
theorem fit86 : fitF Tryz.prog NG Tryz.f86 c_sl4Words = true := by kernel_rfl
theorem e_sBoxValid : Cd f_sBoxValid = some c_sBoxValid := rfl
theorem fit87 : fitF Tryz.prog NG Tryz.f87 c_sBoxValid = true := by kernel_rfl
theorem e_sBoxPut : Cd f_sBoxPut = some c_sBoxPut := rfl
theorem fit88 : fitF Tryz.prog NG Tryz.f88 c_sBoxPut = true := by kernel_rfl
theorem e_sBoxTake : Cd f_sBoxTake = some c_sBoxTake := rfl
theorem fit89 : fitF Tryz.prog NG Tryz.f89 c_sBoxTake = true := by kernel_rfl
theorem e_sApply : Cd f_sApply = some c_sApply := rfl
theorem fit91 : fitF Tryz.prog NG Tryz.f91 c_sApply = true := by kernel_rfl
theorem e_iBoxValid : Cd f_iBoxValid = some c_iBoxValid := rfl
theorem fit95 : fitF Tryz.prog NG Tryz.f95 c_iBoxValid = true := by kernel_rfl
theorem e_iBox_put : Cd f_iBox_put = some c_iBox_put := rfl
theorem fit98 : fitF Tryz.prog NG Tryz.f98 c_iBox_put = true := by kernel_rfl
theorem e_iBox_take : Cd f_iBox_take = some c_iBox_take := rfl
theorem fit99 : fitF Tryz.prog NG Tryz.f99 c_iBox_take = true := by kernel_rfl
theorem e_sThreadValid : Cd f_sThreadValid = some c_sThreadValid := rfl
theorem fit104 : fitF Tryz.prog NG Tryz.f104 c_sThreadValid = true := by kernel_rfl
theorem e_sl24Code : Cd f_sl24Code = some c_sl24Code := rfl
theorem fit105 : fitF Tryz.prog NG Tryz.f105 c_sl24Code = true := by kernel_rfl
theorem e_sl24Codes : Cd f_sl24Codes = some c_sl24Codes := rfl
theorem fit106 : fitF Tryz.prog NG Tryz.f106 c_sl24Codes = true := by kernel_rfl
theorem e_sl23Go : Cd f_sl23Go = some c_sl23Go := rfl
theorem fit107 : fitF Tryz.prog NG Tryz.f107 c_sl23Go = true := by kernel_rfl
theorem e_sl23Step : Cd f_sl23Step = some c_sl23Step := rfl
theorem fit108 : fitF Tryz.prog NG Tryz.f108 c_sl23Step = true := by kernel_rfl
theorem e_sNextTurn : Cd f_sNextTurn = some c_sNextTurn := rfl
theorem fit109 : fitF Tryz.prog NG Tryz.f109 c_sNextTurn = true := by kernel_rfl
theorem e_wtoQuad : Cd f_wtoQuad = some c_wtoQuad := rfl
theorem fit110 : fitF Tryz.prog NG Tryz.f110 c_wtoQuad = true := by kernel_rfl
theorem e_iturnsValid : Cd f_iturnsValid = some c_iturnsValid := rfl
theorem fit111 : fitF Tryz.prog NG Tryz.f111 c_iturnsValid = true := by kernel_rfl
theorem e_iThreadValid : Cd f_iThreadValid = some c_iThreadValid := rfl
theorem fit112 : fitF Tryz.prog NG Tryz.f112 c_iThreadValid = true := by kernel_rfl
theorem e_iboxThere : Cd f_iboxThere = some c_iboxThere := rfl
theorem fit113 : fitF Tryz.prog NG Tryz.f113 c_iboxThere = true := by kernel_rfl
theorem e_slices_Clone_iQuad_iQuad : Cd f_slices_Clone_iQuad_iQuad = some c_slices_Clone_iQuad_iQuad := rfl
theorem fit114 : fitF Tryz.prog NG Tryz.f114 c_slices_Clone_iQuad_iQuad = true := by kernel_rfl
theorem e_iNextTurn : Cd f_iNextTurn = some c_iNextTurn := rfl
theorem fit115 : fitF Tryz.prog NG Tryz.f115 c_iNextTurn = true := by kernel_rfl
theorem e_iapply : Cd f_iapply = some c_iapply := rfl
theorem fit116 : fitF Tryz.prog NG Tryz.f116 c_iapply = true := by kernel_rfl
theorem e_weqQuad : Cd f_weqQuad = some c_weqQuad := rfl
theorem fit117 : fitF Tryz.prog NG Tryz.f117 c_weqQuad = true := by kernel_rfl
theorem e_sWordValid : Cd f_sWordValid = some c_sWordValid := rfl
theorem fit121 : fitF Tryz.prog NG Tryz.f121 c_sWordValid = true := by kernel_rfl
theorem e_sOpValid : Cd f_sOpValid = some c_sOpValid := rfl
theorem fit122 : fitF Tryz.prog NG Tryz.f122 c_sOpValid = true := by kernel_rfl
theorem e_sl2Flag : Cd f_sl2Flag = some c_sl2Flag := rfl
theorem fit123 : fitF Tryz.prog NG Tryz.f123 c_sl2Flag = true := by kernel_rfl
theorem e_sl2Shift : Cd f_sl2Shift = some c_sl2Shift := rfl
theorem fit124 : fitF Tryz.prog NG Tryz.f124 c_sl2Shift = true := by kernel_rfl
theorem e_sWrap : Cd f_sWrap = some c_sWrap := rfl
theorem fit125 : fitF Tryz.prog NG Tryz.f125 c_sWrap = true := by kernel_rfl
theorem e_sl2Divide : Cd f_sl2Divide = some c_sl2Divide := rfl
theorem fit126 : fitF Tryz.prog NG Tryz.f126 c_sl2Divide = true := by kernel_rfl
theorem e_sl2Remain : Cd f_sl2Remain = some c_sl2Remain := rfl
theorem fit127 : fitF Tryz.prog NG Tryz.f127 c_sl2Remain = true := by kernel_rfl
theorem e_iareWords : Cd f_iareWords = some c_iareWords := rfl
theorem fit131 : fitF Tryz.prog NG Tryz.f131 c_iareWords = true := by kernel_rfl
theorem e_sCodeValid : Cd f_sCodeValid = some c_sCodeValid := rfl
theorem fit135 : fitF Tryz.prog NG Tryz.f135 c_sCodeValid = true := by kernel_rfl
theorem e_sl23Fits : Cd f_sl23Fits = some c_sl23Fits := rfl
theorem fit136 : fitF Tryz.prog NG Tryz.f136 c_sl23Fits = true := by kernel_rfl
theorem e_sl23Quad : Cd f_sl23Quad = some c_sl23Quad := rfl
theorem fit137 : fitF Tryz.prog NG Tryz.f137 c_sl23Quad = true := by kernel_rfl
theorem e_sl23Talk : Cd f_sl23Talk = some c_sl23Talk := rfl
theorem fit138 : fitF Tryz.prog NG Tryz.f138 c_sl23Talk = true := by kernel_rfl
theorem e_sl23Pure : Cd f_sl23Pure = some c_sl23Pure := rfl
theorem fit139 : fitF Tryz.prog NG Tryz.f139 c_sl23Pure = true := by kernel_rfl
theorem e_iCodeValid : Cd f_iCodeValid = some c_iCodeValid := rfl
theorem fit140 : fitF Tryz.prog NG Tryz.f140 c_iCodeValid = true := by kernel_rfl
theorem e_ithreadFits : Cd f_ithreadFits = some c_ithreadFits := rfl
theorem fit141 : fitF Tryz.prog NG Tryz.f141 c_ithreadFits = true := by kernel_rfl
theorem e_itruth : Cd f_itruth = some c_itruth := rfl
theorem fit142 : fitF Tryz.prog NG Tryz.f142 c_itruth = true := by kernel_rfl
theorem e_iWrap : Cd f_iWrap = some c_iWrap := rfl
theorem fit143 : fitF Tryz.prog NG Tryz.f143 c_iWrap = true := by kernel_rfl
theorem e_iWordValid : Cd f_iWordValid = some c_iWordValid := rfl
theorem fit147 : fitF Tryz.prog NG Tryz.f147 c_iWordValid = true := by kernel_rfl
theorem e_sQuadValid : Cd f_sQuadValid = some c_sQuadValid := rfl
theorem fit150 : fitF Tryz.prog NG Tryz.f150 c_sQuadValid = true := by kernel_rfl
theorem e_sl23Set : Cd f_sl23Set = some c_sl23Set := rfl
theorem fit151 : fitF Tryz.prog NG Tryz.f151 c_sl23Set = true := by kernel_rfl
theorem e_iQuadValid : Cd f_iQuadValid = some c_iQuadValid := rfl
theorem fit152 : fitF Tryz.prog NG Tryz.f152 c_iQuadValid = true := by kernel_rfl
theorem e_sl21Regs : Cd f_sl21Regs = some c_sl21Regs := rfl
theorem fit158 : fitF Tryz.prog NG Tryz.f158 c_sl21Regs = true := by kernel_rfl
theorem e_iisReg : Cd f_iisReg = some c_iisReg := rfl
theorem fit159 : fitF Tryz.prog NG Tryz.f159 c_iisReg = true := by kernel_rfl
theorem e_iOpValid : Cd f_iOpValid = some c_iOpValid := rfl
theorem fit160 : fitF Tryz.prog NG Tryz.f160 c_iOpValid = true := by kernel_rfl
theorem e_sl21Reg : Cd f_sl21Reg = some c_sl21Reg := rfl
theorem fit165 : fitF Tryz.prog NG Tryz.f165 c_sl21Reg = true := by kernel_rfl
theorem fits : Fits Tryz.prog NG Cd := by
  intro f a h
  unfold Cd at h
  obtain ⟨q, hq, e⟩ := map_some h
  have hm := List.mem_of_find?_eq_some hq
  have hp := List.find?_some hq
  simp only [beq_iff_eq] at hp
  subst hp e
  simp only [tab, List.mem_cons, List.not_mem_nil, or_false] at hm
  rcases hm with rfl | rfl | rfl | rfl | rfl | rfl | rfl | rfl | rfl | rfl | rfl | rfl | rfl | rfl | rfl | rfl | rfl | rfl | rfl | rfl | rfl | rfl | rfl | rfl | rfl | rfl | rfl | rfl | rfl | rfl | rfl | rfl | rfl | rfl | rfl | rfl | rfl | rfl | rfl | rfl | rfl | rfl | rfl | rfl | rfl | rfl | rfl | rfl | rfl | rfl | rfl | rfl | rfl | rfl | rfl | rfl | rfl | rfl | rfl | rfl | rfl | rfl | rfl | rfl | rfl | rfl | rfl | rfl | rfl | rfl | rfl | rfl | rfl | rfl | rfl | rfl | rfl | rfl | rfl | rfl | rfl | rfl | rfl | rfl | rfl | rfl | rfl | rfl | rfl | rfl | rfl | rfl | rfl | rfl | rfl | rfl | rfl | rfl | rfl | rfl | rfl | rfl
  · exact ⟨_, Tryz.func3, fit3⟩
  · exact ⟨_, Tryz.func5, fit5⟩
  · exact ⟨_, Tryz.func6, fit6⟩
  · exact ⟨_, Tryz.func7, fit7⟩
  · exact ⟨_, Tryz.func8, fit8⟩
  · exact ⟨_, Tryz.func9, fit9⟩
  · exact ⟨_, Tryz.func10, fit10⟩
  · exact ⟨_, Tryz.func11, fit11⟩
  · exact ⟨_, Tryz.func13, fit13⟩
  · exact ⟨_, Tryz.func16, fit16⟩
  · exact ⟨_, Tryz.func19, fit19⟩
  · exact ⟨_, Tryz.func20, fit20⟩
  · exact ⟨_, Tryz.func22, fit22⟩
  · exact ⟨_, Tryz.func23, fit23⟩
  · exact ⟨_, Tryz.func25, fit25⟩
  · exact ⟨_, Tryz.func26, fit26⟩
  · exact ⟨_, Tryz.func27, fit27⟩
  · exact ⟨_, Tryz.func28, fit28⟩
  · exact ⟨_, Tryz.func29, fit29⟩
  · exact ⟨_, Tryz.func30, fit30⟩
  · exact ⟨_, Tryz.func31, fit31⟩
  · exact ⟨_, Tryz.func32, fit32⟩
  · exact ⟨_, Tryz.func33, fit33⟩
  · exact ⟨_, Tryz.func34, fit34⟩
  · exact ⟨_, Tryz.func35, fit35⟩
  · exact ⟨_, Tryz.func36, fit36⟩
  · exact ⟨_, Tryz.func37, fit37⟩
  · exact ⟨_, Tryz.func38, fit38⟩
  · exact ⟨_, Tryz.func39, fit39⟩
  · exact ⟨_, Tryz.func40, fit40⟩
  · exact ⟨_, Tryz.func42, fit42⟩
  · exact ⟨_, Tryz.func44, fit44⟩
  · exact ⟨_, Tryz.func47, fit47⟩
  · exact ⟨_, Tryz.func54, fit54⟩
  · exact ⟨_, Tryz.func56, fit56⟩
  · exact ⟨_, Tryz.func58, fit58⟩
  · exact ⟨_, Tryz.func63, fit63⟩
  · exact ⟨_, Tryz.func66, fit66⟩
  · exact ⟨_, Tryz.func67, fit67⟩
  · exact ⟨_, Tryz.func68, fit68⟩
  · exact ⟨_, Tryz.func69, fit69⟩
  · exact ⟨_, Tryz.func70, fit70⟩
  · exact ⟨_, Tryz.func71, fit71⟩
  · exact ⟨_, Tryz.func72, fit72⟩
  · exact ⟨_, Tryz.func73, fit73⟩
  · exact ⟨_, Tryz.func74, fit74⟩
  · exact ⟨_, Tryz.func75, fit75⟩
  · exact ⟨_, Tryz.func76, fit76⟩
  · exact ⟨_, Tryz.func77, fit77⟩
  · exact ⟨_, Tryz.func78, fit78⟩
  · exact ⟨_, Tryz.func79, fit79⟩
  · exact ⟨_, Tryz.func80, fit80⟩
  · exact ⟨_, Tryz.func81, fit81⟩
  · exact ⟨_, Tryz.func82, fit82⟩
  · exact ⟨_, Tryz.func83, fit83⟩
  · exact ⟨_, Tryz.func86, fit86⟩
  · exact ⟨_, Tryz.func87, fit87⟩
  · exact ⟨_, Tryz.func88, fit88⟩
  · exact ⟨_, Tryz.func89, fit89⟩
  · exact ⟨_, Tryz.func91, fit91⟩
  · exact ⟨_, Tryz.func95, fit95⟩
  · exact ⟨_, Tryz.func98, fit98⟩
  · exact ⟨_, Tryz.func99, fit99⟩
  · exact ⟨_, Tryz.func104, fit104⟩
  · exact ⟨_, Tryz.func105, fit105⟩
  · exact ⟨_, Tryz.func106, fit106⟩
  · exact ⟨_, Tryz.func107, fit107⟩
  · exact ⟨_, Tryz.func108, fit108⟩
  · exact ⟨_, Tryz.func109, fit109⟩
  · exact ⟨_, Tryz.func110, fit110⟩
  · exact ⟨_, Tryz.func111, fit111⟩
  · exact ⟨_, Tryz.func112, fit112⟩
  · exact ⟨_, Tryz.func113, fit113⟩
  · exact ⟨_, Tryz.func114, fit114⟩
  · exact ⟨_, Tryz.func115, fit115⟩
  · exact ⟨_, Tryz.func116, fit116⟩
  · exact ⟨_, Tryz.func117, fit117⟩
  · exact ⟨_, Tryz.func121, fit121⟩
  · exact ⟨_, Tryz.func122, fit122⟩
  · exact ⟨_, Tryz.func123, fit123⟩
  · exact ⟨_, Tryz.func124, fit124⟩
  · exact ⟨_, Tryz.func125, fit125⟩
  · exact ⟨_, Tryz.func126, fit126⟩
  · exact ⟨_, Tryz.func127, fit127⟩
  · exact ⟨_, Tryz.func131, fit131⟩
  · exact ⟨_, Tryz.func135, fit135⟩
  · exact ⟨_, Tryz.func136, fit136⟩
  · exact ⟨_, Tryz.func137, fit137⟩
  · exact ⟨_, Tryz.func138, fit138⟩
  · exact ⟨_, Tryz.func139, fit139⟩
  · exact ⟨_, Tryz.func140, fit140⟩
  · exact ⟨_, Tryz.func141, fit141⟩
  · exact ⟨_, Tryz.func142, fit142⟩
  · exact ⟨_, Tryz.func143, fit143⟩
  · exact ⟨_, Tryz.func147, fit147⟩
  · exact ⟨_, Tryz.func150, fit150⟩
  · exact ⟨_, Tryz.func151, fit151⟩
  · exact ⟨_, Tryz.func152, fit152⟩
  · exact ⟨_, Tryz.func158, fit158⟩
  · exact ⟨_, Tryz.func159, fit159⟩
  · exact ⟨_, Tryz.func160, fit160⟩
  · exact ⟨_, Tryz.func165, fit165⟩

end Go.Proofs.YtcibjklpaljadaaGreat.AM
