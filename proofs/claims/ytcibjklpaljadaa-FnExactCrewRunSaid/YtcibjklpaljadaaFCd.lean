/-
  The twins, in the abstract machine, of the functions that this claim reaches; by program (part 2). No condition.
-/
import Derived.Test.YtcibjklpaljadaaFC1
namespace Go.Proofs.Ytcibjklpaljadaa.AM
set_option linter.unusedSimpArgs false
set_option linter.unusedVariables false
set_option maxRecDepth 100000
def tab : List (Nat × AFn) := [(4, c_wFnExactCrewRun), (5, c_wszQuadS), (6, c_wszThread), (7, c_wszBoxS), (9, c_wtoQuadS), (10, c_wtoThread), (11, c_wtoBoxS), (13, c_weqThread), (14, c_weqBoxS), (15, c_weqIntS), (16, c_weqQuadS), (17, c_wmarkQuadS), (19, c_wmarkBoxS), (20, c_wmarkIntS), (22, c_wheldBoxS), (23, c_wheldIntS), (24, c_wszCrew), (25, c_sCrewRun), (26, c_wtoCrew), (27, c_iCrewRun), (28, c_weqCrew), (29, c_wmarkCrew), (30, c_wheldCrew), (31, c_wszIntS), (32, c_wszBox), (33, c_sThreadValid), (34, c_sl15Boxes), (35, c_sl23Quad), (36, c_sl23Step), (37, c_wtoQuad), (38, c_wtoIntS), (39, c_wtoBox), (40, c_iThreadValid), (41, c_iboxesValid), (42, c_iboxThere), (43, c_slices_Clone_int_int), (44, c_iboxesCopy), (45, c_iThread_step), (46, c_weqBox), (47, c_weqQuad), (48, c_wszQuadSS), (49, c_wszThreadS), (50, c_sCrewValid), (51, c_sl6In), (52, c_sl24Copy), (53, c_sl24Step), (54, c_wtoQuadSS), (55, c_wtoThreadS), (56, c_iCrewValid), (57, c_icodesCopy), (58, c_itakeTurns), (59, c_iCrewRun_1), (60, c_weqQuadSS), (61, c_weqThreadS), (62, c_wmarkQuadSS), (63, c_wmarkThreadS), (64, c_wheldQuadSS), (65, c_wheldThreadS), (66, c_sCodeValid), (67, c_sl23Fits), (68, c_sBoxValid), (69, c_sl23Talk), (70, c_sl23Go), (71, c_sl15BoxesCopy), (72, c_sl23Pure), (73, c_iCodeValid), (74, c_ithreadFits), (75, c_iBoxValid), (76, c_iapply), (77, c_iBox_put), (78, c_iBox_take), (79, c_sl24Code), (80, c_sl4Words), (81, c_sl24Codes), (82, c_sNextTurn), (83, c_iturnsValid), (84, c_slices_Clone_iQuad_iQuad), (85, c_iNextTurn), (86, c_wheldQuadS), (87, c_sQuadValid), (88, c_sBoxPut), (89, c_sBoxTake), (90, c_sl23Set), (91, c_sApply), (92, c_iQuadValid), (93, c_iareWords), (94, c_itruth), (95, c_iWrap), (96, c_sWordValid), (97, c_sl21Regs), (98, c_sOpValid), (99, c_sl2Flag), (100, c_sl2Shift), (101, c_sWrap), (102, c_sl2Divide), (103, c_sl2Remain), (104, c_iisReg), (105, c_iWordValid), (106, c_iOpValid), (107, c_sl21Reg)]
def Cd : FuncId → Option AFn := fun f => (tab.find? fun q => q.1 == f).map (·.2)
def NG : Nat := 0
theorem e_wFnExactCrewRun : Cd f_wFnExactCrewRun = some c_wFnExactCrewRun := rfl
theorem fit4 : fitF Try.prog NG Try.f4 c_wFnExactCrewRun = true := by kernel_rfl
theorem e_wszQuadS : Cd f_wszQuadS = some c_wszQuadS := rfl
theorem fit5 : fitF Try.prog NG Try.f5 c_wszQuadS = true := by kernel_rfl
theorem e_wszThread : Cd f_wszThread = some c_wszThread := rfl
theorem fit6 : fitF Try.prog NG Try.f6 c_wszThread = true := by kernel_rfl
theorem e_wszBoxS : Cd f_wszBoxS = some c_wszBoxS := rfl
theorem fit7 : fitF Try.prog NG Try.f7 c_wszBoxS = true := by kernel_rfl
theorem e_wtoQuadS : Cd f_wtoQuadS = some c_wtoQuadS := rfl
theorem fit9 : fitF Try.prog NG Try.f9 c_wtoQuadS = true := by kernel_rfl
theorem e_wtoThread : Cd f_wtoThread = some c_wtoThread := rfl
theorem fit10 : fitF Try.prog NG Try.f10 c_wtoThread = true := by kernel_rfl
theorem e_wtoBoxS : Cd f_wtoBoxS = some c_wtoBoxS := rfl
theorem fit11 : fitF Try.prog NG Try.f11 c_wtoBoxS = true := by kernel_rfl
theorem e_weqThread : Cd f_weqThread = some c_weqThread := rfl
theorem fit13 : fitF Try.prog NG Try.f13 c_weqThread = true := by kernel_rfl
theorem e_weqBoxS : Cd f_weqBoxS = some c_weqBoxS := rfl
theorem fit14 : fitF Try.prog NG Try.f14 c_weqBoxS = true := by kernel_rfl
theorem e_weqIntS : Cd f_weqIntS = some c_weqIntS := rfl
theorem fit15 : fitF Try.prog NG Try.f15 c_weqIntS = true := by kernel_rfl
theorem e_weqQuadS : Cd f_weqQuadS = some c_weqQuadS := rfl
theorem fit16 : fitF Try.prog NG Try.f16 c_weqQuadS = true := by kernel_rfl
theorem e_wmarkQuadS : Cd f_wmarkQuadS = some c_wmarkQuadS := rfl
theorem fit17 : fitF Try.prog NG Try.f17 c_wmarkQuadS = true := by kernel_rfl
theorem e_wmarkBoxS : Cd f_wmarkBoxS = some c_wmarkBoxS := rfl
theorem fit19 : fitF Try.prog NG Try.f19 c_wmarkBoxS = true := by kernel_rfl
theorem e_wmarkIntS : Cd f_wmarkIntS = some c_wmarkIntS := rfl
theorem fit20 : fitF Try.prog NG Try.f20 c_wmarkIntS = true := by kernel_rfl
theorem e_wheldBoxS : Cd f_wheldBoxS = some c_wheldBoxS := rfl
theorem fit22 : fitF Try.prog NG Try.f22 c_wheldBoxS = true := by kernel_rfl
theorem e_wheldIntS : Cd f_wheldIntS = some c_wheldIntS := rfl
theorem fit23 : fitF Try.prog NG Try.f23 c_wheldIntS = true := by kernel_rfl
theorem e_wszCrew : Cd f_wszCrew = some c_wszCrew := rfl
theorem fit24 : fitF Try.prog NG Try.f24 c_wszCrew = true := by kernel_rfl
theorem e_sCrewRun : Cd f_sCrewRun = some c_sCrewRun := rfl
theorem fit25 : fitF Try.prog NG Try.f25 c_sCrewRun = true := by kernel_rfl
theorem e_wtoCrew : Cd f_wtoCrew = some c_wtoCrew := rfl
theorem fit26 : fitF Try.prog NG Try.f26 c_wtoCrew = true := by kernel_rfl
theorem e_iCrewRun : Cd f_iCrewRun = some c_iCrewRun := rfl
theorem fit27 : fitF Try.prog NG Try.f27 c_iCrewRun = true := by kernel_rfl
theorem e_weqCrew : Cd f_weqCrew = some c_weqCrew := rfl
theorem fit28 : fitF Try.prog NG Try.f28 c_weqCrew = true := by kernel_rfl
theorem e_wmarkCrew : Cd f_wmarkCrew = some c_wmarkCrew := rfl
theorem fit29 : fitF Try.prog NG Try.f29 c_wmarkCrew = true := by kernel_rfl
theorem e_wheldCrew : Cd f_wheldCrew = some c_wheldCrew := rfl
theorem fit30 : fitF Try.prog NG Try.f30 c_wheldCrew = true := by kernel_rfl
theorem e_wszIntS : Cd f_wszIntS = some c_wszIntS := rfl
theorem fit31 : fitF Try.prog NG Try.f31 c_wszIntS = true := by kernel_rfl
theorem e_wszBox : Cd f_wszBox = some c_wszBox := rfl
theorem fit32 : fitF Try.prog NG Try.f32 c_wszBox = true := by kernel_rfl
theorem e_sThreadValid : Cd f_sThreadValid = some c_sThreadValid := rfl
theorem fit33 : fitF Try.prog NG Try.f33 c_sThreadValid = true := by kernel_rfl
theorem e_sl15Boxes : Cd f_sl15Boxes = some c_sl15Boxes := rfl
theorem fit34 : fitF Try.prog NG Try.f34 c_sl15Boxes = true := by kernel_rfl
theorem e_sl23Quad : Cd f_sl23Quad = some c_sl23Quad := rfl
theorem fit35 : fitF Try.prog NG Try.f35 c_sl23Quad = true := by kernel_rfl
theorem e_sl23Step : Cd f_sl23Step = some c_sl23Step := rfl
theorem fit36 : fitF Try.prog NG Try.f36 c_sl23Step = true := by kernel_rfl
theorem e_wtoQuad : Cd f_wtoQuad = some c_wtoQuad := rfl
theorem fit37 : fitF Try.prog NG Try.f37 c_wtoQuad = true := by kernel_rfl
theorem e_wtoIntS : Cd f_wtoIntS = some c_wtoIntS := rfl
theorem fit38 : fitF Try.prog NG Try.f38 c_wtoIntS = true := by kernel_rfl
theorem e_wtoBox : Cd f_wtoBox = some c_wtoBox := rfl
theorem fit39 : fitF Try.prog NG Try.f39 c_wtoBox = true := by kernel_rfl
theorem e_iThreadValid : Cd f_iThreadValid = some c_iThreadValid := rfl
theorem fit40 : fitF Try.prog NG Try.f40 c_iThreadValid = true := by kernel_rfl
theorem e_iboxesValid : Cd f_iboxesValid = some c_iboxesValid := rfl
theorem fit41 : fitF Try.prog NG Try.f41 c_iboxesValid = true := by kernel_rfl
theorem e_iboxThere : Cd f_iboxThere = some c_iboxThere := rfl
theorem fit42 : fitF Try.prog NG Try.f42 c_iboxThere = true := by kernel_rfl
theorem e_slices_Clone_int_int : Cd f_slices_Clone_int_int = some c_slices_Clone_int_int := rfl
theorem fit43 : fitF Try.prog NG Try.f43 c_slices_Clone_int_int = true := by kernel_rfl
theorem e_iboxesCopy : Cd f_iboxesCopy = some c_iboxesCopy := rfl
theorem fit44 : fitF Try.prog NG Try.f44 c_iboxesCopy = true := by kernel_rfl
theorem e_iThread_step : Cd f_iThread_step = some c_iThread_step := rfl
theorem fit45 : fitF Try.prog NG Try.f45 c_iThread_step = true := by kernel_rfl
theorem e_weqBox : Cd f_weqBox = some c_weqBox := rfl
theorem fit46 : fitF Try.prog NG Try.f46 c_weqBox = true := by kernel_rfl
theorem e_weqQuad : Cd f_weqQuad = some c_weqQuad := rfl
theorem fit47 : fitF Try.prog NG Try.f47 c_weqQuad = true := by kernel_rfl
theorem e_wszQuadSS : Cd f_wszQuadSS = some c_wszQuadSS := rfl
theorem fit48 : fitF Try.prog NG Try.f48 c_wszQuadSS = true := by kernel_rfl
theorem e_wszThreadS : Cd f_wszThreadS = some c_wszThreadS := rfl
theorem fit49 : fitF Try.prog NG Try.f49 c_wszThreadS = true := by kernel_rfl
theorem e_sCrewValid : Cd f_sCrewValid = some c_sCrewValid := rfl
theorem fit50 : fitF Try.prog NG Try.f50 c_sCrewValid = true := by kernel_rfl
theorem e_sl6In : Cd f_sl6In = some c_sl6In := rfl
theorem fit51 : fitF Try.prog NG Try.f51 c_sl6In = true := by kernel_rfl
theorem e_sl24Copy : Cd f_sl24Copy = some c_sl24Copy := rfl
theorem fit52 : fitF Try.prog NG Try.f52 c_sl24Copy = true := by kernel_rfl
theorem e_sl24Step : Cd f_sl24Step = some c_sl24Step := rfl
theorem fit53 : fitF Try.prog NG Try.f53 c_sl24Step = true := by kernel_rfl
theorem e_wtoQuadSS : Cd f_wtoQuadSS = some c_wtoQuadSS := rfl
theorem fit54 : fitF Try.prog NG Try.f54 c_wtoQuadSS = true := by kernel_rfl
theorem e_wtoThreadS : Cd f_wtoThreadS = some c_wtoThreadS := rfl
theorem fit55 : fitF Try.prog NG Try.f55 c_wtoThreadS = true := by kernel_rfl
theorem e_iCrewValid : Cd f_iCrewValid = some c_iCrewValid := rfl
theorem fit56 : fitF Try.prog NG Try.f56 c_iCrewValid = true := by kernel_rfl
theorem e_icodesCopy : Cd f_icodesCopy = some c_icodesCopy := rfl
theorem fit57 : fitF Try.prog NG Try.f57 c_icodesCopy = true := by kernel_rfl
theorem e_itakeTurns : Cd f_itakeTurns = some c_itakeTurns := rfl
theorem fit58 : fitF Try.prog NG Try.f58 c_itakeTurns = true := by kernel_rfl
theorem e_iCrewRun_1 : Cd f_iCrewRun_1 = some c_iCrewRun_1 := rfl
theorem fit59 : fitF Try.prog NG Try.f59 c_iCrewRun_1 = true := by kernel_rfl
theorem e_weqQuadSS : Cd f_weqQuadSS = some c_weqQuadSS := rfl
theorem fit60 : fitF Try.prog NG Try.f60 c_weqQuadSS = true := by kernel_rfl
theorem e_weqThreadS : Cd f_weqThreadS = some c_weqThreadS := rfl
theorem fit61 : fitF Try.prog NG Try.f61 c_weqThreadS = true := by kernel_rfl
theorem e_wmarkQuadSS : Cd f_wmarkQuadSS = some c_wmarkQuadSS := rfl
theorem fit62 : fitF Try.prog NG Try.f62 c_wmarkQuadSS = true := by kernel_rfl
theorem e_wmarkThreadS : Cd f_wmarkThreadS = some c_wmarkThreadS := rfl
theorem fit63 : fitF Try.prog NG Try.f63 c_wmarkThreadS = true := by kernel_rfl
theorem e_wheldQuadSS : Cd f_wheldQuadSS = some c_wheldQuadSS := rfl
theorem fit64 : fitF Try.prog NG Try.f64 c_wheldQuadSS = true := by kernel_rfl
theorem e_wheldThreadS : Cd f_wheldThreadS = some c_wheldThreadS := rfl
theorem fit65 : fitF Try.prog NG Try.f65 c_wheldThreadS = true := by kernel_rfl
theorem e_sCodeValid : Cd f_sCodeValid = some c_sCodeValid := rfl
theorem fit66 : fitF Try.prog NG Try.f66 c_sCodeValid = true := by kernel_rfl
theorem e_sl23Fits : Cd f_sl23Fits = some c_sl23Fits := rfl
theorem fit67 : fitF Try.prog NG Try.f67 c_sl23Fits = true := by kernel_rfl
theorem e_sBoxValid : Cd f_sBoxValid = some c_sBoxValid := rfl
theorem fit68 : fitF Try.prog NG Try.f68 c_sBoxValid = true := by kernel_rfl
theorem e_sl23Talk : Cd f_sl23Talk = some c_sl23Talk := rfl
theorem fit69 : fitF Try.prog NG Try.f69 c_sl23Talk = true := by kernel_rfl
theorem e_sl23Go : Cd f_sl23Go = some c_sl23Go := rfl
theorem fit70 : fitF Try.prog NG Try.f70 c_sl23Go = true := by kernel_rfl
theorem e_sl15BoxesCopy : Cd f_sl15BoxesCopy = some c_sl15BoxesCopy := rfl
theorem fit71 : fitF Try.prog NG Try.f71 c_sl15BoxesCopy = true := by kernel_rfl
theorem e_sl23Pure : Cd f_sl23Pure = some c_sl23Pure := rfl
theorem fit72 : fitF Try.prog NG Try.f72 c_sl23Pure = true := by kernel_rfl
theorem e_iCodeValid : Cd f_iCodeValid = some c_iCodeValid := rfl
theorem fit73 : fitF Try.prog NG Try.f73 c_iCodeValid = true := by kernel_rfl
theorem e_ithreadFits : Cd f_ithreadFits = some c_ithreadFits := rfl
theorem fit74 : fitF Try.prog NG Try.f74 c_ithreadFits = true := by kernel_rfl
theorem e_iBoxValid : Cd f_iBoxValid = some c_iBoxValid := rfl
theorem fit75 : fitF Try.prog NG Try.f75 c_iBoxValid = true := by kernel_rfl
theorem e_iapply : Cd f_iapply = some c_iapply := rfl
theorem fit76 : fitF Try.prog NG Try.f76 c_iapply = true := by kernel_rfl
theorem e_iBox_put : Cd f_iBox_put = some c_iBox_put := rfl
theorem fit77 : fitF Try.prog NG Try.f77 c_iBox_put = true := by kernel_rfl
theorem e_iBox_take : Cd f_iBox_take = some c_iBox_take := rfl
theorem fit78 : fitF Try.prog NG Try.f78 c_iBox_take = true := by kernel_rfl
theorem e_sl24Code : Cd f_sl24Code = some c_sl24Code := rfl
theorem fit79 : fitF Try.prog NG Try.f79 c_sl24Code = true := by kernel_rfl
theorem e_sl4Words : Cd f_sl4Words = some c_sl4Words := rfl
theorem fit80 : fitF Try.prog NG Try.f80 c_sl4Words = true := by kernel_rfl
theorem e_sl24Codes : Cd f_sl24Codes = some c_sl24Codes := rfl
theorem fit81 : fitF Try.prog NG Try.f81 c_sl24Codes = true := by kernel_rfl
theorem e_sNextTurn : Cd f_sNextTurn = some c_sNextTurn := rfl
theorem fit82 : fitF Try.prog NG Try.f82 c_sNextTurn = true := by kernel_rfl
theorem e_iturnsValid : Cd f_iturnsValid = some c_iturnsValid := rfl
theorem fit83 : fitF Try.prog NG Try.f83 c_iturnsValid = true := by kernel_rfl
theorem e_slices_Clone_iQuad_iQuad : Cd f_slices_Clone_iQuad_iQuad = some c_slices_Clone_iQuad_iQuad := rfl
theorem fit84 : fitF Try.prog NG Try.f84 c_slices_Clone_iQuad_iQuad = true := by kernel_rfl
theorem e_iNextTurn : Cd f_iNextTurn = some c_iNextTurn := rfl
theorem fit85 : fitF Try.prog NG Try.f85 c_iNextTurn = true := by kernel_rfl
theorem e_wheldQuadS : Cd f_wheldQuadS = some c_wheldQuadS := rfl
theorem fit86 : fitF Try.prog NG Try.f86 c_wheldQuadS = true := by kernel_rfl
theorem e_sQuadValid : Cd f_sQuadValid = some c_sQuadValid := rfl
theorem fit87 : fitF Try.prog NG Try.f87 c_sQuadValid = true := by kernel_rfl
theorem e_sBoxPut : Cd f_sBoxPut = some c_sBoxPut := rfl
theorem fit88 : fitF Try.prog NG Try.f88 c_sBoxPut = true := by kernel_rfl
theorem e_sBoxTake : Cd f_sBoxTake = some c_sBoxTake := rfl
theorem fit89 : fitF Try.prog NG Try.f89 c_sBoxTake = true := by kernel_rfl
theorem e_sl23Set : Cd f_sl23Set = some c_sl23Set := rfl
theorem fit90 : fitF Try.prog NG Try.f90 c_sl23Set = true := by kernel_rfl
theorem e_sApply : Cd f_sApply = some c_sApply := rfl
theorem fit91 : fitF Try.prog NG Try.f91 c_sApply = true := by kernel_rfl
theorem e_iQuadValid : Cd f_iQuadValid = some c_iQuadValid := rfl
theorem fit92 : fitF Try.prog NG Try.f92 c_iQuadValid = true := by kernel_rfl
theorem e_iareWords : Cd f_iareWords = some c_iareWords := rfl
theorem fit93 : fitF Try.prog NG Try.f93 c_iareWords = true := by kernel_rfl
theorem e_itruth : Cd f_itruth = some c_itruth := rfl
theorem fit94 : fitF Try.prog NG Try.f94 c_itruth = true := by kernel_rfl
theorem e_iWrap : Cd f_iWrap = some c_iWrap := rfl
theorem fit95 : fitF Try.prog NG Try.f95 c_iWrap = true := by kernel_rfl
theorem e_sWordValid : Cd f_sWordValid = some c_sWordValid := rfl
theorem fit96 : fitF Try.prog NG Try.f96 c_sWordValid = true := by kernel_rfl
theorem e_sl21Regs : Cd f_sl21Regs = some c_sl21Regs := rfl
theorem fit97 : fitF Try.prog NG Try.f97 c_sl21Regs = true := by kernel_rfl
theorem e_sOpValid : Cd f_sOpValid = some c_sOpValid := rfl
theorem fit98 : fitF Try.prog NG Try.f98 c_sOpValid = true := by kernel_rfl
theorem e_sl2Flag : Cd f_sl2Flag = some c_sl2Flag := rfl
theorem fit99 : fitF Try.prog NG Try.f99 c_sl2Flag = true := by kernel_rfl
theorem e_sl2Shift : Cd f_sl2Shift = some c_sl2Shift := rfl
theorem fit100 : fitF Try.prog NG Try.f100 c_sl2Shift = true := by kernel_rfl
theorem e_sWrap : Cd f_sWrap = some c_sWrap := rfl
theorem fit101 : fitF Try.prog NG Try.f101 c_sWrap = true := by kernel_rfl
theorem e_sl2Divide : Cd f_sl2Divide = some c_sl2Divide := rfl
theorem fit102 : fitF Try.prog NG Try.f102 c_sl2Divide = true := by kernel_rfl
theorem e_sl2Remain : Cd f_sl2Remain = some c_sl2Remain := rfl
theorem fit103 : fitF Try.prog NG Try.f103 c_sl2Remain = true := by kernel_rfl
theorem e_iisReg : Cd f_iisReg = some c_iisReg := rfl
theorem fit104 : fitF Try.prog NG Try.f104 c_iisReg = true := by kernel_rfl
theorem e_iWordValid : Cd f_iWordValid = some c_iWordValid := rfl
theorem fit105 : fitF Try.prog NG Try.f105 c_iWordValid = true := by kernel_rfl
theorem e_iOpValid : Cd f_iOpValid = some c_iOpValid := rfl
theorem fit106 : fitF Try.prog NG Try.f106 c_iOpValid = true := by kernel_rfl
theorem e_sl21Reg : Cd f_sl21Reg = some c_sl21Reg := rfl
theorem fit107 : fitF Try.prog NG Try.f107 c_sl21Reg = true := by kernel_rfl
theorem fits : Fits Try.prog NG Cd := by
  intro f a h
  unfold Cd at h
  obtain ⟨q, hq, e⟩ := map_some h
  have hm := List.mem_of_find?_eq_some hq
  have hp := List.find?_some hq
  simp only [beq_iff_eq] at hp
  subst hp e
  simp only [tab, List.mem_cons, List.not_mem_nil, or_false] at hm
  rcases hm with rfl | rfl | rfl | rfl | rfl | rfl | rfl | rfl | rfl | rfl | rfl | rfl | rfl | rfl | rfl | rfl | rfl | rfl | rfl | rfl | rfl | rfl | rfl | rfl | rfl | rfl | rfl | rfl | rfl | rfl | rfl | rfl | rfl | rfl | rfl | rfl | rfl | rfl | rfl | rfl | rfl | rfl | rfl | rfl | rfl | rfl | rfl | rfl | rfl | rfl | rfl | rfl | rfl | rfl | rfl | rfl | rfl | rfl | rfl | rfl | rfl | rfl | rfl | rfl | rfl | rfl | rfl | rfl | rfl | rfl | rfl | rfl | rfl | rfl | rfl | rfl | rfl | rfl | rfl | rfl | rfl | rfl | rfl | rfl | rfl | rfl | rfl | rfl | rfl | rfl | rfl | rfl | rfl | rfl | rfl | rfl | rfl | rfl | rfl | rfl
  · exact ⟨_, Try.func4, fit4⟩
  · exact ⟨_, Try.func5, fit5⟩
  · exact ⟨_, Try.func6, fit6⟩
  · exact ⟨_, Try.func7, fit7⟩
  · exact ⟨_, Try.func9, fit9⟩
  · exact ⟨_, Try.func10, fit10⟩
  · exact ⟨_, Try.func11, fit11⟩
  · exact ⟨_, Try.func13, fit13⟩
  · exact ⟨_, Try.func14, fit14⟩
  · exact ⟨_, Try.func15, fit15⟩
  · exact ⟨_, Try.func16, fit16⟩
  · exact ⟨_, Try.func17, fit17⟩
  · exact ⟨_, Try.func19, fit19⟩
  · exact ⟨_, Try.func20, fit20⟩
  · exact ⟨_, Try.func22, fit22⟩
  · exact ⟨_, Try.func23, fit23⟩
  · exact ⟨_, Try.func24, fit24⟩
  · exact ⟨_, Try.func25, fit25⟩
  · exact ⟨_, Try.func26, fit26⟩
  · exact ⟨_, Try.func27, fit27⟩
  · exact ⟨_, Try.func28, fit28⟩
  · exact ⟨_, Try.func29, fit29⟩
  · exact ⟨_, Try.func30, fit30⟩
  · exact ⟨_, Try.func31, fit31⟩
  · exact ⟨_, Try.func32, fit32⟩
  · exact ⟨_, Try.func33, fit33⟩
  · exact ⟨_, Try.func34, fit34⟩
  · exact ⟨_, Try.func35, fit35⟩
  · exact ⟨_, Try.func36, fit36⟩
  · exact ⟨_, Try.func37, fit37⟩
  · exact ⟨_, Try.func38, fit38⟩
  · exact ⟨_, Try.func39, fit39⟩
  · exact ⟨_, Try.func40, fit40⟩
  · exact ⟨_, Try.func41, fit41⟩
  · exact ⟨_, Try.func42, fit42⟩
  · exact ⟨_, Try.func43, fit43⟩
  · exact ⟨_, Try.func44, fit44⟩
  · exact ⟨_, Try.func45, fit45⟩
  · exact ⟨_, Try.func46, fit46⟩
  · exact ⟨_, Try.func47, fit47⟩
  · exact ⟨_, Try.func48, fit48⟩
  · exact ⟨_, Try.func49, fit49⟩
  · exact ⟨_, Try.func50, fit50⟩
  · exact ⟨_, Try.func51, fit51⟩
  · exact ⟨_, Try.func52, fit52⟩
  · exact ⟨_, Try.func53, fit53⟩
  · exact ⟨_, Try.func54, fit54⟩
  · exact ⟨_, Try.func55, fit55⟩
  · exact ⟨_, Try.func56, fit56⟩
  · exact ⟨_, Try.func57, fit57⟩
  · exact ⟨_, Try.func58, fit58⟩
  · exact ⟨_, Try.func59, fit59⟩
  · exact ⟨_, Try.func60, fit60⟩
  · exact ⟨_, Try.func61, fit61⟩
  · exact ⟨_, Try.func62, fit62⟩
  · exact ⟨_, Try.func63, fit63⟩
  · exact ⟨_, Try.func64, fit64⟩
  · exact ⟨_, Try.func65, fit65⟩
  · exact ⟨_, Try.func66, fit66⟩
  · exact ⟨_, Try.func67, fit67⟩
  · exact ⟨_, Try.func68, fit68⟩
  · exact ⟨_, Try.func69, fit69⟩
  · exact ⟨_, Try.func70, fit70⟩
  · exact ⟨_, Try.func71, fit71⟩
  · exact ⟨_, Try.func72, fit72⟩
  · exact ⟨_, Try.func73, fit73⟩
  · exact ⟨_, Try.func74, fit74⟩
  · exact ⟨_, Try.func75, fit75⟩
  · exact ⟨_, Try.func76, fit76⟩
  · exact ⟨_, Try.func77, fit77⟩
  · exact ⟨_, Try.func78, fit78⟩
  · exact ⟨_, Try.func79, fit79⟩
  · exact ⟨_, Try.func80, fit80⟩
  · exact ⟨_, Try.func81, fit81⟩
  · exact ⟨_, Try.func82, fit82⟩
  · exact ⟨_, Try.func83, fit83⟩
  · exact ⟨_, Try.func84, fit84⟩
  · exact ⟨_, Try.func85, fit85⟩
  · exact ⟨_, Try.func86, fit86⟩
  · exact ⟨_, Try.func87, fit87⟩
  · exact ⟨_, Try.func88, fit88⟩
  · exact ⟨_, Try.func89, fit89⟩
  · exact ⟨_, Try.func90, fit90⟩
  · exact ⟨_, Try.func91, fit91⟩
  · exact ⟨_, Try.func92, fit92⟩
  · exact ⟨_, Try.func93, fit93⟩
  · exact ⟨_, Try.func94, fit94⟩
  · exact ⟨_, Try.func95, fit95⟩
  · exact ⟨_, Try.func96, fit96⟩
  · exact ⟨_, Try.func97, fit97⟩
  · exact ⟨_, Try.func98, fit98⟩
  · exact ⟨_, Try.func99, fit99⟩
  · exact ⟨_, Try.func100, fit100⟩
  · exact ⟨_, Try.func101, fit101⟩
  · exact ⟨_, Try.func102, fit102⟩
  · exact ⟨_, Try.func103, fit103⟩
  · exact ⟨_, Try.func104, fit104⟩
  · exact ⟨_, Try.func105, fit105⟩
  · exact ⟨_, Try.func106, fit106⟩
  · exact ⟨_, Try.func107, fit107⟩

end Go.Proofs.Ytcibjklpaljadaa.AM
