/-
  The twins, in the abstract machine, of the functions that this claim reaches; by program. No condition.
-/
import Derived.Test.YtdgmihohmkdpjaaDoorAMo
import Derived.Test.YtdgmihohmkdpjaaDoorProg
namespace Go.Proofs.YtdgmihohmkdpjaaDoor.AM
set_option linter.unusedSimpArgs false
set_option linter.unusedVariables false
set_option maxRecDepth 100000
def f_main_main : FuncId := 0
def f_gosem_cut : FuncId := 1
def f_gosem_cut_init : FuncId := 2
def f_wFnExactMachineStep : FuncId := 3
def f_wFnExactMachineRun : FuncId := 4
def f_wFnMachineNext : FuncId := 5
def f_wFnMachineStep : FuncId := 6
def f_wFnMachineStill : FuncId := 7
def f_wFnMachineDecode : FuncId := 8
def f_wFnMachineOne : FuncId := 9
def f_wFnMachineAlu : FuncId := 10
def f_wFnMachineRun : FuncId := 11
def f_wFnMachineRunOne : FuncId := 12
def f_wszMachine : FuncId := 13
def f_sMachineStep : FuncId := 14
def f_wtoMachine : FuncId := 15
def f_iMachineStep : FuncId := 16
def f_weqMachine : FuncId := 17
def f_wmarkMachine : FuncId := 18
def f_wheldMachine : FuncId := 19
def f_sMachineRun : FuncId := 20
def f_iMachineRun : FuncId := 21
def f_sDrawMachineStep : FuncId := 22
def f_wsameMachine : FuncId := 23
def f_iInstrDecode : FuncId := 24
def f_iUnsigned : FuncId := 25
def f_iWrap : FuncId := 26
def f_iMachineValid : FuncId := 27
def f_wdiffers : FuncId := 28
def f_iApply : FuncId := 29
def f_sDrawMachineRun : FuncId := 30
def f_wszIntS : FuncId := 31
def f_sMachineValid : FuncId := 32
def f_sl44Copy : FuncId := 33
def f_sl44Step : FuncId := 34
def f_wtoIntS : FuncId := 35
def f_imachineCopy : FuncId := 36
def f_iMachine_step : FuncId := 37
def f_weqIntS : FuncId := 38
def f_wmarkIntS : FuncId := 39
def f_wheldIntS : FuncId := 40
def f_sl6In : FuncId := 41
def f_sl94Machine : FuncId := 42
def f_sl6Open : FuncId := 43
def f_wsameInts : FuncId := 44
def f_iisUnsigned : FuncId := 45
def f_iinstrRow_matches : FuncId := 46
def f_idecodeAs : FuncId := 47
def f_iInstrEncode : FuncId := 48
def f_iWordValid : FuncId := 49
def f_iareWords : FuncId := 50
def f_iOpValid : FuncId := 51
def f_iapply : FuncId := 52
def f_sl6Rd_pick : FuncId := 53
def f_sl4Words : FuncId := 54
def f_sWordValid : FuncId := 55
def f_sl44Word : FuncId := 56
def f_sInstrDecode : FuncId := 57
def f_sUnsigned : FuncId := 58
def f_sl44Do : FuncId := 59
def f_slices_Clone_int_int : FuncId := 60
def f_iMachine_word : FuncId := 61
def f_iMachine_set : FuncId := 62
def f_itruth : FuncId := 63
def f_sl91Word : FuncId := 64
def f_sWrap : FuncId := 65
def f_sl42Encode : FuncId := 66
def f_sl94Near : FuncId := 67
def f_iformatOf : FuncId := 68
def f_iBits : FuncId := 69
def f_iSignExtend : FuncId := 70
def f_iInstrValid : FuncId := 71
def f_iInstrEncode_1 : FuncId := 72
def f_sl42Op : FuncId := 73
def f_sl42Fields : FuncId := 74
def f_sl44Load : FuncId := 75
def f_sl44Jump : FuncId := 76
def f_sl44Set : FuncId := 77
def f_sl2Flag : FuncId := 78
def f_sl44Alu : FuncId := 79
def f_sl42Imm : FuncId := 80
def f_sl42Mod : FuncId := 81
def f_sl42Put : FuncId := 82
def f_sBits : FuncId := 83
def f_sl42Mid : FuncId := 84
def f_sl42Branch : FuncId := 85
def f_sl42Jump : FuncId := 86
def f_sl42Seven : FuncId := 87
def f_sl94Instr : FuncId := 88
def f_iisMachineReg : FuncId := 89
def f_sl42Three : FuncId := 90
def f_sSignExtend : FuncId := 91
def f_sApply : FuncId := 92
def f_sl1Power : FuncId := 93
def f_sl94X : FuncId := 94
def f_sl94Imm : FuncId := 95
def f_sOpValid : FuncId := 96
def f_sl2Shift : FuncId := 97
def f_sl2Divide : FuncId := 98
def f_sl2Remain : FuncId := 99
def f_runtime_boundsError_Error : FuncId := 100
def f_runtime_boundsError_RuntimeError : FuncId := 101
def f_runtime_errorString_Error : FuncId := 102
def f_runtime_errorString_RuntimeError : FuncId := 103
def f_runtime_plainError_Error : FuncId := 104
def f_runtime_plainError_RuntimeError : FuncId := 105
def f_runtime_errorAddressString_Error : FuncId := 106
def f_runtime_errorAddressString_RuntimeError : FuncId := 107
def f_runtime_TypeAssertionError_Error : FuncId := 108
def f_runtime_TypeAssertionError_RuntimeError : FuncId := 109
def f_runtime_PanicNilError_Error : FuncId := 110
def f_runtime_PanicNilError_RuntimeError : FuncId := 111
def f_internal_abi_Type_Align : FuncId := 112
def f_internal_runtime_maps_unhashableTypeError_Error : FuncId := 113
def f_internal_runtime_maps_unhashableTypeError_RuntimeError : FuncId := 114
def f_internal_abi_Kind_String : FuncId := 115
def f_var_s_door_gosem_cut_vars_holds_initialisers_alone_see_the_manifest_s_row_cutvarsword_look_11_test_files_too : FuncId := 116
def f_var_s_door_iinstrTable_is_laid_by_its_own_initialiser_plain_data_by_the_wider_look_data_2 : FuncId := 117
def f_var_s_door_imachineOps_is_laid_by_its_own_initialiser_plain_data_look_11 : FuncId := 118
def f_var_s_door_the_look_of_gosem_cut_vars_went_over_the_folder_that_the_caller_named_as_the_repository_s_root_look_11 : FuncId := 119
def f_gosem_cut_vars : FuncId := 120
/- gosem.cut.init -/
def c_gosem_cut_init : AFn := ⟨0, .seq (.ops [o1 0 (.call f_gosem_cut [])]) (.keep []), []⟩

/- loop.example/cothreads/laws.FnExactMachineStep -/
def c_wFnExactMachineStep : AFn := ⟨1, .seq (.seq (.ops [o1 1 (.box (.t 0)),
    o1 2 (.mv (.c (.b false)))]) (.keep [1]))
  (.seq (.ops [o1 3 (.mv (.c (.I 1048576)))])
  (.seq (.seq (.ops [o1 14 (.loadN 3 (.t 1)),
    o1 15 (.mv (.t 3)),
    o1 16 (.call f_wszMachine [(.t 14), (.t 15)]),
    o1 3 (.mv (.t 16))]) (.keep [1, 3]))
  (.seq (.seq (.seq (.ops [o1 17 (.mv (.t 3)),
    o1 18 (.bin .lss (.t 17) (.c (.I 0)))]) (.keep [1, 18]))
  (.seq (.cond (.t 18)
  (.seq (.ops [o1 2 (.mv (.c (.b true)))])
  (.ret))
  (.skip)) (.keep [1])))
  (.seq (.seq (.ops [o1 20 (.loadN 3 (.t 1)),
    o1 21 (.call f_wtoMachine [(.t 20)]),
    o1 22 (.call f_sMachineStep [(.t 21)]),
    o1 19 (.mv (.t 22)),
    o1 23 (.ext (.t 19) 0),
    o1 24 (.ext (.t 19) 1),
    o1 4 (.alloc [.nils, (.I 0), .nils]),
    o0 (.store 3 (.t 4) (.t 23)),
    o1 5 (.mv (.t 24))]) (.keep [1, 4, 5]))
  (.seq (.seq (.ops [o1 25 (.loadN 3 (.t 1)),
    o1 26 (.call f_wtoMachine [(.t 25)]),
    o1 6 (.alloc [.nils, (.I 0), .nils]),
    o0 (.store 3 (.t 6) (.t 26))]) (.keep [1, 4, 5, 6]))
  (.seq (.seq (.ops [o1 28 (.loadN 3 (.t 6)),
    o1 29 (.call f_iMachineStep [(.t 28)]),
    o1 27 (.mv (.t 29)),
    o1 30 (.ext (.t 27) 0),
    o1 31 (.ext (.t 27) 1),
    o1 7 (.alloc [.nils, (.I 0), .nils]),
    o0 (.store 3 (.t 7) (.t 30)),
    o1 8 (.mv (.t 31))]) (.keep [1, 4, 5, 6, 7, 8]))
  (.seq (.seq (.seq (.ops [o1 32 (.loadN 3 (.t 7)),
    o1 33 (.loadN 3 (.t 4)),
    o1 34 (.call f_weqMachine [(.t 32), (.t 33)]),
    o1 35 (.un .not (.t 34)),
    o1 36 (.mv (.t 35)),
    ⟨some 37, (some (36, false)), [], false, .mv (.t 8)⟩,
    ⟨some 38, (some (36, false)), [], false, .mv (.t 5)⟩,
    ⟨some 39, (some (36, false)), [], false, .bin .neq (.t 37) (.t 38)⟩,
    o1 40 (.pick (.t 36) (.c (.b true)) (.t 39))]) (.keep [1, 4, 5, 6, 7, 8, 40]))
  (.seq (.cond (.t 40)
  (.seq (.ops [o1 2 (.mv (.c (.b false)))])
  (.ret))
  (.skip)) (.keep [1, 4, 5, 6, 7, 8])))
  (.seq (.seq (.seq (.ops [o1 41 (.loadN 3 (.t 6)),
    o1 42 (.loadN 3 (.t 1)),
    ⟨some 43, none, [], true, .call f_wtoMachine [(.t 42)]⟩,
    ⟨some 44, none, [], true, .call f_weqMachine [(.t 41), (.t 43)]⟩,
    o1 45 (.un .not (.t 44))]) (.keep [1, 4, 5, 6, 7, 8, 45]))
  (.seq (.cond (.t 45)
  (.seq (.ops [o1 2 (.mv (.c (.b false)))])
  (.ret))
  (.skip)) (.keep [1, 4, 5, 6, 7, 8])))
  (.seq (.ops [o1 9 (.mv (.c (.I 1)))])
  (.seq (.seq (.ops [o1 46 (.loadN 3 (.t 6)),
    o1 47 (.mv (.t 9)),
    o1 48 (.call f_wmarkMachine [(.t 46), (.t 47)]),
    o1 9 (.mv (.t 48))]) (.keep [1, 4, 5, 7, 8, 9]))
  (.seq (.seq (.seq (.ops [o1 49 (.mv (.t 9)),
    o1 50 (.bin .lss (.t 49) (.c (.I 0))),
    o1 51 (.mv (.t 50)),
    ⟨some 52, (some (51, false)), [], false, .loadN 3 (.t 7)⟩,
    ⟨some 53, (some (51, false)), [], false, .loadN 3 (.t 4)⟩,
    ⟨some 54, (some (51, false)), [], false, .call f_weqMachine [(.t 52), (.t 53)]⟩,
    ⟨some 55, (some (51, false)), [], false, .un .not (.t 54)⟩,
    o1 56 (.pick (.t 51) (.c (.b true)) (.t 55)),
    o1 57 (.mv (.t 56)),
    ⟨some 58, (some (57, false)), [], false, .mv (.t 8)⟩,
    ⟨some 59, (some (57, false)), [], false, .mv (.t 5)⟩,
    ⟨some 60, (some (57, false)), [], false, .bin .neq (.t 58) (.t 59)⟩,
    o1 61 (.pick (.t 57) (.c (.b true)) (.t 60))]) (.keep [1, 4, 5, 7, 61]))
  (.seq (.cond (.t 61)
  (.seq (.ops [o1 2 (.mv (.c (.b false)))])
  (.ret))
  (.skip)) (.keep [1, 4, 5, 7])))
  (.seq (.ops [o1 10 (.mv (.c (.I 1)))])
  (.seq (.seq (.ops [o1 62 (.loadN 3 (.t 7)),
    o1 63 (.mv (.t 10)),
    o1 64 (.call f_wmarkMachine [(.t 62), (.t 63)]),
    o1 10 (.mv (.t 64))]) (.keep [1, 4, 5, 7, 10]))
  (.seq (.ops [o1 11 (.mv (.c (.I 1)))])
  (.seq (.seq (.ops [o1 65 (.loadN 3 (.t 7)),
    o1 66 (.mv (.t 11)),
    o1 67 (.call f_wheldMachine [(.t 65), (.t 66)]),
    o1 11 (.mv (.t 67))]) (.keep [1, 4, 5, 7, 10, 11]))
  (.seq (.seq (.seq (.ops [o1 68 (.mv (.t 11)),
    o1 69 (.bin .lss (.t 68) (.c (.I 0)))]) (.keep [1, 4, 5, 7, 10, 11, 69]))
  (.seq (.cond (.t 69)
  (.seq (.ops [o1 2 (.mv (.c (.b false)))])
  (.ret))
  (.skip)) (.keep [1, 4, 5, 7, 10, 11])))
  (.seq (.seq (.seq (.ops [o1 70 (.mv (.t 11)),
    o1 71 (.mv (.t 10)),
    o1 72 (.bin .neq (.t 70) (.t 71))]) (.keep [1, 4, 5, 7, 10, 72]))
  (.seq (.cond (.t 72)
  (.seq (.ops [o1 2 (.mv (.c (.b false)))])
  (.ret))
  (.skip)) (.keep [1, 4, 5, 7, 10])))
  (.seq (.seq (.ops [o1 74 (.loadN 3 (.t 1)),
    o1 75 (.call f_wtoMachine [(.t 74)]),
    o1 76 (.call f_iMachineStep [(.t 75)]),
    o1 73 (.mv (.t 76)),
    o1 77 (.ext (.t 73) 0),
    o1 78 (.ext (.t 73) 1),
    o1 12 (.alloc [.nils, (.I 0), .nils]),
    o0 (.store 3 (.t 12) (.t 77)),
    o1 13 (.mv (.t 78))]) (.keep [4, 5, 7, 10, 12, 13]))
  (.seq (.seq (.seq (.ops [o1 79 (.loadN 3 (.t 12)),
    o1 80 (.loadN 3 (.t 4)),
    o1 81 (.call f_weqMachine [(.t 79), (.t 80)]),
    o1 82 (.un .not (.t 81)),
    o1 83 (.mv (.t 82)),
    ⟨some 84, (some (83, false)), [], false, .mv (.t 13)⟩,
    ⟨some 85, (some (83, false)), [], false, .mv (.t 5)⟩,
    ⟨some 86, (some (83, false)), [], false, .bin .neq (.t 84) (.t 85)⟩,
    o1 87 (.pick (.t 83) (.c (.b true)) (.t 86))]) (.keep [7, 10, 87]))
  (.seq (.cond (.t 87)
  (.seq (.ops [o1 2 (.mv (.c (.b false)))])
  (.ret))
  (.skip)) (.keep [7, 10])))
  (.seq (.ops [o1 11 (.mv (.c (.I 1)))])
  (.seq (.seq (.ops [o1 88 (.loadN 3 (.t 7)),
    o1 89 (.mv (.t 11)),
    o1 90 (.call f_wheldMachine [(.t 88), (.t 89)]),
    o1 11 (.mv (.t 90))]) (.keep [10, 11]))
  (.seq (.seq (.seq (.ops [o1 91 (.mv (.t 11)),
    o1 92 (.bin .lss (.t 91) (.c (.I 0)))]) (.keep [10, 11, 92]))
  (.seq (.cond (.t 92)
  (.seq (.ops [o1 2 (.mv (.c (.b false)))])
  (.ret))
  (.skip)) (.keep [10, 11])))
  (.seq (.seq (.seq (.ops [o1 93 (.mv (.t 11)),
    o1 94 (.mv (.t 10)),
    o1 95 (.bin .neq (.t 93) (.t 94))]) (.keep [95]))
  (.seq (.cond (.t 95)
  (.seq (.ops [o1 2 (.mv (.c (.b false)))])
  (.ret))
  (.skip)) (.keep [])))
  (.seq (.ops [o1 2 (.mv (.c (.b true)))])
  (.ret))))))))))))))))))))))))), [.t 2]⟩

/- loop.example/cothreads/laws.FnExactMachineRun -/
def c_wFnExactMachineRun : AFn := ⟨2, .seq (.seq (.ops [o1 2 (.box (.t 0)),
    o1 4 (.mv (.c (.b false)))]) (.keep [1, 2]))
  (.seq (.ops [o1 5 (.mv (.c (.I 1048576)))])
  (.seq (.seq (.ops [o1 19 (.loadN 3 (.t 2)),
    o1 20 (.mv (.t 5)),
    o1 21 (.call f_wszMachine [(.t 19), (.t 20)]),
    o1 5 (.mv (.t 21))]) (.keep [1, 2, 5]))
  (.seq (.seq (.seq (.ops [o1 22 (.mv (.t 5)),
    o1 23 (.bin .lss (.t 22) (.c (.I 0)))]) (.keep [1, 2, 23]))
  (.seq (.cond (.t 23)
  (.seq (.ops [o1 4 (.mv (.c (.b true)))])
  (.ret))
  (.skip)) (.keep [1, 2])))
  (.seq (.seq (.ops [o1 25 (.loadN 3 (.t 2)),
    o1 26 (.call f_wtoMachine [(.t 25)]),
    o1 27 (.mv (.t 1)),
    o1 28 (.call f_sMachineRun [(.t 26), (.t 27)]),
    o1 24 (.mv (.t 28)),
    o1 29 (.ext (.t 24) 0),
    o1 30 (.ext (.t 24) 1),
    o1 31 (.ext (.t 24) 2),
    o1 6 (.alloc [.nils, (.I 0), .nils]),
    o0 (.store 3 (.t 6) (.t 29)),
    o1 7 (.mv (.t 30)),
    o1 8 (.mv (.t 31))]) (.keep [1, 2, 6, 7, 8]))
  (.seq (.seq (.ops [o1 32 (.loadN 3 (.t 2)),
    o1 33 (.call f_wtoMachine [(.t 32)]),
    o1 9 (.alloc [.nils, (.I 0), .nils]),
    o0 (.store 3 (.t 9) (.t 33))]) (.keep [1, 2, 6, 7, 8, 9]))
  (.seq (.seq (.ops [o1 35 (.loadN 3 (.t 9)),
    o1 36 (.mv (.t 1)),
    o1 37 (.call f_iMachineRun [(.t 35), (.t 36)]),
    o1 34 (.mv (.t 37)),
    o1 38 (.ext (.t 34) 0),
    o1 39 (.ext (.t 34) 1),
    o1 40 (.ext (.t 34) 2),
    o1 10 (.alloc [.nils, (.I 0), .nils]),
    o0 (.store 3 (.t 10) (.t 38)),
    o1 11 (.mv (.t 39)),
    o1 12 (.mv (.t 40))]) (.keep [1, 2, 6, 7, 8, 9, 10, 11, 12]))
  (.seq (.seq (.seq (.ops [o1 41 (.loadN 3 (.t 10)),
    o1 42 (.loadN 3 (.t 6)),
    o1 43 (.call f_weqMachine [(.t 41), (.t 42)]),
    o1 44 (.un .not (.t 43)),
    o1 45 (.mv (.t 44)),
    ⟨some 46, (some (45, false)), [], false, .mv (.t 11)⟩,
    ⟨some 47, (some (45, false)), [], false, .mv (.t 7)⟩,
    ⟨some 48, (some (45, false)), [], false, .bin .neq (.t 46) (.t 47)⟩,
    o1 49 (.pick (.t 45) (.c (.b true)) (.t 48)),
    o1 50 (.mv (.t 49)),
    ⟨some 51, (some (50, false)), [], false, .mv (.t 12)⟩,
    ⟨some 52, (some (50, false)), [], false, .mv (.t 8)⟩,
    ⟨some 53, (some (50, false)), [], false, .bin .neq (.t 51) (.t 52)⟩,
    o1 54 (.pick (.t 50) (.c (.b true)) (.t 53))]) (.keep [1, 2, 6, 7, 8, 9, 10, 11, 12, 54]))
  (.seq (.cond (.t 54)
  (.seq (.ops [o1 4 (.mv (.c (.b false)))])
  (.ret))
  (.skip)) (.keep [1, 2, 6, 7, 8, 9, 10, 11, 12])))
  (.seq (.seq (.seq (.ops [o1 55 (.loadN 3 (.t 9)),
    o1 56 (.loadN 3 (.t 2)),
    ⟨some 57, none, [], true, .call f_wtoMachine [(.t 56)]⟩,
    ⟨some 58, none, [], true, .call f_weqMachine [(.t 55), (.t 57)]⟩,
    o1 59 (.un .not (.t 58))]) (.keep [1, 2, 6, 7, 8, 9, 10, 11, 12, 59]))
  (.seq (.cond (.t 59)
  (.seq (.ops [o1 4 (.mv (.c (.b false)))])
  (.ret))
  (.skip)) (.keep [1, 2, 6, 7, 8, 9, 10, 11, 12])))
  (.seq (.ops [o1 13 (.mv (.c (.I 1)))])
  (.seq (.seq (.ops [o1 60 (.loadN 3 (.t 9)),
    o1 61 (.mv (.t 13)),
    o1 62 (.call f_wmarkMachine [(.t 60), (.t 61)]),
    o1 13 (.mv (.t 62))]) (.keep [1, 2, 6, 7, 8, 10, 11, 12, 13]))
  (.seq (.seq (.seq (.ops [o1 63 (.mv (.t 13)),
    o1 64 (.bin .lss (.t 63) (.c (.I 0))),
    o1 65 (.mv (.t 64)),
    ⟨some 66, (some (65, false)), [], false, .loadN 3 (.t 10)⟩,
    ⟨some 67, (some (65, false)), [], false, .loadN 3 (.t 6)⟩,
    ⟨some 68, (some (65, false)), [], false, .call f_weqMachine [(.t 66), (.t 67)]⟩,
    ⟨some 69, (some (65, false)), [], false, .un .not (.t 68)⟩,
    o1 70 (.pick (.t 65) (.c (.b true)) (.t 69)),
    o1 71 (.mv (.t 70)),
    ⟨some 72, (some (71, false)), [], false, .mv (.t 11)⟩,
    ⟨some 73, (some (71, false)), [], false, .mv (.t 7)⟩,
    ⟨some 74, (some (71, false)), [], false, .bin .neq (.t 72) (.t 73)⟩,
    o1 75 (.pick (.t 71) (.c (.b true)) (.t 74)),
    o1 76 (.mv (.t 75)),
    ⟨some 77, (some (76, false)), [], false, .mv (.t 12)⟩,
    ⟨some 78, (some (76, false)), [], false, .mv (.t 8)⟩,
    ⟨some 79, (some (76, false)), [], false, .bin .neq (.t 77) (.t 78)⟩,
    o1 80 (.pick (.t 76) (.c (.b true)) (.t 79))]) (.keep [1, 2, 6, 7, 8, 10, 80]))
  (.seq (.cond (.t 80)
  (.seq (.ops [o1 4 (.mv (.c (.b false)))])
  (.ret))
  (.skip)) (.keep [1, 2, 6, 7, 8, 10])))
  (.seq (.ops [o1 14 (.mv (.c (.I 1)))])
  (.seq (.seq (.ops [o1 81 (.loadN 3 (.t 10)),
    o1 82 (.mv (.t 14)),
    o1 83 (.call f_wmarkMachine [(.t 81), (.t 82)]),
    o1 14 (.mv (.t 83))]) (.keep [1, 2, 6, 7, 8, 10, 14]))
  (.seq (.ops [o1 15 (.mv (.c (.I 1)))])
  (.seq (.seq (.ops [o1 84 (.loadN 3 (.t 10)),
    o1 85 (.mv (.t 15)),
    o1 86 (.call f_wheldMachine [(.t 84), (.t 85)]),
    o1 15 (.mv (.t 86))]) (.keep [1, 2, 6, 7, 8, 10, 14, 15]))
  (.seq (.seq (.seq (.ops [o1 87 (.mv (.t 15)),
    o1 88 (.bin .lss (.t 87) (.c (.I 0)))]) (.keep [1, 2, 6, 7, 8, 10, 14, 15, 88]))
  (.seq (.cond (.t 88)
  (.seq (.ops [o1 4 (.mv (.c (.b false)))])
  (.ret))
  (.skip)) (.keep [1, 2, 6, 7, 8, 10, 14, 15])))
  (.seq (.seq (.seq (.ops [o1 89 (.mv (.t 15)),
    o1 90 (.mv (.t 14)),
    o1 91 (.bin .neq (.t 89) (.t 90))]) (.keep [1, 2, 6, 7, 8, 10, 14, 91]))
  (.seq (.cond (.t 91)
  (.seq (.ops [o1 4 (.mv (.c (.b false)))])
  (.ret))
  (.skip)) (.keep [1, 2, 6, 7, 8, 10, 14])))
  (.seq (.seq (.ops [o1 93 (.loadN 3 (.t 2)),
    o1 94 (.call f_wtoMachine [(.t 93)]),
    o1 95 (.mv (.t 1)),
    o1 96 (.call f_iMachineRun [(.t 94), (.t 95)]),
    o1 92 (.mv (.t 96)),
    o1 97 (.ext (.t 92) 0),
    o1 98 (.ext (.t 92) 1),
    o1 99 (.ext (.t 92) 2),
    o1 16 (.alloc [.nils, (.I 0), .nils]),
    o0 (.store 3 (.t 16) (.t 97)),
    o1 17 (.mv (.t 98)),
    o1 18 (.mv (.t 99))]) (.keep [6, 7, 8, 10, 14, 16, 17, 18]))
  (.seq (.seq (.seq (.ops [o1 100 (.loadN 3 (.t 16)),
    o1 101 (.loadN 3 (.t 6)),
    o1 102 (.call f_weqMachine [(.t 100), (.t 101)]),
    o1 103 (.un .not (.t 102)),
    o1 104 (.mv (.t 103)),
    ⟨some 105, (some (104, false)), [], false, .mv (.t 17)⟩,
    ⟨some 106, (some (104, false)), [], false, .mv (.t 7)⟩,
    ⟨some 107, (some (104, false)), [], false, .bin .neq (.t 105) (.t 106)⟩,
    o1 108 (.pick (.t 104) (.c (.b true)) (.t 107)),
    o1 109 (.mv (.t 108)),
    ⟨some 110, (some (109, false)), [], false, .mv (.t 18)⟩,
    ⟨some 111, (some (109, false)), [], false, .mv (.t 8)⟩,
    ⟨some 112, (some (109, false)), [], false, .bin .neq (.t 110) (.t 111)⟩,
    o1 113 (.pick (.t 109) (.c (.b true)) (.t 112))]) (.keep [10, 14, 113]))
  (.seq (.cond (.t 113)
  (.seq (.ops [o1 4 (.mv (.c (.b false)))])
  (.ret))
  (.skip)) (.keep [10, 14])))
  (.seq (.ops [o1 15 (.mv (.c (.I 1)))])
  (.seq (.seq (.ops [o1 114 (.loadN 3 (.t 10)),
    o1 115 (.mv (.t 15)),
    o1 116 (.call f_wheldMachine [(.t 114), (.t 115)]),
    o1 15 (.mv (.t 116))]) (.keep [14, 15]))
  (.seq (.seq (.seq (.ops [o1 117 (.mv (.t 15)),
    o1 118 (.bin .lss (.t 117) (.c (.I 0)))]) (.keep [14, 15, 118]))
  (.seq (.cond (.t 118)
  (.seq (.ops [o1 4 (.mv (.c (.b false)))])
  (.ret))
  (.skip)) (.keep [14, 15])))
  (.seq (.seq (.seq (.ops [o1 119 (.mv (.t 15)),
    o1 120 (.mv (.t 14)),
    o1 121 (.bin .neq (.t 119) (.t 120))]) (.keep [121]))
  (.seq (.cond (.t 121)
  (.seq (.ops [o1 4 (.mv (.c (.b false)))])
  (.ret))
  (.skip)) (.keep [])))
  (.seq (.ops [o1 4 (.mv (.c (.b true)))])
  (.ret))))))))))))))))))))))))), [.t 4]⟩

/- loop.example/cothreads/laws.FnMachineNext -/
def c_wFnMachineNext : AFn := ⟨1, .seq (.seq (.ops [o1 2 (.mv (.c (.b false)))]) (.keep [0]))
  (.seq (.seq (.seq (.ops [o1 11 (.mv (.t 0)),
    o1 12 (.len (.t 11)),
    o1 13 (.bin .gtr (.t 12) (.c (.I 1048576)))]) (.keep [0, 13]))
  (.seq (.cond (.t 13)
  (.seq (.ops [o1 2 (.mv (.c (.b true)))])
  (.ret))
  (.skip)) (.keep [0])))
  (.seq (.seq (.ops [o1 14 (.mv (.t 0)),
    o1 15 (.call f_sDrawMachineStep [(.t 14)]),
    o1 3 (.alloc [.nils, (.I 0), .nils]),
    o0 (.store 3 (.t 3) (.t 15))]) (.keep [3]))
  (.seq (.seq (.ops [o1 17 (.loadN 3 (.t 3)),
    o1 18 (.call f_iMachineStep [(.t 17)]),
    o1 16 (.mv (.t 18)),
    o1 19 (.ext (.t 16) 0),
    o1 20 (.ext (.t 16) 1),
    o1 4 (.alloc [.nils, (.I 0), .nils]),
    o0 (.store 3 (.t 4) (.t 19)),
    o1 5 (.mv (.t 20))]) (.keep [3, 4, 5]))
  (.seq (.seq (.ops [o1 22 (.loadN 3 (.t 3)),
    o1 23 (.call f_sMachineStep [(.t 22)]),
    o1 21 (.mv (.t 23)),
    o1 24 (.ext (.t 21) 0),
    o1 25 (.ext (.t 21) 1),
    o1 6 (.alloc [.nils, (.I 0), .nils]),
    o0 (.store 3 (.t 6) (.t 24)),
    o1 7 (.mv (.t 25))]) (.keep [3, 4, 5, 6, 7]))
  (.seq (.seq (.seq (.ops [o1 26 (.mv (.t 5)),
    o1 27 (.mv (.t 7)),
    o1 28 (.bin .neq (.t 26) (.t 27)),
    o1 29 (.mv (.t 28)),
    ⟨some 30, (some (29, false)), [], false, .loadN 3 (.t 4)⟩,
    ⟨some 31, (some (29, false)), [], false, .loadN 3 (.t 6)⟩,
    ⟨some 32, (some (29, false)), [], false, .call f_wsameMachine [(.t 30), (.t 31)]⟩,
    ⟨some 33, (some (29, false)), [], false, .un .not (.t 32)⟩,
    o1 34 (.pick (.t 29) (.c (.b true)) (.t 33))]) (.keep [3, 4, 5, 34]))
  (.seq (.cond (.t 34)
  (.seq (.ops [o1 2 (.mv (.c (.b false)))])
  (.ret))
  (.skip)) (.keep [3, 4, 5])))
  (.seq (.seq (.seq (.ops [o1 35 (.mv (.t 5)),
    o1 36 (.bin .neq (.t 35) (.c (.I 1)))]) (.keep [3, 4, 36]))
  (.seq (.cond (.t 36)
  (.seq (.ops [o1 2 (.mv (.c (.b true)))])
  (.ret))
  (.skip)) (.keep [3, 4])))
  (.seq (.seq (.ops [o1 38 (.fldA 2 (.t 3)),
    o1 39 (.load (.t 38)),
    o1 40 (.fldA 1 (.t 3)),
    o1 41 (.load (.t 40)),
    o1 42 (.bin .quo (.t 41) (.c (.I 4))),
    o1 43 (.idxA 1 (.t 39) (.t 42)),
    o1 44 (.load (.t 43)),
    o1 45 (.call f_iUnsigned [(.t 44)]),
    o1 46 (.call f_iInstrDecode [(.t 45)]),
    o1 37 (.mv (.t 46)),
    o1 47 (.ext (.t 37) 0),
    o1 48 (.ext (.t 37) 1),
    o1 8 (.alloc [(.I 0), (.I 0), (.I 0), (.I 0), (.I 0)]),
    o0 (.store 5 (.t 8) (.t 47)),
    o1 9 (.mv (.t 48))]) (.keep [3, 4, 8, 9]))
  (.seq (.seq (.seq (.ops [o1 49 (.mv (.t 9)),
    o1 50 (.un .not (.t 49))]) (.keep [3, 4, 8, 50]))
  (.seq (.cond (.t 50)
  (.seq (.ops [o1 2 (.mv (.c (.b false)))])
  (.ret))
  (.skip)) (.keep [3, 4, 8])))
  (.seq (.seq (.seq (.ops [o1 51 (.fldA 0 (.t 8)),
    o1 52 (.load (.t 51)),
    o1 53 (.bin .eql (.t 52) (.c (.I 15)))]) (.keep [3, 4, 8, 53]))
  (.seq (.cond (.t 53)
  (.seq (.seq (.ops [o1 54 (.fldA 1 (.t 4)),
    o1 55 (.load (.t 54)),
    o1 56 (.bin .rem (.t 55) (.c (.I 2))),
    o1 57 (.bin .eql (.t 56) (.c (.I 0))),
    o1 2 (.mv (.t 57))]) (.keep [2]))
  (.ret))
  (.skip)) (.keep [3, 4, 8])))
  (.seq (.seq (.ops [o1 58 (.fldA 0 (.t 8)),
    o1 59 (.load (.t 58)),
    o1 60 (.bin .eql (.t 59) (.c (.I 17))),
    o1 61 (.mv (.t 60)),
    ⟨some 62, (some (61, false)), [], false, .fldA 0 (.t 8)⟩,
    ⟨some 63, (some (61, false)), [], false, .load (.t 62)⟩,
    ⟨some 64, (some (61, false)), [], false, .bin .eql (.t 63) (.c (.I 18))⟩,
    o1 65 (.pick (.t 61) (.c (.b true)) (.t 64)),
    o1 66 (.mv (.t 65)),
    ⟨some 67, (some (66, false)), [], false, .fldA 0 (.t 8)⟩,
    ⟨some 68, (some (66, false)), [], false, .load (.t 67)⟩,
    ⟨some 69, (some (66, false)), [], false, .bin .eql (.t 68) (.c (.I 20))⟩,
    o1 70 (.pick (.t 66) (.c (.b true)) (.t 69)),
    o1 10 (.mv (.t 70))]) (.keep [3, 4, 8, 10]))
  (.seq (.seq (.ops [o1 71 (.fldA 0 (.t 8)),
    o1 72 (.load (.t 71)),
    o1 73 (.bin .neq (.t 72) (.c (.I 20))),
    o1 74 (.mv (.t 73)),
    ⟨some 75, (some (74, true)), [], false, .fldA 1 (.t 4)⟩,
    ⟨some 76, (some (74, true)), [], false, .load (.t 75)⟩,
    ⟨some 77, (some (74, true)), [], false, .fldA 1 (.t 3)⟩,
    ⟨some 78, (some (74, true)), [], false, .load (.t 77)⟩,
    ⟨some 79, (some (74, true)), [], false, .bin .add (.t 78) (.c (.I 4))⟩,
    ⟨some 80, (some (74, true)), [], false, .bin .eql (.t 76) (.t 79)⟩,
    o1 81 (.pick (.t 74) (.t 80) (.c (.b false))),
    o1 82 (.mv (.t 81)),
    ⟨some 83, (some (82, false)), [], false, .mv (.t 10)⟩,
    ⟨some 84, (some (82, false)), [], false, .mv (.t 83)⟩,
    ⟨some 85, (some (84, true)), [], false, .fldA 1 (.t 4)⟩,
    ⟨some 86, (some (84, true)), [], false, .load (.t 85)⟩,
    ⟨some 87, (some (84, true)), [], false, .fldA 1 (.t 3)⟩,
    ⟨some 88, (some (84, true)), [], false, .load (.t 87)⟩,
    ⟨some 89, (some (84, true)), [], false, .fldA 4 (.t 8)⟩,
    ⟨some 90, (some (84, true)), [], false, .load (.t 89)⟩,
    ⟨some 91, (some (84, true)), [], false, .bin .add (.t 88) (.t 90)⟩,
    ⟨some 92, (some (84, true)), [], true, .call f_iWrap [(.t 91)]⟩,
    ⟨some 93, (some (84, true)), [], false, .bin .eql (.t 86) (.t 92)⟩,
    ⟨some 94, (some (82, false)), [], false, .pick (.t 84) (.t 93) (.c (.b false))⟩,
    o1 95 (.pick (.t 82) (.c (.b true)) (.t 94)),
    o1 2 (.mv (.t 95))]) (.keep [2]))
  (.ret)))))))))))), [.t 2]⟩

/- loop.example/cothreads/laws.FnMachineStep -/
def c_wFnMachineStep : AFn := ⟨1, .seq (.seq (.ops [o1 2 (.mv (.c (.b false)))]) (.keep [0]))
  (.seq (.seq (.seq (.ops [o1 8 (.mv (.t 0)),
    o1 9 (.len (.t 8)),
    o1 10 (.bin .gtr (.t 9) (.c (.I 1048576)))]) (.keep [0, 10]))
  (.seq (.cond (.t 10)
  (.seq (.ops [o1 2 (.mv (.c (.b true)))])
  (.ret))
  (.skip)) (.keep [0])))
  (.seq (.seq (.ops [o1 11 (.mv (.t 0)),
    o1 12 (.call f_sDrawMachineStep [(.t 11)]),
    o1 3 (.alloc [.nils, (.I 0), .nils]),
    o0 (.store 3 (.t 3) (.t 12))]) (.keep [3]))
  (.seq (.seq (.ops [o1 14 (.loadN 3 (.t 3)),
    o1 15 (.call f_iMachineStep [(.t 14)]),
    o1 13 (.mv (.t 15)),
    o1 16 (.ext (.t 13) 0),
    o1 17 (.ext (.t 13) 1),
    o1 4 (.alloc [.nils, (.I 0), .nils]),
    o0 (.store 3 (.t 4) (.t 16)),
    o1 5 (.mv (.t 17))]) (.keep [3, 4, 5]))
  (.seq (.seq (.ops [o1 19 (.loadN 3 (.t 3)),
    o1 20 (.call f_sMachineStep [(.t 19)]),
    o1 18 (.mv (.t 20)),
    o1 21 (.ext (.t 18) 0),
    o1 22 (.ext (.t 18) 1),
    o1 6 (.alloc [.nils, (.I 0), .nils]),
    o0 (.store 3 (.t 6) (.t 21)),
    o1 7 (.mv (.t 22))]) (.keep [3, 4, 5, 6, 7]))
  (.seq (.seq (.seq (.ops [o1 23 (.mv (.t 5)),
    o1 24 (.mv (.t 7)),
    o1 25 (.bin .neq (.t 23) (.t 24)),
    o1 26 (.mv (.t 25)),
    ⟨some 27, (some (26, false)), [], false, .loadN 3 (.t 4)⟩,
    ⟨some 28, (some (26, false)), [], false, .loadN 3 (.t 6)⟩,
    ⟨some 29, (some (26, false)), [], false, .call f_wsameMachine [(.t 27), (.t 28)]⟩,
    ⟨some 30, (some (26, false)), [], false, .un .not (.t 29)⟩,
    o1 31 (.pick (.t 26) (.c (.b true)) (.t 30))]) (.keep [3, 4, 5, 31]))
  (.seq (.cond (.t 31)
  (.seq (.ops [o1 2 (.mv (.c (.b false)))])
  (.ret))
  (.skip)) (.keep [3, 4, 5])))
  (.seq (.seq (.seq (.ops [o1 32 (.mv (.t 5)),
    o1 33 (.bin .eql (.t 32) (.c (.I 0)))]) (.keep [3, 4, 33]))
  (.seq (.cond (.t 33)
  (.seq (.ops [o1 2 (.mv (.c (.b true)))])
  (.ret))
  (.skip)) (.keep [3, 4])))
  (.seq (.seq (.ops [o1 34 (.loadN 3 (.t 4)),
    o1 35 (.call f_iMachineValid [(.t 34)]),
    o1 36 (.mv (.t 35)),
    ⟨some 37, (some (36, true)), [], false, .fldA 2 (.t 4)⟩,
    ⟨some 38, (some (36, true)), [], false, .load (.t 37)⟩,
    ⟨some 39, (some (36, true)), [], false, .len (.t 38)⟩,
    ⟨some 40, (some (36, true)), [], false, .fldA 2 (.t 3)⟩,
    ⟨some 41, (some (36, true)), [], false, .load (.t 40)⟩,
    ⟨some 42, (some (36, true)), [], false, .len (.t 41)⟩,
    ⟨some 43, (some (36, true)), [], false, .bin .eql (.t 39) (.t 42)⟩,
    o1 44 (.pick (.t 36) (.t 43) (.c (.b false))),
    o1 2 (.mv (.t 44))]) (.keep [2]))
  (.ret)))))))), [.t 2]⟩

/- loop.example/cothreads/laws.FnMachineStill -/
def c_wFnMachineStill : AFn := ⟨1, .seq (.seq (.ops [o1 2 (.mv (.c (.b false)))]) (.keep [0]))
  (.seq (.seq (.seq (.ops [o1 8 (.mv (.t 0)),
    o1 9 (.len (.t 8)),
    o1 10 (.bin .gtr (.t 9) (.c (.I 1048576)))]) (.keep [0, 10]))
  (.seq (.cond (.t 10)
  (.seq (.ops [o1 2 (.mv (.c (.b true)))])
  (.ret))
  (.skip)) (.keep [0])))
  (.seq (.seq (.ops [o1 11 (.mv (.t 0)),
    o1 12 (.call f_sDrawMachineStep [(.t 11)]),
    o1 3 (.alloc [.nils, (.I 0), .nils]),
    o0 (.store 3 (.t 3) (.t 12))]) (.keep [3]))
  (.seq (.seq (.ops [o1 14 (.loadN 3 (.t 3)),
    o1 15 (.call f_iMachineStep [(.t 14)]),
    o1 13 (.mv (.t 15)),
    o1 16 (.ext (.t 13) 0),
    o1 17 (.ext (.t 13) 1),
    o1 4 (.alloc [.nils, (.I 0), .nils]),
    o0 (.store 3 (.t 4) (.t 16)),
    o1 5 (.mv (.t 17))]) (.keep [3, 4, 5]))
  (.seq (.seq (.ops [o1 19 (.loadN 3 (.t 3)),
    o1 20 (.call f_sMachineStep [(.t 19)]),
    o1 18 (.mv (.t 20)),
    o1 21 (.ext (.t 18) 0),
    o1 22 (.ext (.t 18) 1),
    o1 6 (.alloc [.nils, (.I 0), .nils]),
    o0 (.store 3 (.t 6) (.t 21)),
    o1 7 (.mv (.t 22))]) (.keep [3, 4, 5, 6, 7]))
  (.seq (.seq (.seq (.ops [o1 23 (.mv (.t 5)),
    o1 24 (.mv (.t 7)),
    o1 25 (.bin .neq (.t 23) (.t 24)),
    o1 26 (.mv (.t 25)),
    ⟨some 27, (some (26, false)), [], false, .loadN 3 (.t 4)⟩,
    ⟨some 28, (some (26, false)), [], false, .loadN 3 (.t 6)⟩,
    ⟨some 29, (some (26, false)), [], false, .call f_wsameMachine [(.t 27), (.t 28)]⟩,
    ⟨some 30, (some (26, false)), [], false, .un .not (.t 29)⟩,
    o1 31 (.pick (.t 26) (.c (.b true)) (.t 30))]) (.keep [3, 4, 5, 31]))
  (.seq (.cond (.t 31)
  (.seq (.ops [o1 2 (.mv (.c (.b false)))])
  (.ret))
  (.skip)) (.keep [3, 4, 5])))
  (.seq (.seq (.seq (.ops [o1 32 (.mv (.t 5)),
    o1 33 (.bin .neq (.t 32) (.c (.I 2))),
    o1 34 (.mv (.t 33)),
    ⟨some 35, (some (34, true)), [], false, .mv (.t 5)⟩,
    ⟨some 36, (some (34, true)), [], false, .bin .neq (.t 35) (.c (.I 3))⟩,
    o1 37 (.pick (.t 34) (.t 36) (.c (.b false)))]) (.keep [3, 4, 37]))
  (.seq (.cond (.t 37)
  (.seq (.ops [o1 2 (.mv (.c (.b true)))])
  (.ret))
  (.skip)) (.keep [3, 4])))
  (.seq (.seq (.ops [o1 38 (.loadN 3 (.t 4)),
    o1 39 (.loadN 3 (.t 3)),
    o1 40 (.call f_wsameMachine [(.t 38), (.t 39)]),
    o1 2 (.mv (.t 40))]) (.keep [2]))
  (.ret)))))))), [.t 2]⟩

/- loop.example/cothreads/laws.FnMachineDecode -/
def c_wFnMachineDecode : AFn := ⟨1, .seq (.seq (.ops [o1 2 (.mv (.c (.b false)))]) (.keep [0]))
  (.seq (.seq (.seq (.ops [o1 10 (.mv (.t 0)),
    o1 11 (.len (.t 10)),
    o1 12 (.bin .gtr (.t 11) (.c (.I 1048576)))]) (.keep [0, 12]))
  (.seq (.cond (.t 12)
  (.seq (.ops [o1 2 (.mv (.c (.b true)))])
  (.ret))
  (.skip)) (.keep [0])))
  (.seq (.seq (.ops [o1 13 (.mv (.t 0)),
    o1 14 (.call f_sDrawMachineStep [(.t 13)]),
    o1 3 (.alloc [.nils, (.I 0), .nils]),
    o0 (.store 3 (.t 3) (.t 14))]) (.keep [3]))
  (.seq (.seq (.ops [o1 16 (.loadN 3 (.t 3)),
    o1 17 (.call f_iMachineStep [(.t 16)]),
    o1 15 (.mv (.t 17)),
    o1 18 (.ext (.t 15) 0),
    o1 19 (.ext (.t 15) 1),
    o1 4 (.alloc [.nils, (.I 0), .nils]),
    o0 (.store 3 (.t 4) (.t 18)),
    o1 5 (.mv (.t 19))]) (.keep [3, 4, 5]))
  (.seq (.seq (.ops [o1 21 (.loadN 3 (.t 3)),
    o1 22 (.call f_sMachineStep [(.t 21)]),
    o1 20 (.mv (.t 22)),
    o1 23 (.ext (.t 20) 0),
    o1 24 (.ext (.t 20) 1),
    o1 6 (.alloc [.nils, (.I 0), .nils]),
    o0 (.store 3 (.t 6) (.t 23)),
    o1 7 (.mv (.t 24))]) (.keep [3, 4, 5, 6, 7]))
  (.seq (.seq (.seq (.ops [o1 25 (.mv (.t 5)),
    o1 26 (.mv (.t 7)),
    o1 27 (.bin .neq (.t 25) (.t 26)),
    o1 28 (.mv (.t 27)),
    ⟨some 29, (some (28, false)), [], false, .loadN 3 (.t 4)⟩,
    ⟨some 30, (some (28, false)), [], false, .loadN 3 (.t 6)⟩,
    ⟨some 31, (some (28, false)), [], false, .call f_wsameMachine [(.t 29), (.t 30)]⟩,
    ⟨some 32, (some (28, false)), [], false, .un .not (.t 31)⟩,
    o1 33 (.pick (.t 28) (.c (.b true)) (.t 32))]) (.keep [3, 4, 5, 33]))
  (.seq (.cond (.t 33)
  (.seq (.ops [o1 2 (.mv (.c (.b false)))])
  (.ret))
  (.skip)) (.keep [3, 4, 5])))
  (.seq (.seq (.seq (.ops [o1 34 (.mv (.t 5)),
    o1 35 (.bin .neq (.t 34) (.c (.I 1))),
    o1 36 (.mv (.t 35)),
    ⟨some 37, (some (36, true)), [], false, .mv (.t 5)⟩,
    ⟨some 38, (some (36, true)), [], false, .bin .neq (.t 37) (.c (.I 2))⟩,
    o1 39 (.pick (.t 36) (.t 38) (.c (.b false)))]) (.keep [3, 4, 5, 39]))
  (.seq (.cond (.t 39)
  (.seq (.ops [o1 2 (.mv (.c (.b true)))])
  (.ret))
  (.skip)) (.keep [3, 4, 5])))
  (.seq (.seq (.ops [o1 41 (.fldA 2 (.t 3)),
    o1 42 (.load (.t 41)),
    o1 43 (.fldA 1 (.t 3)),
    o1 44 (.load (.t 43)),
    o1 45 (.bin .quo (.t 44) (.c (.I 4))),
    o1 46 (.idxA 1 (.t 42) (.t 45)),
    o1 47 (.load (.t 46)),
    o1 48 (.call f_iUnsigned [(.t 47)]),
    o1 49 (.call f_iInstrDecode [(.t 48)]),
    o1 40 (.mv (.t 49)),
    o1 50 (.ext (.t 40) 0),
    o1 51 (.ext (.t 40) 1),
    o1 8 (.alloc [(.I 0), (.I 0), (.I 0), (.I 0), (.I 0)]),
    o0 (.store 5 (.t 8) (.t 50)),
    o1 9 (.mv (.t 51))]) (.keep [3, 4, 5, 8, 9]))
  (.seq (.seq (.ops [o1 52 (.mv (.t 9)),
    o1 53 (.mv (.t 52)),
    ⟨some 54, (some (53, true)), [], false, .mv (.t 5)⟩,
    ⟨some 55, (some (53, true)), [], false, .bin .eql (.t 54) (.c (.I 2))⟩,
    ⟨some 56, (some (53, true)), [], false, .fldA 0 (.t 8)⟩,
    ⟨some 57, (some (53, true)), [], false, .load (.t 56)⟩,
    ⟨some 58, (some (53, true)), [], false, .bin .eql (.t 57) (.c (.I 21))⟩,
    ⟨some 59, (some (53, true)), [], false, .eqB false (.t 55) (.t 58)⟩,
    o1 60 (.pick (.t 53) (.t 59) (.c (.b false))),
    o1 61 (.mv (.t 60)),
    ⟨some 62, (some (61, true)), [], false, .fldA 0 (.t 8)⟩,
    ⟨some 63, (some (61, true)), [], false, .load (.t 62)⟩,
    ⟨some 64, (some (61, true)), [], false, .bin .eql (.t 63) (.c (.I 16))⟩,
    ⟨some 65, (some (61, true)), [], false, .mv (.t 64)⟩,
    ⟨some 66, (some (65, false)), [], false, .fldA 2 (.t 4)⟩,
    ⟨some 67, (some (65, false)), [], false, .load (.t 66)⟩,
    ⟨some 68, (some (65, false)), [], false, .fldA 2 (.t 3)⟩,
    ⟨some 69, (some (65, false)), [], false, .load (.t 68)⟩,
    ⟨some 70, (some (65, false)), [], false, .call f_wdiffers [(.t 67), (.t 69)]⟩,
    ⟨some 71, (some (65, false)), [], false, .bin .eql (.t 70) (.c (.I 0))⟩,
    ⟨some 72, (some (61, true)), [], false, .pick (.t 65) (.c (.b true)) (.t 71)⟩,
    o1 73 (.pick (.t 61) (.t 72) (.c (.b false))),
    o1 2 (.mv (.t 73))]) (.keep [2]))
  (.ret))))))))), [.t 2]⟩

/- loop.example/cothreads/laws.FnMachineOne -/
def c_wFnMachineOne : AFn := ⟨1, .seq (.seq (.ops [o1 2 (.mv (.c (.b false)))]) (.keep [0]))
  (.seq (.seq (.seq (.ops [o1 8 (.mv (.t 0)),
    o1 9 (.len (.t 8)),
    o1 10 (.bin .gtr (.t 9) (.c (.I 1048576)))]) (.keep [0, 10]))
  (.seq (.cond (.t 10)
  (.seq (.ops [o1 2 (.mv (.c (.b true)))])
  (.ret))
  (.skip)) (.keep [0])))
  (.seq (.seq (.ops [o1 11 (.mv (.t 0)),
    o1 12 (.call f_sDrawMachineStep [(.t 11)]),
    o1 3 (.alloc [.nils, (.I 0), .nils]),
    o0 (.store 3 (.t 3) (.t 12))]) (.keep [3]))
  (.seq (.seq (.ops [o1 14 (.loadN 3 (.t 3)),
    o1 15 (.call f_iMachineStep [(.t 14)]),
    o1 13 (.mv (.t 15)),
    o1 16 (.ext (.t 13) 0),
    o1 17 (.ext (.t 13) 1),
    o1 4 (.alloc [.nils, (.I 0), .nils]),
    o0 (.store 3 (.t 4) (.t 16)),
    o1 5 (.mv (.t 17))]) (.keep [3, 4, 5]))
  (.seq (.seq (.ops [o1 19 (.loadN 3 (.t 3)),
    o1 20 (.call f_sMachineStep [(.t 19)]),
    o1 18 (.mv (.t 20)),
    o1 21 (.ext (.t 18) 0),
    o1 22 (.ext (.t 18) 1),
    o1 6 (.alloc [.nils, (.I 0), .nils]),
    o0 (.store 3 (.t 6) (.t 21)),
    o1 7 (.mv (.t 22))]) (.keep [3, 4, 5, 6, 7]))
  (.seq (.seq (.seq (.ops [o1 23 (.mv (.t 5)),
    o1 24 (.mv (.t 7)),
    o1 25 (.bin .neq (.t 23) (.t 24)),
    o1 26 (.mv (.t 25)),
    ⟨some 27, (some (26, false)), [], false, .loadN 3 (.t 4)⟩,
    ⟨some 28, (some (26, false)), [], false, .loadN 3 (.t 6)⟩,
    ⟨some 29, (some (26, false)), [], false, .call f_wsameMachine [(.t 27), (.t 28)]⟩,
    ⟨some 30, (some (26, false)), [], false, .un .not (.t 29)⟩,
    o1 31 (.pick (.t 26) (.c (.b true)) (.t 30))]) (.keep [3, 4, 5, 31]))
  (.seq (.cond (.t 31)
  (.seq (.ops [o1 2 (.mv (.c (.b false)))])
  (.ret))
  (.skip)) (.keep [3, 4, 5])))
  (.seq (.seq (.seq (.ops [o1 32 (.mv (.t 5)),
    o1 33 (.bin .neq (.t 32) (.c (.I 1)))]) (.keep [3, 4, 33]))
  (.seq (.cond (.t 33)
  (.seq (.ops [o1 2 (.mv (.c (.b true)))])
  (.ret))
  (.skip)) (.keep [3, 4])))
  (.seq (.seq (.ops [o1 34 (.fldA 0 (.t 4)),
    o1 35 (.load (.t 34)),
    o1 36 (.fldA 0 (.t 3)),
    o1 37 (.load (.t 36)),
    ⟨some 38, none, [], true, .call f_wdiffers [(.t 35), (.t 37)]⟩,
    o1 39 (.fldA 2 (.t 4)),
    o1 40 (.load (.t 39)),
    o1 41 (.fldA 2 (.t 3)),
    o1 42 (.load (.t 41)),
    ⟨some 43, none, [], true, .call f_wdiffers [(.t 40), (.t 42)]⟩,
    o1 44 (.bin .add (.t 38) (.t 43)),
    o1 45 (.bin .leq (.t 44) (.c (.I 1))),
    o1 2 (.mv (.t 45))]) (.keep [2]))
  (.ret)))))))), [.t 2]⟩

/- loop.example/cothreads/laws.FnMachineAlu -/
def c_wFnMachineAlu : AFn := ⟨1, .seq (.seq (.ops [o1 2 (.mv (.c (.b false)))]) (.keep [0]))
  (.seq (.seq (.seq (.ops [o1 13 (.mv (.t 0)),
    o1 14 (.len (.t 13)),
    o1 15 (.bin .gtr (.t 14) (.c (.I 1048576)))]) (.keep [0, 15]))
  (.seq (.cond (.t 15)
  (.seq (.ops [o1 2 (.mv (.c (.b true)))])
  (.ret))
  (.skip)) (.keep [0])))
  (.seq (.seq (.ops [o1 16 (.mv (.t 0)),
    o1 17 (.call f_sDrawMachineStep [(.t 16)]),
    o1 3 (.alloc [.nils, (.I 0), .nils]),
    o0 (.store 3 (.t 3) (.t 17))]) (.keep [3]))
  (.seq (.seq (.ops [o1 19 (.loadN 3 (.t 3)),
    o1 20 (.call f_iMachineStep [(.t 19)]),
    o1 18 (.mv (.t 20)),
    o1 21 (.ext (.t 18) 0),
    o1 22 (.ext (.t 18) 1),
    o1 4 (.alloc [.nils, (.I 0), .nils]),
    o0 (.store 3 (.t 4) (.t 21)),
    o1 5 (.mv (.t 22))]) (.keep [3, 4, 5]))
  (.seq (.seq (.ops [o1 24 (.loadN 3 (.t 3)),
    o1 25 (.call f_sMachineStep [(.t 24)]),
    o1 23 (.mv (.t 25)),
    o1 26 (.ext (.t 23) 0),
    o1 27 (.ext (.t 23) 1),
    o1 6 (.alloc [.nils, (.I 0), .nils]),
    o0 (.store 3 (.t 6) (.t 26)),
    o1 7 (.mv (.t 27))]) (.keep [3, 4, 5, 6, 7]))
  (.seq (.seq (.seq (.ops [o1 28 (.mv (.t 5)),
    o1 29 (.mv (.t 7)),
    o1 30 (.bin .neq (.t 28) (.t 29)),
    o1 31 (.mv (.t 30)),
    ⟨some 32, (some (31, false)), [], false, .loadN 3 (.t 4)⟩,
    ⟨some 33, (some (31, false)), [], false, .loadN 3 (.t 6)⟩,
    ⟨some 34, (some (31, false)), [], false, .call f_wsameMachine [(.t 32), (.t 33)]⟩,
    ⟨some 35, (some (31, false)), [], false, .un .not (.t 34)⟩,
    o1 36 (.pick (.t 31) (.c (.b true)) (.t 35))]) (.keep [3, 4, 5, 36]))
  (.seq (.cond (.t 36)
  (.seq (.ops [o1 2 (.mv (.c (.b false)))])
  (.ret))
  (.skip)) (.keep [3, 4, 5])))
  (.seq (.seq (.seq (.ops [o1 37 (.mv (.t 5)),
    o1 38 (.bin .neq (.t 37) (.c (.I 1)))]) (.keep [3, 4, 38]))
  (.seq (.cond (.t 38)
  (.seq (.ops [o1 2 (.mv (.c (.b true)))])
  (.ret))
  (.skip)) (.keep [3, 4])))
  (.seq (.seq (.ops [o1 40 (.fldA 2 (.t 3)),
    o1 41 (.load (.t 40)),
    o1 42 (.fldA 1 (.t 3)),
    o1 43 (.load (.t 42)),
    o1 44 (.bin .quo (.t 43) (.c (.I 4))),
    o1 45 (.idxA 1 (.t 41) (.t 44)),
    o1 46 (.load (.t 45)),
    o1 47 (.call f_iUnsigned [(.t 46)]),
    o1 48 (.call f_iInstrDecode [(.t 47)]),
    o1 39 (.mv (.t 48)),
    o1 49 (.ext (.t 39) 0),
    o1 50 (.ext (.t 39) 1),
    o1 8 (.alloc [(.I 0), (.I 0), (.I 0), (.I 0), (.I 0)]),
    o0 (.store 5 (.t 8) (.t 49)),
    o1 9 (.mv (.t 50))]) (.keep [3, 4, 8, 9]))
  (.seq (.seq (.seq (.ops [o1 51 (.mv (.t 9)),
    o1 52 (.un .not (.t 51)),
    o1 53 (.mv (.t 52)),
    ⟨some 54, (some (53, false)), [], false, .fldA 0 (.t 8)⟩,
    ⟨some 55, (some (53, false)), [], false, .load (.t 54)⟩,
    ⟨some 56, (some (53, false)), [], false, .bin .gtr (.t 55) (.c (.I 11))⟩,
    o1 57 (.pick (.t 53) (.c (.b true)) (.t 56))]) (.keep [3, 4, 8, 9, 57]))
  (.seq (.cond (.t 57)
  (.seq (.seq (.ops [o1 58 (.mv (.t 9)),
    o1 2 (.mv (.t 58))]) (.keep [2]))
  (.ret))
  (.skip)) (.keep [3, 4, 8])))
  (.seq (.seq (.ops [o1 59 (.bsl [(.I 0), (.I 0), (.I 0), (.I 0), (.I 0), (.I 0), (.I 0), (.I 0), (.I 0), (.I 0), (.I 0)] 11 [(0, 1, (.c (.I 8))), (1, 1, (.c (.I 9))), (2, 1, (.c (.I 10))), (3, 1, (.c (.I 11))), (4, 1, (.c (.I 12))), (5, 1, (.c (.I 3))), (6, 1, (.c (.I 1))), (7, 1, (.c (.I 2))), (8, 1, (.c (.I 6))), (9, 1, (.c (.I 7))), (10, 1, (.c (.I 5)))]),
    o1 10 (.mv (.t 59))]) (.keep [3, 4, 8, 10]))
  (.seq (.seq (.ops [o1 61 (.mv (.t 10)),
    o1 62 (.fldA 0 (.t 8)),
    o1 63 (.load (.t 62)),
    o1 64 (.bin .sub (.t 63) (.c (.I 1))),
    o1 65 (.idxA 1 (.t 61) (.t 64)),
    o1 66 (.load (.t 65)),
    o1 67 (.fldA 0 (.t 3)),
    o1 68 (.load (.t 67)),
    o1 69 (.fldA 2 (.t 8)),
    o1 70 (.load (.t 69)),
    o1 71 (.idxA 1 (.t 68) (.t 70)),
    o1 72 (.load (.t 71)),
    o1 73 (.fldA 0 (.t 3)),
    o1 74 (.load (.t 73)),
    o1 75 (.fldA 3 (.t 8)),
    o1 76 (.load (.t 75)),
    o1 77 (.idxA 1 (.t 74) (.t 76)),
    o1 78 (.load (.t 77)),
    ⟨some 79, none, [], true, .call f_iApply [(.t 66), (.t 72), (.t 78)]⟩,
    o1 60 (.mv (.t 79)),
    o1 80 (.ext (.t 60) 0),
    o1 81 (.ext (.t 60) 1),
    o1 11 (.mv (.t 80)),
    o1 12 (.mv (.t 81))]) (.keep [3, 4, 8, 11, 12]))
  (.seq (.seq (.ops [o1 82 (.mv (.t 12)),
    o1 83 (.mv (.t 82)),
    ⟨some 84, (some (83, true)), [], false, .fldA 1 (.t 8)⟩,
    ⟨some 85, (some (83, true)), [], false, .load (.t 84)⟩,
    ⟨some 86, (some (83, true)), [], false, .bin .eql (.t 85) (.c (.I 0))⟩,
    ⟨some 87, (some (83, true)), [], false, .mv (.t 86)⟩,
    ⟨some 88, (some (87, false)), [], false, .fldA 0 (.t 4)⟩,
    ⟨some 89, (some (87, false)), [], false, .load (.t 88)⟩,
    ⟨some 90, (some (87, false)), [], false, .fldA 1 (.t 8)⟩,
    ⟨some 91, (some (87, false)), [], false, .load (.t 90)⟩,
    ⟨some 92, (some (87, false)), [], false, .idxA 1 (.t 89) (.t 91)⟩,
    ⟨some 93, (some (87, false)), [], false, .load (.t 92)⟩,
    ⟨some 94, (some (87, false)), [], false, .mv (.t 11)⟩,
    ⟨some 95, (some (87, false)), [], false, .bin .eql (.t 93) (.t 94)⟩,
    ⟨some 96, (some (83, true)), [], false, .pick (.t 87) (.c (.b true)) (.t 95)⟩,
    o1 97 (.pick (.t 83) (.t 96) (.c (.b false))),
    o1 98 (.mv (.t 97)),
    ⟨some 99, (some (98, true)), [], false, .fldA 0 (.t 4)⟩,
    ⟨some 100, (some (98, true)), [], false, .load (.t 99)⟩,
    ⟨some 101, (some (98, true)), [], false, .idxA 1 (.t 100) (.c (.I 0))⟩,
    ⟨some 102, (some (98, true)), [], false, .load (.t 101)⟩,
    ⟨some 103, (some (98, true)), [], false, .bin .eql (.t 102) (.c (.I 0))⟩,
    o1 104 (.pick (.t 98) (.t 103) (.c (.b false))),
    o1 105 (.mv (.t 104)),
    ⟨some 106, (some (105, true)), [], false, .fldA 1 (.t 4)⟩,
    ⟨some 107, (some (105, true)), [], false, .load (.t 106)⟩,
    ⟨some 108, (some (105, true)), [], false, .fldA 1 (.t 3)⟩,
    ⟨some 109, (some (105, true)), [], false, .load (.t 108)⟩,
    ⟨some 110, (some (105, true)), [], false, .bin .add (.t 109) (.c (.I 4))⟩,
    ⟨some 111, (some (105, true)), [], false, .bin .eql (.t 107) (.t 110)⟩,
    o1 112 (.pick (.t 105) (.t 111) (.c (.b false))),
    o1 2 (.mv (.t 112))]) (.keep [2]))
  (.ret)))))))))))), [.t 2]⟩

/- loop.example/cothreads/laws.FnMachineRun -/
def c_wFnMachineRun : AFn := ⟨2, .seq (.seq (.ops [o1 4 (.mv (.c (.b false)))]) (.keep [0, 1]))
  (.seq (.seq (.seq (.ops [o1 20 (.mv (.t 0)),
    o1 21 (.len (.t 20)),
    o1 22 (.bin .gtr (.t 21) (.c (.I 1048576))),
    o1 23 (.mv (.t 22)),
    ⟨some 24, (some (23, false)), [], false, .mv (.t 1)⟩,
    ⟨some 25, (some (23, false)), [], false, .len (.t 24)⟩,
    ⟨some 26, (some (23, false)), [], false, .bin .gtr (.t 25) (.c (.I 1048576))⟩,
    o1 27 (.pick (.t 23) (.c (.b true)) (.t 26))]) (.keep [0, 1, 27]))
  (.seq (.cond (.t 27)
  (.seq (.ops [o1 4 (.mv (.c (.b true)))])
  (.ret))
  (.skip)) (.keep [0, 1])))
  (.seq (.seq (.ops [o1 29 (.mv (.t 0)),
    o1 30 (.call f_sDrawMachineRun [(.t 29)]),
    o1 28 (.mv (.t 30)),
    o1 31 (.ext (.t 28) 0),
    o1 32 (.ext (.t 28) 1),
    o1 5 (.alloc [.nils, (.I 0), .nils]),
    o0 (.store 3 (.t 5) (.t 31)),
    o1 6 (.mv (.t 32))]) (.keep [1, 5, 6]))
  (.seq (.seq (.ops [o1 34 (.loadN 3 (.t 5)),
    o1 35 (.mv (.t 6)),
    o1 36 (.call f_iMachineRun [(.t 34), (.t 35)]),
    o1 33 (.mv (.t 36)),
    o1 37 (.ext (.t 33) 0),
    o1 38 (.ext (.t 33) 1),
    o1 39 (.ext (.t 33) 2),
    o1 7 (.alloc [.nils, (.I 0), .nils]),
    o0 (.store 3 (.t 7) (.t 37)),
    o1 8 (.mv (.t 38)),
    o1 9 (.mv (.t 39))]) (.keep [1, 5, 6, 7, 8, 9]))
  (.seq (.seq (.ops [o1 41 (.loadN 3 (.t 5)),
    o1 42 (.mv (.t 6)),
    o1 43 (.call f_sMachineRun [(.t 41), (.t 42)]),
    o1 40 (.mv (.t 43)),
    o1 44 (.ext (.t 40) 0),
    o1 45 (.ext (.t 40) 1),
    o1 46 (.ext (.t 40) 2),
    o1 10 (.alloc [.nils, (.I 0), .nils]),
    o0 (.store 3 (.t 10) (.t 44)),
    o1 11 (.mv (.t 45)),
    o1 12 (.mv (.t 46))]) (.keep [1, 5, 6, 7, 8, 9, 10, 11, 12]))
  (.seq (.seq (.seq (.ops [o1 47 (.mv (.t 9)),
    o1 48 (.mv (.t 12)),
    o1 49 (.bin .neq (.t 47) (.t 48)),
    o1 50 (.mv (.t 49)),
    ⟨some 51, (some (50, false)), [], false, .mv (.t 8)⟩,
    ⟨some 52, (some (50, false)), [], false, .mv (.t 11)⟩,
    ⟨some 53, (some (50, false)), [], false, .bin .neq (.t 51) (.t 52)⟩,
    o1 54 (.pick (.t 50) (.c (.b true)) (.t 53)),
    o1 55 (.mv (.t 54)),
    ⟨some 56, (some (55, false)), [], false, .loadN 3 (.t 7)⟩,
    ⟨some 57, (some (55, false)), [], false, .loadN 3 (.t 10)⟩,
    ⟨some 58, (some (55, false)), [], false, .call f_wsameMachine [(.t 56), (.t 57)]⟩,
    ⟨some 59, (some (55, false)), [], false, .un .not (.t 58)⟩,
    o1 60 (.pick (.t 55) (.c (.b true)) (.t 59))]) (.keep [1, 5, 6, 7, 8, 9, 60]))
  (.seq (.cond (.t 60)
  (.seq (.ops [o1 4 (.mv (.c (.b false)))])
  (.ret))
  (.skip)) (.keep [1, 5, 6, 7, 8, 9])))
  (.seq (.seq (.seq (.ops [o1 61 (.mv (.t 9)),
    o1 62 (.bin .eql (.t 61) (.c (.I 0)))]) (.keep [1, 5, 6, 7, 8, 9, 62]))
  (.seq (.cond (.t 62)
  (.seq (.ops [o1 4 (.mv (.c (.b true)))])
  (.ret))
  (.skip)) (.keep [1, 5, 6, 7, 8, 9])))
  (.seq (.seq (.ops [o1 63 (.mv (.t 1)),
    o1 64 (.len (.t 63)),
    o1 65 (.mv (.t 6)),
    o1 66 (.bin .add (.t 65) (.c (.I 1))),
    o1 67 (.bin .rem (.t 64) (.t 66)),
    o1 13 (.mv (.t 67))]) (.keep [5, 6, 7, 8, 9, 13]))
  (.seq (.seq (.ops [o1 69 (.loadN 3 (.t 5)),
    o1 70 (.mv (.t 13)),
    o1 71 (.call f_iMachineRun [(.t 69), (.t 70)]),
    o1 68 (.mv (.t 71)),
    o1 72 (.ext (.t 68) 0),
    o1 73 (.ext (.t 68) 1),
    o1 74 (.ext (.t 68) 2),
    o1 14 (.alloc [.nils, (.I 0), .nils]),
    o0 (.store 3 (.t 14) (.t 72)),
    o1 15 (.mv (.t 73)),
    o1 16 (.mv (.t 74))]) (.keep [6, 7, 8, 9, 13, 14, 15, 16]))
  (.seq (.seq (.ops [o1 76 (.loadN 3 (.t 14)),
    o1 77 (.mv (.t 6)),
    o1 78 (.mv (.t 13)),
    o1 79 (.bin .sub (.t 77) (.t 78)),
    o1 80 (.call f_iMachineRun [(.t 76), (.t 79)]),
    o1 75 (.mv (.t 80)),
    o1 81 (.ext (.t 75) 0),
    o1 82 (.ext (.t 75) 1),
    o1 83 (.ext (.t 75) 2),
    o1 17 (.alloc [.nils, (.I 0), .nils]),
    o0 (.store 3 (.t 17) (.t 81)),
    o1 18 (.mv (.t 82)),
    o1 19 (.mv (.t 83))]) (.keep [7, 8, 9, 13, 14, 15, 16, 17, 18, 19]))
  (.seq (.seq (.seq (.ops [o1 84 (.mv (.t 16)),
    o1 85 (.bin .neq (.t 84) (.c (.I 1)))]) (.keep [7, 8, 9, 13, 14, 15, 16, 17, 18, 19, 85]))
  (.seq (.cond (.t 85)
  (.seq (.seq (.ops [o1 86 (.loadN 3 (.t 14)),
    o1 87 (.loadN 3 (.t 7)),
    o1 88 (.call f_wsameMachine [(.t 86), (.t 87)]),
    o1 89 (.mv (.t 88)),
    ⟨some 90, (some (89, true)), [], false, .mv (.t 15)⟩,
    ⟨some 91, (some (89, true)), [], false, .mv (.t 8)⟩,
    ⟨some 92, (some (89, true)), [], false, .bin .eql (.t 90) (.t 91)⟩,
    o1 93 (.pick (.t 89) (.t 92) (.c (.b false))),
    o1 94 (.mv (.t 93)),
    ⟨some 95, (some (94, true)), [], false, .mv (.t 16)⟩,
    ⟨some 96, (some (94, true)), [], false, .mv (.t 9)⟩,
    ⟨some 97, (some (94, true)), [], false, .bin .eql (.t 95) (.t 96)⟩,
    o1 98 (.pick (.t 94) (.t 97) (.c (.b false))),
    o1 4 (.mv (.t 98))]) (.keep [4]))
  (.ret))
  (.skip)) (.keep [7, 8, 9, 13, 15, 17, 18, 19])))
  (.seq (.seq (.ops [o1 99 (.mv (.t 15)),
    o1 100 (.mv (.t 13)),
    o1 101 (.bin .eql (.t 99) (.t 100)),
    o1 102 (.mv (.t 101)),
    ⟨some 103, (some (102, true)), [], false, .mv (.t 15)⟩,
    ⟨some 104, (some (102, true)), [], false, .mv (.t 18)⟩,
    ⟨some 105, (some (102, true)), [], false, .bin .add (.t 103) (.t 104)⟩,
    ⟨some 106, (some (102, true)), [], false, .mv (.t 8)⟩,
    ⟨some 107, (some (102, true)), [], false, .bin .eql (.t 105) (.t 106)⟩,
    o1 108 (.pick (.t 102) (.t 107) (.c (.b false))),
    o1 109 (.mv (.t 108)),
    ⟨some 110, (some (109, true)), [], false, .mv (.t 19)⟩,
    ⟨some 111, (some (109, true)), [], false, .mv (.t 9)⟩,
    ⟨some 112, (some (109, true)), [], false, .bin .eql (.t 110) (.t 111)⟩,
    o1 113 (.pick (.t 109) (.t 112) (.c (.b false))),
    o1 114 (.mv (.t 113)),
    ⟨some 115, (some (114, true)), [], false, .loadN 3 (.t 17)⟩,
    ⟨some 116, (some (114, true)), [], false, .loadN 3 (.t 7)⟩,
    ⟨some 117, (some (114, true)), [], false, .call f_wsameMachine [(.t 115), (.t 116)]⟩,
    o1 118 (.pick (.t 114) (.t 117) (.c (.b false))),
    o1 4 (.mv (.t 118))]) (.keep [4]))
  (.ret)))))))))))), [.t 4]⟩

/- loop.example/cothreads/laws.FnMachineRunOne -/
def c_wFnMachineRunOne : AFn := ⟨1, .seq (.seq (.ops [o1 2 (.mv (.c (.b false)))]) (.keep [0]))
  (.seq (.seq (.seq (.ops [o1 16 (.mv (.t 0)),
    o1 17 (.len (.t 16)),
    o1 18 (.bin .gtr (.t 17) (.c (.I 1048576)))]) (.keep [0, 18]))
  (.seq (.cond (.t 18)
  (.seq (.ops [o1 2 (.mv (.c (.b true)))])
  (.ret))
  (.skip)) (.keep [0])))
  (.seq (.seq (.ops [o1 20 (.mv (.t 0)),
    o1 21 (.call f_sDrawMachineRun [(.t 20)]),
    o1 19 (.mv (.t 21)),
    o1 22 (.ext (.t 19) 0),
    o1 23 (.ext (.t 19) 1),
    o1 3 (.alloc [.nils, (.I 0), .nils]),
    o0 (.store 3 (.t 3) (.t 22)),
    o1 4 (.mv (.t 23))]) (.keep [3, 4]))
  (.seq (.seq (.ops [o1 25 (.loadN 3 (.t 3)),
    o1 26 (.mv (.t 4)),
    o1 27 (.call f_iMachineRun [(.t 25), (.t 26)]),
    o1 24 (.mv (.t 27)),
    o1 28 (.ext (.t 24) 0),
    o1 29 (.ext (.t 24) 1),
    o1 30 (.ext (.t 24) 2),
    o1 5 (.alloc [.nils, (.I 0), .nils]),
    o0 (.store 3 (.t 5) (.t 28)),
    o1 6 (.mv (.t 29)),
    o1 7 (.mv (.t 30))]) (.keep [3, 4, 5, 6, 7]))
  (.seq (.seq (.ops [o1 32 (.loadN 3 (.t 3)),
    o1 33 (.mv (.t 4)),
    o1 34 (.call f_sMachineRun [(.t 32), (.t 33)]),
    o1 31 (.mv (.t 34)),
    o1 35 (.ext (.t 31) 0),
    o1 36 (.ext (.t 31) 1),
    o1 37 (.ext (.t 31) 2),
    o1 8 (.alloc [.nils, (.I 0), .nils]),
    o0 (.store 3 (.t 8) (.t 35)),
    o1 9 (.mv (.t 36)),
    o1 10 (.mv (.t 37))]) (.keep [3, 4, 5, 6, 7, 8, 9, 10]))
  (.seq (.seq (.seq (.ops [o1 38 (.mv (.t 7)),
    o1 39 (.mv (.t 10)),
    o1 40 (.bin .neq (.t 38) (.t 39)),
    o1 41 (.mv (.t 40)),
    ⟨some 42, (some (41, false)), [], false, .mv (.t 6)⟩,
    ⟨some 43, (some (41, false)), [], false, .mv (.t 9)⟩,
    ⟨some 44, (some (41, false)), [], false, .bin .neq (.t 42) (.t 43)⟩,
    o1 45 (.pick (.t 41) (.c (.b true)) (.t 44)),
    o1 46 (.mv (.t 45)),
    ⟨some 47, (some (46, false)), [], false, .loadN 3 (.t 5)⟩,
    ⟨some 48, (some (46, false)), [], false, .loadN 3 (.t 8)⟩,
    ⟨some 49, (some (46, false)), [], false, .call f_wsameMachine [(.t 47), (.t 48)]⟩,
    ⟨some 50, (some (46, false)), [], false, .un .not (.t 49)⟩,
    o1 51 (.pick (.t 46) (.c (.b true)) (.t 50))]) (.keep [3, 4, 6, 7, 51]))
  (.seq (.cond (.t 51)
  (.seq (.ops [o1 2 (.mv (.c (.b false)))])
  (.ret))
  (.skip)) (.keep [3, 4, 6, 7])))
  (.seq (.seq (.seq (.ops [o1 52 (.mv (.t 7)),
    o1 53 (.bin .eql (.t 52) (.c (.I 0)))]) (.keep [3, 4, 6, 53]))
  (.seq (.cond (.t 53)
  (.seq (.ops [o1 2 (.mv (.c (.b true)))])
  (.ret))
  (.skip)) (.keep [3, 4, 6])))
  (.seq (.seq (.ops [o1 55 (.loadN 3 (.t 3)),
    o1 56 (.call f_iMachineRun [(.t 55), (.c (.I 1))]),
    o1 54 (.mv (.t 56)),
    o1 57 (.ext (.t 54) 0),
    o1 58 (.ext (.t 54) 1),
    o1 59 (.ext (.t 54) 2),
    o1 11 (.alloc [.nils, (.I 0), .nils]),
    o0 (.store 3 (.t 11) (.t 57)),
    o1 12 (.mv (.t 58)),
    o1 13 (.mv (.t 59))]) (.keep [3, 4, 6, 11, 12, 13]))
  (.seq (.seq (.ops [o1 61 (.loadN 3 (.t 3)),
    o1 62 (.call f_iMachineStep [(.t 61)]),
    o1 60 (.mv (.t 62)),
    o1 63 (.ext (.t 60) 0),
    o1 64 (.ext (.t 60) 1),
    o1 14 (.alloc [.nils, (.I 0), .nils]),
    o0 (.store 3 (.t 14) (.t 63)),
    o1 15 (.mv (.t 64))]) (.keep [4, 6, 11, 12, 13, 14, 15]))
  (.seq (.seq (.ops [o1 65 (.mv (.t 13)),
    o1 66 (.mv (.t 15)),
    o1 67 (.bin .eql (.t 65) (.t 66)),
    o1 68 (.mv (.t 67)),
    ⟨some 69, (some (68, true)), [], false, .loadN 3 (.t 11)⟩,
    ⟨some 70, (some (68, true)), [], false, .loadN 3 (.t 14)⟩,
    ⟨some 71, (some (68, true)), [], false, .call f_wsameMachine [(.t 69), (.t 70)]⟩,
    o1 72 (.pick (.t 68) (.t 71) (.c (.b false))),
    o1 73 (.mv (.t 72)),
    ⟨some 74, (some (73, true)), [], false, .mv (.t 12)⟩,
    ⟨some 75, (some (73, true)), [], false, .bin .geq (.t 74) (.c (.I 0))⟩,
    o1 76 (.pick (.t 73) (.t 75) (.c (.b false))),
    o1 77 (.mv (.t 76)),
    ⟨some 78, (some (77, true)), [], false, .mv (.t 12)⟩,
    ⟨some 79, (some (77, true)), [], false, .bin .leq (.t 78) (.c (.I 1))⟩,
    o1 80 (.pick (.t 77) (.t 79) (.c (.b false))),
    o1 81 (.mv (.t 80)),
    ⟨some 82, (some (81, true)), [], false, .mv (.t 12)⟩,
    ⟨some 83, (some (81, true)), [], false, .bin .eql (.t 82) (.c (.I 1))⟩,
    ⟨some 84, (some (81, true)), [], false, .mv (.t 15)⟩,
    ⟨some 85, (some (81, true)), [], false, .bin .eql (.t 84) (.c (.I 1))⟩,
    ⟨some 86, (some (81, true)), [], false, .eqB false (.t 83) (.t 85)⟩,
    o1 87 (.pick (.t 81) (.t 86) (.c (.b false))),
    o1 88 (.mv (.t 87)),
    ⟨some 89, (some (88, true)), [], false, .mv (.t 6)⟩,
    ⟨some 90, (some (88, true)), [], false, .mv (.t 4)⟩,
    ⟨some 91, (some (88, true)), [], false, .bin .leq (.t 89) (.t 90)⟩,
    o1 92 (.pick (.t 88) (.t 91) (.c (.b false))),
    o1 2 (.mv (.t 92))]) (.keep [2]))
  (.ret)))))))))), [.t 2]⟩

/- loop.example/cothreads/laws.szMachine -/
def c_wszMachine : AFn := ⟨2, .seq (.seq (.ops [o1 2 (.box (.t 0)),
    o1 4 (.mv (.c (.I 0)))]) (.keep [1, 2]))
  (.seq (.seq (.ops [o1 5 (.fldA 0 (.t 2)),
    o1 6 (.load (.t 5)),
    o1 7 (.mv (.t 1)),
    o1 8 (.call f_wszIntS [(.t 6), (.t 7)]),
    o1 1 (.mv (.t 8))]) (.keep [1, 2]))
  (.seq (.seq (.seq (.ops [o1 9 (.mv (.t 1)),
    o1 10 (.bin .lss (.t 9) (.c (.I 0)))]) (.keep [1, 2, 10]))
  (.seq (.cond (.t 10)
  (.seq (.ops [o1 4 (.mv (.c (.I (-1))))])
  (.ret))
  (.skip)) (.keep [1, 2])))
  (.seq (.seq (.ops [o1 11 (.fldA 2 (.t 2)),
    o1 12 (.load (.t 11)),
    o1 13 (.mv (.t 1)),
    o1 14 (.call f_wszIntS [(.t 12), (.t 13)]),
    o1 1 (.mv (.t 14))]) (.keep [1]))
  (.seq (.seq (.seq (.ops [o1 15 (.mv (.t 1)),
    o1 16 (.bin .lss (.t 15) (.c (.I 0)))]) (.keep [1, 16]))
  (.seq (.cond (.t 16)
  (.seq (.ops [o1 4 (.mv (.c (.I (-1))))])
  (.ret))
  (.skip)) (.keep [1])))
  (.seq (.seq (.ops [o1 17 (.mv (.t 1)),
    o1 4 (.mv (.t 17))]) (.keep [4]))
  (.ret)))))), [.t 4]⟩

/- loop.example/cothreads/spec.MachineStep -/
def c_sMachineStep : AFn := ⟨1, .seq (.seq (.ops [o1 1 (.box (.t 0)),
    o1 2 (.alloc [.nils, (.I 0), .nils]),
    o1 3 (.mv (.c (.I 0)))]) (.keep [1, 2]))
  (.seq (.seq (.seq (.ops [o1 6 (.loadN 3 (.t 1)),
    o1 7 (.call f_sMachineValid [(.t 6)]),
    o1 8 (.un .not (.t 7))]) (.keep [1, 2, 8]))
  (.seq (.cond (.t 8)
  (.seq (.seq (.ops [o1 9 (.build [.nils, (.I 0), .nils] []),
    o0 (.store 3 (.t 2) (.t 9)),
    o1 3 (.mv (.c (.I 0)))]) (.keep [2, 3]))
  (.ret))
  (.skip)) (.keep [1, 2])))
  (.seq (.seq (.ops [o1 10 (.loadN 3 (.t 1)),
    o1 11 (.call f_sl44Copy [(.t 10)]),
    o1 4 (.alloc [.nils, (.I 0), .nils]),
    o0 (.store 3 (.t 4) (.t 11))]) (.keep [2, 4]))
  (.seq (.seq (.ops [o1 12 (.call f_sl44Step [(.t 4)]),
    o1 5 (.mv (.t 12))]) (.keep [2, 4, 5]))
  (.seq (.seq (.ops [o1 13 (.loadN 3 (.t 4)),
    o1 14 (.mv (.t 5)),
    o0 (.store 3 (.t 2) (.t 13)),
    o1 3 (.mv (.t 14))]) (.keep [2, 3]))
  (.ret))))), [.c 2 3, .t 3]⟩

/- loop.example/cothreads/laws.toMachine -/
def c_wtoMachine : AFn := ⟨1, .seq (.ops [o1 1 (.box (.t 0)),
    o1 2 (.alloc [.nils, (.I 0), .nils])])
  (.seq (.ops [o1 3 (.alloc [.nils, (.I 0), .nils])])
  (.seq (.seq (.ops [o1 4 (.fldA 0 (.t 1)),
    o1 5 (.load (.t 4)),
    o1 6 (.call f_wtoIntS [(.t 5)]),
    o1 7 (.fldA 0 (.t 3)),
    o0 (.store 1 (.t 7) (.t 6))]) (.keep [1, 2, 3]))
  (.seq (.seq (.ops [o1 8 (.fldA 1 (.t 1)),
    o1 9 (.load (.t 8)),
    o1 10 (.fldA 1 (.t 3)),
    o0 (.store 1 (.t 10) (.t 9))]) (.keep [1, 2, 3]))
  (.seq (.seq (.ops [o1 11 (.fldA 2 (.t 1)),
    o1 12 (.load (.t 11)),
    o1 13 (.call f_wtoIntS [(.t 12)]),
    o1 14 (.fldA 2 (.t 3)),
    o0 (.store 1 (.t 14) (.t 13))]) (.keep [2, 3]))
  (.seq (.seq (.ops [o1 15 (.loadN 3 (.t 3)),
    o0 (.store 3 (.t 2) (.t 15))]) (.keep [2]))
  (.ret)))))), [.c 2 3]⟩

/- loop.example/cothreads/impl.MachineStep -/
def c_iMachineStep : AFn := ⟨1, .seq (.seq (.ops [o1 1 (.box (.t 0)),
    o1 2 (.alloc [.nils, (.I 0), .nils]),
    o1 3 (.mv (.c (.I 0)))]) (.keep [1, 2]))
  (.seq (.seq (.seq (.ops [o1 6 (.loadN 3 (.t 1)),
    o1 7 (.call f_iMachineValid [(.t 6)]),
    o1 8 (.un .not (.t 7))]) (.keep [1, 2, 8]))
  (.seq (.cond (.t 8)
  (.seq (.seq (.ops [o1 9 (.build [.nils, (.I 0), .nils] []),
    o0 (.store 3 (.t 2) (.t 9)),
    o1 3 (.mv (.c (.I 0)))]) (.keep [2, 3]))
  (.ret))
  (.skip)) (.keep [1, 2])))
  (.seq (.seq (.ops [o1 10 (.loadN 3 (.t 1)),
    o1 11 (.call f_imachineCopy [(.t 10)]),
    o1 4 (.alloc [.nils, (.I 0), .nils]),
    o0 (.store 3 (.t 4) (.t 11))]) (.keep [2, 4]))
  (.seq (.seq (.ops [o1 12 (.call f_iMachine_step [(.t 4)]),
    o1 5 (.mv (.t 12))]) (.keep [2, 4, 5]))
  (.seq (.seq (.ops [o1 13 (.loadN 3 (.t 4)),
    o1 14 (.mv (.t 5)),
    o0 (.store 3 (.t 2) (.t 13)),
    o1 3 (.mv (.t 14))]) (.keep [2, 3]))
  (.ret))))), [.c 2 3, .t 3]⟩

/- loop.example/cothreads/laws.eqMachine -/
def c_weqMachine : AFn := ⟨2, .seq (.seq (.ops [o1 2 (.box (.t 0)),
    o1 3 (.box (.t 1)),
    o1 4 (.mv (.c (.b false)))]) (.keep [2, 3]))
  (.seq (.seq (.seq (.ops [o1 5 (.fldA 0 (.t 2)),
    o1 6 (.load (.t 5)),
    o1 7 (.fldA 0 (.t 3)),
    o1 8 (.load (.t 7)),
    o1 9 (.call f_weqIntS [(.t 6), (.t 8)]),
    o1 10 (.un .not (.t 9))]) (.keep [2, 3, 10]))
  (.seq (.cond (.t 10)
  (.seq (.ops [o1 4 (.mv (.c (.b false)))])
  (.ret))
  (.skip)) (.keep [2, 3])))
  (.seq (.seq (.seq (.ops [o1 11 (.fldA 1 (.t 2)),
    o1 12 (.load (.t 11)),
    o1 13 (.fldA 1 (.t 3)),
    o1 14 (.load (.t 13)),
    o1 15 (.bin .neq (.t 12) (.t 14))]) (.keep [2, 3, 15]))
  (.seq (.cond (.t 15)
  (.seq (.ops [o1 4 (.mv (.c (.b false)))])
  (.ret))
  (.skip)) (.keep [2, 3])))
  (.seq (.seq (.seq (.ops [o1 16 (.fldA 2 (.t 2)),
    o1 17 (.load (.t 16)),
    o1 18 (.fldA 2 (.t 3)),
    o1 19 (.load (.t 18)),
    o1 20 (.call f_weqIntS [(.t 17), (.t 19)]),
    o1 21 (.un .not (.t 20))]) (.keep [21]))
  (.seq (.cond (.t 21)
  (.seq (.ops [o1 4 (.mv (.c (.b false)))])
  (.ret))
  (.skip)) (.keep [])))
  (.seq (.ops [o1 4 (.mv (.c (.b true)))])
  (.ret))))), [.t 4]⟩

/- loop.example/cothreads/laws.markMachine -/
def c_wmarkMachine : AFn := ⟨2, .seq (.seq (.ops [o1 2 (.box (.t 0)),
    o1 4 (.mv (.c (.I 0)))]) (.keep [1, 2]))
  (.seq (.seq (.ops [o1 5 (.fldA 0 (.t 2)),
    o1 6 (.load (.t 5)),
    o1 7 (.mv (.t 1)),
    o1 8 (.call f_wmarkIntS [(.t 6), (.t 7)]),
    o1 1 (.mv (.t 8))]) (.keep [1, 2]))
  (.seq (.seq (.ops [o1 9 (.fldA 2 (.t 2)),
    o1 10 (.load (.t 9)),
    o1 11 (.mv (.t 1)),
    o1 12 (.call f_wmarkIntS [(.t 10), (.t 11)]),
    o1 1 (.mv (.t 12))]) (.keep [1]))
  (.seq (.seq (.ops [o1 13 (.mv (.t 1)),
    o1 4 (.mv (.t 13))]) (.keep [4]))
  (.ret)))), [.t 4]⟩

/- loop.example/cothreads/laws.heldMachine -/
def c_wheldMachine : AFn := ⟨2, .seq (.seq (.ops [o1 2 (.box (.t 0)),
    o1 4 (.mv (.c (.I 0)))]) (.keep [1, 2]))
  (.seq (.seq (.ops [o1 5 (.fldA 0 (.t 2)),
    o1 6 (.load (.t 5)),
    o1 7 (.mv (.t 1)),
    o1 8 (.call f_wheldIntS [(.t 6), (.t 7)]),
    o1 1 (.mv (.t 8))]) (.keep [1, 2]))
  (.seq (.seq (.seq (.ops [o1 9 (.mv (.t 1)),
    o1 10 (.bin .lss (.t 9) (.c (.I 0)))]) (.keep [1, 2, 10]))
  (.seq (.cond (.t 10)
  (.seq (.ops [o1 4 (.mv (.c (.I (-1))))])
  (.ret))
  (.skip)) (.keep [1, 2])))
  (.seq (.seq (.ops [o1 11 (.fldA 2 (.t 2)),
    o1 12 (.load (.t 11)),
    o1 13 (.mv (.t 1)),
    o1 14 (.call f_wheldIntS [(.t 12), (.t 13)]),
    o1 1 (.mv (.t 14))]) (.keep [1]))
  (.seq (.seq (.seq (.ops [o1 15 (.mv (.t 1)),
    o1 16 (.bin .lss (.t 15) (.c (.I 0)))]) (.keep [1, 16]))
  (.seq (.cond (.t 16)
  (.seq (.ops [o1 4 (.mv (.c (.I (-1))))])
  (.ret))
  (.skip)) (.keep [1])))
  (.seq (.seq (.ops [o1 17 (.mv (.t 1)),
    o1 4 (.mv (.t 17))]) (.keep [4]))
  (.ret)))))), [.t 4]⟩

/- loop.example/cothreads/spec.MachineRun -/
def c_sMachineRun_l0 : AC := .seq (.seq (.seq (.seq (.ops [o1 21 (.mv (.t 8)),
    o1 22 (.mv (.t 1)),
    o1 23 (.bin .lss (.t 21) (.t 22))]) (.keep [1, 4, 7, 8, 23]))
  (.seq (.cond (.t 23)
  (.skip)
  (.exit 0)) (.keep [1, 4, 7, 8])))
  (.seq (.seq (.block 1 (.seq (.seq (.ops [o1 26 (.call f_sl44Step [(.t 7)]),
    o1 9 (.mv (.t 26))]) (.keep [1, 4, 7, 8, 9]))
  (.seq (.seq (.ops [o1 27 (.mv (.t 9)),
    o1 28 (.bin .neq (.t 27) (.c (.I 1)))]) (.keep [1, 4, 7, 8, 9, 28]))
  (.seq (.cond (.t 28)
  (.seq (.seq (.ops [o1 29 (.loadN 3 (.t 7)),
    o1 30 (.mv (.t 8)),
    o1 31 (.mv (.t 9)),
    o0 (.store 3 (.t 4) (.t 29)),
    o1 5 (.mv (.t 30)),
    o1 6 (.mv (.t 31))]) (.keep [4, 5, 6]))
  (.ret))
  (.skip)) (.keep [1, 4, 7, 8]))))) (.keep [1, 4, 7, 8]))
  (.seq (.ops [o1 24 (.mv (.t 8)),
    o1 25 (.bin .add (.t 24) (.c (.I 1))),
    o1 8 (.mv (.t 25))]) (.keep [1, 4, 7, 8])))) (.keep [1, 4, 7, 8])
def c_sMachineRun : AFn := ⟨2, .seq (.seq (.ops [o1 2 (.box (.t 0)),
    o1 4 (.alloc [.nils, (.I 0), .nils]),
    o1 5 (.mv (.c (.I 0))),
    o1 6 (.mv (.c (.I 0)))]) (.keep [1, 2, 4]))
  (.seq (.seq (.seq (.ops [o1 10 (.loadN 3 (.t 2)),
    o1 11 (.call f_sMachineValid [(.t 10)]),
    o1 12 (.un .not (.t 11)),
    o1 13 (.mv (.t 12)),
    ⟨some 14, (some (13, false)), [], false, .mv (.t 1)⟩,
    ⟨some 15, (some (13, false)), [], false, .call f_sl6In [(.t 14), (.c (.I 0)), (.c (.I 1000000))]⟩,
    ⟨some 16, (some (13, false)), [], false, .un .not (.t 15)⟩,
    o1 17 (.pick (.t 13) (.c (.b true)) (.t 16))]) (.keep [1, 2, 4, 17]))
  (.seq (.cond (.t 17)
  (.seq (.seq (.ops [o1 18 (.build [.nils, (.I 0), .nils] []),
    o0 (.store 3 (.t 4) (.t 18)),
    o1 5 (.mv (.c (.I 0))),
    o1 6 (.mv (.c (.I 0)))]) (.keep [4, 5, 6]))
  (.ret))
  (.skip)) (.keep [1, 2, 4])))
  (.seq (.seq (.ops [o1 19 (.loadN 3 (.t 2)),
    o1 20 (.call f_sl44Copy [(.t 19)]),
    o1 7 (.alloc [.nils, (.I 0), .nils]),
    o0 (.store 3 (.t 7) (.t 20))]) (.keep [1, 4, 7]))
  (.seq (.seq (.ops [o1 8 (.mv (.c (.I 0)))])
  (.seq (.block 0 (.seq (.keep [1, 4, 7, 8]) (.loop c_sMachineRun_l0))) (.keep [1, 4, 7])))
  (.seq (.seq (.ops [o1 32 (.loadN 3 (.t 7)),
    o1 33 (.mv (.t 1)),
    o0 (.store 3 (.t 4) (.t 32)),
    o1 5 (.mv (.t 33)),
    o1 6 (.mv (.c (.I 1)))]) (.keep [4, 5, 6]))
  (.ret))))), [.c 4 3, .t 5, .t 6]⟩

/- loop.example/cothreads/impl.MachineRun -/
def c_iMachineRun_l0 : AC := .seq (.seq (.ops [o1 26 (.bin .lss (.t 25) (.t 24))])
  (.seq (.seq (.cond (.t 26)
  (.skip)
  (.exit 0)) (.keep [1, 4, 7, 24, 25]))
  (.seq (.seq (.block 1 (.seq (.seq (.ops [o1 27 (.mv (.t 25)),
    o1 8 (.mv (.t 27))]) (.keep [1, 4, 7, 8, 24, 25]))
  (.seq (.seq (.ops [o1 28 (.call f_iMachine_step [(.t 7)]),
    o1 9 (.mv (.t 28))]) (.keep [1, 4, 7, 8, 9, 24, 25]))
  (.seq (.seq (.ops [o1 29 (.mv (.t 9)),
    o1 30 (.bin .neq (.t 29) (.c (.I 1)))]) (.keep [1, 4, 7, 8, 9, 24, 25, 30]))
  (.seq (.cond (.t 30)
  (.seq (.seq (.ops [o1 31 (.loadN 3 (.t 7)),
    o1 32 (.mv (.t 8)),
    o1 33 (.mv (.t 9)),
    o0 (.store 3 (.t 4) (.t 31)),
    o1 5 (.mv (.t 32)),
    o1 6 (.mv (.t 33))]) (.keep [4, 5, 6]))
  (.ret))
  (.skip)) (.keep [1, 4, 7, 24, 25])))))) (.keep [1, 4, 7, 24, 25]))
  (.seq (.ops [o1 34 (.bin .add (.t 25) (.c (.I 1))),
    o1 25 (.mv (.t 34))]) (.keep [1, 4, 7, 24, 25]))))) (.keep [1, 4, 7, 24, 25])
def c_iMachineRun : AFn := ⟨2, .seq (.seq (.ops [o1 2 (.box (.t 0)),
    o1 4 (.alloc [.nils, (.I 0), .nils]),
    o1 5 (.mv (.c (.I 0))),
    o1 6 (.mv (.c (.I 0)))]) (.keep [1, 2, 4]))
  (.seq (.seq (.seq (.ops [o1 10 (.loadN 3 (.t 2)),
    o1 11 (.call f_iMachineValid [(.t 10)]),
    o1 12 (.un .not (.t 11)),
    o1 13 (.mv (.t 12)),
    ⟨some 14, (some (13, false)), [], false, .mv (.t 1)⟩,
    ⟨some 15, (some (13, false)), [], false, .bin .lss (.t 14) (.c (.I 0))⟩,
    o1 16 (.pick (.t 13) (.c (.b true)) (.t 15)),
    o1 17 (.mv (.t 16)),
    ⟨some 18, (some (17, false)), [], false, .mv (.t 1)⟩,
    ⟨some 19, (some (17, false)), [], false, .bin .gtr (.t 18) (.c (.I 1000000))⟩,
    o1 20 (.pick (.t 17) (.c (.b true)) (.t 19))]) (.keep [1, 2, 4, 20]))
  (.seq (.cond (.t 20)
  (.seq (.seq (.ops [o1 21 (.build [.nils, (.I 0), .nils] []),
    o0 (.store 3 (.t 4) (.t 21)),
    o1 5 (.mv (.c (.I 0))),
    o1 6 (.mv (.c (.I 0)))]) (.keep [4, 5, 6]))
  (.ret))
  (.skip)) (.keep [1, 2, 4])))
  (.seq (.seq (.ops [o1 22 (.loadN 3 (.t 2)),
    o1 23 (.call f_imachineCopy [(.t 22)]),
    o1 7 (.alloc [.nils, (.I 0), .nils]),
    o0 (.store 3 (.t 7) (.t 23))]) (.keep [1, 4, 7]))
  (.seq (.seq (.ops [o1 24 (.mv (.t 1)),
    o1 25 (.mv (.c (.I 0)))])
  (.seq (.block 0 (.seq (.keep [1, 4, 7, 24, 25]) (.loop c_iMachineRun_l0))) (.keep [1, 4, 7])))
  (.seq (.seq (.ops [o1 35 (.loadN 3 (.t 7)),
    o1 36 (.mv (.t 1)),
    o0 (.store 3 (.t 4) (.t 35)),
    o1 5 (.mv (.t 36)),
    o1 6 (.mv (.c (.I 1)))]) (.keep [4, 5, 6]))
  (.ret))))), [.c 4 3, .t 5, .t 6]⟩

/- loop.example/cothreads/spec.DrawMachineStep -/
def c_sDrawMachineStep : AFn := ⟨1, .seq (.ops [o1 2 (.alloc [.nils, (.I 0), .nils])])
  (.seq (.seq (.ops [o1 3 (.mv (.t 0)),
    o1 4 (.call f_sl6Open [(.t 3)]),
    o1 5 (.call f_sl94Machine [(.t 4)]),
    o0 (.store 3 (.t 2) (.t 5))]) (.keep [2]))
  (.ret)), [.c 2 3]⟩

/- loop.example/cothreads/laws.sameMachine -/
def c_wsameMachine : AFn := ⟨2, .seq (.seq (.ops [o1 2 (.box (.t 0)),
    o1 3 (.box (.t 1)),
    o1 4 (.mv (.c (.b false)))]) (.keep [2, 3]))
  (.seq (.seq (.ops [o1 5 (.fldA 1 (.t 2)),
    o1 6 (.load (.t 5)),
    o1 7 (.fldA 1 (.t 3)),
    o1 8 (.load (.t 7)),
    o1 9 (.bin .eql (.t 6) (.t 8)),
    o1 10 (.mv (.t 9)),
    ⟨some 11, (some (10, true)), [], false, .fldA 0 (.t 2)⟩,
    ⟨some 12, (some (10, true)), [], false, .load (.t 11)⟩,
    ⟨some 13, (some (10, true)), [], false, .fldA 0 (.t 3)⟩,
    ⟨some 14, (some (10, true)), [], false, .load (.t 13)⟩,
    ⟨some 15, (some (10, true)), [], false, .call f_wsameInts [(.t 12), (.t 14)]⟩,
    o1 16 (.pick (.t 10) (.t 15) (.c (.b false))),
    o1 17 (.mv (.t 16)),
    ⟨some 18, (some (17, true)), [], false, .fldA 2 (.t 2)⟩,
    ⟨some 19, (some (17, true)), [], false, .load (.t 18)⟩,
    ⟨some 20, (some (17, true)), [], false, .fldA 2 (.t 3)⟩,
    ⟨some 21, (some (17, true)), [], false, .load (.t 20)⟩,
    ⟨some 22, (some (17, true)), [], false, .call f_wsameInts [(.t 19), (.t 21)]⟩,
    o1 23 (.pick (.t 17) (.t 22) (.c (.b false))),
    o1 4 (.mv (.t 23))]) (.keep [4]))
  (.ret)), [.t 4]⟩

/- loop.example/cothreads/impl.InstrDecode -/
def c_iInstrDecode_l0 : AC := .seq (.seq (.seq (.seq (.ops [o1 12 (.mv (.t 4)),
    o1 13 (.bin .leq (.t 12) (.c (.I 21)))]) (.keep [0, 2, 4, 13]))
  (.seq (.cond (.t 13)
  (.skip)
  (.exit 0)) (.keep [0, 2, 4])))
  (.seq (.seq (.block 1 (.seq (.seq (.seq (.ops [o1 16 (.mv (.t 4)),
    o1 17 (.bin .sub (.t 16) (.c (.I 1))),
    o1 18 (.idxAA 4 21 (.g 0) (.t 17)),
    o1 19 (.loadN 4 (.t 18)),
    o1 20 (.mv (.t 4)),
    o1 21 (.mv (.t 0)),
    o1 22 (.call f_iinstrRow_matches [(.t 19), (.t 20), (.t 21)]),
    o1 23 (.un .not (.t 22))]) (.keep [0, 2, 4, 23]))
  (.seq (.cond (.t 23)
  (.exit 1)
  (.skip)) (.keep [0, 2, 4])))
  (.seq (.seq (.ops [o1 24 (.mv (.t 4)),
    o1 25 (.mv (.t 0)),
    o1 26 (.call f_idecodeAs [(.t 24), (.t 25)]),
    o1 5 (.alloc [(.I 0), (.I 0), (.I 0), (.I 0), (.I 0)]),
    o0 (.store 5 (.t 5) (.t 26))]) (.keep [0, 2, 4, 5]))
  (.seq (.seq (.ops [o1 28 (.loadN 5 (.t 5)),
    o1 29 (.call f_iInstrEncode [(.t 28)]),
    o1 27 (.mv (.t 29)),
    o1 30 (.ext (.t 27) 0),
    o1 31 (.ext (.t 27) 1),
    o1 6 (.mv (.t 30)),
    o1 7 (.mv (.t 31))]) (.keep [0, 2, 4, 5, 6, 7]))
  (.seq (.seq (.ops [o1 32 (.mv (.t 7)),
    o1 33 (.mv (.t 32)),
    ⟨some 34, (some (33, true)), [], false, .mv (.t 6)⟩,
    ⟨some 35, (some (33, true)), [], false, .mv (.t 0)⟩,
    ⟨some 36, (some (33, true)), [], false, .bin .eql (.t 34) (.t 35)⟩,
    o1 37 (.pick (.t 33) (.t 36) (.c (.b false)))]) (.keep [0, 2, 4, 5, 37]))
  (.seq (.cond (.t 37)
  (.seq (.seq (.ops [o1 38 (.loadN 5 (.t 5)),
    o0 (.store 5 (.t 2) (.t 38)),
    o1 3 (.mv (.c (.b true)))]) (.keep [2, 3]))
  (.ret))
  (.skip)) (.keep [0, 2, 4]))))))) (.keep [0, 2, 4]))
  (.seq (.ops [o1 14 (.mv (.t 4)),
    o1 15 (.bin .add (.t 14) (.c (.I 1))),
    o1 4 (.mv (.t 15))]) (.keep [0, 2, 4])))) (.keep [0, 2, 4])
def c_iInstrDecode : AFn := ⟨1, .seq (.seq (.ops [o1 2 (.alloc [(.I 0), (.I 0), (.I 0), (.I 0), (.I 0)]),
    o1 3 (.mv (.c (.b false)))]) (.keep [0, 2]))
  (.seq (.seq (.seq (.ops [o1 8 (.mv (.t 0)),
    o1 9 (.call f_iisUnsigned [(.t 8)]),
    o1 10 (.un .not (.t 9))]) (.keep [0, 2, 10]))
  (.seq (.cond (.t 10)
  (.seq (.seq (.ops [o1 11 (.build [(.I 0), (.I 0), (.I 0), (.I 0), (.I 0)] []),
    o0 (.store 5 (.t 2) (.t 11)),
    o1 3 (.mv (.c (.b false)))]) (.keep [2, 3]))
  (.ret))
  (.skip)) (.keep [0, 2])))
  (.seq (.seq (.ops [o1 4 (.mv (.c (.I 1)))])
  (.seq (.block 0 (.seq (.keep [0, 2, 4]) (.loop c_iInstrDecode_l0))) (.keep [2])))
  (.seq (.seq (.ops [o1 39 (.build [(.I 0), (.I 0), (.I 0), (.I 0), (.I 0)] []),
    o0 (.store 5 (.t 2) (.t 39)),
    o1 3 (.mv (.c (.b false)))]) (.keep [2, 3]))
  (.ret)))), [.c 2 5, .t 3]⟩

/- loop.example/cothreads/impl.Unsigned -/
def c_iUnsigned : AFn := ⟨1, .seq (.seq (.ops [o1 2 (.mv (.c (.I 0)))]) (.keep [0]))
  (.seq (.seq (.seq (.ops [o1 3 (.mv (.t 0)),
    o1 4 (.call f_iWordValid [(.t 3)]),
    o1 5 (.un .not (.t 4))]) (.keep [0, 5]))
  (.seq (.cond (.t 5)
  (.seq (.ops [o1 2 (.mv (.c (.I (-1))))])
  (.ret))
  (.skip)) (.keep [0])))
  (.seq (.seq (.ops [o1 6 (.mv (.t 0)),
    o1 7 (.conv .u32 (.t 6)),
    o1 8 (.conv .i64 (.t 7)),
    o1 2 (.mv (.t 8))]) (.keep [2]))
  (.ret))), [.t 2]⟩

/- loop.example/cothreads/impl.Wrap -/
def c_iWrap : AFn := ⟨1, .seq (.seq (.ops [o1 2 (.mv (.c (.I 0)))]) (.keep [0]))
  (.seq (.seq (.ops [o1 3 (.mv (.t 0)),
    o1 4 (.conv .i32 (.t 3)),
    o1 5 (.conv .i64 (.t 4)),
    o1 2 (.mv (.t 5))]) (.keep [2]))
  (.ret)), [.t 2]⟩

/- loop.example/cothreads/impl.MachineValid -/
def c_iMachineValid : AFn := ⟨1, .seq (.seq (.ops [o1 1 (.box (.t 0)),
    o1 2 (.mv (.c (.b false)))]) (.keep [1]))
  (.seq (.seq (.ops [o1 3 (.fldA 0 (.t 1)),
    o1 4 (.load (.t 3)),
    o1 5 (.len (.t 4)),
    o1 6 (.bin .eql (.t 5) (.c (.I 32))),
    o1 7 (.mv (.t 6)),
    ⟨some 8, (some (7, true)), [], false, .fldA 0 (.t 1)⟩,
    ⟨some 9, (some (7, true)), [], false, .load (.t 8)⟩,
    ⟨some 10, (some (7, true)), [], false, .call f_iareWords [(.t 9)]⟩,
    o1 11 (.pick (.t 7) (.t 10) (.c (.b false))),
    o1 12 (.mv (.t 11)),
    ⟨some 13, (some (12, true)), [], false, .fldA 0 (.t 1)⟩,
    ⟨some 14, (some (12, true)), [], false, .load (.t 13)⟩,
    ⟨some 15, (some (12, true)), [], false, .idxA 1 (.t 14) (.c (.I 0))⟩,
    ⟨some 16, (some (12, true)), [], false, .load (.t 15)⟩,
    ⟨some 17, (some (12, true)), [], false, .bin .eql (.t 16) (.c (.I 0))⟩,
    o1 18 (.pick (.t 12) (.t 17) (.c (.b false))),
    o1 19 (.mv (.t 18)),
    ⟨some 20, (some (19, true)), [], false, .fldA 1 (.t 1)⟩,
    ⟨some 21, (some (19, true)), [], false, .load (.t 20)⟩,
    ⟨some 22, (some (19, true)), [], false, .call f_iWordValid [(.t 21)]⟩,
    o1 23 (.pick (.t 19) (.t 22) (.c (.b false))),
    o1 24 (.mv (.t 23)),
    ⟨some 25, (some (24, true)), [], false, .fldA 2 (.t 1)⟩,
    ⟨some 26, (some (24, true)), [], false, .load (.t 25)⟩,
    ⟨some 27, (some (24, true)), [], false, .len (.t 26)⟩,
    ⟨some 28, (some (24, true)), [], false, .bin .leq (.t 27) (.c (.I 10000))⟩,
    o1 29 (.pick (.t 24) (.t 28) (.c (.b false))),
    o1 30 (.mv (.t 29)),
    ⟨some 31, (some (30, true)), [], false, .fldA 2 (.t 1)⟩,
    ⟨some 32, (some (30, true)), [], false, .load (.t 31)⟩,
    ⟨some 33, (some (30, true)), [], false, .call f_iareWords [(.t 32)]⟩,
    o1 34 (.pick (.t 30) (.t 33) (.c (.b false))),
    o1 2 (.mv (.t 34))]) (.keep [2]))
  (.ret)), [.t 2]⟩

/- loop.example/cothreads/laws.differs -/
def c_wdiffers_l0 : AC := .seq (.seq (.seq (.seq (.ops [o1 7 (.mv (.t 6)),
    o1 8 (.mv (.t 0)),
    o1 9 (.len (.t 8)),
    o1 10 (.bin .lss (.t 7) (.t 9)),
    o1 11 (.mv (.t 10)),
    ⟨some 12, (some (11, true)), [], false, .mv (.t 6)⟩,
    ⟨some 13, (some (11, true)), [], false, .mv (.t 1)⟩,
    ⟨some 14, (some (11, true)), [], false, .len (.t 13)⟩,
    ⟨some 15, (some (11, true)), [], false, .bin .lss (.t 12) (.t 14)⟩,
    o1 16 (.pick (.t 11) (.t 15) (.c (.b false)))]) (.keep [0, 1, 5, 6, 16]))
  (.seq (.cond (.t 16)
  (.skip)
  (.exit 0)) (.keep [0, 1, 5, 6])))
  (.seq (.seq (.block 1 (.seq (.seq (.ops [o1 19 (.mv (.t 0)),
    o1 20 (.mv (.t 6)),
    o1 21 (.idxA 1 (.t 19) (.t 20)),
    o1 22 (.load (.t 21)),
    o1 23 (.mv (.t 1)),
    o1 24 (.mv (.t 6)),
    o1 25 (.idxA 1 (.t 23) (.t 24)),
    o1 26 (.load (.t 25)),
    o1 27 (.bin .neq (.t 22) (.t 26))]) (.keep [0, 1, 5, 6, 27]))
  (.seq (.cond (.t 27)
  (.seq (.ops [o1 28 (.mv (.t 5)),
    o1 29 (.bin .add (.t 28) (.c (.I 1))),
    o1 5 (.mv (.t 29))]) (.keep [0, 1, 5, 6]))
  (.skip)) (.keep [0, 1, 5, 6])))) (.keep [0, 1, 5, 6]))
  (.seq (.ops [o1 17 (.mv (.t 6)),
    o1 18 (.bin .add (.t 17) (.c (.I 1))),
    o1 6 (.mv (.t 18))]) (.keep [0, 1, 5, 6])))) (.keep [0, 1, 5, 6])
def c_wdiffers : AFn := ⟨2, .seq (.seq (.ops [o1 4 (.mv (.c (.I 0)))]) (.keep [0, 1]))
  (.seq (.ops [o1 5 (.mv (.c (.I 0)))])
  (.seq (.seq (.ops [o1 6 (.mv (.c (.I 0)))])
  (.seq (.block 0 (.seq (.keep [0, 1, 5, 6]) (.loop c_wdiffers_l0))) (.keep [5])))
  (.seq (.seq (.ops [o1 30 (.mv (.t 5)),
    o1 4 (.mv (.t 30))]) (.keep [4]))
  (.ret)))), [.t 4]⟩

/- loop.example/cothreads/impl.Apply -/
def c_iApply : AFn := ⟨3, .seq (.seq (.ops [o1 6 (.mv (.c (.I 0))),
    o1 7 (.mv (.c (.b false)))]) (.keep [0, 1, 2]))
  (.seq (.seq (.seq (.ops [o1 8 (.mv (.t 0)),
    o1 9 (.call f_iOpValid [(.t 8)]),
    o1 10 (.un .not (.t 9)),
    o1 11 (.mv (.t 10)),
    ⟨some 12, (some (11, false)), [], false, .mv (.t 1)⟩,
    ⟨some 13, (some (11, false)), [], false, .call f_iWordValid [(.t 12)]⟩,
    ⟨some 14, (some (11, false)), [], false, .un .not (.t 13)⟩,
    o1 15 (.pick (.t 11) (.c (.b true)) (.t 14)),
    o1 16 (.mv (.t 15)),
    ⟨some 17, (some (16, false)), [], false, .mv (.t 2)⟩,
    ⟨some 18, (some (16, false)), [], false, .call f_iWordValid [(.t 17)]⟩,
    ⟨some 19, (some (16, false)), [], false, .un .not (.t 18)⟩,
    o1 20 (.pick (.t 16) (.c (.b true)) (.t 19))]) (.keep [0, 1, 2, 20]))
  (.seq (.cond (.t 20)
  (.seq (.ops [o1 6 (.mv (.c (.I 0))),
    o1 7 (.mv (.c (.b false)))])
  (.ret))
  (.skip)) (.keep [0, 1, 2])))
  (.seq (.seq (.ops [o1 21 (.mv (.t 0)),
    o1 22 (.mv (.t 1)),
    o1 23 (.mv (.t 2)),
    o1 24 (.call f_iapply [(.t 21), (.t 22), (.t 23)]),
    o1 6 (.mv (.t 24)),
    o1 7 (.mv (.c (.b true)))]) (.keep [6, 7]))
  (.ret))), [.t 6, .t 7]⟩

/- loop.example/cothreads/spec.DrawMachineRun -/
def c_sDrawMachineRun : AFn := ⟨1, .seq (.seq (.ops [o1 2 (.alloc [.nils, (.I 0), .nils]),
    o1 3 (.mv (.c (.I 0)))]) (.keep [0, 2]))
  (.seq (.seq (.ops [o1 6 (.mv (.t 0)),
    o1 7 (.call f_sl6Open [(.t 6)]),
    o1 4 (.mv (.t 7))]) (.keep [2, 4]))
  (.seq (.seq (.ops [o1 8 (.mv (.t 4)),
    o1 9 (.call f_sl94Machine [(.t 8)]),
    o1 5 (.alloc [.nils, (.I 0), .nils]),
    o0 (.store 3 (.t 5) (.t 9))]) (.keep [2, 4, 5]))
  (.seq (.seq (.seq (.ops [o1 10 (.mv (.t 4)),
    o1 11 (.call f_sl6Rd_pick [(.t 10), (.c (.I 30))]),
    o1 12 (.bin .eql (.t 11) (.c (.I 0)))]) (.keep [2, 4, 5, 12]))
  (.seq (.cond (.t 12)
  (.seq (.seq (.ops [o1 13 (.loadN 3 (.t 5)),
    o1 14 (.bsl [(.I 0), (.I 0)] 2 [(0, 1, (.c (.I (-1)))), (1, 1, (.c (.I 1000001)))]),
    o1 15 (.mv (.t 4)),
    ⟨some 16, none, [(.t 5), (.t 14)], false, .call f_sl6Rd_pick [(.t 15), (.c (.I 2))]⟩,
    o1 17 (.idxA 1 (.t 14) (.t 16)),
    o1 18 (.load (.t 17)),
    ⟨none, none, [(.t 14), (.t 17)], false, .store 3 (.t 2) (.t 13)⟩,
    o1 3 (.mv (.t 18))]) (.keep [2, 3]))
  (.ret))
  (.skip)) (.keep [2, 4, 5])))
  (.seq (.seq (.ops [o1 19 (.loadN 3 (.t 5)),
    o1 20 (.mv (.t 4)),
    ⟨some 21, none, [(.t 5)], false, .call f_sl6Rd_pick [(.t 20), (.c (.I 40))]⟩,
    o0 (.store 3 (.t 2) (.t 19)),
    o1 3 (.mv (.t 21))]) (.keep [2, 3]))
  (.ret))))), [.c 2 3, .t 3]⟩

/- loop.example/cothreads/laws.szIntS -/
def c_wszIntS : AFn := ⟨2, .seq (.seq (.ops [o1 4 (.mv (.c (.I 0)))]) (.keep [0, 1]))
  (.seq (.seq (.ops [o1 5 (.mv (.t 1)),
    o1 6 (.mv (.t 0)),
    o1 7 (.len (.t 6)),
    o1 8 (.bin .sub (.t 5) (.t 7)),
    o1 1 (.mv (.t 8))]) (.keep [1]))
  (.seq (.seq (.seq (.ops [o1 9 (.mv (.t 1)),
    o1 10 (.bin .lss (.t 9) (.c (.I 0)))]) (.keep [1, 10]))
  (.seq (.cond (.t 10)
  (.seq (.ops [o1 4 (.mv (.c (.I (-1))))])
  (.ret))
  (.skip)) (.keep [1])))
  (.seq (.seq (.ops [o1 11 (.mv (.t 1)),
    o1 4 (.mv (.t 11))]) (.keep [4]))
  (.ret)))), [.t 4]⟩

/- loop.example/cothreads/spec.MachineValid -/
def c_sMachineValid : AFn := ⟨1, .seq (.seq (.ops [o1 1 (.box (.t 0)),
    o1 2 (.mv (.c (.b false)))]) (.keep [1]))
  (.seq (.seq (.ops [o1 3 (.fldA 0 (.t 1)),
    o1 4 (.load (.t 3)),
    o1 5 (.call f_sl4Words [(.t 4), (.c (.I 32))]),
    o1 6 (.mv (.t 5)),
    ⟨some 7, (some (6, true)), [], false, .fldA 0 (.t 1)⟩,
    ⟨some 8, (some (6, true)), [], false, .load (.t 7)⟩,
    ⟨some 9, (some (6, true)), [], false, .idxA 1 (.t 8) (.c (.I 0))⟩,
    ⟨some 10, (some (6, true)), [], false, .load (.t 9)⟩,
    ⟨some 11, (some (6, true)), [], false, .bin .eql (.t 10) (.c (.I 0))⟩,
    o1 12 (.pick (.t 6) (.t 11) (.c (.b false))),
    o1 13 (.mv (.t 12)),
    ⟨some 14, (some (13, true)), [], false, .fldA 1 (.t 1)⟩,
    ⟨some 15, (some (13, true)), [], false, .load (.t 14)⟩,
    ⟨some 16, (some (13, true)), [], false, .call f_sWordValid [(.t 15)]⟩,
    o1 17 (.pick (.t 13) (.t 16) (.c (.b false))),
    o1 18 (.mv (.t 17)),
    ⟨some 19, (some (18, true)), [], false, .fldA 2 (.t 1)⟩,
    ⟨some 20, (some (18, true)), [], false, .load (.t 19)⟩,
    ⟨some 21, (some (18, true)), [], false, .len (.t 20)⟩,
    ⟨some 22, (some (18, true)), [], false, .bin .leq (.t 21) (.c (.I 10000))⟩,
    o1 23 (.pick (.t 18) (.t 22) (.c (.b false))),
    o1 24 (.mv (.t 23)),
    ⟨some 25, (some (24, true)), [], false, .fldA 2 (.t 1)⟩,
    ⟨some 26, (some (24, true)), [], false, .load (.t 25)⟩,
    ⟨some 27, (some (24, true)), [], false, .fldA 2 (.t 1)⟩,
    ⟨some 28, (some (24, true)), [], false, .load (.t 27)⟩,
    ⟨some 29, (some (24, true)), [], false, .len (.t 28)⟩,
    ⟨some 30, (some (24, true)), [], false, .call f_sl4Words [(.t 26), (.t 29)]⟩,
    o1 31 (.pick (.t 24) (.t 30) (.c (.b false))),
    o1 2 (.mv (.t 31))]) (.keep [2]))
  (.ret)), [.t 2]⟩

/- loop.example/cothreads/spec.l44Copy -/
def c_sl44Copy : AFn := ⟨1, .seq (.ops [o1 1 (.box (.t 0)),
    o1 2 (.alloc [.nils, (.I 0), .nils])])
  (.seq (.seq (.ops [o1 3 (.bsl [] 0 []),
    o1 4 (.fldA 0 (.t 1)),
    o1 5 (.load (.t 4)),
    ⟨some 6, none, [], true, .app 1 (.t 3) (.t 5)⟩,
    o1 7 (.fldA 1 (.t 1)),
    o1 8 (.load (.t 7)),
    o1 9 (.bsl [] 0 []),
    o1 10 (.fldA 2 (.t 1)),
    o1 11 (.load (.t 10)),
    ⟨some 12, none, [], true, .app 1 (.t 9) (.t 11)⟩,
    o1 13 (.build [.nils, (.I 0), .nils] [(0, 1, (.t 6)), (1, 1, (.t 8)), (2, 1, (.t 12))]),
    o0 (.store 3 (.t 2) (.t 13))]) (.keep [2]))
  (.ret)), [.c 2 3]⟩

/- loop.example/cothreads/spec.l44Step -/
def c_sl44Step : AFn := ⟨1, .seq (.seq (.ops [o1 2 (.mv (.c (.I 0)))]) (.keep [0]))
  (.seq (.seq (.seq (.ops [o1 5 (.mv (.t 0)),
    o1 6 (.nilc (.t 5)),
    o1 7 (.fldA 2 (.t 6)),
    o1 8 (.load (.t 7)),
    o1 9 (.mv (.t 0)),
    o1 10 (.nilc (.t 9)),
    o1 11 (.fldA 1 (.t 10)),
    o1 12 (.load (.t 11)),
    ⟨some 13, none, [], true, .call f_sl44Word [(.t 8), (.t 12)]⟩,
    o1 14 (.un .not (.t 13))]) (.keep [0, 14]))
  (.seq (.cond (.t 14)
  (.seq (.ops [o1 2 (.mv (.c (.I 3)))])
  (.ret))
  (.skip)) (.keep [0])))
  (.seq (.seq (.ops [o1 16 (.mv (.t 0)),
    o1 17 (.nilc (.t 16)),
    o1 18 (.fldA 2 (.t 17)),
    o1 19 (.load (.t 18)),
    o1 20 (.mv (.t 0)),
    o1 21 (.nilc (.t 20)),
    o1 22 (.fldA 1 (.t 21)),
    o1 23 (.load (.t 22)),
    o1 24 (.bin .quo (.t 23) (.c (.I 4))),
    o1 25 (.idxA 1 (.t 19) (.t 24)),
    o1 26 (.load (.t 25)),
    ⟨some 27, none, [], true, .call f_sUnsigned [(.t 26)]⟩,
    ⟨some 28, none, [], true, .call f_sInstrDecode [(.t 27)]⟩,
    o1 15 (.mv (.t 28)),
    o1 29 (.ext (.t 15) 0),
    o1 30 (.ext (.t 15) 1),
    o1 3 (.alloc [(.I 0), (.I 0), (.I 0), (.I 0), (.I 0)]),
    o0 (.store 5 (.t 3) (.t 29)),
    o1 4 (.mv (.t 30))]) (.keep [0, 3, 4]))
  (.seq (.seq (.seq (.ops [o1 31 (.mv (.t 4)),
    o1 32 (.un .not (.t 31))]) (.keep [0, 3, 32]))
  (.seq (.cond (.t 32)
  (.seq (.ops [o1 2 (.mv (.c (.I 3)))])
  (.ret))
  (.skip)) (.keep [0, 3])))
  (.seq (.seq (.seq (.ops [o1 33 (.fldA 0 (.t 3)),
    o1 34 (.load (.t 33)),
    o1 35 (.bin .eql (.t 34) (.c (.I 21)))]) (.keep [0, 3, 35]))
  (.seq (.cond (.t 35)
  (.seq (.ops [o1 2 (.mv (.c (.I 2)))])
  (.ret))
  (.skip)) (.keep [0, 3])))
  (.seq (.seq (.seq (.ops [o1 36 (.mv (.t 0)),
    o1 37 (.loadN 5 (.t 3)),
    o1 38 (.call f_sl44Do [(.t 36), (.t 37)]),
    o1 39 (.un .not (.t 38))]) (.keep [39]))
  (.seq (.cond (.t 39)
  (.seq (.ops [o1 2 (.mv (.c (.I 3)))])
  (.ret))
  (.skip)) (.keep [])))
  (.seq (.ops [o1 2 (.mv (.c (.I 1)))])
  (.ret))))))), [.t 2]⟩

/- loop.example/cothreads/laws.toIntS -/
def c_wtoIntS_l0 : AC := .seq (.seq (.seq (.seq (.ops [o1 8 (.mv (.t 4)),
    o1 9 (.mv (.t 0)),
    o1 10 (.len (.t 9)),
    o1 11 (.bin .lss (.t 8) (.t 10))]) (.keep [0, 3, 4, 11]))
  (.seq (.cond (.t 11)
  (.skip)
  (.exit 0)) (.keep [0, 3, 4])))
  (.seq (.seq (.block 1 (.seq (.ops [o1 14 (.mv (.t 3)),
    o1 15 (.mv (.t 4)),
    o1 16 (.mv (.t 0)),
    o1 17 (.mv (.t 4)),
    o1 18 (.idxA 1 (.t 16) (.t 17)),
    o1 19 (.load (.t 18)),
    o1 20 (.idxA 1 (.t 14) (.t 15)),
    o0 (.store 1 (.t 20) (.t 19))]) (.keep [0, 3, 4]))) (.keep [0, 3, 4]))
  (.seq (.ops [o1 12 (.mv (.t 4)),
    o1 13 (.bin .add (.t 12) (.c (.I 1))),
    o1 4 (.mv (.t 13))]) (.keep [0, 3, 4])))) (.keep [0, 3, 4])
def c_wtoIntS : AFn := ⟨1, .seq (.seq (.ops [o1 2 (.mv (.c .nils))]) (.keep [0]))
  (.seq (.seq (.ops [o1 5 (.mv (.t 0)),
    o1 6 (.len (.t 5)),
    o1 7 (.mksl [(.I 0)] (.t 6) (.t 6)),
    o1 3 (.mv (.t 7))]) (.keep [0, 3]))
  (.seq (.seq (.ops [o1 4 (.mv (.c (.I 0)))])
  (.seq (.block 0 (.seq (.keep [0, 3, 4]) (.loop c_wtoIntS_l0))) (.keep [3])))
  (.seq (.seq (.ops [o1 21 (.mv (.t 3)),
    o1 2 (.mv (.t 21))]) (.keep [2]))
  (.ret)))), [.t 2]⟩

/- loop.example/cothreads/impl.machineCopy -/
def c_imachineCopy : AFn := ⟨1, .seq (.ops [o1 1 (.box (.t 0)),
    o1 2 (.alloc [.nils, (.I 0), .nils])])
  (.seq (.seq (.ops [o1 3 (.fldA 0 (.t 1)),
    o1 4 (.load (.t 3)),
    ⟨some 5, none, [], true, .call f_slices_Clone_int_int [(.t 4)]⟩,
    o1 6 (.fldA 1 (.t 1)),
    o1 7 (.load (.t 6)),
    o1 8 (.fldA 2 (.t 1)),
    o1 9 (.load (.t 8)),
    ⟨some 10, none, [], true, .call f_slices_Clone_int_int [(.t 9)]⟩,
    o1 11 (.build [.nils, (.I 0), .nils] [(0, 1, (.t 5)), (1, 1, (.t 7)), (2, 1, (.t 10))]),
    o0 (.store 3 (.t 2) (.t 11))]) (.keep [2]))
  (.ret)), [.c 2 3]⟩

/- (*loop.example/cothreads/impl.Machine).step -/
def c_iMachine_step : AFn := ⟨1, .seq (.seq (.ops [o1 2 (.mv (.c (.I 0)))]) (.keep [0]))
  (.seq (.seq (.ops [o1 10 (.mv (.t 0)),
    o1 11 (.mv (.t 0)),
    o1 12 (.nilc (.t 11)),
    o1 13 (.fldA 1 (.t 12)),
    o1 14 (.load (.t 13)),
    o1 15 (.call f_iMachine_word [(.t 10), (.t 14)]),
    o1 3 (.mv (.t 15))]) (.keep [0, 3]))
  (.seq (.seq (.seq (.ops [o1 16 (.mv (.t 3)),
    o1 17 (.eqN 1 false (.t 16) (.c .nilp))]) (.keep [0, 3, 17]))
  (.seq (.cond (.t 17)
  (.seq (.ops [o1 2 (.mv (.c (.I 3)))])
  (.ret))
  (.skip)) (.keep [0, 3])))
  (.seq (.seq (.ops [o1 19 (.mv (.t 3)),
    o1 20 (.nilc (.t 19)),
    o1 21 (.load (.t 20)),
    o1 22 (.call f_iUnsigned [(.t 21)]),
    o1 23 (.call f_iInstrDecode [(.t 22)]),
    o1 18 (.mv (.t 23)),
    o1 24 (.ext (.t 18) 0),
    o1 25 (.ext (.t 18) 1),
    o1 4 (.alloc [(.I 0), (.I 0), (.I 0), (.I 0), (.I 0)]),
    o0 (.store 5 (.t 4) (.t 24)),
    o1 5 (.mv (.t 25))]) (.keep [0, 4, 5]))
  (.seq (.seq (.seq (.ops [o1 26 (.mv (.t 5)),
    o1 27 (.un .not (.t 26))]) (.keep [0, 4, 27]))
  (.seq (.cond (.t 27)
  (.seq (.ops [o1 2 (.mv (.c (.I 3)))])
  (.ret))
  (.skip)) (.keep [0, 4])))
  (.seq (.seq (.ops [o1 28 (.mv (.t 0)),
    o1 29 (.nilc (.t 28)),
    o1 30 (.fldA 0 (.t 29)),
    o1 31 (.load (.t 30)),
    o1 32 (.fldA 2 (.t 4)),
    o1 33 (.load (.t 32)),
    o1 34 (.idxA 1 (.t 31) (.t 33)),
    o1 35 (.load (.t 34)),
    o1 36 (.mv (.t 0)),
    o1 37 (.nilc (.t 36)),
    o1 38 (.fldA 0 (.t 37)),
    o1 39 (.load (.t 38)),
    o1 40 (.fldA 3 (.t 4)),
    o1 41 (.load (.t 40)),
    o1 42 (.idxA 1 (.t 39) (.t 41)),
    o1 43 (.load (.t 42)),
    o1 6 (.mv (.t 35)),
    o1 7 (.mv (.t 43))]) (.keep [0, 4, 6, 7]))
  (.seq (.seq (.ops [o1 44 (.mv (.t 0)),
    o1 45 (.nilc (.t 44)),
    o1 46 (.fldA 1 (.t 45)),
    o1 47 (.load (.t 46)),
    o1 48 (.bin .add (.t 47) (.c (.I 4))),
    o1 49 (.call f_iWrap [(.t 48)]),
    o1 8 (.mv (.t 49))]) (.keep [0, 4, 6, 7, 8]))
  (.seq (.seq (.seq (.ops [o1 50 (.fldA 0 (.t 4)),
    o1 51 (.load (.t 50))]) (.keep [0, 4, 6, 7, 8, 51]))
  (.seq (.block 0 (.seq (.seq (.ops [o1 65 (.bin .eql (.t 51) (.c (.I 21))),
    o1 64 (.mv (.t 65))]) (.keep [0, 4, 6, 7, 8, 51, 64]))
  (.seq (.cond (.t 64)
  (.seq (.ops [o1 2 (.mv (.c (.I 2)))])
  (.ret))
  (.seq (.seq (.ops [o1 67 (.bin .eql (.t 51) (.c (.I 12))),
    o1 66 (.mv (.t 67))]) (.keep [0, 4, 6, 7, 8, 51, 66]))
  (.seq (.cond (.t 66)
  (.seq (.ops [o1 68 (.mv (.t 0)),
    o1 69 (.fldA 1 (.t 4)),
    o1 70 (.load (.t 69)),
    o1 71 (.mv (.t 6)),
    o1 72 (.fldA 4 (.t 4)),
    o1 73 (.load (.t 72)),
    o1 74 (.bin .add (.t 71) (.t 73)),
    ⟨some 75, none, [], true, .call f_iWrap [(.t 74)]⟩,
    o1 76 (.call f_iMachine_set [(.t 68), (.t 70), (.t 75)])]) (.keep [0, 8]))
  (.seq (.seq (.ops [o1 78 (.bin .eql (.t 51) (.c (.I 13))),
    o1 77 (.mv (.t 78))]) (.keep [0, 4, 6, 7, 8, 51, 77]))
  (.seq (.cond (.t 77)
  (.seq (.ops [o1 79 (.mv (.t 0)),
    o1 80 (.fldA 1 (.t 4)),
    o1 81 (.load (.t 80)),
    o1 82 (.mv (.t 6)),
    ⟨some 83, none, [], true, .call f_iUnsigned [(.t 82)]⟩,
    o1 84 (.fldA 4 (.t 4)),
    o1 85 (.load (.t 84)),
    ⟨some 86, none, [], true, .call f_iUnsigned [(.t 85)]⟩,
    o1 87 (.bin .lss (.t 83) (.t 86)),
    ⟨some 88, none, [], true, .call f_itruth [(.t 87)]⟩,
    o1 89 (.call f_iMachine_set [(.t 79), (.t 81), (.t 88)])]) (.keep [0, 8]))
  (.seq (.seq (.seq (.ops [o1 91 (.bin .eql (.t 51) (.c (.I 14))),
    o1 90 (.mv (.t 91))]) (.keep [0, 4, 6, 7, 8, 51, 90]))
  (.seq (.cond (.t 90)
  (.skip)
  (.seq (.ops [o1 92 (.bin .eql (.t 51) (.c (.I 16))),
    o1 90 (.mv (.t 92))]) (.keep [0, 4, 6, 7, 8, 51, 90]))) (.keep [0, 4, 6, 7, 8, 51, 90])))
  (.seq (.cond (.t 90)
  (.seq (.seq (.ops [o1 93 (.mv (.t 0)),
    o1 94 (.mv (.t 6)),
    o1 95 (.fldA 4 (.t 4)),
    o1 96 (.load (.t 95)),
    o1 97 (.bin .add (.t 94) (.t 96)),
    o1 98 (.call f_iWrap [(.t 97)]),
    o1 99 (.call f_iMachine_word [(.t 93), (.t 98)]),
    o1 9 (.mv (.t 99))]) (.keep [0, 4, 7, 8, 9]))
  (.seq (.seq (.seq (.ops [o1 100 (.mv (.t 9)),
    o1 101 (.eqN 1 false (.t 100) (.c .nilp))]) (.keep [0, 4, 7, 8, 9, 101]))
  (.seq (.cond (.t 101)
  (.seq (.ops [o1 2 (.mv (.c (.I 3)))])
  (.ret))
  (.skip)) (.keep [0, 4, 7, 8, 9])))
  (.seq (.seq (.ops [o1 102 (.fldA 0 (.t 4)),
    o1 103 (.load (.t 102)),
    o1 104 (.bin .eql (.t 103) (.c (.I 16)))]) (.keep [0, 4, 7, 8, 9, 104]))
  (.seq (.cond (.t 104)
  (.seq (.ops [o1 105 (.mv (.t 9)),
    o1 106 (.mv (.t 7)),
    o1 107 (.nilc (.t 105)),
    o0 (.store 1 (.t 107) (.t 106))]) (.keep [0, 8]))
  (.seq (.ops [o1 108 (.mv (.t 0)),
    o1 109 (.fldA 1 (.t 4)),
    o1 110 (.load (.t 109)),
    o1 111 (.mv (.t 9)),
    o1 112 (.nilc (.t 111)),
    o1 113 (.load (.t 112)),
    o1 114 (.call f_iMachine_set [(.t 108), (.t 110), (.t 113)])]) (.keep [0, 8]))) (.keep [0, 8])))))
  (.seq (.seq (.ops [o1 116 (.bin .eql (.t 51) (.c (.I 15))),
    o1 115 (.mv (.t 116))]) (.keep [0, 4, 6, 7, 8, 51, 115]))
  (.seq (.cond (.t 115)
  (.seq (.seq (.ops [o1 117 (.mv (.t 0)),
    o1 118 (.fldA 1 (.t 4)),
    o1 119 (.load (.t 118)),
    o1 120 (.mv (.t 8)),
    o1 121 (.call f_iMachine_set [(.t 117), (.t 119), (.t 120)])]) (.keep [0, 4, 6]))
  (.seq (.ops [o1 122 (.mv (.t 6)),
    o1 123 (.fldA 4 (.t 4)),
    o1 124 (.load (.t 123)),
    o1 125 (.bin .add (.t 122) (.t 124)),
    o1 126 (.call f_iWrap [(.t 125)]),
    o1 127 (.bin .andNot (.t 126) (.c (.I 1))),
    o1 8 (.mv (.t 127))]) (.keep [0, 8])))
  (.seq (.seq (.seq (.ops [o1 129 (.bin .eql (.t 51) (.c (.I 17))),
    o1 128 (.mv (.t 129))]) (.keep [0, 4, 6, 7, 8, 51, 128]))
  (.seq (.cond (.t 128)
  (.skip)
  (.seq (.ops [o1 130 (.bin .eql (.t 51) (.c (.I 18))),
    o1 128 (.mv (.t 130))]) (.keep [0, 4, 6, 7, 8, 51, 128]))) (.keep [0, 4, 6, 7, 8, 51, 128])))
  (.seq (.cond (.t 128)
  (.seq (.seq (.ops [o1 131 (.mv (.t 6)),
    o1 132 (.mv (.t 7)),
    o1 133 (.bin .eql (.t 131) (.t 132)),
    o1 134 (.fldA 0 (.t 4)),
    o1 135 (.load (.t 134)),
    o1 136 (.bin .eql (.t 135) (.c (.I 17))),
    o1 137 (.eqB false (.t 133) (.t 136))]) (.keep [0, 4, 8, 137]))
  (.seq (.cond (.t 137)
  (.seq (.ops [o1 138 (.mv (.t 0)),
    o1 139 (.nilc (.t 138)),
    o1 140 (.fldA 1 (.t 139)),
    o1 141 (.load (.t 140)),
    o1 142 (.fldA 4 (.t 4)),
    o1 143 (.load (.t 142)),
    o1 144 (.bin .add (.t 141) (.t 143)),
    ⟨some 145, none, [], true, .call f_iWrap [(.t 144)]⟩,
    o1 8 (.mv (.t 145))]) (.keep [0, 8]))
  (.skip)) (.keep [0, 8])))
  (.seq (.seq (.ops [o1 147 (.bin .eql (.t 51) (.c (.I 19))),
    o1 146 (.mv (.t 147))]) (.keep [0, 4, 6, 7, 8, 51, 146]))
  (.seq (.cond (.t 146)
  (.seq (.ops [o1 148 (.mv (.t 0)),
    o1 149 (.fldA 1 (.t 4)),
    o1 150 (.load (.t 149)),
    o1 151 (.fldA 4 (.t 4)),
    o1 152 (.load (.t 151)),
    o1 153 (.bin .mul (.t 152) (.c (.I 4096))),
    ⟨some 154, none, [], true, .call f_iWrap [(.t 153)]⟩,
    o1 155 (.call f_iMachine_set [(.t 148), (.t 150), (.t 154)])]) (.keep [0, 8]))
  (.seq (.seq (.ops [o1 157 (.bin .eql (.t 51) (.c (.I 20))),
    o1 156 (.mv (.t 157))]) (.keep [0, 4, 6, 7, 8, 156]))
  (.seq (.cond (.t 156)
  (.seq (.seq (.ops [o1 158 (.mv (.t 0)),
    o1 159 (.fldA 1 (.t 4)),
    o1 160 (.load (.t 159)),
    o1 161 (.mv (.t 8)),
    o1 162 (.call f_iMachine_set [(.t 158), (.t 160), (.t 161)])]) (.keep [0, 4]))
  (.seq (.ops [o1 163 (.mv (.t 0)),
    o1 164 (.nilc (.t 163)),
    o1 165 (.fldA 1 (.t 164)),
    o1 166 (.load (.t 165)),
    o1 167 (.fldA 4 (.t 4)),
    o1 168 (.load (.t 167)),
    o1 169 (.bin .add (.t 166) (.t 168)),
    ⟨some 170, none, [], true, .call f_iWrap [(.t 169)]⟩,
    o1 8 (.mv (.t 170))]) (.keep [0, 8])))
  (.seq (.ops [o1 52 (.mv (.t 0)),
    o1 53 (.fldA 1 (.t 4)),
    o1 54 (.load (.t 53)),
    o1 55 (.fldA 0 (.t 4)),
    o1 56 (.load (.t 55)),
    o1 57 (.bin .sub (.t 56) (.c (.I 1))),
    o1 58 (.idxAA 1 11 (.g 1) (.t 57)),
    o1 59 (.load (.t 58)),
    o1 60 (.mv (.t 6)),
    o1 61 (.mv (.t 7)),
    ⟨some 62, none, [], true, .call f_iapply [(.t 59), (.t 60), (.t 61)]⟩,
    o1 63 (.call f_iMachine_set [(.t 52), (.t 54), (.t 62)])]) (.keep [0, 8]))) (.keep [0, 8])))) (.keep [0, 8])))) (.keep [0, 8])))) (.keep [0, 8])))) (.keep [0, 8])))) (.keep [0, 8])))) (.keep [0, 8])))) (.keep [0, 8])))) (.keep [0, 8])))
  (.seq (.seq (.ops [o1 171 (.mv (.t 0)),
    o1 172 (.mv (.t 8)),
    o1 173 (.nilc (.t 171)),
    o1 174 (.fldA 1 (.t 173)),
    o0 (.store 1 (.t 174) (.t 172))]) (.keep []))
  (.seq (.ops [o1 2 (.mv (.c (.I 1)))])
  (.ret)))))))))), [.t 2]⟩

/- loop.example/cothreads/laws.eqIntS -/
def c_weqIntS_l0 : AC := .seq (.seq (.seq (.seq (.ops [o1 11 (.mv (.t 5)),
    o1 12 (.mv (.t 0)),
    o1 13 (.len (.t 12)),
    o1 14 (.bin .lss (.t 11) (.t 13))]) (.keep [0, 1, 5, 14]))
  (.seq (.cond (.t 14)
  (.skip)
  (.exit 0)) (.keep [0, 1, 5])))
  (.seq (.seq (.block 1 (.seq (.seq (.ops [o1 17 (.mv (.t 0)),
    o1 18 (.mv (.t 5)),
    o1 19 (.idxA 1 (.t 17) (.t 18)),
    o1 20 (.load (.t 19)),
    o1 21 (.mv (.t 1)),
    o1 22 (.mv (.t 5)),
    o1 23 (.idxA 1 (.t 21) (.t 22)),
    o1 24 (.load (.t 23)),
    o1 25 (.bin .neq (.t 20) (.t 24))]) (.keep [0, 1, 5, 25]))
  (.seq (.cond (.t 25)
  (.seq (.ops [o1 4 (.mv (.c (.b false)))])
  (.ret))
  (.skip)) (.keep [0, 1, 5])))) (.keep [0, 1, 5]))
  (.seq (.ops [o1 15 (.mv (.t 5)),
    o1 16 (.bin .add (.t 15) (.c (.I 1))),
    o1 5 (.mv (.t 16))]) (.keep [0, 1, 5])))) (.keep [0, 1, 5])
def c_weqIntS : AFn := ⟨2, .seq (.seq (.ops [o1 4 (.mv (.c (.b false)))]) (.keep [0, 1]))
  (.seq (.seq (.seq (.ops [o1 6 (.mv (.t 0)),
    o1 7 (.len (.t 6)),
    o1 8 (.mv (.t 1)),
    o1 9 (.len (.t 8)),
    o1 10 (.bin .neq (.t 7) (.t 9))]) (.keep [0, 1, 10]))
  (.seq (.cond (.t 10)
  (.seq (.ops [o1 4 (.mv (.c (.b false)))])
  (.ret))
  (.skip)) (.keep [0, 1])))
  (.seq (.seq (.ops [o1 5 (.mv (.c (.I 0)))])
  (.seq (.block 0 (.seq (.keep [0, 1, 5]) (.loop c_weqIntS_l0))) (.keep [])))
  (.seq (.ops [o1 4 (.mv (.c (.b true)))])
  (.ret)))), [.t 4]⟩

/- loop.example/cothreads/laws.markIntS -/
def c_wmarkIntS_l0 : AC := .seq (.seq (.seq (.seq (.ops [o1 6 (.mv (.t 5)),
    o1 7 (.mv (.t 0)),
    o1 8 (.len (.t 7)),
    o1 9 (.bin .lss (.t 6) (.t 8))]) (.keep [0, 1, 5, 9]))
  (.seq (.cond (.t 9)
  (.skip)
  (.exit 0)) (.keep [0, 1, 5])))
  (.seq (.seq (.block 1 (.seq (.seq (.ops [o1 12 (.mv (.t 0)),
    o1 13 (.mv (.t 5)),
    o1 14 (.mv (.t 1)),
    o1 15 (.idxA 1 (.t 12) (.t 13)),
    o0 (.store 1 (.t 15) (.t 14))]) (.keep [0, 1, 5]))
  (.seq (.ops [o1 16 (.mv (.t 1)),
    o1 17 (.bin .add (.t 16) (.c (.I 1))),
    o1 1 (.mv (.t 17))]) (.keep [0, 1, 5])))) (.keep [0, 1, 5]))
  (.seq (.ops [o1 10 (.mv (.t 5)),
    o1 11 (.bin .add (.t 10) (.c (.I 1))),
    o1 5 (.mv (.t 11))]) (.keep [0, 1, 5])))) (.keep [0, 1, 5])
def c_wmarkIntS : AFn := ⟨2, .seq (.seq (.ops [o1 4 (.mv (.c (.I 0)))]) (.keep [0, 1]))
  (.seq (.seq (.ops [o1 5 (.mv (.c (.I 0)))])
  (.seq (.block 0 (.seq (.keep [0, 1, 5]) (.loop c_wmarkIntS_l0))) (.keep [1])))
  (.seq (.seq (.ops [o1 18 (.mv (.t 1)),
    o1 4 (.mv (.t 18))]) (.keep [4]))
  (.ret))), [.t 4]⟩

/- loop.example/cothreads/laws.heldIntS -/
def c_wheldIntS_l0 : AC := .seq (.seq (.seq (.seq (.ops [o1 6 (.mv (.t 5)),
    o1 7 (.mv (.t 0)),
    o1 8 (.len (.t 7)),
    o1 9 (.bin .lss (.t 6) (.t 8))]) (.keep [0, 1, 5, 9]))
  (.seq (.cond (.t 9)
  (.skip)
  (.exit 0)) (.keep [0, 1, 5])))
  (.seq (.seq (.block 1 (.seq (.seq (.seq (.ops [o1 12 (.mv (.t 0)),
    o1 13 (.mv (.t 5)),
    o1 14 (.idxA 1 (.t 12) (.t 13)),
    o1 15 (.load (.t 14)),
    o1 16 (.mv (.t 1)),
    o1 17 (.bin .neq (.t 15) (.t 16))]) (.keep [0, 1, 5, 17]))
  (.seq (.cond (.t 17)
  (.seq (.ops [o1 4 (.mv (.c (.I (-1))))])
  (.ret))
  (.skip)) (.keep [0, 1, 5])))
  (.seq (.ops [o1 18 (.mv (.t 1)),
    o1 19 (.bin .add (.t 18) (.c (.I 1))),
    o1 1 (.mv (.t 19))]) (.keep [0, 1, 5])))) (.keep [0, 1, 5]))
  (.seq (.ops [o1 10 (.mv (.t 5)),
    o1 11 (.bin .add (.t 10) (.c (.I 1))),
    o1 5 (.mv (.t 11))]) (.keep [0, 1, 5])))) (.keep [0, 1, 5])
def c_wheldIntS : AFn := ⟨2, .seq (.seq (.ops [o1 4 (.mv (.c (.I 0)))]) (.keep [0, 1]))
  (.seq (.seq (.ops [o1 5 (.mv (.c (.I 0)))])
  (.seq (.block 0 (.seq (.keep [0, 1, 5]) (.loop c_wheldIntS_l0))) (.keep [1])))
  (.seq (.seq (.ops [o1 20 (.mv (.t 1)),
    o1 4 (.mv (.t 20))]) (.keep [4]))
  (.ret))), [.t 4]⟩

/- loop.example/cothreads/spec.l6In -/
def c_sl6In : AFn := ⟨3, .seq (.seq (.ops [o1 6 (.mv (.c (.b false)))]) (.keep [0, 1, 2]))
  (.seq (.seq (.ops [o1 7 (.mv (.t 0)),
    o1 8 (.mv (.t 1)),
    o1 9 (.bin .geq (.t 7) (.t 8)),
    o1 10 (.mv (.t 9)),
    ⟨some 11, (some (10, true)), [], false, .mv (.t 0)⟩,
    ⟨some 12, (some (10, true)), [], false, .mv (.t 2)⟩,
    ⟨some 13, (some (10, true)), [], false, .bin .leq (.t 11) (.t 12)⟩,
    o1 14 (.pick (.t 10) (.t 13) (.c (.b false))),
    o1 6 (.mv (.t 14))]) (.keep [6]))
  (.ret)), [.t 6]⟩

/- loop.example/cothreads/spec.l94Machine -/
def c_sl94Machine_l0 : AC := .seq (.seq (.seq (.seq (.ops [o1 13 (.mv (.t 4)),
    o1 14 (.bin .lss (.t 13) (.c (.I 8)))]) (.keep [0, 2, 3, 4, 14]))
  (.seq (.cond (.t 14)
  (.skip)
  (.exit 0)) (.keep [0, 2, 3, 4])))
  (.seq (.seq (.block 1 (.seq (.ops [o1 17 (.fldA 0 (.t 3)),
    o1 18 (.load (.t 17)),
    o1 19 (.mv (.t 4)),
    o1 20 (.mv (.t 0)),
    ⟨some 21, none, [(.t 17)], false, .call f_sl91Word [(.t 20)]⟩,
    o1 22 (.idxA 1 (.t 18) (.t 19)),
    o0 (.store 1 (.t 22) (.t 21))]) (.keep [0, 2, 3, 4]))) (.keep [0, 2, 3, 4]))
  (.seq (.ops [o1 15 (.mv (.t 4)),
    o1 16 (.bin .add (.t 15) (.c (.I 1))),
    o1 4 (.mv (.t 16))]) (.keep [0, 2, 3, 4])))) (.keep [0, 2, 3, 4])
def c_sl94Machine_l1 : AC := .seq (.seq (.seq (.seq (.ops [o1 26 (.mv (.t 6)),
    o1 27 (.mv (.t 5)),
    o1 28 (.bin .lss (.t 26) (.t 27))]) (.keep [0, 2, 3, 5, 6, 28]))
  (.seq (.cond (.t 28)
  (.skip)
  (.exit 2)) (.keep [0, 2, 3, 5, 6])))
  (.seq (.seq (.block 3 (.seq (.ops [o1 31 (.fldA 2 (.t 3)),
    o1 32 (.load (.t 31)),
    o1 33 (.mv (.t 0)),
    ⟨some 34, none, [(.t 31)], false, .call f_sl94Near [(.t 33)]⟩,
    ⟨some 35, none, [], true, .call f_sl42Encode [(.t 34)]⟩,
    ⟨some 36, none, [], true, .call f_sWrap [(.t 35)]⟩,
    o1 37 (.bsl [(.I 0)] 1 [(0, 1, (.t 36))]),
    o1 38 (.app 1 (.t 32) (.t 37)),
    o1 39 (.fldA 2 (.t 3)),
    o0 (.store 1 (.t 39) (.t 38))]) (.keep [0, 2, 3, 5, 6]))) (.keep [0, 2, 3, 5, 6]))
  (.seq (.ops [o1 29 (.mv (.t 6)),
    o1 30 (.bin .add (.t 29) (.c (.I 1))),
    o1 6 (.mv (.t 30))]) (.keep [0, 2, 3, 5, 6])))) (.keep [0, 2, 3, 5, 6])
def c_sl94Machine : AFn := ⟨1, .seq (.ops [o1 2 (.alloc [.nils, (.I 0), .nils])])
  (.seq (.seq (.ops [o1 7 (.mksl [(.I 0)] (.c (.I 32)) (.c (.I 32))),
    o1 8 (.mv (.t 0)),
    ⟨some 9, none, [(.t 7)], false, .call f_sl6Rd_pick [(.t 8), (.c (.I 3))]⟩,
    o1 10 (.bin .mul (.c (.I 4)) (.t 9)),
    o1 11 (.bsl [] 0 []),
    o1 12 (.build [.nils, (.I 0), .nils] [(0, 1, (.t 7)), (1, 1, (.t 10)), (2, 1, (.t 11))]),
    o1 3 (.alloc [.nils, (.I 0), .nils]),
    o0 (.store 3 (.t 3) (.t 12))]) (.keep [0, 2, 3]))
  (.seq (.seq (.ops [o1 4 (.mv (.c (.I 1)))])
  (.seq (.block 0 (.seq (.keep [0, 2, 3, 4]) (.loop c_sl94Machine_l0))) (.keep [0, 2, 3])))
  (.seq (.seq (.ops [o1 23 (.mv (.t 0)),
    o1 24 (.call f_sl6Rd_pick [(.t 23), (.c (.I 8))]),
    o1 25 (.bin .add (.c (.I 3)) (.t 24)),
    o1 5 (.mv (.t 25))]) (.keep [0, 2, 3, 5]))
  (.seq (.seq (.ops [o1 6 (.mv (.c (.I 0)))])
  (.seq (.block 2 (.seq (.keep [0, 2, 3, 5, 6]) (.loop c_sl94Machine_l1))) (.keep [0, 2, 3, 5])))
  (.seq (.seq (.seq (.ops [o1 40 (.mv (.t 0)),
    o1 41 (.call f_sl6Rd_pick [(.t 40), (.c (.I 30))])]) (.keep [0, 2, 3, 5, 41]))
  (.seq (.block 4 (.seq (.seq (.ops [o1 43 (.bin .eql (.t 41) (.c (.I 0))),
    o1 42 (.mv (.t 43))]) (.keep [0, 2, 3, 5, 41, 42]))
  (.seq (.cond (.t 42)
  (.seq (.ops [o1 44 (.fldA 0 (.t 3)),
    o1 45 (.load (.t 44)),
    o1 46 (.idxA 1 (.t 45) (.c (.I 0))),
    o0 (.store 1 (.t 46) (.c (.I 1)))]) (.keep [2, 3]))
  (.seq (.seq (.ops [o1 48 (.bin .eql (.t 41) (.c (.I 1))),
    o1 47 (.mv (.t 48))]) (.keep [0, 2, 3, 5, 41, 47]))
  (.seq (.cond (.t 47)
  (.seq (.ops [o1 49 (.mv (.t 5)),
    o1 50 (.bin .mul (.c (.I 4)) (.t 49)),
    o1 51 (.bsl [(.I 0), (.I 0), (.I 0), (.I 0)] 4 [(0, 1, (.c (.I 2))), (1, 1, (.c (.I (-4)))), (2, 1, (.t 50)), (3, 1, (.c (.I 2147483648)))]),
    o1 52 (.mv (.t 0)),
    o1 53 (.call f_sl6Rd_pick [(.t 52), (.c (.I 4))]),
    o1 54 (.idxA 1 (.t 51) (.t 53)),
    o1 55 (.load (.t 54)),
    o1 56 (.fldA 1 (.t 3)),
    o0 (.store 1 (.t 56) (.t 55))]) (.keep [2, 3]))
  (.seq (.seq (.ops [o1 58 (.bin .eql (.t 41) (.c (.I 2))),
    o1 57 (.mv (.t 58))]) (.keep [2, 3, 5, 41, 57]))
  (.seq (.cond (.t 57)
  (.seq (.ops [o1 59 (.fldA 2 (.t 3)),
    o1 60 (.load (.t 59)),
    o1 61 (.mv (.t 5)),
    o1 62 (.bin .sub (.t 61) (.c (.I 1))),
    o1 63 (.idxA 1 (.t 60) (.t 62)),
    o0 (.store 1 (.t 63) (.c (.I 0)))]) (.keep [2, 3]))
  (.seq (.seq (.ops [o1 65 (.bin .eql (.t 41) (.c (.I 3))),
    o1 64 (.mv (.t 65))]) (.keep [2, 3, 64]))
  (.seq (.cond (.t 64)
  (.seq (.ops [o1 66 (.fldA 0 (.t 3)),
    o1 67 (.load (.t 66)),
    o1 68 (.slice 1 (.t 67) (some (.c (.I 1))) none none),
    o1 69 (.fldA 0 (.t 3)),
    o0 (.store 1 (.t 69) (.t 68))]) (.keep [2, 3]))
  (.skip)) (.keep [2, 3])))) (.keep [2, 3])))) (.keep [2, 3])))) (.keep [2, 3])))) (.keep [2, 3])))
  (.seq (.seq (.ops [o1 70 (.loadN 3 (.t 3)),
    o0 (.store 3 (.t 2) (.t 70))]) (.keep [2]))
  (.ret))))))), [.c 2 3]⟩

/- loop.example/cothreads/spec.l6Open -/
def c_sl6Open : AFn := ⟨1, .seq (.seq (.ops [o1 2 (.mv (.c .nilp))]) (.keep [0]))
  (.seq (.seq (.seq (.ops [o1 3 (.mv (.t 0)),
    o1 4 (.len (.t 3)),
    o1 5 (.bin .gtr (.t 4) (.c (.I 2000)))]) (.keep [0, 5]))
  (.seq (.cond (.t 5)
  (.seq (.ops [o1 6 (.mv (.t 0)),
    o1 7 (.slice 1 (.t 6) none (some (.c (.I 2000))) none),
    o1 0 (.mv (.t 7))]) (.keep [0]))
  (.skip)) (.keep [0])))
  (.seq (.seq (.ops [o1 8 (.mv (.t 0)),
    o1 9 (.build [.nils, (.I 0)] [(0, 1, (.t 8))]),
    o1 10 (.box (.t 9)),
    o1 2 (.mv (.t 10))]) (.keep [2]))
  (.ret))), [.t 2]⟩

/- loop.example/cothreads/laws.sameInts -/
def c_wsameInts_l0 : AC := .seq (.seq (.seq (.seq (.ops [o1 11 (.mv (.t 5)),
    o1 12 (.mv (.t 0)),
    o1 13 (.len (.t 12)),
    o1 14 (.bin .lss (.t 11) (.t 13))]) (.keep [0, 1, 5, 14]))
  (.seq (.cond (.t 14)
  (.skip)
  (.exit 0)) (.keep [0, 1, 5])))
  (.seq (.seq (.block 1 (.seq (.seq (.ops [o1 17 (.mv (.t 0)),
    o1 18 (.mv (.t 5)),
    o1 19 (.idxA 1 (.t 17) (.t 18)),
    o1 20 (.load (.t 19)),
    o1 21 (.mv (.t 1)),
    o1 22 (.mv (.t 5)),
    o1 23 (.idxA 1 (.t 21) (.t 22)),
    o1 24 (.load (.t 23)),
    o1 25 (.bin .neq (.t 20) (.t 24))]) (.keep [0, 1, 5, 25]))
  (.seq (.cond (.t 25)
  (.seq (.ops [o1 4 (.mv (.c (.b false)))])
  (.ret))
  (.skip)) (.keep [0, 1, 5])))) (.keep [0, 1, 5]))
  (.seq (.ops [o1 15 (.mv (.t 5)),
    o1 16 (.bin .add (.t 15) (.c (.I 1))),
    o1 5 (.mv (.t 16))]) (.keep [0, 1, 5])))) (.keep [0, 1, 5])
def c_wsameInts : AFn := ⟨2, .seq (.seq (.ops [o1 4 (.mv (.c (.b false)))]) (.keep [0, 1]))
  (.seq (.seq (.seq (.ops [o1 6 (.mv (.t 0)),
    o1 7 (.len (.t 6)),
    o1 8 (.mv (.t 1)),
    o1 9 (.len (.t 8)),
    o1 10 (.bin .neq (.t 7) (.t 9))]) (.keep [0, 1, 10]))
  (.seq (.cond (.t 10)
  (.seq (.ops [o1 4 (.mv (.c (.b false)))])
  (.ret))
  (.skip)) (.keep [0, 1])))
  (.seq (.seq (.ops [o1 5 (.mv (.c (.I 0)))])
  (.seq (.block 0 (.seq (.keep [0, 1, 5]) (.loop c_wsameInts_l0))) (.keep [])))
  (.seq (.ops [o1 4 (.mv (.c (.b true)))])
  (.ret)))), [.t 4]⟩

/- loop.example/cothreads/impl.isUnsigned -/
def c_iisUnsigned : AFn := ⟨1, .seq (.seq (.ops [o1 2 (.mv (.c (.b false)))]) (.keep [0]))
  (.seq (.seq (.ops [o1 3 (.mv (.t 0)),
    o1 4 (.bin .geq (.t 3) (.c (.I 0))),
    o1 5 (.mv (.t 4)),
    ⟨some 6, (some (5, true)), [], false, .mv (.t 0)⟩,
    ⟨some 7, (some (5, true)), [], false, .bin .lss (.t 6) (.c (.I 4294967296))⟩,
    o1 8 (.pick (.t 5) (.t 7) (.c (.b false))),
    o1 2 (.mv (.t 8))]) (.keep [2]))
  (.ret)), [.t 2]⟩

/- (loop.example/cothreads/impl.instrRow).matches -/
def c_iinstrRow_matches : AFn := ⟨3, .seq (.seq (.ops [o1 3 (.box (.t 0)),
    o1 6 (.mv (.c (.b false)))]) (.keep [1, 2, 3]))
  (.seq (.seq (.seq (.ops [o1 7 (.fldA 1 (.t 3)),
    o1 8 (.load (.t 7)),
    o1 9 (.mv (.t 2)),
    o1 10 (.bin .and (.t 9) (.c (.I 127))),
    o1 11 (.bin .neq (.t 8) (.t 10))]) (.keep [1, 2, 3, 11]))
  (.seq (.cond (.t 11)
  (.seq (.ops [o1 6 (.mv (.c (.b false)))])
  (.ret))
  (.skip)) (.keep [1, 2, 3])))
  (.seq (.seq (.seq (.ops [o1 12 (.mv (.t 1)),
    o1 13 (.call f_iformatOf [(.t 12)])]) (.keep [2, 3, 13]))
  (.seq (.block 0 (.seq (.seq (.ops [o1 15 (.bin .eql (.t 13) (.c (.i .u8 82))),
    o1 14 (.mv (.t 15))]) (.keep [2, 3, 13, 14]))
  (.seq (.cond (.t 14)
  (.seq (.seq (.ops [o1 16 (.fldA 2 (.t 3)),
    o1 17 (.load (.t 16)),
    o1 18 (.mv (.t 2)),
    ⟨some 19, none, [], true, .call f_iBits [(.t 18), (.c (.I 12)), (.c (.I 3))]⟩,
    o1 20 (.bin .eql (.t 17) (.t 19)),
    o1 21 (.mv (.t 20)),
    ⟨some 22, (some (21, true)), [], false, .fldA 3 (.t 3)⟩,
    ⟨some 23, (some (21, true)), [], false, .load (.t 22)⟩,
    ⟨some 24, (some (21, true)), [], false, .mv (.t 2)⟩,
    ⟨some 25, (some (21, true)), [], true, .call f_iBits [(.t 24), (.c (.I 25)), (.c (.I 7))]⟩,
    ⟨some 26, (some (21, true)), [], false, .bin .eql (.t 23) (.t 25)⟩,
    o1 27 (.pick (.t 21) (.t 26) (.c (.b false))),
    o1 6 (.mv (.t 27))]) (.keep [6]))
  (.ret))
  (.seq (.seq (.seq (.ops [o1 29 (.bin .eql (.t 13) (.c (.i .u8 73))),
    o1 28 (.mv (.t 29))]) (.keep [2, 3, 13, 28]))
  (.seq (.cond (.t 28)
  (.skip)
  (.seq (.seq (.ops [o1 30 (.bin .eql (.t 13) (.c (.i .u8 83))),
    o1 28 (.mv (.t 30))]) (.keep [2, 3, 13, 28]))
  (.seq (.cond (.t 28)
  (.skip)
  (.seq (.ops [o1 31 (.bin .eql (.t 13) (.c (.i .u8 66))),
    o1 28 (.mv (.t 31))]) (.keep [2, 3, 28]))) (.keep [2, 3, 28])))) (.keep [2, 3, 28])))
  (.seq (.cond (.t 28)
  (.seq (.seq (.ops [o1 32 (.fldA 2 (.t 3)),
    o1 33 (.load (.t 32)),
    o1 34 (.mv (.t 2)),
    ⟨some 35, none, [], true, .call f_iBits [(.t 34), (.c (.I 12)), (.c (.I 3))]⟩,
    o1 36 (.bin .eql (.t 33) (.t 35)),
    o1 6 (.mv (.t 36))]) (.keep [6]))
  (.ret))
  (.skip)) (.keep [])))) (.keep [])))) (.keep [])))
  (.seq (.ops [o1 6 (.mv (.c (.b true)))])
  (.ret)))), [.t 6]⟩

/- loop.example/cothreads/impl.decodeAs -/
def c_idecodeAs : AFn := ⟨2, .seq (.ops [o1 4 (.alloc [(.I 0), (.I 0), (.I 0), (.I 0), (.I 0)])])
  (.seq (.seq (.ops [o1 10 (.mv (.t 1)),
    o1 11 (.call f_iBits [(.t 10), (.c (.I 7)), (.c (.I 5))]),
    o1 12 (.mv (.t 1)),
    o1 13 (.call f_iBits [(.t 12), (.c (.I 15)), (.c (.I 5))]),
    o1 14 (.mv (.t 1)),
    o1 15 (.call f_iBits [(.t 14), (.c (.I 20)), (.c (.I 5))]),
    o1 5 (.mv (.t 11)),
    o1 6 (.mv (.t 13)),
    o1 7 (.mv (.t 15))]) (.keep [0, 1, 4, 5, 6, 7]))
  (.seq (.seq (.seq (.ops [o1 16 (.mv (.t 0)),
    o1 17 (.call f_iformatOf [(.t 16)])]) (.keep [0, 1, 4, 5, 6, 7, 17]))
  (.seq (.block 0 (.seq (.seq (.ops [o1 19 (.bin .eql (.t 17) (.c (.i .u8 82))),
    o1 18 (.mv (.t 19))]) (.keep [0, 1, 4, 5, 6, 7, 17, 18]))
  (.seq (.cond (.t 18)
  (.seq (.seq (.ops [o1 20 (.mv (.t 0)),
    o1 21 (.mv (.t 5)),
    o1 22 (.mv (.t 6)),
    o1 23 (.mv (.t 7)),
    o1 24 (.build [(.I 0), (.I 0), (.I 0), (.I 0), (.I 0)] [(0, 1, (.t 20)), (1, 1, (.t 21)), (2, 1, (.t 22)), (3, 1, (.t 23))]),
    o0 (.store 5 (.t 4) (.t 24))]) (.keep [4]))
  (.ret))
  (.seq (.seq (.ops [o1 26 (.bin .eql (.t 17) (.c (.i .u8 73))),
    o1 25 (.mv (.t 26))]) (.keep [0, 1, 4, 5, 6, 7, 17, 25]))
  (.seq (.cond (.t 25)
  (.seq (.seq (.ops [o1 27 (.mv (.t 0)),
    o1 28 (.mv (.t 5)),
    o1 29 (.mv (.t 6)),
    o1 30 (.mv (.t 1)),
    o1 31 (.call f_iBits [(.t 30), (.c (.I 20)), (.c (.I 12))]),
    o1 32 (.call f_iSignExtend [(.t 31), (.c (.I 12))]),
    o1 33 (.build [(.I 0), (.I 0), (.I 0), (.I 0), (.I 0)] [(0, 1, (.t 27)), (1, 1, (.t 28)), (2, 1, (.t 29)), (4, 1, (.t 32))]),
    o0 (.store 5 (.t 4) (.t 33))]) (.keep [4]))
  (.ret))
  (.seq (.seq (.ops [o1 35 (.bin .eql (.t 17) (.c (.i .u8 83))),
    o1 34 (.mv (.t 35))]) (.keep [0, 1, 4, 5, 6, 7, 17, 34]))
  (.seq (.cond (.t 34)
  (.seq (.seq (.ops [o1 36 (.mv (.t 0)),
    o1 37 (.mv (.t 6)),
    o1 38 (.mv (.t 7)),
    o1 39 (.mv (.t 1)),
    o1 40 (.call f_iBits [(.t 39), (.c (.I 25)), (.c (.I 7))]),
    o1 41 (.bin .shl (.t 40) (.c (.i .u64 5))),
    o1 42 (.mv (.t 5)),
    o1 43 (.bin .or (.t 41) (.t 42)),
    o1 44 (.call f_iSignExtend [(.t 43), (.c (.I 12))]),
    o1 45 (.build [(.I 0), (.I 0), (.I 0), (.I 0), (.I 0)] [(0, 1, (.t 36)), (2, 1, (.t 37)), (3, 1, (.t 38)), (4, 1, (.t 44))]),
    o0 (.store 5 (.t 4) (.t 45))]) (.keep [4]))
  (.ret))
  (.seq (.seq (.ops [o1 47 (.bin .eql (.t 17) (.c (.i .u8 66))),
    o1 46 (.mv (.t 47))]) (.keep [0, 1, 4, 5, 6, 7, 17, 46]))
  (.seq (.cond (.t 46)
  (.seq (.seq (.ops [o1 48 (.mv (.t 1)),
    o1 49 (.call f_iBits [(.t 48), (.c (.I 31)), (.c (.I 1))]),
    o1 50 (.bin .shl (.t 49) (.c (.i .u64 12))),
    o1 51 (.mv (.t 1)),
    o1 52 (.call f_iBits [(.t 51), (.c (.I 7)), (.c (.I 1))]),
    o1 53 (.bin .shl (.t 52) (.c (.i .u64 11))),
    o1 54 (.bin .or (.t 50) (.t 53)),
    o1 55 (.mv (.t 1)),
    o1 56 (.call f_iBits [(.t 55), (.c (.I 25)), (.c (.I 6))]),
    o1 57 (.bin .shl (.t 56) (.c (.i .u64 5))),
    o1 58 (.bin .or (.t 54) (.t 57)),
    o1 59 (.mv (.t 1)),
    o1 60 (.call f_iBits [(.t 59), (.c (.I 8)), (.c (.I 4))]),
    o1 61 (.bin .shl (.t 60) (.c (.i .u64 1))),
    o1 62 (.bin .or (.t 58) (.t 61)),
    o1 8 (.mv (.t 62))]) (.keep [0, 4, 6, 7, 8]))
  (.seq (.seq (.ops [o1 63 (.mv (.t 0)),
    o1 64 (.mv (.t 6)),
    o1 65 (.mv (.t 7)),
    o1 66 (.mv (.t 8)),
    o1 67 (.call f_iSignExtend [(.t 66), (.c (.I 13))]),
    o1 68 (.build [(.I 0), (.I 0), (.I 0), (.I 0), (.I 0)] [(0, 1, (.t 63)), (2, 1, (.t 64)), (3, 1, (.t 65)), (4, 1, (.t 67))]),
    o0 (.store 5 (.t 4) (.t 68))]) (.keep [4]))
  (.ret)))
  (.seq (.seq (.ops [o1 70 (.bin .eql (.t 17) (.c (.i .u8 85))),
    o1 69 (.mv (.t 70))]) (.keep [0, 1, 4, 5, 17, 69]))
  (.seq (.cond (.t 69)
  (.seq (.seq (.ops [o1 71 (.mv (.t 0)),
    o1 72 (.mv (.t 5)),
    o1 73 (.mv (.t 1)),
    o1 74 (.call f_iBits [(.t 73), (.c (.I 12)), (.c (.I 20))]),
    o1 75 (.build [(.I 0), (.I 0), (.I 0), (.I 0), (.I 0)] [(0, 1, (.t 71)), (1, 1, (.t 72)), (4, 1, (.t 74))]),
    o0 (.store 5 (.t 4) (.t 75))]) (.keep [4]))
  (.ret))
  (.seq (.seq (.ops [o1 77 (.bin .eql (.t 17) (.c (.i .u8 74))),
    o1 76 (.mv (.t 77))]) (.keep [0, 1, 4, 5, 76]))
  (.seq (.cond (.t 76)
  (.seq (.seq (.ops [o1 78 (.mv (.t 1)),
    o1 79 (.call f_iBits [(.t 78), (.c (.I 31)), (.c (.I 1))]),
    o1 80 (.bin .shl (.t 79) (.c (.i .u64 20))),
    o1 81 (.mv (.t 1)),
    o1 82 (.call f_iBits [(.t 81), (.c (.I 12)), (.c (.I 8))]),
    o1 83 (.bin .shl (.t 82) (.c (.i .u64 12))),
    o1 84 (.bin .or (.t 80) (.t 83)),
    o1 85 (.mv (.t 1)),
    o1 86 (.call f_iBits [(.t 85), (.c (.I 20)), (.c (.I 1))]),
    o1 87 (.bin .shl (.t 86) (.c (.i .u64 11))),
    o1 88 (.bin .or (.t 84) (.t 87)),
    o1 89 (.mv (.t 1)),
    o1 90 (.call f_iBits [(.t 89), (.c (.I 21)), (.c (.I 10))]),
    o1 91 (.bin .shl (.t 90) (.c (.i .u64 1))),
    o1 92 (.bin .or (.t 88) (.t 91)),
    o1 9 (.mv (.t 92))]) (.keep [0, 4, 5, 9]))
  (.seq (.seq (.ops [o1 93 (.mv (.t 0)),
    o1 94 (.mv (.t 5)),
    o1 95 (.mv (.t 9)),
    o1 96 (.call f_iSignExtend [(.t 95), (.c (.I 21))]),
    o1 97 (.build [(.I 0), (.I 0), (.I 0), (.I 0), (.I 0)] [(0, 1, (.t 93)), (1, 1, (.t 94)), (4, 1, (.t 96))]),
    o0 (.store 5 (.t 4) (.t 97))]) (.keep [4]))
  (.ret)))
  (.skip)) (.keep [0, 4])))) (.keep [0, 4])))) (.keep [0, 4])))) (.keep [0, 4])))) (.keep [0, 4])))) (.keep [0, 4])))) (.keep [0, 4])))
  (.seq (.seq (.ops [o1 98 (.mv (.t 0)),
    o1 99 (.build [(.I 0), (.I 0), (.I 0), (.I 0), (.I 0)] [(0, 1, (.t 98))]),
    o0 (.store 5 (.t 4) (.t 99))]) (.keep [4]))
  (.ret)))), [.c 4 5]⟩

/- loop.example/cothreads/impl.InstrEncode -/
def c_iInstrEncode : AFn := ⟨1, .seq (.seq (.ops [o1 1 (.box (.t 0)),
    o1 2 (.mv (.c (.I 0))),
    o1 3 (.mv (.c (.b false)))]) (.keep [1]))
  (.seq (.seq (.seq (.ops [o1 8 (.loadN 5 (.t 1)),
    o1 9 (.call f_iInstrValid [(.t 8)]),
    o1 10 (.un .not (.t 9))]) (.keep [1, 10]))
  (.seq (.cond (.t 10)
  (.seq (.ops [o1 2 (.mv (.c (.I 0))),
    o1 3 (.mv (.c (.b false)))])
  (.ret))
  (.skip)) (.keep [1])))
  (.seq (.seq (.ops [o1 11 (.fldA 0 (.t 1)),
    o1 12 (.load (.t 11)),
    o1 13 (.bin .sub (.t 12) (.c (.I 1))),
    o1 14 (.idxAA 4 21 (.g 0) (.t 13)),
    o1 15 (.loadN 4 (.t 14)),
    o1 4 (.alloc [(.str .empty), (.I 0), (.I 0), (.I 0)]),
    o0 (.store 4 (.t 4) (.t 15))]) (.keep [1, 4]))
  (.seq (.seq (.ops [o1 16 (.fldA 4 (.t 1)),
    o1 17 (.load (.t 16)),
    o1 18 (.call f_iUnsigned [(.t 17)]),
    o1 5 (.alloc [(.I 0)]),
    o0 (.store 1 (.t 5) (.t 18))]) (.keep [1, 4, 5]))
  (.seq (.seq (.ops [o1 19 (.mkfn f_iInstrEncode_1 [] [(.t 5)]),
    o1 6 (.mv (.t 19))]) (.keep [1, 4, 6]))
  (.seq (.seq (.ops [o1 20 (.fldA 3 (.t 1)),
    o1 21 (.load (.t 20)),
    o1 22 (.bin .shl (.t 21) (.c (.i .u64 20))),
    o1 23 (.fldA 2 (.t 1)),
    o1 24 (.load (.t 23)),
    o1 25 (.bin .shl (.t 24) (.c (.i .u64 15))),
    o1 26 (.bin .or (.t 22) (.t 25)),
    o1 27 (.fldA 2 (.t 4)),
    o1 28 (.load (.t 27)),
    o1 29 (.bin .shl (.t 28) (.c (.i .u64 12))),
    o1 30 (.bin .or (.t 26) (.t 29)),
    o1 31 (.fldA 1 (.t 4)),
    o1 32 (.load (.t 31)),
    o1 33 (.bin .or (.t 30) (.t 32)),
    o1 7 (.mv (.t 33))]) (.keep [1, 4, 6, 7]))
  (.seq (.seq (.seq (.ops [o1 34 (.fldA 0 (.t 1)),
    o1 35 (.load (.t 34)),
    o1 36 (.call f_iformatOf [(.t 35)])]) (.keep [1, 4, 6, 7, 36]))
  (.seq (.block 0 (.seq (.seq (.ops [o1 38 (.bin .eql (.t 36) (.c (.i .u8 82))),
    o1 37 (.mv (.t 38))]) (.keep [1, 4, 6, 7, 36, 37]))
  (.seq (.cond (.t 37)
  (.seq (.seq (.ops [o1 39 (.fldA 3 (.t 4)),
    o1 40 (.load (.t 39)),
    o1 41 (.bin .shl (.t 40) (.c (.i .u64 25))),
    o1 42 (.mv (.t 7)),
    o1 43 (.bin .or (.t 41) (.t 42)),
    o1 44 (.fldA 1 (.t 1)),
    o1 45 (.load (.t 44)),
    o1 46 (.bin .shl (.t 45) (.c (.i .u64 7))),
    o1 47 (.bin .or (.t 43) (.t 46)),
    o1 2 (.mv (.t 47)),
    o1 3 (.mv (.c (.b true)))]) (.keep [2, 3]))
  (.ret))
  (.seq (.seq (.ops [o1 49 (.bin .eql (.t 36) (.c (.i .u8 73))),
    o1 48 (.mv (.t 49))]) (.keep [1, 4, 6, 7, 36, 48]))
  (.seq (.cond (.t 48)
  (.seq (.seq (.ops [o1 50 (.mv (.t 6)),
    ⟨some 51, none, [], true, .callv (.t 50) [(.c (.I 0)), (.c (.I 12)), (.c (.I 20))]⟩,
    o1 52 (.mv (.t 7)),
    o1 53 (.bin .or (.t 51) (.t 52)),
    o1 54 (.fldA 1 (.t 1)),
    o1 55 (.load (.t 54)),
    o1 56 (.bin .shl (.t 55) (.c (.i .u64 7))),
    o1 57 (.bin .or (.t 53) (.t 56)),
    o1 2 (.mv (.t 57)),
    o1 3 (.mv (.c (.b true)))]) (.keep [2, 3]))
  (.ret))
  (.seq (.seq (.ops [o1 59 (.bin .eql (.t 36) (.c (.i .u8 83))),
    o1 58 (.mv (.t 59))]) (.keep [1, 4, 6, 7, 36, 58]))
  (.seq (.cond (.t 58)
  (.seq (.seq (.ops [o1 60 (.mv (.t 6)),
    o1 61 (.callv (.t 60) [(.c (.I 5)), (.c (.I 7)), (.c (.I 25))]),
    o1 62 (.mv (.t 7)),
    o1 63 (.bin .or (.t 61) (.t 62)),
    o1 64 (.mv (.t 6)),
    o1 65 (.callv (.t 64) [(.c (.I 0)), (.c (.I 5)), (.c (.I 7))]),
    o1 66 (.bin .or (.t 63) (.t 65)),
    o1 2 (.mv (.t 66)),
    o1 3 (.mv (.c (.b true)))]) (.keep [2, 3]))
  (.ret))
  (.seq (.seq (.ops [o1 68 (.bin .eql (.t 36) (.c (.i .u8 66))),
    o1 67 (.mv (.t 68))]) (.keep [1, 4, 6, 7, 36, 67]))
  (.seq (.cond (.t 67)
  (.seq (.seq (.ops [o1 69 (.mv (.t 6)),
    o1 70 (.callv (.t 69) [(.c (.I 12)), (.c (.I 1)), (.c (.I 31))]),
    o1 71 (.mv (.t 6)),
    o1 72 (.callv (.t 71) [(.c (.I 5)), (.c (.I 6)), (.c (.I 25))]),
    o1 73 (.bin .or (.t 70) (.t 72)),
    o1 74 (.mv (.t 7)),
    o1 75 (.bin .or (.t 73) (.t 74)),
    o1 76 (.mv (.t 6)),
    o1 77 (.callv (.t 76) [(.c (.I 1)), (.c (.I 4)), (.c (.I 8))]),
    o1 78 (.bin .or (.t 75) (.t 77)),
    o1 79 (.mv (.t 6)),
    o1 80 (.callv (.t 79) [(.c (.I 11)), (.c (.I 1)), (.c (.I 7))]),
    o1 81 (.bin .or (.t 78) (.t 80)),
    o1 2 (.mv (.t 81)),
    o1 3 (.mv (.c (.b true)))]) (.keep [2, 3]))
  (.ret))
  (.seq (.seq (.ops [o1 83 (.bin .eql (.t 36) (.c (.i .u8 85))),
    o1 82 (.mv (.t 83))]) (.keep [1, 4, 6, 36, 82]))
  (.seq (.cond (.t 82)
  (.seq (.seq (.ops [o1 84 (.mv (.t 6)),
    ⟨some 85, none, [], true, .callv (.t 84) [(.c (.I 0)), (.c (.I 20)), (.c (.I 12))]⟩,
    o1 86 (.fldA 1 (.t 1)),
    o1 87 (.load (.t 86)),
    o1 88 (.bin .shl (.t 87) (.c (.i .u64 7))),
    o1 89 (.bin .or (.t 85) (.t 88)),
    o1 90 (.fldA 1 (.t 4)),
    o1 91 (.load (.t 90)),
    o1 92 (.bin .or (.t 89) (.t 91)),
    o1 2 (.mv (.t 92)),
    o1 3 (.mv (.c (.b true)))]) (.keep [2, 3]))
  (.ret))
  (.seq (.seq (.ops [o1 94 (.bin .eql (.t 36) (.c (.i .u8 74))),
    o1 93 (.mv (.t 94))]) (.keep [1, 4, 6, 93]))
  (.seq (.cond (.t 93)
  (.seq (.seq (.ops [o1 95 (.mv (.t 6)),
    ⟨some 96, none, [], true, .callv (.t 95) [(.c (.I 20)), (.c (.I 1)), (.c (.I 31))]⟩,
    o1 97 (.mv (.t 6)),
    ⟨some 98, none, [], true, .callv (.t 97) [(.c (.I 1)), (.c (.I 10)), (.c (.I 21))]⟩,
    o1 99 (.bin .or (.t 96) (.t 98)),
    o1 100 (.mv (.t 6)),
    ⟨some 101, none, [], true, .callv (.t 100) [(.c (.I 11)), (.c (.I 1)), (.c (.I 20))]⟩,
    o1 102 (.bin .or (.t 99) (.t 101)),
    o1 103 (.mv (.t 6)),
    ⟨some 104, none, [], true, .callv (.t 103) [(.c (.I 12)), (.c (.I 8)), (.c (.I 12))]⟩,
    o1 105 (.bin .or (.t 102) (.t 104)),
    o1 106 (.fldA 1 (.t 1)),
    o1 107 (.load (.t 106)),
    o1 108 (.bin .shl (.t 107) (.c (.i .u64 7))),
    o1 109 (.bin .or (.t 105) (.t 108)),
    o1 110 (.fldA 1 (.t 4)),
    o1 111 (.load (.t 110)),
    o1 112 (.bin .or (.t 109) (.t 111)),
    o1 2 (.mv (.t 112)),
    o1 3 (.mv (.c (.b true)))]) (.keep [2, 3]))
  (.ret))
  (.skip)) (.keep [4])))) (.keep [4])))) (.keep [4])))) (.keep [4])))) (.keep [4])))) (.keep [4])))) (.keep [4])))
  (.seq (.seq (.ops [o1 113 (.fldA 1 (.t 4)),
    o1 114 (.load (.t 113)),
    o1 2 (.mv (.t 114)),
    o1 3 (.mv (.c (.b true)))]) (.keep [2, 3]))
  (.ret)))))))), [.t 2, .t 3]⟩

/- loop.example/cothreads/impl.WordValid -/
def c_iWordValid : AFn := ⟨1, .seq (.seq (.ops [o1 2 (.mv (.c (.b false)))]) (.keep [0]))
  (.seq (.seq (.ops [o1 3 (.mv (.t 0)),
    o1 4 (.bin .geq (.t 3) (.c (.I (-2147483648)))),
    o1 5 (.mv (.t 4)),
    ⟨some 6, (some (5, true)), [], false, .mv (.t 0)⟩,
    ⟨some 7, (some (5, true)), [], false, .bin .leq (.t 6) (.c (.I 2147483647))⟩,
    o1 8 (.pick (.t 5) (.t 7) (.c (.b false))),
    o1 2 (.mv (.t 8))]) (.keep [2]))
  (.ret)), [.t 2]⟩

/- loop.example/cothreads/impl.areWords -/
def c_iareWords_l0 : AC := .seq (.seq (.ops [o1 8 (.bin .lss (.t 7) (.t 6))])
  (.seq (.seq (.cond (.t 8)
  (.skip)
  (.exit 0)) (.keep [5, 6, 7]))
  (.seq (.seq (.block 1 (.seq (.seq (.ops [o1 9 (.idxA 1 (.t 5) (.t 7)),
    o1 10 (.load (.t 9)),
    o1 4 (.mv (.t 10))]) (.keep [4, 5, 6, 7]))
  (.seq (.seq (.ops [o1 11 (.mv (.t 4)),
    o1 12 (.call f_iWordValid [(.t 11)]),
    o1 13 (.un .not (.t 12))]) (.keep [5, 6, 7, 13]))
  (.seq (.cond (.t 13)
  (.seq (.ops [o1 2 (.mv (.c (.b false)))])
  (.ret))
  (.skip)) (.keep [5, 6, 7]))))) (.keep [5, 6, 7]))
  (.seq (.ops [o1 14 (.bin .add (.t 7) (.c (.I 1))),
    o1 7 (.mv (.t 14))]) (.keep [5, 6, 7]))))) (.keep [5, 6, 7])
def c_iareWords : AFn := ⟨1, .seq (.seq (.ops [o1 2 (.mv (.c (.b false)))]) (.keep [0]))
  (.seq (.seq (.ops [o1 5 (.mv (.t 0)),
    o1 6 (.len (.t 5)),
    o1 7 (.mv (.c (.I 0)))])
  (.seq (.block 0 (.seq (.keep [5, 6, 7]) (.loop c_iareWords_l0))) (.keep [])))
  (.seq (.ops [o1 2 (.mv (.c (.b true)))])
  (.ret))), [.t 2]⟩

/- loop.example/cothreads/impl.OpValid -/
def c_iOpValid : AFn := ⟨1, .seq (.seq (.ops [o1 2 (.mv (.c (.b false)))]) (.keep [0]))
  (.seq (.seq (.ops [o1 3 (.mv (.t 0)),
    o1 4 (.bin .geq (.t 3) (.c (.I 1))),
    o1 5 (.mv (.t 4)),
    ⟨some 6, (some (5, true)), [], false, .mv (.t 0)⟩,
    ⟨some 7, (some (5, true)), [], false, .bin .leq (.t 6) (.c (.I 12))⟩,
    o1 8 (.pick (.t 5) (.t 7) (.c (.b false))),
    o1 2 (.mv (.t 8))]) (.keep [2]))
  (.ret)), [.t 2]⟩

/- loop.example/cothreads/impl.apply -/
def c_iapply : AFn := ⟨3, .seq (.seq (.ops [o1 6 (.mv (.c (.I 0)))]) (.keep [0, 1, 2]))
  (.seq (.seq (.ops [o1 7 (.mv (.t 0))])
  (.seq (.block 0 (.seq (.seq (.ops [o1 9 (.bin .eql (.t 7) (.c (.I 1))),
    o1 8 (.mv (.t 9))]) (.keep [1, 2, 7, 8]))
  (.seq (.cond (.t 8)
  (.seq (.seq (.ops [o1 10 (.mv (.t 1)),
    o1 11 (.mv (.t 2)),
    o1 12 (.bin .or (.t 10) (.t 11)),
    o1 6 (.mv (.t 12))]) (.keep [6]))
  (.ret))
  (.seq (.seq (.ops [o1 14 (.bin .eql (.t 7) (.c (.I 2))),
    o1 13 (.mv (.t 14))]) (.keep [1, 2, 7, 13]))
  (.seq (.cond (.t 13)
  (.seq (.seq (.ops [o1 15 (.mv (.t 1)),
    o1 16 (.mv (.t 2)),
    o1 17 (.bin .xor (.t 15) (.t 16)),
    o1 6 (.mv (.t 17))]) (.keep [6]))
  (.ret))
  (.seq (.seq (.ops [o1 19 (.bin .eql (.t 7) (.c (.I 3))),
    o1 18 (.mv (.t 19))]) (.keep [1, 2, 7, 18]))
  (.seq (.cond (.t 18)
  (.seq (.seq (.ops [o1 20 (.mv (.t 1)),
    o1 21 (.mv (.t 2)),
    o1 22 (.bin .and (.t 20) (.t 21)),
    o1 6 (.mv (.t 22))]) (.keep [6]))
  (.ret))
  (.seq (.seq (.ops [o1 24 (.bin .eql (.t 7) (.c (.I 4))),
    o1 23 (.mv (.t 24))]) (.keep [1, 2, 7, 23]))
  (.seq (.cond (.t 23)
  (.seq (.seq (.ops [o1 25 (.mv (.t 1)),
    o1 26 (.mv (.t 2)),
    o1 27 (.bin .eql (.t 25) (.t 26)),
    o1 28 (.call f_itruth [(.t 27)]),
    o1 6 (.mv (.t 28))]) (.keep [6]))
  (.ret))
  (.seq (.seq (.ops [o1 30 (.bin .eql (.t 7) (.c (.I 5))),
    o1 29 (.mv (.t 30))]) (.keep [1, 2, 7, 29]))
  (.seq (.cond (.t 29)
  (.seq (.seq (.ops [o1 31 (.mv (.t 1)),
    o1 32 (.mv (.t 2)),
    o1 33 (.bin .lss (.t 31) (.t 32)),
    o1 34 (.call f_itruth [(.t 33)]),
    o1 6 (.mv (.t 34))]) (.keep [6]))
  (.ret))
  (.seq (.seq (.ops [o1 36 (.bin .eql (.t 7) (.c (.I 6))),
    o1 35 (.mv (.t 36))]) (.keep [1, 2, 7, 35]))
  (.seq (.cond (.t 35)
  (.seq (.seq (.ops [o1 37 (.mv (.t 1)),
    o1 38 (.mv (.t 2)),
    o1 39 (.bin .and (.t 38) (.c (.I 31))),
    o1 40 (.bin .shl (.t 37) (.t 39)),
    o1 41 (.call f_iWrap [(.t 40)]),
    o1 6 (.mv (.t 41))]) (.keep [6]))
  (.ret))
  (.seq (.seq (.ops [o1 43 (.bin .eql (.t 7) (.c (.I 7))),
    o1 42 (.mv (.t 43))]) (.keep [1, 2, 7, 42]))
  (.seq (.cond (.t 42)
  (.seq (.seq (.ops [o1 44 (.mv (.t 1)),
    o1 45 (.mv (.t 2)),
    o1 46 (.bin .and (.t 45) (.c (.I 31))),
    o1 47 (.bin .shr (.t 44) (.t 46)),
    o1 6 (.mv (.t 47))]) (.keep [6]))
  (.ret))
  (.seq (.seq (.ops [o1 49 (.bin .eql (.t 7) (.c (.I 8))),
    o1 48 (.mv (.t 49))]) (.keep [1, 2, 7, 48]))
  (.seq (.cond (.t 48)
  (.seq (.seq (.ops [o1 50 (.mv (.t 1)),
    o1 51 (.mv (.t 2)),
    o1 52 (.bin .add (.t 50) (.t 51)),
    o1 53 (.call f_iWrap [(.t 52)]),
    o1 6 (.mv (.t 53))]) (.keep [6]))
  (.ret))
  (.seq (.seq (.ops [o1 55 (.bin .eql (.t 7) (.c (.I 9))),
    o1 54 (.mv (.t 55))]) (.keep [1, 2, 7, 54]))
  (.seq (.cond (.t 54)
  (.seq (.seq (.ops [o1 56 (.mv (.t 1)),
    o1 57 (.mv (.t 2)),
    o1 58 (.bin .sub (.t 56) (.t 57)),
    o1 59 (.call f_iWrap [(.t 58)]),
    o1 6 (.mv (.t 59))]) (.keep [6]))
  (.ret))
  (.seq (.seq (.ops [o1 61 (.bin .eql (.t 7) (.c (.I 10))),
    o1 60 (.mv (.t 61))]) (.keep [1, 2, 7, 60]))
  (.seq (.cond (.t 60)
  (.seq (.seq (.ops [o1 62 (.mv (.t 1)),
    o1 63 (.mv (.t 2)),
    o1 64 (.bin .mul (.t 62) (.t 63)),
    o1 65 (.call f_iWrap [(.t 64)]),
    o1 6 (.mv (.t 65))]) (.keep [6]))
  (.ret))
  (.seq (.seq (.ops [o1 67 (.bin .eql (.t 7) (.c (.I 11))),
    o1 66 (.mv (.t 67))]) (.keep [1, 2, 66]))
  (.seq (.cond (.t 66)
  (.seq (.seq (.seq (.ops [o1 68 (.mv (.t 2)),
    o1 69 (.bin .eql (.t 68) (.c (.I 0)))]) (.keep [1, 2, 69]))
  (.seq (.cond (.t 69)
  (.seq (.ops [o1 6 (.mv (.c (.I (-1))))])
  (.ret))
  (.skip)) (.keep [1, 2])))
  (.seq (.seq (.ops [o1 70 (.mv (.t 1)),
    o1 71 (.mv (.t 2)),
    o1 72 (.bin .quo (.t 70) (.t 71)),
    o1 73 (.call f_iWrap [(.t 72)]),
    o1 6 (.mv (.t 73))]) (.keep [6]))
  (.ret)))
  (.skip)) (.keep [1, 2])))) (.keep [1, 2])))) (.keep [1, 2])))) (.keep [1, 2])))) (.keep [1, 2])))) (.keep [1, 2])))) (.keep [1, 2])))) (.keep [1, 2])))) (.keep [1, 2])))) (.keep [1, 2])))) (.keep [1, 2])))) (.keep [1, 2])))
  (.seq (.seq (.seq (.ops [o1 74 (.mv (.t 2)),
    o1 75 (.bin .eql (.t 74) (.c (.I 0)))]) (.keep [1, 2, 75]))
  (.seq (.cond (.t 75)
  (.seq (.seq (.ops [o1 76 (.mv (.t 1)),
    o1 6 (.mv (.t 76))]) (.keep [6]))
  (.ret))
  (.skip)) (.keep [1, 2])))
  (.seq (.seq (.ops [o1 77 (.mv (.t 1)),
    o1 78 (.mv (.t 2)),
    o1 79 (.bin .rem (.t 77) (.t 78)),
    o1 6 (.mv (.t 79))]) (.keep [6]))
  (.ret)))), [.t 6]⟩

/- (*loop.example/cothreads/spec.l6Rd).pick -/
def c_sl6Rd_pick : AFn := ⟨2, .seq (.seq (.ops [o1 4 (.mv (.c (.I 0)))]) (.keep [0, 1]))
  (.seq (.seq (.ops [o1 7 (.mv (.t 0)),
    o1 8 (.mv (.t 0)),
    o1 9 (.nilc (.t 8)),
    o1 10 (.fldA 1 (.t 9)),
    o1 11 (.load (.t 10)),
    o1 12 (.bin .add (.t 11) (.c (.I 1))),
    o1 13 (.nilc (.t 7)),
    o1 14 (.fldA 1 (.t 13)),
    o0 (.store 1 (.t 14) (.t 12))]) (.keep [0, 1]))
  (.seq (.seq (.seq (.ops [o1 15 (.mv (.t 1)),
    o1 16 (.bin .lss (.t 15) (.c (.I 1))),
    o1 17 (.mv (.t 16)),
    ⟨some 18, (some (17, false)), [], false, .mv (.t 0)⟩,
    ⟨some 19, (some (17, false)), [], false, .nilc (.t 18)⟩,
    ⟨some 20, (some (17, false)), [], false, .fldA 0 (.t 19)⟩,
    ⟨some 21, (some (17, false)), [], false, .load (.t 20)⟩,
    ⟨some 22, (some (17, false)), [], false, .len (.t 21)⟩,
    ⟨some 23, (some (17, false)), [], false, .bin .eql (.t 22) (.c (.I 0))⟩,
    o1 24 (.pick (.t 17) (.c (.b true)) (.t 23))]) (.keep [0, 1, 24]))
  (.seq (.cond (.t 24)
  (.seq (.ops [o1 4 (.mv (.c (.I 0)))])
  (.ret))
  (.skip)) (.keep [0, 1])))
  (.seq (.seq (.ops [o1 25 (.mv (.t 0)),
    o1 26 (.nilc (.t 25)),
    o1 27 (.fldA 1 (.t 26)),
    o1 28 (.load (.t 27)),
    o1 29 (.bin .sub (.t 28) (.c (.I 1))),
    o1 5 (.mv (.t 29))]) (.keep [0, 1, 5]))
  (.seq (.seq (.seq (.ops [o1 30 (.mv (.t 5)),
    o1 31 (.mv (.t 0)),
    o1 32 (.nilc (.t 31)),
    o1 33 (.fldA 0 (.t 32)),
    o1 34 (.load (.t 33)),
    o1 35 (.len (.t 34)),
    o1 36 (.bin .lss (.t 30) (.t 35))]) (.keep [0, 1, 5, 36]))
  (.seq (.cond (.t 36)
  (.seq (.seq (.ops [o1 37 (.mv (.t 0)),
    o1 38 (.nilc (.t 37)),
    o1 39 (.fldA 0 (.t 38)),
    o1 40 (.load (.t 39)),
    o1 41 (.mv (.t 5)),
    o1 42 (.idxA 1 (.t 40) (.t 41)),
    o1 43 (.load (.t 42)),
    o1 44 (.conv .i64 (.t 43)),
    o1 45 (.mv (.t 1)),
    o1 46 (.bin .rem (.t 44) (.t 45)),
    o1 4 (.mv (.t 46))]) (.keep [4]))
  (.ret))
  (.skip)) (.keep [0, 1, 5])))
  (.seq (.seq (.ops [o1 47 (.mv (.t 0)),
    o1 48 (.nilc (.t 47)),
    o1 49 (.fldA 0 (.t 48)),
    o1 50 (.load (.t 49)),
    o1 51 (.mv (.t 5)),
    o1 52 (.mv (.t 0)),
    o1 53 (.nilc (.t 52)),
    o1 54 (.fldA 0 (.t 53)),
    o1 55 (.load (.t 54)),
    o1 56 (.len (.t 55)),
    o1 57 (.bin .rem (.t 51) (.t 56)),
    o1 58 (.idxA 1 (.t 50) (.t 57)),
    o1 59 (.load (.t 58)),
    o1 60 (.conv .i64 (.t 59)),
    o1 61 (.bin .mul (.t 60) (.c (.I 131))),
    o1 62 (.mv (.t 0)),
    o1 63 (.nilc (.t 62)),
    o1 64 (.fldA 0 (.t 63)),
    o1 65 (.load (.t 64)),
    o1 66 (.mv (.t 5)),
    o1 67 (.bin .mul (.t 66) (.c (.I 7))),
    o1 68 (.bin .add (.t 67) (.c (.I 3))),
    o1 69 (.mv (.t 0)),
    o1 70 (.nilc (.t 69)),
    o1 71 (.fldA 0 (.t 70)),
    o1 72 (.load (.t 71)),
    o1 73 (.len (.t 72)),
    o1 74 (.bin .rem (.t 68) (.t 73)),
    o1 75 (.idxA 1 (.t 65) (.t 74)),
    o1 76 (.load (.t 75)),
    o1 77 (.conv .i64 (.t 76)),
    o1 78 (.bin .mul (.t 77) (.c (.I 1117))),
    o1 79 (.bin .add (.t 61) (.t 78)),
    o1 80 (.mv (.t 5)),
    o1 81 (.bin .mul (.t 80) (.c (.I 29))),
    o1 82 (.bin .add (.t 79) (.t 81)),
    o1 83 (.mv (.t 5)),
    o1 84 (.mv (.t 0)),
    o1 85 (.nilc (.t 84)),
    o1 86 (.fldA 0 (.t 85)),
    o1 87 (.load (.t 86)),
    o1 88 (.len (.t 87)),
    o1 89 (.bin .quo (.t 83) (.t 88)),
    o1 90 (.bin .mul (.t 89) (.c (.I 53))),
    o1 91 (.bin .add (.t 82) (.t 90)),
    o1 6 (.mv (.t 91))]) (.keep [1, 6]))
  (.seq (.seq (.ops [o1 92 (.mv (.t 6)),
    o1 93 (.mv (.t 6)),
    o1 94 (.bin .quo (.t 93) (.c (.I 64))),
    o1 95 (.bin .xor (.t 92) (.t 94)),
    o1 6 (.mv (.t 95))]) (.keep [1, 6]))
  (.seq (.seq (.ops [o1 96 (.mv (.t 6)),
    o1 97 (.mv (.t 1)),
    o1 98 (.bin .rem (.t 96) (.t 97)),
    o1 4 (.mv (.t 98))]) (.keep [4]))
  (.ret)))))))), [.t 4]⟩

/- loop.example/cothreads/spec.l4Words -/
def c_sl4Words_l0 : AC := .seq (.seq (.seq (.seq (.ops [o1 10 (.mv (.t 5)),
    o1 11 (.mv (.t 0)),
    o1 12 (.len (.t 11)),
    o1 13 (.bin .lss (.t 10) (.t 12))]) (.keep [0, 5, 13]))
  (.seq (.cond (.t 13)
  (.skip)
  (.exit 0)) (.keep [0, 5])))
  (.seq (.seq (.block 1 (.seq (.seq (.ops [o1 16 (.mv (.t 0)),
    o1 17 (.mv (.t 5)),
    o1 18 (.idxA 1 (.t 16) (.t 17)),
    o1 19 (.load (.t 18)),
    o1 20 (.call f_sWordValid [(.t 19)]),
    o1 21 (.un .not (.t 20))]) (.keep [0, 5, 21]))
  (.seq (.cond (.t 21)
  (.seq (.ops [o1 4 (.mv (.c (.b false)))])
  (.ret))
  (.skip)) (.keep [0, 5])))) (.keep [0, 5]))
  (.seq (.ops [o1 14 (.mv (.t 5)),
    o1 15 (.bin .add (.t 14) (.c (.I 1))),
    o1 5 (.mv (.t 15))]) (.keep [0, 5])))) (.keep [0, 5])
def c_sl4Words : AFn := ⟨2, .seq (.seq (.ops [o1 4 (.mv (.c (.b false)))]) (.keep [0, 1]))
  (.seq (.seq (.seq (.ops [o1 6 (.mv (.t 0)),
    o1 7 (.len (.t 6)),
    o1 8 (.mv (.t 1)),
    o1 9 (.bin .neq (.t 7) (.t 8))]) (.keep [0, 9]))
  (.seq (.cond (.t 9)
  (.seq (.ops [o1 4 (.mv (.c (.b false)))])
  (.ret))
  (.skip)) (.keep [0])))
  (.seq (.seq (.ops [o1 5 (.mv (.c (.I 0)))])
  (.seq (.block 0 (.seq (.keep [0, 5]) (.loop c_sl4Words_l0))) (.keep [])))
  (.seq (.ops [o1 4 (.mv (.c (.b true)))])
  (.ret)))), [.t 4]⟩

/- loop.example/cothreads/spec.WordValid -/
def c_sWordValid : AFn := ⟨1, .seq (.seq (.ops [o1 2 (.mv (.c (.b false)))]) (.keep [0]))
  (.seq (.seq (.ops [o1 3 (.mv (.t 0)),
    o1 4 (.call f_sl6In [(.t 3), (.c (.I (-2147483648))), (.c (.I 2147483647))]),
    o1 2 (.mv (.t 4))]) (.keep [2]))
  (.ret)), [.t 2]⟩

/- loop.example/cothreads/spec.l44Word -/
def c_sl44Word : AFn := ⟨2, .seq (.seq (.ops [o1 4 (.mv (.c (.b false)))]) (.keep [0, 1]))
  (.seq (.seq (.ops [o1 5 (.mv (.t 1)),
    o1 6 (.bin .geq (.t 5) (.c (.I 0))),
    o1 7 (.mv (.t 6)),
    ⟨some 8, (some (7, true)), [], false, .mv (.t 1)⟩,
    ⟨some 9, (some (7, true)), [], false, .bin .rem (.t 8) (.c (.I 4))⟩,
    ⟨some 10, (some (7, true)), [], false, .bin .eql (.t 9) (.c (.I 0))⟩,
    o1 11 (.pick (.t 7) (.t 10) (.c (.b false))),
    o1 12 (.mv (.t 11)),
    ⟨some 13, (some (12, true)), [], false, .mv (.t 1)⟩,
    ⟨some 14, (some (12, true)), [], false, .bin .quo (.t 13) (.c (.I 4))⟩,
    ⟨some 15, (some (12, true)), [], false, .mv (.t 0)⟩,
    ⟨some 16, (some (12, true)), [], false, .len (.t 15)⟩,
    ⟨some 17, (some (12, true)), [], false, .bin .lss (.t 14) (.t 16)⟩,
    o1 18 (.pick (.t 12) (.t 17) (.c (.b false))),
    o1 4 (.mv (.t 18))]) (.keep [4]))
  (.ret)), [.t 4]⟩

/- loop.example/cothreads/spec.InstrDecode -/
def c_sInstrDecode : AFn := ⟨1, .seq (.seq (.ops [o1 2 (.alloc [(.I 0), (.I 0), (.I 0), (.I 0), (.I 0)]),
    o1 3 (.mv (.c (.b false)))]) (.keep [0, 2]))
  (.seq (.seq (.seq (.ops [o1 5 (.mv (.t 0)),
    o1 6 (.call f_sl6In [(.t 5), (.c (.I 0)), (.c (.I 4294967295))]),
    o1 7 (.un .not (.t 6)),
    o1 8 (.mv (.t 7)),
    ⟨some 9, (some (8, false)), [], false, .mv (.t 0)⟩,
    ⟨some 10, (some (8, false)), [], false, .call f_sl42Op [(.t 9)]⟩,
    ⟨some 11, (some (8, false)), [], false, .bin .eql (.t 10) (.c (.I 0))⟩,
    o1 12 (.pick (.t 8) (.c (.b true)) (.t 11))]) (.keep [0, 2, 12]))
  (.seq (.cond (.t 12)
  (.seq (.seq (.ops [o1 13 (.build [(.I 0), (.I 0), (.I 0), (.I 0), (.I 0)] []),
    o0 (.store 5 (.t 2) (.t 13)),
    o1 3 (.mv (.c (.b false)))]) (.keep [2, 3]))
  (.ret))
  (.skip)) (.keep [0, 2])))
  (.seq (.seq (.ops [o1 14 (.mv (.t 0)),
    o1 15 (.call f_sl42Op [(.t 14)]),
    o1 16 (.mv (.t 0)),
    o1 17 (.call f_sl42Fields [(.t 15), (.t 16)]),
    o1 4 (.alloc [(.I 0), (.I 0), (.I 0), (.I 0), (.I 0)]),
    o0 (.store 5 (.t 4) (.t 17))]) (.keep [0, 2, 4]))
  (.seq (.seq (.seq (.ops [o1 18 (.loadN 5 (.t 4)),
    o1 19 (.call f_sl42Encode [(.t 18)]),
    o1 20 (.mv (.t 0)),
    o1 21 (.bin .neq (.t 19) (.t 20))]) (.keep [2, 4, 21]))
  (.seq (.cond (.t 21)
  (.seq (.seq (.ops [o1 22 (.build [(.I 0), (.I 0), (.I 0), (.I 0), (.I 0)] []),
    o0 (.store 5 (.t 2) (.t 22)),
    o1 3 (.mv (.c (.b false)))]) (.keep [2, 3]))
  (.ret))
  (.skip)) (.keep [2, 4])))
  (.seq (.seq (.ops [o1 23 (.loadN 5 (.t 4)),
    o0 (.store 5 (.t 2) (.t 23)),
    o1 3 (.mv (.c (.b true)))]) (.keep [2, 3]))
  (.ret))))), [.c 2 5, .t 3]⟩

/- loop.example/cothreads/spec.Unsigned -/
def c_sUnsigned : AFn := ⟨1, .seq (.seq (.ops [o1 2 (.mv (.c (.I 0)))]) (.keep [0]))
  (.seq (.seq (.seq (.ops [o1 3 (.mv (.t 0)),
    o1 4 (.call f_sWordValid [(.t 3)]),
    o1 5 (.un .not (.t 4))]) (.keep [0, 5]))
  (.seq (.cond (.t 5)
  (.seq (.ops [o1 2 (.mv (.c (.I (-1))))])
  (.ret))
  (.skip)) (.keep [0])))
  (.seq (.seq (.seq (.ops [o1 6 (.mv (.t 0)),
    o1 7 (.bin .lss (.t 6) (.c (.I 0)))]) (.keep [0, 7]))
  (.seq (.cond (.t 7)
  (.seq (.seq (.ops [o1 8 (.mv (.t 0)),
    o1 9 (.bin .add (.t 8) (.c (.I 4294967296))),
    o1 2 (.mv (.t 9))]) (.keep [2]))
  (.ret))
  (.skip)) (.keep [0])))
  (.seq (.seq (.ops [o1 10 (.mv (.t 0)),
    o1 2 (.mv (.t 10))]) (.keep [2]))
  (.ret)))), [.t 2]⟩

/- loop.example/cothreads/spec.l44Do -/
def c_sl44Do : AFn := ⟨2, .seq (.seq (.ops [o1 3 (.box (.t 1)),
    o1 4 (.mv (.c (.b false)))]) (.keep [0, 3]))
  (.seq (.seq (.ops [o1 6 (.mv (.t 0)),
    o1 7 (.nilc (.t 6)),
    o1 8 (.fldA 0 (.t 7)),
    o1 9 (.load (.t 8)),
    o1 10 (.fldA 2 (.t 3)),
    o1 11 (.load (.t 10)),
    o1 12 (.idxA 1 (.t 9) (.t 11)),
    o1 13 (.load (.t 12)),
    o1 5 (.mv (.t 13))]) (.keep [0, 3, 5]))
  (.seq (.seq (.seq (.ops [o1 14 (.fldA 0 (.t 3)),
    o1 15 (.load (.t 14))]) (.keep [0, 3, 5, 15]))
  (.seq (.block 0 (.seq (.seq (.seq (.ops [o1 33 (.bin .eql (.t 15) (.c (.I 14))),
    o1 32 (.mv (.t 33))]) (.keep [0, 3, 5, 15, 32]))
  (.seq (.cond (.t 32)
  (.skip)
  (.seq (.ops [o1 34 (.bin .eql (.t 15) (.c (.I 16))),
    o1 32 (.mv (.t 34))]) (.keep [0, 3, 5, 15, 32]))) (.keep [0, 3, 5, 15, 32])))
  (.seq (.cond (.t 32)
  (.seq (.seq (.ops [o1 35 (.mv (.t 0)),
    o1 36 (.loadN 5 (.t 3)),
    o1 37 (.call f_sl44Load [(.t 35), (.t 36)]),
    o1 4 (.mv (.t 37))]) (.keep [4]))
  (.ret))
  (.seq (.seq (.seq (.ops [o1 39 (.bin .eql (.t 15) (.c (.I 15))),
    o1 38 (.mv (.t 39))]) (.keep [0, 3, 5, 15, 38]))
  (.seq (.cond (.t 38)
  (.skip)
  (.seq (.seq (.ops [o1 40 (.bin .eql (.t 15) (.c (.I 20))),
    o1 38 (.mv (.t 40))]) (.keep [0, 3, 5, 15, 38]))
  (.seq (.cond (.t 38)
  (.skip)
  (.seq (.seq (.ops [o1 41 (.bin .eql (.t 15) (.c (.I 17))),
    o1 38 (.mv (.t 41))]) (.keep [0, 3, 5, 15, 38]))
  (.seq (.cond (.t 38)
  (.skip)
  (.seq (.ops [o1 42 (.bin .eql (.t 15) (.c (.I 18))),
    o1 38 (.mv (.t 42))]) (.keep [0, 3, 5, 15, 38]))) (.keep [0, 3, 5, 15, 38])))) (.keep [0, 3, 5, 15, 38])))) (.keep [0, 3, 5, 15, 38])))
  (.seq (.cond (.t 38)
  (.seq (.seq (.ops [o1 43 (.mv (.t 0)),
    o1 44 (.loadN 5 (.t 3)),
    o1 45 (.call f_sl44Jump [(.t 43), (.t 44)])]) (.keep []))
  (.seq (.ops [o1 4 (.mv (.c (.b true)))])
  (.ret)))
  (.seq (.seq (.ops [o1 47 (.bin .eql (.t 15) (.c (.I 12))),
    o1 46 (.mv (.t 47))]) (.keep [0, 3, 5, 15, 46]))
  (.seq (.cond (.t 46)
  (.seq (.ops [o1 48 (.mv (.t 0)),
    o1 49 (.fldA 1 (.t 3)),
    o1 50 (.load (.t 49)),
    o1 51 (.mv (.t 5)),
    o1 52 (.fldA 4 (.t 3)),
    o1 53 (.load (.t 52)),
    o1 54 (.bin .add (.t 51) (.t 53)),
    ⟨some 55, none, [], true, .call f_sWrap [(.t 54)]⟩,
    o1 56 (.call f_sl44Set [(.t 48), (.t 50), (.t 55)])]) (.keep [0]))
  (.seq (.seq (.ops [o1 58 (.bin .eql (.t 15) (.c (.I 13))),
    o1 57 (.mv (.t 58))]) (.keep [0, 3, 5, 15, 57]))
  (.seq (.cond (.t 57)
  (.seq (.ops [o1 59 (.mv (.t 0)),
    o1 60 (.fldA 1 (.t 3)),
    o1 61 (.load (.t 60)),
    o1 62 (.mv (.t 5)),
    ⟨some 63, none, [], true, .call f_sUnsigned [(.t 62)]⟩,
    o1 64 (.fldA 4 (.t 3)),
    o1 65 (.load (.t 64)),
    ⟨some 66, none, [], true, .call f_sUnsigned [(.t 65)]⟩,
    o1 67 (.bin .lss (.t 63) (.t 66)),
    ⟨some 68, none, [], true, .call f_sl2Flag [(.t 67)]⟩,
    o1 69 (.call f_sl44Set [(.t 59), (.t 61), (.t 68)])]) (.keep [0]))
  (.seq (.seq (.ops [o1 71 (.bin .eql (.t 15) (.c (.I 19))),
    o1 70 (.mv (.t 71))]) (.keep [0, 3, 5, 70]))
  (.seq (.cond (.t 70)
  (.seq (.ops [o1 72 (.mv (.t 0)),
    o1 73 (.fldA 1 (.t 3)),
    o1 74 (.load (.t 73)),
    o1 75 (.fldA 4 (.t 3)),
    o1 76 (.load (.t 75)),
    o1 77 (.bin .mul (.t 76) (.c (.I 4096))),
    ⟨some 78, none, [], true, .call f_sWrap [(.t 77)]⟩,
    o1 79 (.call f_sl44Set [(.t 72), (.t 74), (.t 78)])]) (.keep [0]))
  (.seq (.ops [o1 16 (.mv (.t 0)),
    o1 17 (.fldA 1 (.t 3)),
    o1 18 (.load (.t 17)),
    o1 19 (.fldA 0 (.t 3)),
    o1 20 (.load (.t 19)),
    o1 21 (.mv (.t 5)),
    o1 22 (.mv (.t 0)),
    o1 23 (.nilc (.t 22)),
    o1 24 (.fldA 0 (.t 23)),
    o1 25 (.load (.t 24)),
    o1 26 (.fldA 3 (.t 3)),
    o1 27 (.load (.t 26)),
    o1 28 (.idxA 1 (.t 25) (.t 27)),
    o1 29 (.load (.t 28)),
    ⟨some 30, none, [], true, .call f_sl44Alu [(.t 20), (.t 21), (.t 29)]⟩,
    o1 31 (.call f_sl44Set [(.t 16), (.t 18), (.t 30)])]) (.keep [0]))) (.keep [0])))) (.keep [0])))) (.keep [0])))) (.keep [0])))) (.keep [0])))) (.keep [0])))
  (.seq (.seq (.ops [o1 80 (.mv (.t 0)),
    o1 81 (.mv (.t 0)),
    o1 82 (.nilc (.t 81)),
    o1 83 (.fldA 1 (.t 82)),
    o1 84 (.load (.t 83)),
    o1 85 (.bin .add (.t 84) (.c (.I 4))),
    o1 86 (.nilc (.t 80)),
    o1 87 (.fldA 1 (.t 86)),
    o0 (.store 1 (.t 87) (.t 85))]) (.keep []))
  (.seq (.ops [o1 4 (.mv (.c (.b true)))])
  (.ret))))), [.t 4]⟩

/- slices.Clone[[]int,int] -/
def c_slices_Clone_int_int : AFn := ⟨1, .seq (.seq (.ops [o1 2 (.mv (.c .nils))]) (.keep [0]))
  (.seq (.seq (.seq (.ops [o1 3 (.mv (.t 0)),
    o1 4 (.eqN 0 false (.t 3) (.c .nils))]) (.keep [0, 4]))
  (.seq (.cond (.t 4)
  (.seq (.ops [o1 2 (.mv (.c .nils))])
  (.ret))
  (.skip)) (.keep [0])))
  (.seq (.seq (.ops [o1 5 (.bsl [] 0 []),
    o1 6 (.mv (.t 0)),
    o1 7 (.app 1 (.t 5) (.t 6)),
    o1 2 (.mv (.t 7))]) (.keep [2]))
  (.ret))), [.t 2]⟩

/- (*loop.example/cothreads/impl.Machine).word -/
def c_iMachine_word : AFn := ⟨2, .seq (.seq (.ops [o1 4 (.mv (.c .nilp))]) (.keep [0, 1]))
  (.seq (.seq (.seq (.ops [o1 5 (.mv (.t 1)),
    o1 6 (.bin .lss (.t 5) (.c (.I 0))),
    o1 7 (.mv (.t 6)),
    ⟨some 8, (some (7, false)), [], false, .mv (.t 1)⟩,
    ⟨some 9, (some (7, false)), [], false, .bin .rem (.t 8) (.c (.I 4))⟩,
    ⟨some 10, (some (7, false)), [], false, .bin .neq (.t 9) (.c (.I 0))⟩,
    o1 11 (.pick (.t 7) (.c (.b true)) (.t 10)),
    o1 12 (.mv (.t 11)),
    ⟨some 13, (some (12, false)), [], false, .mv (.t 1)⟩,
    ⟨some 14, (some (12, false)), [], false, .bin .quo (.t 13) (.c (.I 4))⟩,
    ⟨some 15, (some (12, false)), [], false, .mv (.t 0)⟩,
    ⟨some 16, (some (12, false)), [], false, .nilc (.t 15)⟩,
    ⟨some 17, (some (12, false)), [], false, .fldA 2 (.t 16)⟩,
    ⟨some 18, (some (12, false)), [], false, .load (.t 17)⟩,
    ⟨some 19, (some (12, false)), [], false, .len (.t 18)⟩,
    ⟨some 20, (some (12, false)), [], false, .bin .geq (.t 14) (.t 19)⟩,
    o1 21 (.pick (.t 12) (.c (.b true)) (.t 20))]) (.keep [0, 1, 21]))
  (.seq (.cond (.t 21)
  (.seq (.ops [o1 4 (.mv (.c .nilp))])
  (.ret))
  (.skip)) (.keep [0, 1])))
  (.seq (.seq (.ops [o1 22 (.mv (.t 0)),
    o1 23 (.nilc (.t 22)),
    o1 24 (.fldA 2 (.t 23)),
    o1 25 (.load (.t 24)),
    o1 26 (.mv (.t 1)),
    o1 27 (.bin .quo (.t 26) (.c (.I 4))),
    o1 28 (.idxA 1 (.t 25) (.t 27)),
    o1 4 (.mv (.t 28))]) (.keep [4]))
  (.ret))), [.t 4]⟩

/- (*loop.example/cothreads/impl.Machine).set -/
def c_iMachine_set : AFn := ⟨3, .seq (.seq (.ops [o1 6 (.mv (.t 1)),
    o1 7 (.bin .neq (.t 6) (.c (.I 0)))]) (.keep [0, 1, 2, 7]))
  (.seq (.cond (.t 7)
  (.seq (.ops [o1 8 (.mv (.t 0)),
    o1 9 (.nilc (.t 8)),
    o1 10 (.fldA 0 (.t 9)),
    o1 11 (.load (.t 10)),
    o1 12 (.mv (.t 1)),
    o1 13 (.mv (.t 2)),
    o1 14 (.idxA 1 (.t 11) (.t 12)),
    o0 (.store 1 (.t 14) (.t 13))]) (.keep []))
  (.skip)) (.keep [])), []⟩

/- loop.example/cothreads/impl.truth -/
def c_itruth : AFn := ⟨1, .seq (.seq (.ops [o1 2 (.mv (.c (.I 0)))]) (.keep [0]))
  (.seq (.seq (.ops [o1 3 (.mv (.t 0))])
  (.seq (.cond (.t 3)
  (.seq (.ops [o1 2 (.mv (.c (.I 1)))])
  (.ret))
  (.skip)) (.keep [])))
  (.seq (.ops [o1 2 (.mv (.c (.I 0)))])
  (.ret))), [.t 2]⟩

/- loop.example/cothreads/spec.l91Word -/
def c_sl91Word : AFn := ⟨1, .seq (.seq (.ops [o1 2 (.mv (.c (.I 0)))]) (.keep [0]))
  (.seq (.seq (.seq (.ops [o1 3 (.mv (.t 0)),
    o1 4 (.call f_sl6Rd_pick [(.t 3), (.c (.I 6))])]) (.keep [0, 4]))
  (.seq (.block 0 (.seq (.seq (.ops [o1 6 (.bin .eql (.t 4) (.c (.I 0))),
    o1 5 (.mv (.t 6))]) (.keep [0, 4, 5]))
  (.seq (.cond (.t 5)
  (.seq (.seq (.ops [o1 7 (.bsl [(.I 0), (.I 0), (.I 0), (.I 0), (.I 0), (.I 0), (.I 0), (.I 0)] 8 [(0, 1, (.c (.I (-2147483648)))), (1, 1, (.c (.I 2147483647))), (2, 1, (.c (.I (-1)))), (3, 1, (.c (.I 0))), (4, 1, (.c (.I 1))), (5, 1, (.c (.I (-2147483647)))), (6, 1, (.c (.I 65536))), (7, 1, (.c (.I (-65536))))]),
    o1 8 (.mv (.t 0)),
    o1 9 (.call f_sl6Rd_pick [(.t 8), (.c (.I 8))]),
    o1 10 (.idxA 1 (.t 7) (.t 9)),
    o1 11 (.load (.t 10)),
    o1 2 (.mv (.t 11))]) (.keep [2]))
  (.ret))
  (.seq (.seq (.ops [o1 13 (.bin .eql (.t 4) (.c (.I 1))),
    o1 12 (.mv (.t 13))]) (.keep [0, 4, 12]))
  (.seq (.cond (.t 12)
  (.seq (.seq (.ops [o1 14 (.mv (.t 0)),
    o1 15 (.call f_sl6Rd_pick [(.t 14), (.c (.I 256))]),
    o1 16 (.bin .mul (.t 15) (.c (.I 65536))),
    o1 17 (.mv (.t 0)),
    o1 18 (.call f_sl6Rd_pick [(.t 17), (.c (.I 256))]),
    o1 19 (.bin .mul (.t 18) (.c (.I 256))),
    o1 20 (.bin .add (.t 16) (.t 19)),
    o1 21 (.mv (.t 0)),
    o1 22 (.call f_sl6Rd_pick [(.t 21), (.c (.I 256))]),
    o1 23 (.bin .add (.t 20) (.t 22)),
    o1 24 (.mv (.t 0)),
    o1 25 (.call f_sl6Rd_pick [(.t 24), (.c (.I 200))]),
    o1 26 (.bin .add (.c (.I 1)) (.t 25)),
    o1 27 (.bin .mul (.t 23) (.t 26)),
    o1 28 (.call f_sWrap [(.t 27)]),
    o1 2 (.mv (.t 28))]) (.keep [2]))
  (.ret))
  (.seq (.seq (.ops [o1 30 (.bin .eql (.t 4) (.c (.I 2))),
    o1 29 (.mv (.t 30))]) (.keep [0, 29]))
  (.seq (.cond (.t 29)
  (.seq (.seq (.ops [o1 31 (.mv (.t 0)),
    o1 32 (.call f_sl6Rd_pick [(.t 31), (.c (.I 200))]),
    o1 33 (.bin .sub (.c (.I 0)) (.t 32)),
    o1 2 (.mv (.t 33))]) (.keep [2]))
  (.ret))
  (.skip)) (.keep [0])))) (.keep [0])))) (.keep [0])))) (.keep [0])))
  (.seq (.seq (.ops [o1 34 (.mv (.t 0)),
    o1 35 (.call f_sl6Rd_pick [(.t 34), (.c (.I 20))]),
    o1 2 (.mv (.t 35))]) (.keep [2]))
  (.ret))), [.t 2]⟩

/- loop.example/cothreads/spec.Wrap -/
def c_sWrap : AFn := ⟨1, .seq (.seq (.ops [o1 2 (.mv (.c (.I 0)))]) (.keep [0]))
  (.seq (.seq (.ops [o1 4 (.mv (.t 0)),
    o1 5 (.bin .rem (.t 4) (.c (.I 4294967296))),
    o1 3 (.mv (.t 5))]) (.keep [3]))
  (.seq (.seq (.seq (.ops [o1 6 (.mv (.t 3)),
    o1 7 (.bin .gtr (.t 6) (.c (.I 2147483647)))]) (.keep [3, 7]))
  (.seq (.cond (.t 7)
  (.seq (.seq (.ops [o1 8 (.mv (.t 3)),
    o1 9 (.bin .sub (.t 8) (.c (.I 4294967296))),
    o1 2 (.mv (.t 9))]) (.keep [2]))
  (.ret))
  (.skip)) (.keep [3])))
  (.seq (.seq (.seq (.ops [o1 10 (.mv (.t 3)),
    o1 11 (.bin .lss (.t 10) (.c (.I (-2147483648))))]) (.keep [3, 11]))
  (.seq (.cond (.t 11)
  (.seq (.seq (.ops [o1 12 (.mv (.t 3)),
    o1 13 (.bin .add (.t 12) (.c (.I 4294967296))),
    o1 2 (.mv (.t 13))]) (.keep [2]))
  (.ret))
  (.skip)) (.keep [3])))
  (.seq (.seq (.ops [o1 14 (.mv (.t 3)),
    o1 2 (.mv (.t 14))]) (.keep [2]))
  (.ret))))), [.t 2]⟩

/- loop.example/cothreads/spec.l42Encode -/
def c_sl42Encode : AFn := ⟨1, .seq (.seq (.ops [o1 1 (.box (.t 0)),
    o1 2 (.mv (.c (.I 0)))]) (.keep [1]))
  (.seq (.seq (.seq (.ops [o1 4 (.fldA 0 (.t 1)),
    o1 5 (.load (.t 4))]) (.keep [1, 5]))
  (.seq (.block 0 (.seq (.seq (.seq (.ops [o1 7 (.bin .eql (.t 5) (.c (.I 12))),
    o1 6 (.mv (.t 7))]) (.keep [1, 5, 6]))
  (.seq (.cond (.t 6)
  (.skip)
  (.seq (.ops [o1 8 (.bin .eql (.t 5) (.c (.I 13))),
    o1 6 (.mv (.t 8))]) (.keep [1, 5, 6]))) (.keep [1, 5, 6])))
  (.seq (.cond (.t 6)
  (.seq (.seq (.ops [o1 9 (.loadN 5 (.t 1)),
    o1 10 (.call f_sl42Imm [(.t 9), (.c (.I 19))]),
    o1 2 (.mv (.t 10))]) (.keep [2]))
  (.ret))
  (.seq (.seq (.ops [o1 12 (.bin .eql (.t 5) (.c (.I 14))),
    o1 11 (.mv (.t 12))]) (.keep [1, 5, 11]))
  (.seq (.cond (.t 11)
  (.seq (.seq (.ops [o1 13 (.loadN 5 (.t 1)),
    o1 14 (.call f_sl42Imm [(.t 13), (.c (.I 3))]),
    o1 2 (.mv (.t 14))]) (.keep [2]))
  (.ret))
  (.seq (.seq (.ops [o1 16 (.bin .eql (.t 5) (.c (.I 15))),
    o1 15 (.mv (.t 16))]) (.keep [1, 5, 15]))
  (.seq (.cond (.t 15)
  (.seq (.seq (.ops [o1 17 (.loadN 5 (.t 1)),
    o1 18 (.call f_sl42Imm [(.t 17), (.c (.I 103))]),
    o1 2 (.mv (.t 18))]) (.keep [2]))
  (.ret))
  (.seq (.seq (.ops [o1 20 (.bin .eql (.t 5) (.c (.I 16))),
    o1 19 (.mv (.t 20))]) (.keep [1, 5, 19]))
  (.seq (.cond (.t 19)
  (.seq (.seq (.ops [o1 21 (.fldA 4 (.t 1)),
    o1 22 (.load (.t 21)),
    o1 23 (.call f_sl42Mod [(.t 22), (.c (.I 4096))]),
    o1 3 (.mv (.t 23))]) (.keep [1, 3]))
  (.seq (.seq (.ops [o1 24 (.mv (.t 3)),
    ⟨some 25, none, [], true, .call f_sBits [(.t 24), (.c (.I 5)), (.c (.I 7))]⟩,
    ⟨some 26, none, [], true, .call f_sl42Put [(.t 25), (.c (.I 25))]⟩,
    o1 27 (.fldA 3 (.t 1)),
    o1 28 (.load (.t 27)),
    ⟨some 29, none, [], true, .call f_sl42Put [(.t 28), (.c (.I 20))]⟩,
    o1 30 (.bin .add (.t 26) (.t 29)),
    o1 31 (.loadN 5 (.t 1)),
    ⟨some 32, none, [], true, .call f_sl42Mid [(.t 31), (.c (.I 35))]⟩,
    o1 33 (.bin .add (.t 30) (.t 32)),
    o1 34 (.mv (.t 3)),
    ⟨some 35, none, [], true, .call f_sBits [(.t 34), (.c (.I 0)), (.c (.I 5))]⟩,
    ⟨some 36, none, [], true, .call f_sl42Put [(.t 35), (.c (.I 7))]⟩,
    o1 37 (.bin .add (.t 33) (.t 36)),
    o1 2 (.mv (.t 37))]) (.keep [2]))
  (.ret)))
  (.seq (.seq (.seq (.ops [o1 39 (.bin .eql (.t 5) (.c (.I 17))),
    o1 38 (.mv (.t 39))]) (.keep [1, 5, 38]))
  (.seq (.cond (.t 38)
  (.skip)
  (.seq (.ops [o1 40 (.bin .eql (.t 5) (.c (.I 18))),
    o1 38 (.mv (.t 40))]) (.keep [1, 5, 38]))) (.keep [1, 5, 38])))
  (.seq (.cond (.t 38)
  (.seq (.seq (.ops [o1 41 (.loadN 5 (.t 1)),
    o1 42 (.call f_sl42Branch [(.t 41)]),
    o1 2 (.mv (.t 42))]) (.keep [2]))
  (.ret))
  (.seq (.seq (.ops [o1 44 (.bin .eql (.t 5) (.c (.I 19))),
    o1 43 (.mv (.t 44))]) (.keep [1, 5, 43]))
  (.seq (.cond (.t 43)
  (.seq (.seq (.ops [o1 45 (.fldA 4 (.t 1)),
    o1 46 (.load (.t 45)),
    ⟨some 47, none, [], true, .call f_sl42Put [(.t 46), (.c (.I 12))]⟩,
    o1 48 (.fldA 1 (.t 1)),
    o1 49 (.load (.t 48)),
    ⟨some 50, none, [], true, .call f_sl42Put [(.t 49), (.c (.I 7))]⟩,
    o1 51 (.bin .add (.t 47) (.t 50)),
    o1 52 (.bin .add (.t 51) (.c (.I 55))),
    o1 2 (.mv (.t 52))]) (.keep [2]))
  (.ret))
  (.seq (.seq (.ops [o1 54 (.bin .eql (.t 5) (.c (.I 20))),
    o1 53 (.mv (.t 54))]) (.keep [1, 5, 53]))
  (.seq (.cond (.t 53)
  (.seq (.seq (.ops [o1 55 (.loadN 5 (.t 1)),
    o1 56 (.call f_sl42Jump [(.t 55)]),
    o1 2 (.mv (.t 56))]) (.keep [2]))
  (.ret))
  (.seq (.seq (.ops [o1 58 (.bin .eql (.t 5) (.c (.I 21))),
    o1 57 (.mv (.t 58))]) (.keep [1, 57]))
  (.seq (.cond (.t 57)
  (.seq (.ops [o1 2 (.mv (.c (.I 115)))])
  (.ret))
  (.skip)) (.keep [1])))) (.keep [1])))) (.keep [1])))) (.keep [1])))) (.keep [1])))) (.keep [1])))) (.keep [1])))) (.keep [1])))) (.keep [1])))
  (.seq (.seq (.ops [o1 59 (.fldA 0 (.t 1)),
    o1 60 (.load (.t 59)),
    ⟨some 61, none, [], true, .call f_sl42Seven [(.t 60)]⟩,
    ⟨some 62, none, [], true, .call f_sl42Put [(.t 61), (.c (.I 25))]⟩,
    o1 63 (.fldA 3 (.t 1)),
    o1 64 (.load (.t 63)),
    ⟨some 65, none, [], true, .call f_sl42Put [(.t 64), (.c (.I 20))]⟩,
    o1 66 (.bin .add (.t 62) (.t 65)),
    o1 67 (.loadN 5 (.t 1)),
    ⟨some 68, none, [], true, .call f_sl42Mid [(.t 67), (.c (.I 51))]⟩,
    o1 69 (.bin .add (.t 66) (.t 68)),
    o1 70 (.fldA 1 (.t 1)),
    o1 71 (.load (.t 70)),
    ⟨some 72, none, [], true, .call f_sl42Put [(.t 71), (.c (.I 7))]⟩,
    o1 73 (.bin .add (.t 69) (.t 72)),
    o1 2 (.mv (.t 73))]) (.keep [2]))
  (.ret))), [.t 2]⟩

/- loop.example/cothreads/spec.l94Near -/
def c_sl94Near : AFn := ⟨1, .seq (.ops [o1 2 (.alloc [(.I 0), (.I 0), (.I 0), (.I 0), (.I 0)])])
  (.seq (.seq (.ops [o1 4 (.mv (.t 0)),
    o1 5 (.call f_sl94Instr [(.t 4)]),
    o1 3 (.alloc [(.I 0), (.I 0), (.I 0), (.I 0), (.I 0)]),
    o0 (.store 5 (.t 3) (.t 5))]) (.keep [0, 2, 3]))
  (.seq (.seq (.ops [o1 6 (.fldA 1 (.t 3)),
    o1 7 (.load (.t 6)),
    o1 8 (.bin .rem (.t 7) (.c (.I 8))),
    o1 9 (.fldA 1 (.t 3)),
    o0 (.store 1 (.t 9) (.t 8))]) (.keep [0, 2, 3]))
  (.seq (.seq (.ops [o1 10 (.fldA 2 (.t 3)),
    o1 11 (.load (.t 10)),
    o1 12 (.bin .rem (.t 11) (.c (.I 8))),
    o1 13 (.fldA 2 (.t 3)),
    o0 (.store 1 (.t 13) (.t 12))]) (.keep [0, 2, 3]))
  (.seq (.seq (.ops [o1 14 (.fldA 3 (.t 3)),
    o1 15 (.load (.t 14)),
    o1 16 (.bin .rem (.t 15) (.c (.I 8))),
    o1 17 (.fldA 3 (.t 3)),
    o0 (.store 1 (.t 17) (.t 16))]) (.keep [0, 2, 3]))
  (.seq (.seq (.seq (.ops [o1 18 (.fldA 0 (.t 3)),
    o1 19 (.load (.t 18))]) (.keep [0, 2, 3, 19]))
  (.seq (.block 0 (.seq (.seq (.seq (.ops [o1 21 (.bin .eql (.t 19) (.c (.I 14))),
    o1 20 (.mv (.t 21))]) (.keep [0, 2, 3, 19, 20]))
  (.seq (.cond (.t 20)
  (.skip)
  (.seq (.ops [o1 22 (.bin .eql (.t 19) (.c (.I 16))),
    o1 20 (.mv (.t 22))]) (.keep [0, 2, 3, 19, 20]))) (.keep [0, 2, 3, 19, 20])))
  (.seq (.cond (.t 20)
  (.seq (.seq (.ops [o1 23 (.mv (.t 0)),
    o1 24 (.call f_sl6Rd_pick [(.t 23), (.c (.I 12))]),
    o1 25 (.bin .mul (.c (.I 4)) (.t 24)),
    o1 26 (.fldA 4 (.t 3)),
    o0 (.store 1 (.t 26) (.t 25))]) (.keep [2, 3]))
  (.seq (.ops [o1 27 (.fldA 2 (.t 3)),
    o0 (.store 1 (.t 27) (.c (.I 0)))]) (.keep [2, 3])))
  (.seq (.seq (.seq (.ops [o1 29 (.bin .eql (.t 19) (.c (.I 17))),
    o1 28 (.mv (.t 29))]) (.keep [0, 2, 3, 19, 28]))
  (.seq (.cond (.t 28)
  (.skip)
  (.seq (.seq (.ops [o1 30 (.bin .eql (.t 19) (.c (.I 18))),
    o1 28 (.mv (.t 30))]) (.keep [0, 2, 3, 19, 28]))
  (.seq (.cond (.t 28)
  (.skip)
  (.seq (.ops [o1 31 (.bin .eql (.t 19) (.c (.I 20))),
    o1 28 (.mv (.t 31))]) (.keep [0, 2, 3, 19, 28]))) (.keep [0, 2, 3, 19, 28])))) (.keep [0, 2, 3, 19, 28])))
  (.seq (.cond (.t 28)
  (.seq (.ops [o1 32 (.mv (.t 0)),
    o1 33 (.call f_sl6Rd_pick [(.t 32), (.c (.I 6))]),
    o1 34 (.bin .mul (.c (.I 4)) (.t 33)),
    o1 35 (.bin .sub (.t 34) (.c (.I 8))),
    o1 36 (.fldA 4 (.t 3)),
    o0 (.store 1 (.t 36) (.t 35))]) (.keep [2, 3]))
  (.seq (.seq (.ops [o1 38 (.bin .eql (.t 19) (.c (.I 15))),
    o1 37 (.mv (.t 38))]) (.keep [0, 2, 3, 37]))
  (.seq (.cond (.t 37)
  (.seq (.seq (.ops [o1 39 (.mv (.t 0)),
    o1 40 (.call f_sl6Rd_pick [(.t 39), (.c (.I 8))]),
    o1 41 (.bin .mul (.c (.I 4)) (.t 40)),
    o1 42 (.fldA 4 (.t 3)),
    o0 (.store 1 (.t 42) (.t 41))]) (.keep [2, 3]))
  (.seq (.ops [o1 43 (.fldA 2 (.t 3)),
    o0 (.store 1 (.t 43) (.c (.I 0)))]) (.keep [2, 3])))
  (.skip)) (.keep [2, 3])))) (.keep [2, 3])))) (.keep [2, 3])))) (.keep [2, 3])))
  (.seq (.seq (.ops [o1 44 (.loadN 5 (.t 3)),
    o0 (.store 5 (.t 2) (.t 44))]) (.keep [2]))
  (.ret))))))), [.c 2 5]⟩

/- loop.example/cothreads/impl.formatOf -/
def c_iformatOf : AFn := ⟨1, .seq (.seq (.ops [o1 2 (.mv (.c (.i .u8 0)))]) (.keep [0]))
  (.seq (.seq (.block 0 (.seq (.seq (.ops [o1 4 (.mv (.t 0)),
    o1 5 (.bin .geq (.t 4) (.c (.I 1))),
    o1 6 (.mv (.t 5)),
    ⟨some 7, (some (6, true)), [], false, .mv (.t 0)⟩,
    ⟨some 8, (some (6, true)), [], false, .bin .leq (.t 7) (.c (.I 11))⟩,
    o1 9 (.pick (.t 6) (.t 8) (.c (.b false))),
    o1 3 (.mv (.t 9))]) (.keep [0, 3]))
  (.seq (.cond (.t 3)
  (.seq (.ops [o1 2 (.mv (.c (.i .u8 82)))])
  (.ret))
  (.seq (.seq (.ops [o1 11 (.mv (.t 0)),
    o1 12 (.bin .geq (.t 11) (.c (.I 12))),
    o1 13 (.mv (.t 12)),
    ⟨some 14, (some (13, true)), [], false, .mv (.t 0)⟩,
    ⟨some 15, (some (13, true)), [], false, .bin .leq (.t 14) (.c (.I 15))⟩,
    o1 16 (.pick (.t 13) (.t 15) (.c (.b false))),
    o1 10 (.mv (.t 16))]) (.keep [0, 10]))
  (.seq (.cond (.t 10)
  (.seq (.ops [o1 2 (.mv (.c (.i .u8 73)))])
  (.ret))
  (.seq (.seq (.ops [o1 18 (.mv (.t 0)),
    o1 19 (.bin .eql (.t 18) (.c (.I 16))),
    o1 17 (.mv (.t 19))]) (.keep [0, 17]))
  (.seq (.cond (.t 17)
  (.seq (.ops [o1 2 (.mv (.c (.i .u8 83)))])
  (.ret))
  (.seq (.seq (.ops [o1 21 (.mv (.t 0)),
    o1 22 (.bin .eql (.t 21) (.c (.I 17))),
    o1 23 (.mv (.t 22)),
    ⟨some 24, (some (23, false)), [], false, .mv (.t 0)⟩,
    ⟨some 25, (some (23, false)), [], false, .bin .eql (.t 24) (.c (.I 18))⟩,
    o1 26 (.pick (.t 23) (.c (.b true)) (.t 25)),
    o1 20 (.mv (.t 26))]) (.keep [0, 20]))
  (.seq (.cond (.t 20)
  (.seq (.ops [o1 2 (.mv (.c (.i .u8 66)))])
  (.ret))
  (.seq (.seq (.ops [o1 28 (.mv (.t 0)),
    o1 29 (.bin .eql (.t 28) (.c (.I 19))),
    o1 27 (.mv (.t 29))]) (.keep [0, 27]))
  (.seq (.cond (.t 27)
  (.seq (.ops [o1 2 (.mv (.c (.i .u8 85)))])
  (.ret))
  (.seq (.seq (.ops [o1 31 (.mv (.t 0)),
    o1 32 (.bin .eql (.t 31) (.c (.I 20))),
    o1 30 (.mv (.t 32))]) (.keep [0, 30]))
  (.seq (.cond (.t 30)
  (.seq (.ops [o1 2 (.mv (.c (.i .u8 74)))])
  (.ret))
  (.seq (.seq (.ops [o1 34 (.mv (.t 0)),
    o1 35 (.bin .eql (.t 34) (.c (.I 21))),
    o1 33 (.mv (.t 35))]) (.keep [33]))
  (.seq (.cond (.t 33)
  (.seq (.ops [o1 2 (.mv (.c (.i .u8 69)))])
  (.ret))
  (.skip)) (.keep [])))) (.keep [])))) (.keep [])))) (.keep [])))) (.keep [])))) (.keep [])))) (.keep [])))) (.keep []))
  (.seq (.ops [o1 2 (.mv (.c (.i .u8 32)))])
  (.ret))), [.t 2]⟩

/- loop.example/cothreads/impl.Bits -/
def c_iBits : AFn := ⟨3, .seq (.seq (.ops [o1 6 (.mv (.c (.I 0)))]) (.keep [0, 1, 2]))
  (.seq (.seq (.seq (.ops [o1 7 (.mv (.t 0)),
    o1 8 (.call f_iisUnsigned [(.t 7)]),
    o1 9 (.un .not (.t 8)),
    o1 10 (.mv (.t 9)),
    ⟨some 11, (some (10, false)), [], false, .mv (.t 1)⟩,
    ⟨some 12, (some (10, false)), [], false, .bin .lss (.t 11) (.c (.I 0))⟩,
    o1 13 (.pick (.t 10) (.c (.b true)) (.t 12)),
    o1 14 (.mv (.t 13)),
    ⟨some 15, (some (14, false)), [], false, .mv (.t 1)⟩,
    ⟨some 16, (some (14, false)), [], false, .bin .gtr (.t 15) (.c (.I 31))⟩,
    o1 17 (.pick (.t 14) (.c (.b true)) (.t 16)),
    o1 18 (.mv (.t 17)),
    ⟨some 19, (some (18, false)), [], false, .mv (.t 2)⟩,
    ⟨some 20, (some (18, false)), [], false, .bin .lss (.t 19) (.c (.I 1))⟩,
    o1 21 (.pick (.t 18) (.c (.b true)) (.t 20)),
    o1 22 (.mv (.t 21)),
    ⟨some 23, (some (22, false)), [], false, .mv (.t 2)⟩,
    ⟨some 24, (some (22, false)), [], false, .mv (.t 1)⟩,
    ⟨some 25, (some (22, false)), [], false, .bin .sub (.c (.I 32)) (.t 24)⟩,
    ⟨some 26, (some (22, false)), [], false, .bin .gtr (.t 23) (.t 25)⟩,
    o1 27 (.pick (.t 22) (.c (.b true)) (.t 26))]) (.keep [0, 1, 2, 27]))
  (.seq (.cond (.t 27)
  (.seq (.ops [o1 6 (.mv (.c (.I 0)))])
  (.ret))
  (.skip)) (.keep [0, 1, 2])))
  (.seq (.seq (.ops [o1 28 (.mv (.t 0)),
    o1 29 (.mv (.t 1)),
    o1 30 (.bin .shr (.t 28) (.t 29)),
    o1 31 (.mv (.t 2)),
    o1 32 (.bin .shl (.c (.I 1)) (.t 31)),
    o1 33 (.bin .sub (.t 32) (.c (.I 1))),
    o1 34 (.bin .and (.t 30) (.t 33)),
    o1 6 (.mv (.t 34))]) (.keep [6]))
  (.ret))), [.t 6]⟩

/- loop.example/cothreads/impl.SignExtend -/
def c_iSignExtend : AFn := ⟨2, .seq (.seq (.ops [o1 4 (.mv (.c (.I 0)))]) (.keep [0, 1]))
  (.seq (.seq (.seq (.ops [o1 5 (.mv (.t 1)),
    o1 6 (.bin .lss (.t 5) (.c (.I 1))),
    o1 7 (.mv (.t 6)),
    ⟨some 8, (some (7, false)), [], false, .mv (.t 1)⟩,
    ⟨some 9, (some (7, false)), [], false, .bin .gtr (.t 8) (.c (.I 32))⟩,
    o1 10 (.pick (.t 7) (.c (.b true)) (.t 9)),
    o1 11 (.mv (.t 10)),
    ⟨some 12, (some (11, false)), [], false, .mv (.t 0)⟩,
    ⟨some 13, (some (11, false)), [], false, .bin .lss (.t 12) (.c (.I 0))⟩,
    o1 14 (.pick (.t 11) (.c (.b true)) (.t 13)),
    o1 15 (.mv (.t 14)),
    ⟨some 16, (some (15, false)), [], false, .mv (.t 0)⟩,
    ⟨some 17, (some (15, false)), [], false, .mv (.t 1)⟩,
    ⟨some 18, (some (15, false)), [], false, .bin .shl (.c (.I 1)) (.t 17)⟩,
    ⟨some 19, (some (15, false)), [], false, .bin .geq (.t 16) (.t 18)⟩,
    o1 20 (.pick (.t 15) (.c (.b true)) (.t 19))]) (.keep [0, 1, 20]))
  (.seq (.cond (.t 20)
  (.seq (.ops [o1 4 (.mv (.c (.I 0)))])
  (.ret))
  (.skip)) (.keep [0, 1])))
  (.seq (.seq (.seq (.ops [o1 21 (.mv (.t 0)),
    o1 22 (.mv (.t 1)),
    o1 23 (.bin .sub (.t 22) (.c (.I 1))),
    o1 24 (.bin .shl (.c (.I 1)) (.t 23)),
    o1 25 (.bin .geq (.t 21) (.t 24))]) (.keep [0, 1, 25]))
  (.seq (.cond (.t 25)
  (.seq (.seq (.ops [o1 26 (.mv (.t 0)),
    o1 27 (.mv (.t 1)),
    o1 28 (.bin .shl (.c (.I 1)) (.t 27)),
    o1 29 (.bin .sub (.t 26) (.t 28)),
    o1 4 (.mv (.t 29))]) (.keep [4]))
  (.ret))
  (.skip)) (.keep [0])))
  (.seq (.seq (.ops [o1 30 (.mv (.t 0)),
    o1 4 (.mv (.t 30))]) (.keep [4]))
  (.ret)))), [.t 4]⟩

/- loop.example/cothreads/impl.InstrValid -/
def c_iInstrValid : AFn := ⟨1, .seq (.seq (.ops [o1 1 (.box (.t 0)),
    o1 2 (.mv (.c (.b false)))]) (.keep [1]))
  (.seq (.seq (.ops [o1 7 (.fldA 1 (.t 1)),
    o1 8 (.load (.t 7)),
    ⟨some 9, none, [], true, .call f_iisMachineReg [(.t 8)]⟩,
    o1 10 (.fldA 2 (.t 1)),
    o1 11 (.load (.t 10)),
    ⟨some 12, none, [], true, .call f_iisMachineReg [(.t 11)]⟩,
    o1 13 (.fldA 3 (.t 1)),
    o1 14 (.load (.t 13)),
    ⟨some 15, none, [], true, .call f_iisMachineReg [(.t 14)]⟩,
    o1 3 (.mv (.t 9)),
    o1 4 (.mv (.t 12)),
    o1 5 (.mv (.t 15))]) (.keep [1, 3, 4, 5]))
  (.seq (.seq (.ops [o1 16 (.fldA 4 (.t 1)),
    o1 17 (.load (.t 16)),
    o1 18 (.bin .geq (.t 17) (.c (.I (-2048)))),
    o1 19 (.mv (.t 18)),
    ⟨some 20, (some (19, true)), [], false, .fldA 4 (.t 1)⟩,
    ⟨some 21, (some (19, true)), [], false, .load (.t 20)⟩,
    ⟨some 22, (some (19, true)), [], false, .bin .leq (.t 21) (.c (.I 2047))⟩,
    o1 23 (.pick (.t 19) (.t 22) (.c (.b false))),
    o1 6 (.mv (.t 23))]) (.keep [1, 3, 4, 5, 6]))
  (.seq (.seq (.seq (.ops [o1 24 (.fldA 0 (.t 1)),
    o1 25 (.load (.t 24)),
    o1 26 (.call f_iformatOf [(.t 25)])]) (.keep [1, 3, 4, 5, 6, 26]))
  (.seq (.block 0 (.seq (.seq (.ops [o1 28 (.bin .eql (.t 26) (.c (.i .u8 82))),
    o1 27 (.mv (.t 28))]) (.keep [1, 3, 4, 5, 6, 26, 27]))
  (.seq (.cond (.t 27)
  (.seq (.seq (.ops [o1 29 (.mv (.t 3)),
    o1 30 (.mv (.t 29)),
    ⟨some 31, (some (30, true)), [], false, .mv (.t 4)⟩,
    o1 32 (.pick (.t 30) (.t 31) (.c (.b false))),
    o1 33 (.mv (.t 32)),
    ⟨some 34, (some (33, true)), [], false, .mv (.t 5)⟩,
    o1 35 (.pick (.t 33) (.t 34) (.c (.b false))),
    o1 36 (.mv (.t 35)),
    ⟨some 37, (some (36, true)), [], false, .fldA 4 (.t 1)⟩,
    ⟨some 38, (some (36, true)), [], false, .load (.t 37)⟩,
    ⟨some 39, (some (36, true)), [], false, .bin .eql (.t 38) (.c (.I 0))⟩,
    o1 40 (.pick (.t 36) (.t 39) (.c (.b false))),
    o1 2 (.mv (.t 40))]) (.keep [2]))
  (.ret))
  (.seq (.seq (.ops [o1 42 (.bin .eql (.t 26) (.c (.i .u8 73))),
    o1 41 (.mv (.t 42))]) (.keep [1, 3, 4, 5, 6, 26, 41]))
  (.seq (.cond (.t 41)
  (.seq (.seq (.ops [o1 43 (.mv (.t 3)),
    o1 44 (.mv (.t 43)),
    ⟨some 45, (some (44, true)), [], false, .mv (.t 4)⟩,
    o1 46 (.pick (.t 44) (.t 45) (.c (.b false))),
    o1 47 (.mv (.t 46)),
    ⟨some 48, (some (47, true)), [], false, .fldA 3 (.t 1)⟩,
    ⟨some 49, (some (47, true)), [], false, .load (.t 48)⟩,
    ⟨some 50, (some (47, true)), [], false, .bin .eql (.t 49) (.c (.I 0))⟩,
    o1 51 (.pick (.t 47) (.t 50) (.c (.b false))),
    o1 52 (.mv (.t 51)),
    ⟨some 53, (some (52, true)), [], false, .mv (.t 6)⟩,
    o1 54 (.pick (.t 52) (.t 53) (.c (.b false))),
    o1 2 (.mv (.t 54))]) (.keep [2]))
  (.ret))
  (.seq (.seq (.ops [o1 56 (.bin .eql (.t 26) (.c (.i .u8 83))),
    o1 55 (.mv (.t 56))]) (.keep [1, 3, 4, 5, 6, 26, 55]))
  (.seq (.cond (.t 55)
  (.seq (.seq (.ops [o1 57 (.fldA 1 (.t 1)),
    o1 58 (.load (.t 57)),
    o1 59 (.bin .eql (.t 58) (.c (.I 0))),
    o1 60 (.mv (.t 59)),
    ⟨some 61, (some (60, true)), [], false, .mv (.t 4)⟩,
    o1 62 (.pick (.t 60) (.t 61) (.c (.b false))),
    o1 63 (.mv (.t 62)),
    ⟨some 64, (some (63, true)), [], false, .mv (.t 5)⟩,
    o1 65 (.pick (.t 63) (.t 64) (.c (.b false))),
    o1 66 (.mv (.t 65)),
    ⟨some 67, (some (66, true)), [], false, .mv (.t 6)⟩,
    o1 68 (.pick (.t 66) (.t 67) (.c (.b false))),
    o1 2 (.mv (.t 68))]) (.keep [2]))
  (.ret))
  (.seq (.seq (.ops [o1 70 (.bin .eql (.t 26) (.c (.i .u8 66))),
    o1 69 (.mv (.t 70))]) (.keep [1, 3, 4, 5, 26, 69]))
  (.seq (.cond (.t 69)
  (.seq (.seq (.ops [o1 71 (.fldA 1 (.t 1)),
    o1 72 (.load (.t 71)),
    o1 73 (.bin .eql (.t 72) (.c (.I 0))),
    o1 74 (.mv (.t 73)),
    ⟨some 75, (some (74, true)), [], false, .mv (.t 4)⟩,
    o1 76 (.pick (.t 74) (.t 75) (.c (.b false))),
    o1 77 (.mv (.t 76)),
    ⟨some 78, (some (77, true)), [], false, .mv (.t 5)⟩,
    o1 79 (.pick (.t 77) (.t 78) (.c (.b false))),
    o1 80 (.mv (.t 79)),
    ⟨some 81, (some (80, true)), [], false, .fldA 4 (.t 1)⟩,
    ⟨some 82, (some (80, true)), [], false, .load (.t 81)⟩,
    ⟨some 83, (some (80, true)), [], false, .bin .geq (.t 82) (.c (.I (-4096)))⟩,
    o1 84 (.pick (.t 80) (.t 83) (.c (.b false))),
    o1 85 (.mv (.t 84)),
    ⟨some 86, (some (85, true)), [], false, .fldA 4 (.t 1)⟩,
    ⟨some 87, (some (85, true)), [], false, .load (.t 86)⟩,
    ⟨some 88, (some (85, true)), [], false, .bin .leq (.t 87) (.c (.I 4094))⟩,
    o1 89 (.pick (.t 85) (.t 88) (.c (.b false))),
    o1 90 (.mv (.t 89)),
    ⟨some 91, (some (90, true)), [], false, .fldA 4 (.t 1)⟩,
    ⟨some 92, (some (90, true)), [], false, .load (.t 91)⟩,
    ⟨some 93, (some (90, true)), [], false, .bin .rem (.t 92) (.c (.I 2))⟩,
    ⟨some 94, (some (90, true)), [], false, .bin .eql (.t 93) (.c (.I 0))⟩,
    o1 95 (.pick (.t 90) (.t 94) (.c (.b false))),
    o1 2 (.mv (.t 95))]) (.keep [2]))
  (.ret))
  (.seq (.seq (.ops [o1 97 (.bin .eql (.t 26) (.c (.i .u8 85))),
    o1 96 (.mv (.t 97))]) (.keep [1, 3, 26, 96]))
  (.seq (.cond (.t 96)
  (.seq (.seq (.ops [o1 98 (.mv (.t 3)),
    o1 99 (.mv (.t 98)),
    ⟨some 100, (some (99, true)), [], false, .fldA 2 (.t 1)⟩,
    ⟨some 101, (some (99, true)), [], false, .load (.t 100)⟩,
    ⟨some 102, (some (99, true)), [], false, .bin .eql (.t 101) (.c (.I 0))⟩,
    o1 103 (.pick (.t 99) (.t 102) (.c (.b false))),
    o1 104 (.mv (.t 103)),
    ⟨some 105, (some (104, true)), [], false, .fldA 3 (.t 1)⟩,
    ⟨some 106, (some (104, true)), [], false, .load (.t 105)⟩,
    ⟨some 107, (some (104, true)), [], false, .bin .eql (.t 106) (.c (.I 0))⟩,
    o1 108 (.pick (.t 104) (.t 107) (.c (.b false))),
    o1 109 (.mv (.t 108)),
    ⟨some 110, (some (109, true)), [], false, .fldA 4 (.t 1)⟩,
    ⟨some 111, (some (109, true)), [], false, .load (.t 110)⟩,
    ⟨some 112, (some (109, true)), [], false, .bin .geq (.t 111) (.c (.I 0))⟩,
    o1 113 (.pick (.t 109) (.t 112) (.c (.b false))),
    o1 114 (.mv (.t 113)),
    ⟨some 115, (some (114, true)), [], false, .fldA 4 (.t 1)⟩,
    ⟨some 116, (some (114, true)), [], false, .load (.t 115)⟩,
    ⟨some 117, (some (114, true)), [], false, .bin .leq (.t 116) (.c (.I 1048575))⟩,
    o1 118 (.pick (.t 114) (.t 117) (.c (.b false))),
    o1 2 (.mv (.t 118))]) (.keep [2]))
  (.ret))
  (.seq (.seq (.ops [o1 120 (.bin .eql (.t 26) (.c (.i .u8 74))),
    o1 119 (.mv (.t 120))]) (.keep [1, 3, 26, 119]))
  (.seq (.cond (.t 119)
  (.seq (.seq (.ops [o1 121 (.mv (.t 3)),
    o1 122 (.mv (.t 121)),
    ⟨some 123, (some (122, true)), [], false, .fldA 2 (.t 1)⟩,
    ⟨some 124, (some (122, true)), [], false, .load (.t 123)⟩,
    ⟨some 125, (some (122, true)), [], false, .bin .eql (.t 124) (.c (.I 0))⟩,
    o1 126 (.pick (.t 122) (.t 125) (.c (.b false))),
    o1 127 (.mv (.t 126)),
    ⟨some 128, (some (127, true)), [], false, .fldA 3 (.t 1)⟩,
    ⟨some 129, (some (127, true)), [], false, .load (.t 128)⟩,
    ⟨some 130, (some (127, true)), [], false, .bin .eql (.t 129) (.c (.I 0))⟩,
    o1 131 (.pick (.t 127) (.t 130) (.c (.b false))),
    o1 132 (.mv (.t 131)),
    ⟨some 133, (some (132, true)), [], false, .fldA 4 (.t 1)⟩,
    ⟨some 134, (some (132, true)), [], false, .load (.t 133)⟩,
    ⟨some 135, (some (132, true)), [], false, .bin .geq (.t 134) (.c (.I (-1048576)))⟩,
    o1 136 (.pick (.t 132) (.t 135) (.c (.b false))),
    o1 137 (.mv (.t 136)),
    ⟨some 138, (some (137, true)), [], false, .fldA 4 (.t 1)⟩,
    ⟨some 139, (some (137, true)), [], false, .load (.t 138)⟩,
    ⟨some 140, (some (137, true)), [], false, .bin .leq (.t 139) (.c (.I 1048574))⟩,
    o1 141 (.pick (.t 137) (.t 140) (.c (.b false))),
    o1 142 (.mv (.t 141)),
    ⟨some 143, (some (142, true)), [], false, .fldA 4 (.t 1)⟩,
    ⟨some 144, (some (142, true)), [], false, .load (.t 143)⟩,
    ⟨some 145, (some (142, true)), [], false, .bin .rem (.t 144) (.c (.I 2))⟩,
    ⟨some 146, (some (142, true)), [], false, .bin .eql (.t 145) (.c (.I 0))⟩,
    o1 147 (.pick (.t 142) (.t 146) (.c (.b false))),
    o1 2 (.mv (.t 147))]) (.keep [2]))
  (.ret))
  (.seq (.seq (.ops [o1 149 (.bin .eql (.t 26) (.c (.i .u8 69))),
    o1 148 (.mv (.t 149))]) (.keep [1, 148]))
  (.seq (.cond (.t 148)
  (.seq (.seq (.ops [o1 150 (.loadN 5 (.t 1)),
    o1 151 (.build [(.I 0), (.I 0), (.I 0), (.I 0), (.I 0)] [(0, 1, (.c (.I 21)))]),
    o1 152 (.eqA 5 false (.t 150) (.t 151)),
    o1 2 (.mv (.t 152))]) (.keep [2]))
  (.ret))
  (.skip)) (.keep [])))) (.keep [])))) (.keep [])))) (.keep [])))) (.keep [])))) (.keep [])))) (.keep [])))) (.keep [])))
  (.seq (.ops [o1 2 (.mv (.c (.b false)))])
  (.ret))))), [.t 2]⟩

/- loop.example/cothreads/impl.InstrEncode$1 -/
def c_iInstrEncode_1 : AFn := ⟨4, .seq (.seq (.ops [o1 7 (.mv (.c (.I 0)))]) (.keep [0, 1, 2, 3]))
  (.seq (.seq (.ops [o1 8 (.load (.t 3)),
    o1 9 (.mv (.t 0)),
    o1 10 (.mv (.t 1)),
    o1 11 (.call f_iBits [(.t 8), (.t 9), (.t 10)]),
    o1 12 (.mv (.t 2)),
    o1 13 (.bin .shl (.t 11) (.t 12)),
    o1 7 (.mv (.t 13))]) (.keep [7]))
  (.ret)), [.t 7]⟩

/- loop.example/cothreads/spec.l42Op -/
def c_sl42Op_l0 : AC := .seq (.seq (.seq (.seq (.ops [o1 8 (.mv (.t 3)),
    o1 9 (.bin .leq (.t 8) (.c (.I 11)))]) (.keep [0, 3, 9]))
  (.seq (.cond (.t 9)
  (.skip)
  (.exit 1)) (.keep [0, 3])))
  (.seq (.seq (.block 2 (.seq (.seq (.ops [o1 12 (.mv (.t 0)),
    o1 13 (.call f_sBits [(.t 12), (.c (.I 12)), (.c (.I 3))]),
    o1 14 (.mv (.t 3)),
    o1 15 (.call f_sl42Three [(.t 14)]),
    o1 16 (.bin .eql (.t 13) (.t 15)),
    o1 17 (.mv (.t 16)),
    ⟨some 18, (some (17, true)), [], false, .mv (.t 0)⟩,
    ⟨some 19, (some (17, true)), [], false, .call f_sBits [(.t 18), (.c (.I 25)), (.c (.I 7))]⟩,
    ⟨some 20, (some (17, true)), [], false, .mv (.t 3)⟩,
    ⟨some 21, (some (17, true)), [], false, .call f_sl42Seven [(.t 20)]⟩,
    ⟨some 22, (some (17, true)), [], false, .bin .eql (.t 19) (.t 21)⟩,
    o1 23 (.pick (.t 17) (.t 22) (.c (.b false)))]) (.keep [0, 3, 23]))
  (.seq (.cond (.t 23)
  (.seq (.seq (.ops [o1 24 (.mv (.t 3)),
    o1 2 (.mv (.t 24))]) (.keep [2]))
  (.ret))
  (.skip)) (.keep [0, 3])))) (.keep [0, 3]))
  (.seq (.ops [o1 10 (.mv (.t 3)),
    o1 11 (.bin .add (.t 10) (.c (.I 1))),
    o1 3 (.mv (.t 11))]) (.keep [0, 3])))) (.keep [0, 3])
def c_sl42Op : AFn := ⟨1, .seq (.seq (.ops [o1 2 (.mv (.c (.I 0)))]) (.keep [0]))
  (.seq (.seq (.seq (.ops [o1 4 (.mv (.t 0)),
    o1 5 (.call f_sBits [(.t 4), (.c (.I 0)), (.c (.I 7))])]) (.keep [0, 5]))
  (.seq (.block 0 (.seq (.seq (.ops [o1 7 (.bin .eql (.t 5) (.c (.I 51))),
    o1 6 (.mv (.t 7))]) (.keep [0, 5, 6]))
  (.seq (.cond (.t 6)
  (.seq (.seq (.ops [o1 3 (.mv (.c (.I 1)))])
  (.seq (.block 1 (.seq (.keep [0, 3]) (.loop c_sl42Op_l0))) (.keep [])))
  (.seq (.ops [o1 2 (.mv (.c (.I 0)))])
  (.ret)))
  (.seq (.seq (.ops [o1 26 (.bin .eql (.t 5) (.c (.I 19))),
    o1 25 (.mv (.t 26))]) (.keep [0, 5, 25]))
  (.seq (.cond (.t 25)
  (.seq (.seq (.seq (.ops [o1 27 (.mv (.t 0)),
    o1 28 (.call f_sBits [(.t 27), (.c (.I 12)), (.c (.I 3))]),
    o1 29 (.bin .eql (.t 28) (.c (.I 0)))]) (.keep [29]))
  (.seq (.cond (.t 29)
  (.seq (.ops [o1 2 (.mv (.c (.I 12)))])
  (.ret))
  (.skip)) (.keep [])))
  (.seq (.ops [o1 2 (.mv (.c (.I 13)))])
  (.ret)))
  (.seq (.seq (.ops [o1 31 (.bin .eql (.t 5) (.c (.I 3))),
    o1 30 (.mv (.t 31))]) (.keep [0, 5, 30]))
  (.seq (.cond (.t 30)
  (.seq (.ops [o1 2 (.mv (.c (.I 14)))])
  (.ret))
  (.seq (.seq (.ops [o1 33 (.bin .eql (.t 5) (.c (.I 103))),
    o1 32 (.mv (.t 33))]) (.keep [0, 5, 32]))
  (.seq (.cond (.t 32)
  (.seq (.ops [o1 2 (.mv (.c (.I 15)))])
  (.ret))
  (.seq (.seq (.ops [o1 35 (.bin .eql (.t 5) (.c (.I 35))),
    o1 34 (.mv (.t 35))]) (.keep [0, 5, 34]))
  (.seq (.cond (.t 34)
  (.seq (.ops [o1 2 (.mv (.c (.I 16)))])
  (.ret))
  (.seq (.seq (.ops [o1 37 (.bin .eql (.t 5) (.c (.I 99))),
    o1 36 (.mv (.t 37))]) (.keep [0, 5, 36]))
  (.seq (.cond (.t 36)
  (.seq (.seq (.seq (.ops [o1 38 (.mv (.t 0)),
    o1 39 (.call f_sBits [(.t 38), (.c (.I 12)), (.c (.I 3))]),
    o1 40 (.bin .eql (.t 39) (.c (.I 0)))]) (.keep [40]))
  (.seq (.cond (.t 40)
  (.seq (.ops [o1 2 (.mv (.c (.I 17)))])
  (.ret))
  (.skip)) (.keep [])))
  (.seq (.ops [o1 2 (.mv (.c (.I 18)))])
  (.ret)))
  (.seq (.seq (.ops [o1 42 (.bin .eql (.t 5) (.c (.I 55))),
    o1 41 (.mv (.t 42))]) (.keep [5, 41]))
  (.seq (.cond (.t 41)
  (.seq (.ops [o1 2 (.mv (.c (.I 19)))])
  (.ret))
  (.seq (.seq (.ops [o1 44 (.bin .eql (.t 5) (.c (.I 111))),
    o1 43 (.mv (.t 44))]) (.keep [5, 43]))
  (.seq (.cond (.t 43)
  (.seq (.ops [o1 2 (.mv (.c (.I 20)))])
  (.ret))
  (.seq (.seq (.ops [o1 46 (.bin .eql (.t 5) (.c (.I 115))),
    o1 45 (.mv (.t 46))]) (.keep [45]))
  (.seq (.cond (.t 45)
  (.seq (.ops [o1 2 (.mv (.c (.I 21)))])
  (.ret))
  (.skip)) (.keep [])))) (.keep [])))) (.keep [])))) (.keep [])))) (.keep [])))) (.keep [])))) (.keep [])))) (.keep [])))) (.keep [])))) (.keep [])))
  (.seq (.ops [o1 2 (.mv (.c (.I 0)))])
  (.ret))), [.t 2]⟩

/- loop.example/cothreads/spec.l42Fields -/
def c_sl42Fields : AFn := ⟨2, .seq (.ops [o1 4 (.alloc [(.I 0), (.I 0), (.I 0), (.I 0), (.I 0)])])
  (.seq (.seq (.ops [o1 10 (.mv (.t 1)),
    o1 11 (.call f_sBits [(.t 10), (.c (.I 7)), (.c (.I 5))]),
    o1 5 (.mv (.t 11))]) (.keep [0, 1, 4, 5]))
  (.seq (.seq (.ops [o1 12 (.mv (.t 1)),
    o1 13 (.call f_sBits [(.t 12), (.c (.I 15)), (.c (.I 5))]),
    o1 6 (.mv (.t 13))]) (.keep [0, 1, 4, 5, 6]))
  (.seq (.seq (.ops [o1 14 (.mv (.t 1)),
    o1 15 (.call f_sBits [(.t 14), (.c (.I 20)), (.c (.I 5))]),
    o1 7 (.mv (.t 15))]) (.keep [0, 1, 4, 5, 6, 7]))
  (.seq (.seq (.block 0 (.seq (.seq (.ops [o1 17 (.mv (.t 0)),
    o1 18 (.bin .leq (.t 17) (.c (.I 11))),
    o1 16 (.mv (.t 18))]) (.keep [0, 1, 4, 5, 6, 7, 16]))
  (.seq (.cond (.t 16)
  (.seq (.seq (.ops [o1 19 (.mv (.t 0)),
    o1 20 (.mv (.t 5)),
    o1 21 (.mv (.t 6)),
    o1 22 (.mv (.t 7)),
    o1 23 (.build [(.I 0), (.I 0), (.I 0), (.I 0), (.I 0)] [(0, 1, (.t 19)), (1, 1, (.t 20)), (2, 1, (.t 21)), (3, 1, (.t 22))]),
    o0 (.store 5 (.t 4) (.t 23))]) (.keep [4]))
  (.ret))
  (.seq (.seq (.ops [o1 25 (.mv (.t 0)),
    o1 26 (.bin .leq (.t 25) (.c (.I 15))),
    o1 24 (.mv (.t 26))]) (.keep [0, 1, 4, 5, 6, 7, 24]))
  (.seq (.cond (.t 24)
  (.seq (.seq (.ops [o1 27 (.mv (.t 0)),
    o1 28 (.mv (.t 5)),
    o1 29 (.mv (.t 6)),
    o1 30 (.mv (.t 1)),
    o1 31 (.call f_sBits [(.t 30), (.c (.I 20)), (.c (.I 12))]),
    o1 32 (.call f_sSignExtend [(.t 31), (.c (.I 12))]),
    o1 33 (.build [(.I 0), (.I 0), (.I 0), (.I 0), (.I 0)] [(0, 1, (.t 27)), (1, 1, (.t 28)), (2, 1, (.t 29)), (4, 1, (.t 32))]),
    o0 (.store 5 (.t 4) (.t 33))]) (.keep [4]))
  (.ret))
  (.seq (.seq (.ops [o1 35 (.mv (.t 0)),
    o1 36 (.bin .eql (.t 35) (.c (.I 16))),
    o1 34 (.mv (.t 36))]) (.keep [0, 1, 4, 5, 6, 7, 34]))
  (.seq (.cond (.t 34)
  (.seq (.seq (.ops [o1 37 (.mv (.t 0)),
    o1 38 (.mv (.t 6)),
    o1 39 (.mv (.t 7)),
    o1 40 (.mv (.t 1)),
    o1 41 (.call f_sBits [(.t 40), (.c (.I 25)), (.c (.I 7))]),
    o1 42 (.bin .mul (.t 41) (.c (.I 32))),
    o1 43 (.mv (.t 5)),
    o1 44 (.bin .add (.t 42) (.t 43)),
    o1 45 (.call f_sSignExtend [(.t 44), (.c (.I 12))]),
    o1 46 (.build [(.I 0), (.I 0), (.I 0), (.I 0), (.I 0)] [(0, 1, (.t 37)), (2, 1, (.t 38)), (3, 1, (.t 39)), (4, 1, (.t 45))]),
    o0 (.store 5 (.t 4) (.t 46))]) (.keep [4]))
  (.ret))
  (.seq (.seq (.ops [o1 48 (.mv (.t 0)),
    o1 49 (.bin .eql (.t 48) (.c (.I 17))),
    o1 50 (.mv (.t 49)),
    ⟨some 51, (some (50, false)), [], false, .mv (.t 0)⟩,
    ⟨some 52, (some (50, false)), [], false, .bin .eql (.t 51) (.c (.I 18))⟩,
    o1 53 (.pick (.t 50) (.c (.b true)) (.t 52)),
    o1 47 (.mv (.t 53))]) (.keep [0, 1, 4, 5, 6, 7, 47]))
  (.seq (.cond (.t 47)
  (.seq (.seq (.ops [o1 54 (.mv (.t 1)),
    o1 55 (.call f_sBits [(.t 54), (.c (.I 31)), (.c (.I 1))]),
    o1 56 (.bin .mul (.t 55) (.c (.I 4096))),
    o1 57 (.mv (.t 1)),
    o1 58 (.call f_sBits [(.t 57), (.c (.I 7)), (.c (.I 1))]),
    o1 59 (.bin .mul (.t 58) (.c (.I 2048))),
    o1 60 (.bin .add (.t 56) (.t 59)),
    o1 61 (.mv (.t 1)),
    o1 62 (.call f_sBits [(.t 61), (.c (.I 25)), (.c (.I 6))]),
    o1 63 (.bin .mul (.t 62) (.c (.I 32))),
    o1 64 (.bin .add (.t 60) (.t 63)),
    o1 65 (.mv (.t 1)),
    o1 66 (.call f_sBits [(.t 65), (.c (.I 8)), (.c (.I 4))]),
    o1 67 (.bin .mul (.t 66) (.c (.I 2))),
    o1 68 (.bin .add (.t 64) (.t 67)),
    o1 8 (.mv (.t 68))]) (.keep [0, 4, 6, 7, 8]))
  (.seq (.seq (.ops [o1 69 (.mv (.t 0)),
    o1 70 (.mv (.t 6)),
    o1 71 (.mv (.t 7)),
    o1 72 (.mv (.t 8)),
    o1 73 (.call f_sSignExtend [(.t 72), (.c (.I 13))]),
    o1 74 (.build [(.I 0), (.I 0), (.I 0), (.I 0), (.I 0)] [(0, 1, (.t 69)), (2, 1, (.t 70)), (3, 1, (.t 71)), (4, 1, (.t 73))]),
    o0 (.store 5 (.t 4) (.t 74))]) (.keep [4]))
  (.ret)))
  (.seq (.seq (.ops [o1 76 (.mv (.t 0)),
    o1 77 (.bin .eql (.t 76) (.c (.I 19))),
    o1 75 (.mv (.t 77))]) (.keep [0, 1, 4, 5, 75]))
  (.seq (.cond (.t 75)
  (.seq (.seq (.ops [o1 78 (.mv (.t 0)),
    o1 79 (.mv (.t 5)),
    o1 80 (.mv (.t 1)),
    o1 81 (.call f_sBits [(.t 80), (.c (.I 12)), (.c (.I 20))]),
    o1 82 (.build [(.I 0), (.I 0), (.I 0), (.I 0), (.I 0)] [(0, 1, (.t 78)), (1, 1, (.t 79)), (4, 1, (.t 81))]),
    o0 (.store 5 (.t 4) (.t 82))]) (.keep [4]))
  (.ret))
  (.seq (.seq (.ops [o1 84 (.mv (.t 0)),
    o1 85 (.bin .eql (.t 84) (.c (.I 20))),
    o1 83 (.mv (.t 85))]) (.keep [0, 1, 4, 5, 83]))
  (.seq (.cond (.t 83)
  (.seq (.seq (.ops [o1 86 (.mv (.t 1)),
    o1 87 (.call f_sBits [(.t 86), (.c (.I 31)), (.c (.I 1))]),
    o1 88 (.bin .mul (.t 87) (.c (.I 1048576))),
    o1 89 (.mv (.t 1)),
    o1 90 (.call f_sBits [(.t 89), (.c (.I 12)), (.c (.I 8))]),
    o1 91 (.bin .mul (.t 90) (.c (.I 4096))),
    o1 92 (.bin .add (.t 88) (.t 91)),
    o1 93 (.mv (.t 1)),
    o1 94 (.call f_sBits [(.t 93), (.c (.I 20)), (.c (.I 1))]),
    o1 95 (.bin .mul (.t 94) (.c (.I 2048))),
    o1 96 (.bin .add (.t 92) (.t 95)),
    o1 97 (.mv (.t 1)),
    o1 98 (.call f_sBits [(.t 97), (.c (.I 21)), (.c (.I 10))]),
    o1 99 (.bin .mul (.t 98) (.c (.I 2))),
    o1 100 (.bin .add (.t 96) (.t 99)),
    o1 9 (.mv (.t 100))]) (.keep [0, 4, 5, 9]))
  (.seq (.seq (.ops [o1 101 (.mv (.t 0)),
    o1 102 (.mv (.t 5)),
    o1 103 (.mv (.t 9)),
    o1 104 (.call f_sSignExtend [(.t 103), (.c (.I 21))]),
    o1 105 (.build [(.I 0), (.I 0), (.I 0), (.I 0), (.I 0)] [(0, 1, (.t 101)), (1, 1, (.t 102)), (4, 1, (.t 104))]),
    o0 (.store 5 (.t 4) (.t 105))]) (.keep [4]))
  (.ret)))
  (.skip)) (.keep [0, 4])))) (.keep [0, 4])))) (.keep [0, 4])))) (.keep [0, 4])))) (.keep [0, 4])))) (.keep [0, 4])))) (.keep [0, 4]))
  (.seq (.seq (.ops [o1 106 (.mv (.t 0)),
    o1 107 (.build [(.I 0), (.I 0), (.I 0), (.I 0), (.I 0)] [(0, 1, (.t 106))]),
    o0 (.store 5 (.t 4) (.t 107))]) (.keep [4]))
  (.ret)))))), [.c 4 5]⟩

/- loop.example/cothreads/spec.l44Load -/
def c_sl44Load : AFn := ⟨2, .seq (.seq (.ops [o1 3 (.box (.t 1)),
    o1 4 (.mv (.c (.b false)))]) (.keep [0, 3]))
  (.seq (.seq (.ops [o1 6 (.mv (.t 0)),
    o1 7 (.nilc (.t 6)),
    o1 8 (.fldA 0 (.t 7)),
    o1 9 (.load (.t 8)),
    o1 10 (.fldA 2 (.t 3)),
    o1 11 (.load (.t 10)),
    o1 12 (.idxA 1 (.t 9) (.t 11)),
    o1 13 (.load (.t 12)),
    o1 14 (.fldA 4 (.t 3)),
    o1 15 (.load (.t 14)),
    o1 16 (.bin .add (.t 13) (.t 15)),
    ⟨some 17, none, [], true, .call f_sWrap [(.t 16)]⟩,
    o1 5 (.mv (.t 17))]) (.keep [0, 3, 5]))
  (.seq (.seq (.seq (.ops [o1 18 (.mv (.t 0)),
    o1 19 (.nilc (.t 18)),
    o1 20 (.fldA 2 (.t 19)),
    o1 21 (.load (.t 20)),
    o1 22 (.mv (.t 5)),
    o1 23 (.call f_sl44Word [(.t 21), (.t 22)]),
    o1 24 (.un .not (.t 23))]) (.keep [0, 3, 5, 24]))
  (.seq (.cond (.t 24)
  (.seq (.ops [o1 4 (.mv (.c (.b false)))])
  (.ret))
  (.skip)) (.keep [0, 3, 5])))
  (.seq (.seq (.seq (.ops [o1 25 (.fldA 0 (.t 3)),
    o1 26 (.load (.t 25)),
    o1 27 (.bin .eql (.t 26) (.c (.I 14)))]) (.keep [0, 3, 5, 27]))
  (.seq (.cond (.t 27)
  (.seq (.ops [o1 28 (.mv (.t 0)),
    o1 29 (.fldA 1 (.t 3)),
    o1 30 (.load (.t 29)),
    o1 31 (.mv (.t 0)),
    o1 32 (.nilc (.t 31)),
    o1 33 (.fldA 2 (.t 32)),
    o1 34 (.load (.t 33)),
    o1 35 (.mv (.t 5)),
    o1 36 (.bin .quo (.t 35) (.c (.I 4))),
    o1 37 (.idxA 1 (.t 34) (.t 36)),
    o1 38 (.load (.t 37)),
    o1 39 (.call f_sl44Set [(.t 28), (.t 30), (.t 38)])]) (.keep [0]))
  (.seq (.ops [o1 40 (.mv (.t 0)),
    o1 41 (.nilc (.t 40)),
    o1 42 (.fldA 2 (.t 41)),
    o1 43 (.load (.t 42)),
    o1 44 (.mv (.t 5)),
    o1 45 (.bin .quo (.t 44) (.c (.I 4))),
    o1 46 (.mv (.t 0)),
    o1 47 (.nilc (.t 46)),
    o1 48 (.fldA 0 (.t 47)),
    o1 49 (.load (.t 48)),
    o1 50 (.fldA 3 (.t 3)),
    o1 51 (.load (.t 50)),
    o1 52 (.idxA 1 (.t 49) (.t 51)),
    o1 53 (.load (.t 52)),
    o1 54 (.idxA 1 (.t 43) (.t 45)),
    o0 (.store 1 (.t 54) (.t 53))]) (.keep [0]))) (.keep [0])))
  (.seq (.seq (.ops [o1 55 (.mv (.t 0)),
    o1 56 (.mv (.t 0)),
    o1 57 (.nilc (.t 56)),
    o1 58 (.fldA 1 (.t 57)),
    o1 59 (.load (.t 58)),
    o1 60 (.bin .add (.t 59) (.c (.I 4))),
    o1 61 (.nilc (.t 55)),
    o1 62 (.fldA 1 (.t 61)),
    o0 (.store 1 (.t 62) (.t 60))]) (.keep []))
  (.seq (.ops [o1 4 (.mv (.c (.b true)))])
  (.ret)))))), [.t 4]⟩

/- loop.example/cothreads/spec.l44Jump -/
def c_sl44Jump : AFn := ⟨2, .seq (.ops [o1 3 (.box (.t 1))])
  (.seq (.seq (.ops [o1 7 (.mv (.t 0)),
    o1 8 (.nilc (.t 7)),
    o1 9 (.fldA 1 (.t 8)),
    o1 10 (.load (.t 9)),
    o1 11 (.bin .add (.t 10) (.c (.I 4))),
    o1 12 (.call f_sWrap [(.t 11)]),
    o1 4 (.mv (.t 12))]) (.keep [0, 3, 4]))
  (.seq (.seq (.ops [o1 13 (.mv (.t 0)),
    o1 14 (.nilc (.t 13)),
    o1 15 (.fldA 0 (.t 14)),
    o1 16 (.load (.t 15)),
    o1 17 (.fldA 2 (.t 3)),
    o1 18 (.load (.t 17)),
    o1 19 (.idxA 1 (.t 16) (.t 18)),
    o1 20 (.load (.t 19)),
    o1 21 (.mv (.t 0)),
    o1 22 (.nilc (.t 21)),
    o1 23 (.fldA 0 (.t 22)),
    o1 24 (.load (.t 23)),
    o1 25 (.fldA 3 (.t 3)),
    o1 26 (.load (.t 25)),
    o1 27 (.idxA 1 (.t 24) (.t 26)),
    o1 28 (.load (.t 27)),
    o1 29 (.bin .eql (.t 20) (.t 28)),
    o1 5 (.mv (.t 29))]) (.keep [0, 3, 4, 5]))
  (.seq (.block 0 (.seq (.seq (.ops [o1 35 (.fldA 0 (.t 3)),
    o1 36 (.load (.t 35)),
    o1 37 (.bin .eql (.t 36) (.c (.I 15))),
    o1 34 (.mv (.t 37))]) (.keep [0, 3, 4, 5, 34]))
  (.seq (.cond (.t 34)
  (.seq (.seq (.ops [o1 38 (.mv (.t 0)),
    o1 39 (.nilc (.t 38)),
    o1 40 (.fldA 0 (.t 39)),
    o1 41 (.load (.t 40)),
    o1 42 (.fldA 2 (.t 3)),
    o1 43 (.load (.t 42)),
    o1 44 (.idxA 1 (.t 41) (.t 43)),
    o1 45 (.load (.t 44)),
    o1 46 (.fldA 4 (.t 3)),
    o1 47 (.load (.t 46)),
    o1 48 (.bin .add (.t 45) (.t 47)),
    ⟨some 49, none, [], true, .call f_sWrap [(.t 48)]⟩,
    o1 6 (.mv (.t 49))]) (.keep [0, 3, 4, 6]))
  (.seq (.seq (.ops [o1 50 (.mv (.t 0)),
    o1 51 (.fldA 1 (.t 3)),
    o1 52 (.load (.t 51)),
    o1 53 (.mv (.t 4)),
    o1 54 (.call f_sl44Set [(.t 50), (.t 52), (.t 53)])]) (.keep [0, 6]))
  (.seq (.ops [o1 55 (.mv (.t 0)),
    o1 56 (.mv (.t 6)),
    o1 57 (.mv (.t 6)),
    o1 58 (.bin .and (.t 57) (.c (.I 1))),
    o1 59 (.bin .sub (.t 56) (.t 58)),
    o1 60 (.nilc (.t 55)),
    o1 61 (.fldA 1 (.t 60)),
    o0 (.store 1 (.t 61) (.t 59))]) (.keep []))))
  (.seq (.seq (.ops [o1 63 (.fldA 0 (.t 3)),
    o1 64 (.load (.t 63)),
    o1 65 (.bin .eql (.t 64) (.c (.I 20))),
    o1 62 (.mv (.t 65))]) (.keep [0, 3, 4, 5, 62]))
  (.seq (.cond (.t 62)
  (.seq (.seq (.ops [o1 66 (.mv (.t 0)),
    o1 67 (.fldA 1 (.t 3)),
    o1 68 (.load (.t 67)),
    o1 69 (.mv (.t 4)),
    o1 70 (.call f_sl44Set [(.t 66), (.t 68), (.t 69)])]) (.keep [0, 3]))
  (.seq (.ops [o1 71 (.mv (.t 0)),
    o1 72 (.mv (.t 0)),
    o1 73 (.nilc (.t 72)),
    o1 74 (.fldA 1 (.t 73)),
    o1 75 (.load (.t 74)),
    o1 76 (.fldA 4 (.t 3)),
    o1 77 (.load (.t 76)),
    o1 78 (.bin .add (.t 75) (.t 77)),
    ⟨some 79, none, [], true, .call f_sWrap [(.t 78)]⟩,
    o1 80 (.nilc (.t 71)),
    o1 81 (.fldA 1 (.t 80)),
    o0 (.store 1 (.t 81) (.t 79))]) (.keep [])))
  (.seq (.seq (.ops [o1 83 (.mv (.t 5)),
    o1 84 (.fldA 0 (.t 3)),
    o1 85 (.load (.t 84)),
    o1 86 (.bin .eql (.t 85) (.c (.I 17))),
    o1 87 (.eqB false (.t 83) (.t 86)),
    o1 82 (.mv (.t 87))]) (.keep [0, 3, 4, 82]))
  (.seq (.cond (.t 82)
  (.seq (.ops [o1 88 (.mv (.t 0)),
    o1 89 (.mv (.t 0)),
    o1 90 (.nilc (.t 89)),
    o1 91 (.fldA 1 (.t 90)),
    o1 92 (.load (.t 91)),
    o1 93 (.fldA 4 (.t 3)),
    o1 94 (.load (.t 93)),
    o1 95 (.bin .add (.t 92) (.t 94)),
    ⟨some 96, none, [], true, .call f_sWrap [(.t 95)]⟩,
    o1 97 (.nilc (.t 88)),
    o1 98 (.fldA 1 (.t 97)),
    o0 (.store 1 (.t 98) (.t 96))]) (.keep []))
  (.seq (.ops [o1 30 (.mv (.t 0)),
    o1 31 (.mv (.t 4)),
    o1 32 (.nilc (.t 30)),
    o1 33 (.fldA 1 (.t 32)),
    o0 (.store 1 (.t 33) (.t 31))]) (.keep []))) (.keep [])))) (.keep [])))) (.keep [])))) (.keep [])))), []⟩

/- loop.example/cothreads/spec.l44Set -/
def c_sl44Set : AFn := ⟨3, .seq (.seq (.ops [o1 6 (.mv (.t 1)),
    o1 7 (.bin .neq (.t 6) (.c (.I 0)))]) (.keep [0, 1, 2, 7]))
  (.seq (.cond (.t 7)
  (.seq (.ops [o1 8 (.mv (.t 0)),
    o1 9 (.nilc (.t 8)),
    o1 10 (.fldA 0 (.t 9)),
    o1 11 (.load (.t 10)),
    o1 12 (.mv (.t 1)),
    o1 13 (.mv (.t 2)),
    o1 14 (.idxA 1 (.t 11) (.t 12)),
    o0 (.store 1 (.t 14) (.t 13))]) (.keep []))
  (.skip)) (.keep [])), []⟩

/- loop.example/cothreads/spec.l2Flag -/
def c_sl2Flag : AFn := ⟨1, .seq (.seq (.ops [o1 2 (.mv (.c (.I 0)))]) (.keep [0]))
  (.seq (.seq (.ops [o1 3 (.mv (.t 0))])
  (.seq (.cond (.t 3)
  (.seq (.ops [o1 2 (.mv (.c (.I 1)))])
  (.ret))
  (.skip)) (.keep [])))
  (.seq (.ops [o1 2 (.mv (.c (.I 0)))])
  (.ret))), [.t 2]⟩

/- loop.example/cothreads/spec.l44Alu -/
def c_sl44Alu : AFn := ⟨3, .seq (.seq (.ops [o1 6 (.mv (.c (.I 0)))]) (.keep [0, 1, 2]))
  (.seq (.seq (.ops [o1 10 (.bsl [(.I 0), (.I 0), (.I 0), (.I 0), (.I 0), (.I 0), (.I 0), (.I 0), (.I 0), (.I 0), (.I 0)] 11 [(0, 1, (.c (.I 8))), (1, 1, (.c (.I 9))), (2, 1, (.c (.I 10))), (3, 1, (.c (.I 11))), (4, 1, (.c (.I 12))), (5, 1, (.c (.I 3))), (6, 1, (.c (.I 1))), (7, 1, (.c (.I 2))), (8, 1, (.c (.I 6))), (9, 1, (.c (.I 7))), (10, 1, (.c (.I 5)))]),
    o1 7 (.mv (.t 10))]) (.keep [0, 1, 2, 7]))
  (.seq (.seq (.ops [o1 12 (.mv (.t 7)),
    o1 13 (.mv (.t 0)),
    o1 14 (.bin .sub (.t 13) (.c (.I 1))),
    o1 15 (.idxA 1 (.t 12) (.t 14)),
    o1 16 (.load (.t 15)),
    o1 17 (.mv (.t 1)),
    o1 18 (.mv (.t 2)),
    o1 19 (.call f_sApply [(.t 16), (.t 17), (.t 18)]),
    o1 11 (.mv (.t 19)),
    o1 20 (.ext (.t 11) 0),
    o1 21 (.ext (.t 11) 1),
    o1 8 (.mv (.t 20)),
    o1 9 (.mv (.t 21))]) (.keep [8]))
  (.seq (.seq (.ops [o1 22 (.mv (.t 8)),
    o1 6 (.mv (.t 22))]) (.keep [6]))
  (.ret)))), [.t 6]⟩

/- loop.example/cothreads/spec.l42Imm -/
def c_sl42Imm : AFn := ⟨2, .seq (.seq (.ops [o1 2 (.box (.t 0)),
    o1 4 (.mv (.c (.I 0)))]) (.keep [1, 2]))
  (.seq (.seq (.ops [o1 5 (.fldA 4 (.t 2)),
    o1 6 (.load (.t 5)),
    ⟨some 7, none, [], true, .call f_sl42Mod [(.t 6), (.c (.I 4096))]⟩,
    ⟨some 8, none, [], true, .call f_sl42Put [(.t 7), (.c (.I 20))]⟩,
    o1 9 (.loadN 5 (.t 2)),
    o1 10 (.mv (.t 1)),
    ⟨some 11, none, [], true, .call f_sl42Mid [(.t 9), (.t 10)]⟩,
    o1 12 (.bin .add (.t 8) (.t 11)),
    o1 13 (.fldA 1 (.t 2)),
    o1 14 (.load (.t 13)),
    ⟨some 15, none, [], true, .call f_sl42Put [(.t 14), (.c (.I 7))]⟩,
    o1 16 (.bin .add (.t 12) (.t 15)),
    o1 4 (.mv (.t 16))]) (.keep [4]))
  (.ret)), [.t 4]⟩

/- loop.example/cothreads/spec.l42Mod -/
def c_sl42Mod : AFn := ⟨2, .seq (.seq (.ops [o1 4 (.mv (.c (.I 0)))]) (.keep [0, 1]))
  (.seq (.seq (.seq (.ops [o1 5 (.mv (.t 0)),
    o1 6 (.bin .lss (.t 5) (.c (.I 0)))]) (.keep [0, 1, 6]))
  (.seq (.cond (.t 6)
  (.seq (.seq (.ops [o1 7 (.mv (.t 0)),
    o1 8 (.mv (.t 1)),
    o1 9 (.bin .add (.t 7) (.t 8)),
    o1 4 (.mv (.t 9))]) (.keep [4]))
  (.ret))
  (.skip)) (.keep [0])))
  (.seq (.seq (.ops [o1 10 (.mv (.t 0)),
    o1 4 (.mv (.t 10))]) (.keep [4]))
  (.ret))), [.t 4]⟩

/- loop.example/cothreads/spec.l42Put -/
def c_sl42Put : AFn := ⟨2, .seq (.seq (.ops [o1 4 (.mv (.c (.I 0)))]) (.keep [0, 1]))
  (.seq (.seq (.ops [o1 5 (.mv (.t 0)),
    o1 6 (.mv (.t 1)),
    o1 7 (.call f_sl1Power [(.t 6)]),
    o1 8 (.bin .mul (.t 5) (.t 7)),
    o1 4 (.mv (.t 8))]) (.keep [4]))
  (.ret)), [.t 4]⟩

/- loop.example/cothreads/spec.Bits -/
def c_sBits : AFn := ⟨3, .seq (.seq (.ops [o1 6 (.mv (.c (.I 0)))]) (.keep [0, 1, 2]))
  (.seq (.seq (.seq (.ops [o1 7 (.mv (.t 0)),
    o1 8 (.call f_sl6In [(.t 7), (.c (.I 0)), (.c (.I 4294967295))]),
    o1 9 (.un .not (.t 8)),
    o1 10 (.mv (.t 9)),
    ⟨some 11, (some (10, false)), [], false, .mv (.t 1)⟩,
    ⟨some 12, (some (10, false)), [], false, .call f_sl6In [(.t 11), (.c (.I 0)), (.c (.I 31))]⟩,
    ⟨some 13, (some (10, false)), [], false, .un .not (.t 12)⟩,
    o1 14 (.pick (.t 10) (.c (.b true)) (.t 13)),
    o1 15 (.mv (.t 14)),
    ⟨some 16, (some (15, false)), [], false, .mv (.t 2)⟩,
    ⟨some 17, (some (15, false)), [], false, .mv (.t 1)⟩,
    ⟨some 18, (some (15, false)), [], false, .bin .sub (.c (.I 32)) (.t 17)⟩,
    ⟨some 19, (some (15, false)), [], false, .call f_sl6In [(.t 16), (.c (.I 1)), (.t 18)]⟩,
    ⟨some 20, (some (15, false)), [], false, .un .not (.t 19)⟩,
    o1 21 (.pick (.t 15) (.c (.b true)) (.t 20))]) (.keep [0, 1, 2, 21]))
  (.seq (.cond (.t 21)
  (.seq (.ops [o1 6 (.mv (.c (.I 0)))])
  (.ret))
  (.skip)) (.keep [0, 1, 2])))
  (.seq (.seq (.ops [o1 22 (.mv (.t 0)),
    o1 23 (.mv (.t 1)),
    ⟨some 24, none, [], true, .call f_sl1Power [(.t 23)]⟩,
    o1 25 (.bin .quo (.t 22) (.t 24)),
    o1 26 (.mv (.t 2)),
    ⟨some 27, none, [], true, .call f_sl1Power [(.t 26)]⟩,
    o1 28 (.bin .rem (.t 25) (.t 27)),
    o1 6 (.mv (.t 28))]) (.keep [6]))
  (.ret))), [.t 6]⟩

/- loop.example/cothreads/spec.l42Mid -/
def c_sl42Mid : AFn := ⟨2, .seq (.seq (.ops [o1 2 (.box (.t 0)),
    o1 4 (.mv (.c (.I 0)))]) (.keep [1, 2]))
  (.seq (.seq (.ops [o1 5 (.fldA 2 (.t 2)),
    o1 6 (.load (.t 5)),
    ⟨some 7, none, [], true, .call f_sl42Put [(.t 6), (.c (.I 15))]⟩,
    o1 8 (.fldA 0 (.t 2)),
    o1 9 (.load (.t 8)),
    ⟨some 10, none, [], true, .call f_sl42Three [(.t 9)]⟩,
    ⟨some 11, none, [], true, .call f_sl42Put [(.t 10), (.c (.I 12))]⟩,
    o1 12 (.bin .add (.t 7) (.t 11)),
    o1 13 (.mv (.t 1)),
    o1 14 (.bin .add (.t 12) (.t 13)),
    o1 4 (.mv (.t 14))]) (.keep [4]))
  (.ret)), [.t 4]⟩

/- loop.example/cothreads/spec.l42Branch -/
def c_sl42Branch : AFn := ⟨1, .seq (.seq (.ops [o1 1 (.box (.t 0)),
    o1 2 (.mv (.c (.I 0)))]) (.keep [1]))
  (.seq (.seq (.ops [o1 5 (.fldA 4 (.t 1)),
    o1 6 (.load (.t 5)),
    o1 7 (.call f_sl42Mod [(.t 6), (.c (.I 8192))]),
    o1 3 (.mv (.t 7))]) (.keep [1, 3]))
  (.seq (.seq (.ops [o1 8 (.mv (.t 3)),
    ⟨some 9, none, [], true, .call f_sBits [(.t 8), (.c (.I 12)), (.c (.I 1))]⟩,
    ⟨some 10, none, [], true, .call f_sl42Put [(.t 9), (.c (.I 31))]⟩,
    o1 11 (.mv (.t 3)),
    ⟨some 12, none, [], true, .call f_sBits [(.t 11), (.c (.I 5)), (.c (.I 6))]⟩,
    ⟨some 13, none, [], true, .call f_sl42Put [(.t 12), (.c (.I 25))]⟩,
    o1 14 (.bin .add (.t 10) (.t 13)),
    o1 15 (.fldA 3 (.t 1)),
    o1 16 (.load (.t 15)),
    ⟨some 17, none, [], true, .call f_sl42Put [(.t 16), (.c (.I 20))]⟩,
    o1 18 (.bin .add (.t 14) (.t 17)),
    o1 4 (.mv (.t 18))]) (.keep [1, 3, 4]))
  (.seq (.seq (.ops [o1 19 (.mv (.t 4)),
    o1 20 (.loadN 5 (.t 1)),
    o1 21 (.call f_sl42Mid [(.t 20), (.c (.I 99))]),
    o1 22 (.bin .add (.t 19) (.t 21)),
    o1 23 (.mv (.t 3)),
    o1 24 (.call f_sBits [(.t 23), (.c (.I 1)), (.c (.I 4))]),
    o1 25 (.call f_sl42Put [(.t 24), (.c (.I 8))]),
    o1 26 (.bin .add (.t 22) (.t 25)),
    o1 27 (.mv (.t 3)),
    o1 28 (.call f_sBits [(.t 27), (.c (.I 11)), (.c (.I 1))]),
    o1 29 (.call f_sl42Put [(.t 28), (.c (.I 7))]),
    o1 30 (.bin .add (.t 26) (.t 29)),
    o1 2 (.mv (.t 30))]) (.keep [2]))
  (.ret)))), [.t 2]⟩

/- loop.example/cothreads/spec.l42Jump -/
def c_sl42Jump : AFn := ⟨1, .seq (.seq (.ops [o1 1 (.box (.t 0)),
    o1 2 (.mv (.c (.I 0)))]) (.keep [1]))
  (.seq (.seq (.ops [o1 5 (.fldA 4 (.t 1)),
    o1 6 (.load (.t 5)),
    o1 7 (.call f_sl42Mod [(.t 6), (.c (.I 2097152))]),
    o1 3 (.mv (.t 7))]) (.keep [1, 3]))
  (.seq (.seq (.ops [o1 8 (.mv (.t 3)),
    o1 9 (.call f_sBits [(.t 8), (.c (.I 20)), (.c (.I 1))]),
    o1 10 (.call f_sl42Put [(.t 9), (.c (.I 31))]),
    o1 11 (.mv (.t 3)),
    o1 12 (.call f_sBits [(.t 11), (.c (.I 1)), (.c (.I 10))]),
    o1 13 (.call f_sl42Put [(.t 12), (.c (.I 21))]),
    o1 14 (.bin .add (.t 10) (.t 13)),
    o1 15 (.mv (.t 3)),
    o1 16 (.call f_sBits [(.t 15), (.c (.I 11)), (.c (.I 1))]),
    o1 17 (.call f_sl42Put [(.t 16), (.c (.I 20))]),
    o1 18 (.bin .add (.t 14) (.t 17)),
    o1 4 (.mv (.t 18))]) (.keep [1, 3, 4]))
  (.seq (.seq (.ops [o1 19 (.mv (.t 4)),
    o1 20 (.mv (.t 3)),
    ⟨some 21, none, [], true, .call f_sBits [(.t 20), (.c (.I 12)), (.c (.I 8))]⟩,
    ⟨some 22, none, [], true, .call f_sl42Put [(.t 21), (.c (.I 12))]⟩,
    o1 23 (.bin .add (.t 19) (.t 22)),
    o1 24 (.fldA 1 (.t 1)),
    o1 25 (.load (.t 24)),
    ⟨some 26, none, [], true, .call f_sl42Put [(.t 25), (.c (.I 7))]⟩,
    o1 27 (.bin .add (.t 23) (.t 26)),
    o1 28 (.bin .add (.t 27) (.c (.I 111))),
    o1 2 (.mv (.t 28))]) (.keep [2]))
  (.ret)))), [.t 2]⟩

/- loop.example/cothreads/spec.l42Seven -/
def c_sl42Seven : AFn := ⟨1, .seq (.seq (.ops [o1 2 (.mv (.c (.I 0)))]) (.keep [0]))
  (.seq (.seq (.ops [o1 3 (.bsl [(.I 0), (.I 0), (.I 0), (.I 0), (.I 0), (.I 0), (.I 0), (.I 0), (.I 0), (.I 0), (.I 0)] 11 [(0, 1, (.c (.I 0))), (1, 1, (.c (.I 32))), (2, 1, (.c (.I 1))), (3, 1, (.c (.I 1))), (4, 1, (.c (.I 1))), (5, 1, (.c (.I 0))), (6, 1, (.c (.I 0))), (7, 1, (.c (.I 0))), (8, 1, (.c (.I 0))), (9, 1, (.c (.I 32))), (10, 1, (.c (.I 0)))]),
    o1 4 (.mv (.t 0)),
    o1 5 (.bin .sub (.t 4) (.c (.I 1))),
    o1 6 (.idxA 1 (.t 3) (.t 5)),
    o1 7 (.load (.t 6)),
    o1 2 (.mv (.t 7))]) (.keep [2]))
  (.ret)), [.t 2]⟩

/- loop.example/cothreads/spec.l94Instr -/
def c_sl94Instr : AFn := ⟨1, .seq (.ops [o1 2 (.alloc [(.I 0), (.I 0), (.I 0), (.I 0), (.I 0)])])
  (.seq (.seq (.ops [o1 6 (.mv (.t 0)),
    o1 7 (.call f_sl6Rd_pick [(.t 6), (.c (.I 21))]),
    o1 8 (.bin .add (.c (.I 1)) (.t 7)),
    o1 3 (.mv (.t 8))]) (.keep [0, 2, 3]))
  (.seq (.seq (.ops [o1 9 (.mv (.t 3)),
    o1 10 (.mv (.t 0)),
    o1 11 (.call f_sl94X [(.t 10)]),
    o1 12 (.mv (.t 0)),
    o1 13 (.call f_sl94X [(.t 12)]),
    o1 14 (.mv (.t 0)),
    o1 15 (.call f_sl94X [(.t 14)]),
    o1 16 (.build [(.I 0), (.I 0), (.I 0), (.I 0), (.I 0)] [(0, 1, (.t 9)), (1, 1, (.t 11)), (2, 1, (.t 13)), (3, 1, (.t 15))]),
    o1 4 (.alloc [(.I 0), (.I 0), (.I 0), (.I 0), (.I 0)]),
    o0 (.store 5 (.t 4) (.t 16))]) (.keep [0, 2, 3, 4]))
  (.seq (.seq (.ops [o1 17 (.mv (.t 0)),
    o1 18 (.call f_sl6Rd_pick [(.t 17), (.c (.I 2))]),
    o1 19 (.bin .eql (.t 18) (.c (.I 0))),
    o1 5 (.mv (.t 19))]) (.keep [0, 2, 3, 4, 5]))
  (.seq (.seq (.block 0 (.seq (.seq (.ops [o1 21 (.mv (.t 3)),
    o1 22 (.bin .leq (.t 21) (.c (.I 11))),
    o1 20 (.mv (.t 22))]) (.keep [0, 2, 3, 4, 5, 20]))
  (.seq (.cond (.t 20)
  (.seq (.seq (.ops [o1 23 (.loadN 5 (.t 4)),
    o0 (.store 5 (.t 2) (.t 23))]) (.keep [2]))
  (.ret))
  (.seq (.seq (.ops [o1 25 (.mv (.t 3)),
    o1 26 (.bin .leq (.t 25) (.c (.I 15))),
    o1 24 (.mv (.t 26))]) (.keep [0, 2, 3, 4, 5, 24]))
  (.seq (.cond (.t 24)
  (.seq (.seq (.ops [o1 27 (.mv (.t 3)),
    o1 28 (.fldA 1 (.t 4)),
    o1 29 (.load (.t 28)),
    o1 30 (.fldA 2 (.t 4)),
    o1 31 (.load (.t 30)),
    o1 32 (.mv (.t 0)),
    ⟨some 33, none, [(.t 28), (.t 30)], false, .call f_sl94Imm [(.t 32)]⟩,
    o1 34 (.build [(.I 0), (.I 0), (.I 0), (.I 0), (.I 0)] [(0, 1, (.t 27)), (1, 1, (.t 29)), (2, 1, (.t 31)), (4, 1, (.t 33))]),
    o0 (.store 5 (.t 2) (.t 34))]) (.keep [2]))
  (.ret))
  (.seq (.seq (.ops [o1 36 (.mv (.t 3)),
    o1 37 (.bin .eql (.t 36) (.c (.I 16))),
    o1 35 (.mv (.t 37))]) (.keep [0, 2, 3, 4, 5, 35]))
  (.seq (.cond (.t 35)
  (.seq (.seq (.ops [o1 38 (.mv (.t 3)),
    o1 39 (.fldA 2 (.t 4)),
    o1 40 (.load (.t 39)),
    o1 41 (.fldA 3 (.t 4)),
    o1 42 (.load (.t 41)),
    o1 43 (.mv (.t 0)),
    ⟨some 44, none, [(.t 39), (.t 41)], false, .call f_sl94Imm [(.t 43)]⟩,
    o1 45 (.build [(.I 0), (.I 0), (.I 0), (.I 0), (.I 0)] [(0, 1, (.t 38)), (2, 1, (.t 40)), (3, 1, (.t 42)), (4, 1, (.t 44))]),
    o0 (.store 5 (.t 2) (.t 45))]) (.keep [2]))
  (.ret))
  (.seq (.seq (.ops [o1 47 (.mv (.t 3)),
    o1 48 (.bin .eql (.t 47) (.c (.I 17))),
    o1 49 (.mv (.t 48)),
    ⟨some 50, (some (49, false)), [], false, .mv (.t 3)⟩,
    ⟨some 51, (some (49, false)), [], false, .bin .eql (.t 50) (.c (.I 18))⟩,
    o1 52 (.pick (.t 49) (.c (.b true)) (.t 51)),
    o1 46 (.mv (.t 52))]) (.keep [0, 2, 3, 4, 5, 46]))
  (.seq (.cond (.t 46)
  (.seq (.seq (.ops [o1 53 (.mv (.t 3)),
    o1 54 (.fldA 2 (.t 4)),
    o1 55 (.load (.t 54)),
    o1 56 (.fldA 3 (.t 4)),
    o1 57 (.load (.t 56)),
    o1 58 (.mv (.t 0)),
    ⟨some 59, none, [(.t 54), (.t 56)], false, .call f_sl94Imm [(.t 58)]⟩,
    o1 60 (.bin .mul (.c (.I 2)) (.t 59)),
    o1 61 (.build [(.I 0), (.I 0), (.I 0), (.I 0), (.I 0)] [(0, 1, (.t 53)), (2, 1, (.t 55)), (3, 1, (.t 57)), (4, 1, (.t 60))]),
    o0 (.store 5 (.t 2) (.t 61))]) (.keep [2]))
  (.ret))
  (.seq (.seq (.ops [o1 63 (.mv (.t 3)),
    o1 64 (.bin .eql (.t 63) (.c (.I 19))),
    o1 65 (.mv (.t 64)),
    ⟨some 66, (some (65, true)), [], false, .mv (.t 5)⟩,
    o1 67 (.pick (.t 65) (.t 66) (.c (.b false))),
    o1 62 (.mv (.t 67))]) (.keep [0, 2, 3, 4, 5, 62]))
  (.seq (.cond (.t 62)
  (.seq (.seq (.ops [o1 68 (.mv (.t 3)),
    o1 69 (.fldA 1 (.t 4)),
    o1 70 (.load (.t 69)),
    o1 71 (.mv (.t 0)),
    ⟨some 72, none, [(.t 69)], false, .call f_sl6Rd_pick [(.t 71), (.c (.I 256))]⟩,
    o1 73 (.bin .mul (.t 72) (.c (.I 4096))),
    o1 74 (.mv (.t 0)),
    ⟨some 75, none, [(.t 69)], false, .call f_sl6Rd_pick [(.t 74), (.c (.I 256))]⟩,
    o1 76 (.bin .mul (.t 75) (.c (.I 16))),
    o1 77 (.bin .add (.t 73) (.t 76)),
    o1 78 (.mv (.t 0)),
    ⟨some 79, none, [(.t 69)], false, .call f_sl6Rd_pick [(.t 78), (.c (.I 16))]⟩,
    o1 80 (.bin .add (.t 77) (.t 79)),
    o1 81 (.build [(.I 0), (.I 0), (.I 0), (.I 0), (.I 0)] [(0, 1, (.t 68)), (1, 1, (.t 70)), (4, 1, (.t 80))]),
    o0 (.store 5 (.t 2) (.t 81))]) (.keep [2]))
  (.ret))
  (.seq (.seq (.ops [o1 83 (.mv (.t 3)),
    o1 84 (.bin .eql (.t 83) (.c (.I 19))),
    o1 82 (.mv (.t 84))]) (.keep [0, 2, 3, 4, 5, 82]))
  (.seq (.cond (.t 82)
  (.seq (.seq (.ops [o1 85 (.mv (.t 3)),
    o1 86 (.fldA 1 (.t 4)),
    o1 87 (.load (.t 86)),
    o1 88 (.mv (.t 0)),
    ⟨some 89, none, [(.t 86)], false, .call f_sl6Rd_pick [(.t 88), (.c (.I 20))]⟩,
    o1 90 (.build [(.I 0), (.I 0), (.I 0), (.I 0), (.I 0)] [(0, 1, (.t 85)), (1, 1, (.t 87)), (4, 1, (.t 89))]),
    o0 (.store 5 (.t 2) (.t 90))]) (.keep [2]))
  (.ret))
  (.seq (.seq (.ops [o1 92 (.mv (.t 3)),
    o1 93 (.bin .eql (.t 92) (.c (.I 20))),
    o1 94 (.mv (.t 93)),
    ⟨some 95, (some (94, true)), [], false, .mv (.t 5)⟩,
    o1 96 (.pick (.t 94) (.t 95) (.c (.b false))),
    o1 91 (.mv (.t 96))]) (.keep [0, 2, 3, 4, 91]))
  (.seq (.cond (.t 91)
  (.seq (.seq (.ops [o1 97 (.mv (.t 3)),
    o1 98 (.fldA 1 (.t 4)),
    o1 99 (.load (.t 98)),
    o1 100 (.mv (.t 0)),
    ⟨some 101, none, [(.t 98)], false, .call f_sl6Rd_pick [(.t 100), (.c (.I 256))]⟩,
    o1 102 (.bin .mul (.t 101) (.c (.I 4096))),
    o1 103 (.mv (.t 0)),
    ⟨some 104, none, [(.t 98)], false, .call f_sl6Rd_pick [(.t 103), (.c (.I 256))]⟩,
    o1 105 (.bin .mul (.t 104) (.c (.I 16))),
    o1 106 (.bin .add (.t 102) (.t 105)),
    o1 107 (.mv (.t 0)),
    ⟨some 108, none, [(.t 98)], false, .call f_sl6Rd_pick [(.t 107), (.c (.I 16))]⟩,
    o1 109 (.bin .add (.t 106) (.t 108)),
    o1 110 (.bin .mul (.t 109) (.c (.I 2))),
    o1 111 (.bin .sub (.t 110) (.c (.I 1048576))),
    o1 112 (.build [(.I 0), (.I 0), (.I 0), (.I 0), (.I 0)] [(0, 1, (.t 97)), (1, 1, (.t 99)), (4, 1, (.t 111))]),
    o0 (.store 5 (.t 2) (.t 112))]) (.keep [2]))
  (.ret))
  (.seq (.seq (.ops [o1 114 (.mv (.t 3)),
    o1 115 (.bin .eql (.t 114) (.c (.I 20))),
    o1 113 (.mv (.t 115))]) (.keep [0, 2, 3, 4, 113]))
  (.seq (.cond (.t 113)
  (.seq (.seq (.ops [o1 116 (.mv (.t 3)),
    o1 117 (.fldA 1 (.t 4)),
    o1 118 (.load (.t 117)),
    o1 119 (.mv (.t 0)),
    ⟨some 120, none, [(.t 117)], false, .call f_sl94Imm [(.t 119)]⟩,
    o1 121 (.bin .mul (.c (.I 2)) (.t 120)),
    o1 122 (.build [(.I 0), (.I 0), (.I 0), (.I 0), (.I 0)] [(0, 1, (.t 116)), (1, 1, (.t 118)), (4, 1, (.t 121))]),
    o0 (.store 5 (.t 2) (.t 122))]) (.keep [2]))
  (.ret))
  (.skip)) (.keep [2, 3])))) (.keep [2, 3])))) (.keep [2, 3])))) (.keep [2, 3])))) (.keep [2, 3])))) (.keep [2, 3])))) (.keep [2, 3])))) (.keep [2, 3])))) (.keep [2, 3]))
  (.seq (.seq (.ops [o1 123 (.mv (.t 3)),
    o1 124 (.build [(.I 0), (.I 0), (.I 0), (.I 0), (.I 0)] [(0, 1, (.t 123))]),
    o0 (.store 5 (.t 2) (.t 124))]) (.keep [2]))
  (.ret)))))), [.c 2 5]⟩

/- loop.example/cothreads/impl.isMachineReg -/
def c_iisMachineReg : AFn := ⟨1, .seq (.seq (.ops [o1 2 (.mv (.c (.b false)))]) (.keep [0]))
  (.seq (.seq (.ops [o1 3 (.mv (.t 0)),
    o1 4 (.bin .geq (.t 3) (.c (.I 0))),
    o1 5 (.mv (.t 4)),
    ⟨some 6, (some (5, true)), [], false, .mv (.t 0)⟩,
    ⟨some 7, (some (5, true)), [], false, .bin .lss (.t 6) (.c (.I 32))⟩,
    o1 8 (.pick (.t 5) (.t 7) (.c (.b false))),
    o1 2 (.mv (.t 8))]) (.keep [2]))
  (.ret)), [.t 2]⟩

/- loop.example/cothreads/spec.l42Three -/
def c_sl42Three : AFn := ⟨1, .seq (.seq (.ops [o1 2 (.mv (.c (.I 0)))]) (.keep [0]))
  (.seq (.seq (.ops [o1 3 (.bsl [(.I 0), (.I 0), (.I 0), (.I 0), (.I 0), (.I 0), (.I 0), (.I 0), (.I 0), (.I 0), (.I 0), (.I 0), (.I 0), (.I 0), (.I 0), (.I 0), (.I 0), (.I 0), (.I 0), (.I 0), (.I 0)] 21 [(0, 1, (.c (.I 0))), (1, 1, (.c (.I 0))), (2, 1, (.c (.I 0))), (3, 1, (.c (.I 4))), (4, 1, (.c (.I 6))), (5, 1, (.c (.I 7))), (6, 1, (.c (.I 6))), (7, 1, (.c (.I 4))), (8, 1, (.c (.I 1))), (9, 1, (.c (.I 5))), (10, 1, (.c (.I 2))), (11, 1, (.c (.I 0))), (12, 1, (.c (.I 3))), (13, 1, (.c (.I 2))), (14, 1, (.c (.I 0))), (15, 1, (.c (.I 2))), (16, 1, (.c (.I 0))), (17, 1, (.c (.I 1))), (18, 1, (.c (.I 0))), (19, 1, (.c (.I 0))), (20, 1, (.c (.I 0)))]),
    o1 4 (.mv (.t 0)),
    o1 5 (.bin .sub (.t 4) (.c (.I 1))),
    o1 6 (.idxA 1 (.t 3) (.t 5)),
    o1 7 (.load (.t 6)),
    o1 2 (.mv (.t 7))]) (.keep [2]))
  (.ret)), [.t 2]⟩

/- loop.example/cothreads/spec.SignExtend -/
def c_sSignExtend : AFn := ⟨2, .seq (.seq (.ops [o1 4 (.mv (.c (.I 0)))]) (.keep [0, 1]))
  (.seq (.seq (.seq (.ops [o1 5 (.mv (.t 1)),
    o1 6 (.call f_sl6In [(.t 5), (.c (.I 1)), (.c (.I 32))]),
    o1 7 (.un .not (.t 6)),
    o1 8 (.mv (.t 7)),
    ⟨some 9, (some (8, false)), [], false, .mv (.t 0)⟩,
    ⟨some 10, (some (8, false)), [], false, .mv (.t 1)⟩,
    ⟨some 11, (some (8, false)), [], false, .call f_sl1Power [(.t 10)]⟩,
    ⟨some 12, (some (8, false)), [], false, .bin .sub (.t 11) (.c (.I 1))⟩,
    ⟨some 13, (some (8, false)), [], false, .call f_sl6In [(.t 9), (.c (.I 0)), (.t 12)]⟩,
    ⟨some 14, (some (8, false)), [], false, .un .not (.t 13)⟩,
    o1 15 (.pick (.t 8) (.c (.b true)) (.t 14))]) (.keep [0, 1, 15]))
  (.seq (.cond (.t 15)
  (.seq (.ops [o1 4 (.mv (.c (.I 0)))])
  (.ret))
  (.skip)) (.keep [0, 1])))
  (.seq (.seq (.seq (.ops [o1 16 (.mv (.t 0)),
    o1 17 (.mv (.t 1)),
    o1 18 (.bin .sub (.t 17) (.c (.I 1))),
    o1 19 (.call f_sl1Power [(.t 18)]),
    o1 20 (.bin .geq (.t 16) (.t 19))]) (.keep [0, 1, 20]))
  (.seq (.cond (.t 20)
  (.seq (.seq (.ops [o1 21 (.mv (.t 0)),
    o1 22 (.mv (.t 1)),
    o1 23 (.call f_sl1Power [(.t 22)]),
    o1 24 (.bin .sub (.t 21) (.t 23)),
    o1 4 (.mv (.t 24))]) (.keep [4]))
  (.ret))
  (.skip)) (.keep [0])))
  (.seq (.seq (.ops [o1 25 (.mv (.t 0)),
    o1 4 (.mv (.t 25))]) (.keep [4]))
  (.ret)))), [.t 4]⟩

/- loop.example/cothreads/spec.Apply -/
def c_sApply : AFn := ⟨3, .seq (.seq (.ops [o1 6 (.mv (.c (.I 0))),
    o1 7 (.mv (.c (.b false)))]) (.keep [0, 1, 2]))
  (.seq (.seq (.seq (.ops [o1 8 (.mv (.t 0)),
    o1 9 (.call f_sOpValid [(.t 8)]),
    o1 10 (.un .not (.t 9)),
    o1 11 (.mv (.t 10)),
    ⟨some 12, (some (11, false)), [], false, .mv (.t 1)⟩,
    ⟨some 13, (some (11, false)), [], false, .call f_sWordValid [(.t 12)]⟩,
    ⟨some 14, (some (11, false)), [], false, .un .not (.t 13)⟩,
    o1 15 (.pick (.t 11) (.c (.b true)) (.t 14)),
    o1 16 (.mv (.t 15)),
    ⟨some 17, (some (16, false)), [], false, .mv (.t 2)⟩,
    ⟨some 18, (some (16, false)), [], false, .call f_sWordValid [(.t 17)]⟩,
    ⟨some 19, (some (16, false)), [], false, .un .not (.t 18)⟩,
    o1 20 (.pick (.t 16) (.c (.b true)) (.t 19))]) (.keep [0, 1, 2, 20]))
  (.seq (.cond (.t 20)
  (.seq (.ops [o1 6 (.mv (.c (.I 0))),
    o1 7 (.mv (.c (.b false)))])
  (.ret))
  (.skip)) (.keep [0, 1, 2])))
  (.seq (.seq (.ops [o1 21 (.mv (.t 0))])
  (.seq (.block 0 (.seq (.seq (.ops [o1 23 (.bin .eql (.t 21) (.c (.I 1))),
    o1 22 (.mv (.t 23))]) (.keep [1, 2, 21, 22]))
  (.seq (.cond (.t 22)
  (.seq (.seq (.ops [o1 24 (.mv (.t 1)),
    o1 25 (.mv (.t 2)),
    o1 26 (.bin .or (.t 24) (.t 25)),
    o1 6 (.mv (.t 26)),
    o1 7 (.mv (.c (.b true)))]) (.keep [6, 7]))
  (.ret))
  (.seq (.seq (.ops [o1 28 (.bin .eql (.t 21) (.c (.I 2))),
    o1 27 (.mv (.t 28))]) (.keep [1, 2, 21, 27]))
  (.seq (.cond (.t 27)
  (.seq (.seq (.ops [o1 29 (.mv (.t 1)),
    o1 30 (.mv (.t 2)),
    o1 31 (.bin .xor (.t 29) (.t 30)),
    o1 6 (.mv (.t 31)),
    o1 7 (.mv (.c (.b true)))]) (.keep [6, 7]))
  (.ret))
  (.seq (.seq (.ops [o1 33 (.bin .eql (.t 21) (.c (.I 3))),
    o1 32 (.mv (.t 33))]) (.keep [1, 2, 21, 32]))
  (.seq (.cond (.t 32)
  (.seq (.seq (.ops [o1 34 (.mv (.t 1)),
    o1 35 (.mv (.t 2)),
    o1 36 (.bin .and (.t 34) (.t 35)),
    o1 6 (.mv (.t 36)),
    o1 7 (.mv (.c (.b true)))]) (.keep [6, 7]))
  (.ret))
  (.seq (.seq (.ops [o1 38 (.bin .eql (.t 21) (.c (.I 4))),
    o1 37 (.mv (.t 38))]) (.keep [1, 2, 21, 37]))
  (.seq (.cond (.t 37)
  (.seq (.seq (.ops [o1 39 (.mv (.t 1)),
    o1 40 (.mv (.t 2)),
    o1 41 (.bin .eql (.t 39) (.t 40)),
    o1 42 (.call f_sl2Flag [(.t 41)]),
    o1 6 (.mv (.t 42)),
    o1 7 (.mv (.c (.b true)))]) (.keep [6, 7]))
  (.ret))
  (.seq (.seq (.ops [o1 44 (.bin .eql (.t 21) (.c (.I 5))),
    o1 43 (.mv (.t 44))]) (.keep [1, 2, 21, 43]))
  (.seq (.cond (.t 43)
  (.seq (.seq (.ops [o1 45 (.mv (.t 1)),
    o1 46 (.mv (.t 2)),
    o1 47 (.bin .lss (.t 45) (.t 46)),
    o1 48 (.call f_sl2Flag [(.t 47)]),
    o1 6 (.mv (.t 48)),
    o1 7 (.mv (.c (.b true)))]) (.keep [6, 7]))
  (.ret))
  (.seq (.seq (.ops [o1 50 (.bin .eql (.t 21) (.c (.I 6))),
    o1 49 (.mv (.t 50))]) (.keep [1, 2, 21, 49]))
  (.seq (.cond (.t 49)
  (.seq (.seq (.ops [o1 51 (.mv (.t 1)),
    o1 52 (.mv (.t 2)),
    o1 53 (.call f_sl2Shift [(.t 51), (.t 52), (.c (.b false))]),
    o1 6 (.mv (.t 53)),
    o1 7 (.mv (.c (.b true)))]) (.keep [6, 7]))
  (.ret))
  (.seq (.seq (.ops [o1 55 (.bin .eql (.t 21) (.c (.I 7))),
    o1 54 (.mv (.t 55))]) (.keep [1, 2, 21, 54]))
  (.seq (.cond (.t 54)
  (.seq (.seq (.ops [o1 56 (.mv (.t 1)),
    o1 57 (.mv (.t 2)),
    o1 58 (.call f_sl2Shift [(.t 56), (.t 57), (.c (.b true))]),
    o1 6 (.mv (.t 58)),
    o1 7 (.mv (.c (.b true)))]) (.keep [6, 7]))
  (.ret))
  (.seq (.seq (.ops [o1 60 (.bin .eql (.t 21) (.c (.I 8))),
    o1 59 (.mv (.t 60))]) (.keep [1, 2, 21, 59]))
  (.seq (.cond (.t 59)
  (.seq (.seq (.ops [o1 61 (.mv (.t 1)),
    o1 62 (.mv (.t 2)),
    o1 63 (.bin .add (.t 61) (.t 62)),
    o1 64 (.call f_sWrap [(.t 63)]),
    o1 6 (.mv (.t 64)),
    o1 7 (.mv (.c (.b true)))]) (.keep [6, 7]))
  (.ret))
  (.seq (.seq (.ops [o1 66 (.bin .eql (.t 21) (.c (.I 9))),
    o1 65 (.mv (.t 66))]) (.keep [1, 2, 21, 65]))
  (.seq (.cond (.t 65)
  (.seq (.seq (.ops [o1 67 (.mv (.t 1)),
    o1 68 (.mv (.t 2)),
    o1 69 (.bin .sub (.t 67) (.t 68)),
    o1 70 (.call f_sWrap [(.t 69)]),
    o1 6 (.mv (.t 70)),
    o1 7 (.mv (.c (.b true)))]) (.keep [6, 7]))
  (.ret))
  (.seq (.seq (.ops [o1 72 (.bin .eql (.t 21) (.c (.I 10))),
    o1 71 (.mv (.t 72))]) (.keep [1, 2, 21, 71]))
  (.seq (.cond (.t 71)
  (.seq (.seq (.ops [o1 73 (.mv (.t 1)),
    o1 74 (.mv (.t 2)),
    o1 75 (.bin .mul (.t 73) (.t 74)),
    o1 76 (.call f_sWrap [(.t 75)]),
    o1 6 (.mv (.t 76)),
    o1 7 (.mv (.c (.b true)))]) (.keep [6, 7]))
  (.ret))
  (.seq (.seq (.ops [o1 78 (.bin .eql (.t 21) (.c (.I 11))),
    o1 77 (.mv (.t 78))]) (.keep [1, 2, 77]))
  (.seq (.cond (.t 77)
  (.seq (.seq (.ops [o1 79 (.mv (.t 1)),
    o1 80 (.mv (.t 2)),
    o1 81 (.call f_sl2Divide [(.t 79), (.t 80)]),
    o1 6 (.mv (.t 81)),
    o1 7 (.mv (.c (.b true)))]) (.keep [6, 7]))
  (.ret))
  (.skip)) (.keep [1, 2])))) (.keep [1, 2])))) (.keep [1, 2])))) (.keep [1, 2])))) (.keep [1, 2])))) (.keep [1, 2])))) (.keep [1, 2])))) (.keep [1, 2])))) (.keep [1, 2])))) (.keep [1, 2])))) (.keep [1, 2])))) (.keep [1, 2])))
  (.seq (.seq (.ops [o1 82 (.mv (.t 1)),
    o1 83 (.mv (.t 2)),
    o1 84 (.call f_sl2Remain [(.t 82), (.t 83)]),
    o1 6 (.mv (.t 84)),
    o1 7 (.mv (.c (.b true)))]) (.keep [6, 7]))
  (.ret)))), [.t 6, .t 7]⟩

/- loop.example/cothreads/spec.l1Power -/
def c_sl1Power_l0 : AC := .seq (.seq (.seq (.seq (.ops [o1 5 (.mv (.t 4)),
    o1 6 (.mv (.t 0)),
    o1 7 (.bin .lss (.t 5) (.t 6))]) (.keep [0, 3, 4, 7]))
  (.seq (.cond (.t 7)
  (.skip)
  (.exit 0)) (.keep [0, 3, 4])))
  (.seq (.seq (.block 1 (.seq (.ops [o1 10 (.mv (.t 3)),
    o1 11 (.bin .mul (.t 10) (.c (.I 2))),
    o1 3 (.mv (.t 11))]) (.keep [0, 3, 4]))) (.keep [0, 3, 4]))
  (.seq (.ops [o1 8 (.mv (.t 4)),
    o1 9 (.bin .add (.t 8) (.c (.I 1))),
    o1 4 (.mv (.t 9))]) (.keep [0, 3, 4])))) (.keep [0, 3, 4])
def c_sl1Power : AFn := ⟨1, .seq (.seq (.ops [o1 2 (.mv (.c (.I 0)))]) (.keep [0]))
  (.seq (.ops [o1 3 (.mv (.c (.I 1)))])
  (.seq (.seq (.ops [o1 4 (.mv (.c (.I 0)))])
  (.seq (.block 0 (.seq (.keep [0, 3, 4]) (.loop c_sl1Power_l0))) (.keep [3])))
  (.seq (.seq (.ops [o1 12 (.mv (.t 3)),
    o1 2 (.mv (.t 12))]) (.keep [2]))
  (.ret)))), [.t 2]⟩

/- loop.example/cothreads/spec.l94X -/
def c_sl94X : AFn := ⟨1, .seq (.seq (.ops [o1 2 (.mv (.c (.I 0)))]) (.keep [0]))
  (.seq (.seq (.ops [o1 3 (.mv (.t 0)),
    o1 4 (.call f_sl6Rd_pick [(.t 3), (.c (.I 32))]),
    o1 2 (.mv (.t 4))]) (.keep [2]))
  (.ret)), [.t 2]⟩

/- loop.example/cothreads/spec.l94Imm -/
def c_sl94Imm : AFn := ⟨1, .seq (.seq (.ops [o1 2 (.mv (.c (.I 0)))]) (.keep [0]))
  (.seq (.seq (.seq (.ops [o1 3 (.mv (.t 0)),
    o1 4 (.call f_sl6Rd_pick [(.t 3), (.c (.I 3))]),
    o1 5 (.bin .eql (.t 4) (.c (.I 0)))]) (.keep [0, 5]))
  (.seq (.cond (.t 5)
  (.seq (.seq (.ops [o1 6 (.bsl [(.I 0), (.I 0), (.I 0), (.I 0), (.I 0)] 5 [(0, 1, (.c (.I (-2048)))), (1, 1, (.c (.I 2047))), (2, 1, (.c (.I (-1)))), (3, 1, (.c (.I 0))), (4, 1, (.c (.I 1)))]),
    o1 7 (.mv (.t 0)),
    o1 8 (.call f_sl6Rd_pick [(.t 7), (.c (.I 5))]),
    o1 9 (.idxA 1 (.t 6) (.t 8)),
    o1 10 (.load (.t 9)),
    o1 2 (.mv (.t 10))]) (.keep [2]))
  (.ret))
  (.skip)) (.keep [0])))
  (.seq (.seq (.ops [o1 11 (.mv (.t 0)),
    o1 12 (.call f_sl6Rd_pick [(.t 11), (.c (.I 200))]),
    o1 13 (.bin .mul (.t 12) (.c (.I 20))),
    o1 14 (.bin .sub (.t 13) (.c (.I 2000))),
    o1 2 (.mv (.t 14))]) (.keep [2]))
  (.ret))), [.t 2]⟩

/- loop.example/cothreads/spec.OpValid -/
def c_sOpValid : AFn := ⟨1, .seq (.seq (.ops [o1 2 (.mv (.c (.b false)))]) (.keep [0]))
  (.seq (.seq (.ops [o1 3 (.mv (.t 0)),
    o1 4 (.call f_sl6In [(.t 3), (.c (.I 1)), (.c (.I 12))]),
    o1 2 (.mv (.t 4))]) (.keep [2]))
  (.ret)), [.t 2]⟩

/- loop.example/cothreads/spec.l2Shift -/
def c_sl2Shift : AFn := ⟨3, .seq (.seq (.ops [o1 6 (.mv (.c (.I 0)))]) (.keep [0, 1, 2]))
  (.seq (.seq (.ops [o1 7 (.mv (.t 2))])
  (.seq (.cond (.t 7)
  (.seq (.seq (.ops [o1 8 (.mv (.t 0)),
    o1 9 (.mv (.t 1)),
    o1 10 (.bin .and (.t 9) (.c (.I 31))),
    o1 11 (.bin .shr (.t 8) (.t 10)),
    o1 6 (.mv (.t 11))]) (.keep [6]))
  (.ret))
  (.skip)) (.keep [0, 1])))
  (.seq (.seq (.ops [o1 12 (.mv (.t 0)),
    o1 13 (.mv (.t 1)),
    o1 14 (.bin .and (.t 13) (.c (.I 31))),
    o1 15 (.bin .shl (.t 12) (.t 14)),
    o1 16 (.call f_sWrap [(.t 15)]),
    o1 6 (.mv (.t 16))]) (.keep [6]))
  (.ret))), [.t 6]⟩

/- loop.example/cothreads/spec.l2Divide -/
def c_sl2Divide : AFn := ⟨2, .seq (.seq (.ops [o1 4 (.mv (.c (.I 0)))]) (.keep [0, 1]))
  (.seq (.seq (.seq (.ops [o1 5 (.mv (.t 1)),
    o1 6 (.bin .eql (.t 5) (.c (.I 0)))]) (.keep [0, 1, 6]))
  (.seq (.cond (.t 6)
  (.seq (.ops [o1 4 (.mv (.c (.I (-1))))])
  (.ret))
  (.skip)) (.keep [0, 1])))
  (.seq (.seq (.ops [o1 7 (.mv (.t 0)),
    o1 8 (.mv (.t 1)),
    o1 9 (.bin .quo (.t 7) (.t 8)),
    o1 10 (.call f_sWrap [(.t 9)]),
    o1 4 (.mv (.t 10))]) (.keep [4]))
  (.ret))), [.t 4]⟩

/- loop.example/cothreads/spec.l2Remain -/
def c_sl2Remain : AFn := ⟨2, .seq (.seq (.ops [o1 4 (.mv (.c (.I 0)))]) (.keep [0, 1]))
  (.seq (.seq (.seq (.ops [o1 5 (.mv (.t 1)),
    o1 6 (.bin .eql (.t 5) (.c (.I 0)))]) (.keep [0, 1, 6]))
  (.seq (.cond (.t 6)
  (.seq (.seq (.ops [o1 7 (.mv (.t 0)),
    o1 4 (.mv (.t 7))]) (.keep [4]))
  (.ret))
  (.skip)) (.keep [0, 1])))
  (.seq (.seq (.ops [o1 8 (.mv (.t 0)),
    o1 9 (.mv (.t 1)),
    o1 10 (.bin .rem (.t 8) (.t 9)),
    o1 4 (.mv (.t 10))]) (.keep [4]))
  (.ret))), [.t 4]⟩

def tab : List (Nat × AFn) := [(2, c_gosem_cut_init), (3, c_wFnExactMachineStep), (4, c_wFnExactMachineRun), (5, c_wFnMachineNext), (6, c_wFnMachineStep), (7, c_wFnMachineStill), (8, c_wFnMachineDecode), (9, c_wFnMachineOne), (10, c_wFnMachineAlu), (11, c_wFnMachineRun), (12, c_wFnMachineRunOne), (13, c_wszMachine), (14, c_sMachineStep), (15, c_wtoMachine), (16, c_iMachineStep), (17, c_weqMachine), (18, c_wmarkMachine), (19, c_wheldMachine), (20, c_sMachineRun), (21, c_iMachineRun), (22, c_sDrawMachineStep), (23, c_wsameMachine), (24, c_iInstrDecode), (25, c_iUnsigned), (26, c_iWrap), (27, c_iMachineValid), (28, c_wdiffers), (29, c_iApply), (30, c_sDrawMachineRun), (31, c_wszIntS), (32, c_sMachineValid), (33, c_sl44Copy), (34, c_sl44Step), (35, c_wtoIntS), (36, c_imachineCopy), (37, c_iMachine_step), (38, c_weqIntS), (39, c_wmarkIntS), (40, c_wheldIntS), (41, c_sl6In), (42, c_sl94Machine), (43, c_sl6Open), (44, c_wsameInts), (45, c_iisUnsigned), (46, c_iinstrRow_matches), (47, c_idecodeAs), (48, c_iInstrEncode), (49, c_iWordValid), (50, c_iareWords), (51, c_iOpValid), (52, c_iapply), (53, c_sl6Rd_pick), (54, c_sl4Words), (55, c_sWordValid), (56, c_sl44Word), (57, c_sInstrDecode), (58, c_sUnsigned), (59, c_sl44Do), (60, c_slices_Clone_int_int), (61, c_iMachine_word), (62, c_iMachine_set), (63, c_itruth), (64, c_sl91Word), (65, c_sWrap), (66, c_sl42Encode), (67, c_sl94Near), (68, c_iformatOf), (69, c_iBits), (70, c_iSignExtend), (71, c_iInstrValid), (72, c_iInstrEncode_1), (73, c_sl42Op), (74, c_sl42Fields), (75, c_sl44Load), (76, c_sl44Jump), (77, c_sl44Set), (78, c_sl2Flag), (79, c_sl44Alu), (80, c_sl42Imm), (81, c_sl42Mod), (82, c_sl42Put), (83, c_sBits), (84, c_sl42Mid), (85, c_sl42Branch), (86, c_sl42Jump), (87, c_sl42Seven), (88, c_sl94Instr), (89, c_iisMachineReg), (90, c_sl42Three), (91, c_sSignExtend), (92, c_sApply), (93, c_sl1Power), (94, c_sl94X), (95, c_sl94Imm), (96, c_sOpValid), (97, c_sl2Shift), (98, c_sl2Divide), (99, c_sl2Remain)]
def Cd : FuncId → Option AFn := fun f => (tab.find? fun q => q.1 == f).map (·.2)
def NG : Nat := 2
theorem e_gosem_cut_init : Cd f_gosem_cut_init = some c_gosem_cut_init := rfl
theorem fit2 : fitF Tryd.prog NG Tryd.f2 c_gosem_cut_init = true := by kernel_rfl
theorem e_wFnExactMachineStep : Cd f_wFnExactMachineStep = some c_wFnExactMachineStep := rfl
theorem fit3 : fitF Tryd.prog NG Tryd.f3 c_wFnExactMachineStep = true := by kernel_rfl
theorem e_wFnExactMachineRun : Cd f_wFnExactMachineRun = some c_wFnExactMachineRun := rfl
theorem fit4 : fitF Tryd.prog NG Tryd.f4 c_wFnExactMachineRun = true := by kernel_rfl
theorem e_wFnMachineNext : Cd f_wFnMachineNext = some c_wFnMachineNext := rfl
theorem fit5 : fitF Tryd.prog NG Tryd.f5 c_wFnMachineNext = true := by kernel_rfl
theorem e_wFnMachineStep : Cd f_wFnMachineStep = some c_wFnMachineStep := rfl
theorem fit6 : fitF Tryd.prog NG Tryd.f6 c_wFnMachineStep = true := by kernel_rfl
theorem e_wFnMachineStill : Cd f_wFnMachineStill = some c_wFnMachineStill := rfl
theorem fit7 : fitF Tryd.prog NG Tryd.f7 c_wFnMachineStill = true := by kernel_rfl
theorem e_wFnMachineDecode : Cd f_wFnMachineDecode = some c_wFnMachineDecode := rfl
theorem fit8 : fitF Tryd.prog NG Tryd.f8 c_wFnMachineDecode = true := by kernel_rfl
theorem e_wFnMachineOne : Cd f_wFnMachineOne = some c_wFnMachineOne := rfl
theorem fit9 : fitF Tryd.prog NG Tryd.f9 c_wFnMachineOne = true := by kernel_rfl
theorem e_wFnMachineAlu : Cd f_wFnMachineAlu = some c_wFnMachineAlu := rfl
theorem fit10 : fitF Tryd.prog NG Tryd.f10 c_wFnMachineAlu = true := by kernel_rfl
theorem e_wFnMachineRun : Cd f_wFnMachineRun = some c_wFnMachineRun := rfl
theorem fit11 : fitF Tryd.prog NG Tryd.f11 c_wFnMachineRun = true := by kernel_rfl
theorem e_wFnMachineRunOne : Cd f_wFnMachineRunOne = some c_wFnMachineRunOne := rfl
theorem fit12 : fitF Tryd.prog NG Tryd.f12 c_wFnMachineRunOne = true := by kernel_rfl
theorem e_wszMachine : Cd f_wszMachine = some c_wszMachine := rfl
theorem fit13 : fitF Tryd.prog NG Tryd.f13 c_wszMachine = true := by kernel_rfl
theorem e_sMachineStep : Cd f_sMachineStep = some c_sMachineStep := rfl
theorem fit14 : fitF Tryd.prog NG Tryd.f14 c_sMachineStep = true := by kernel_rfl
theorem e_wtoMachine : Cd f_wtoMachine = some c_wtoMachine := rfl
theorem fit15 : fitF Tryd.prog NG Tryd.f15 c_wtoMachine = true := by kernel_rfl
theorem e_iMachineStep : Cd f_iMachineStep = some c_iMachineStep := rfl
theorem fit16 : fitF Tryd.prog NG Tryd.f16 c_iMachineStep = true := by kernel_rfl
theorem e_weqMachine : Cd f_weqMachine = some c_weqMachine := rfl
theorem fit17 : fitF Tryd.prog NG Tryd.f17 c_weqMachine = true := by kernel_rfl
theorem e_wmarkMachine : Cd f_wmarkMachine = some c_wmarkMachine := rfl
theorem fit18 : fitF Tryd.prog NG Tryd.f18 c_wmarkMachine = true := by kernel_rfl
theorem e_wheldMachine : Cd f_wheldMachine = some c_wheldMachine := rfl
theorem fit19 : fitF Tryd.prog NG Tryd.f19 c_wheldMachine = true := by kernel_rfl
theorem e_sMachineRun : Cd f_sMachineRun = some c_sMachineRun := rfl
theorem fit20 : fitF Tryd.prog NG Tryd.f20 c_sMachineRun = true := by kernel_rfl
theorem e_iMachineRun : Cd f_iMachineRun = some c_iMachineRun := rfl
theorem fit21 : fitF Tryd.prog NG Tryd.f21 c_iMachineRun = true := by kernel_rfl
theorem e_sDrawMachineStep : Cd f_sDrawMachineStep = some c_sDrawMachineStep := rfl
theorem fit22 : fitF Tryd.prog NG Tryd.f22 c_sDrawMachineStep = true := by kernel_rfl
theorem e_wsameMachine : Cd f_wsameMachine = some c_wsameMachine := rfl
theorem fit23 : fitF Tryd.prog NG Tryd.f23 c_wsameMachine = true := by kernel_rfl
theorem e_iInstrDecode : Cd f_iInstrDecode = some c_iInstrDecode := rfl
theorem fit24 : fitF Tryd.prog NG Tryd.f24 c_iInstrDecode = true := by kernel_rfl
theorem e_iUnsigned : Cd f_iUnsigned = some c_iUnsigned := rfl
theorem fit25 : fitF Tryd.prog NG Tryd.f25 c_iUnsigned = true := by kernel_rfl
theorem e_iWrap : Cd f_iWrap = some c_iWrap := rfl
theorem fit26 : fitF Tryd.prog NG Tryd.f26 c_iWrap = true := by kernel_rfl
theorem e_iMachineValid : Cd f_iMachineValid = some c_iMachineValid := rfl
theorem fit27 : fitF Tryd.prog NG Tryd.f27 c_iMachineValid = true := by kernel_rfl
theorem e_wdiffers : Cd f_wdiffers = some c_wdiffers := rfl
theorem fit28 : fitF Tryd.prog NG Tryd.f28 c_wdiffers = true := by kernel_rfl
theorem e_iApply : Cd f_iApply = some c_iApply := rfl
theorem fit29 : fitF Tryd.prog NG Tryd.f29 c_iApply = true := by kernel_rfl
theorem e_sDrawMachineRun : Cd f_sDrawMachineRun = some c_sDrawMachineRun := rfl
theorem fit30 : fitF Tryd.prog NG Tryd.f30 c_sDrawMachineRun = true := by kernel_rfl
theorem e_wszIntS : Cd f_wszIntS = some c_wszIntS := rfl
theorem fit31 : fitF Tryd.prog NG Tryd.f31 c_wszIntS = true := by kernel_rfl
theorem e_sMachineValid : Cd f_sMachineValid = some c_sMachineValid := rfl
theorem fit32 : fitF Tryd.prog NG Tryd.f32 c_sMachineValid = true := by kernel_rfl
theorem e_sl44Copy : Cd f_sl44Copy = some c_sl44Copy := rfl
theorem fit33 : fitF Tryd.prog NG Tryd.f33 c_sl44Copy = true := by kernel_rfl
theorem e_sl44Step : Cd f_sl44Step = some c_sl44Step := rfl
theorem fit34 : fitF Tryd.prog NG Tryd.f34 c_sl44Step = true := by kernel_rfl
theorem e_wtoIntS : Cd f_wtoIntS = some c_wtoIntS := rfl
theorem fit35 : fitF Tryd.prog NG Tryd.f35 c_wtoIntS = true := by kernel_rfl
theorem e_imachineCopy : Cd f_imachineCopy = some c_imachineCopy := rfl
theorem fit36 : fitF Tryd.prog NG Tryd.f36 c_imachineCopy = true := by kernel_rfl
theorem e_iMachine_step : Cd f_iMachine_step = some c_iMachine_step := rfl
theorem fit37 : fitF Tryd.prog NG Tryd.f37 c_iMachine_step = true := by kernel_rfl
theorem e_weqIntS : Cd f_weqIntS = some c_weqIntS := rfl
theorem fit38 : fitF Tryd.prog NG Tryd.f38 c_weqIntS = true := by kernel_rfl
theorem e_wmarkIntS : Cd f_wmarkIntS = some c_wmarkIntS := rfl
theorem fit39 : fitF Tryd.prog NG Tryd.f39 c_wmarkIntS = true := by kernel_rfl
theorem e_wheldIntS : Cd f_wheldIntS = some c_wheldIntS := rfl
theorem fit40 : fitF Tryd.prog NG Tryd.f40 c_wheldIntS = true := by kernel_rfl
theorem e_sl6In : Cd f_sl6In = some c_sl6In := rfl
theorem fit41 : fitF Tryd.prog NG Tryd.f41 c_sl6In = true := by kernel_rfl
theorem e_sl94Machine : Cd f_sl94Machine = some c_sl94Machine := rfl
theorem fit42 : fitF Tryd.prog NG Tryd.f42 c_sl94Machine = true := by kernel_rfl
theorem e_sl6Open : Cd f_sl6Open = some c_sl6Open := rfl
theorem fit43 : fitF Tryd.prog NG Tryd.f43 c_sl6Open = true := by kernel_rfl
theorem e_wsameInts : Cd f_wsameInts = some c_wsameInts := rfl
theorem fit44 : fitF Tryd.prog NG Tryd.f44 c_wsameInts = true := by kernel_rfl
theorem e_iisUnsigned : Cd f_iisUnsigned = some c_iisUnsigned := rfl
theorem fit45 : fitF Tryd.prog NG Tryd.f45 c_iisUnsigned = true := by kernel_rfl
theorem e_iinstrRow_matches : Cd f_iinstrRow_matches = some c_iinstrRow_matches := rfl
theorem fit46 : fitF Tryd.prog NG Tryd.f46 c_iinstrRow_matches = true := by kernel_rfl
theorem e_idecodeAs : Cd f_idecodeAs = some c_idecodeAs := rfl
theorem fit47 : fitF Tryd.prog NG Tryd.f47 c_idecodeAs = true := by kernel_rfl
theorem e_iInstrEncode : Cd f_iInstrEncode = some c_iInstrEncode := rfl
theorem fit48 : fitF Tryd.prog NG Tryd.f48 c_iInstrEncode = true := by kernel_rfl
theorem e_iWordValid : Cd f_iWordValid = some c_iWordValid := rfl
theorem fit49 : fitF Tryd.prog NG Tryd.f49 c_iWordValid = true := by kernel_rfl
theorem e_iareWords : Cd f_iareWords = some c_iareWords := rfl
theorem fit50 : fitF Tryd.prog NG Tryd.f50 c_iareWords = true := by kernel_rfl
theorem e_iOpValid : Cd f_iOpValid = some c_iOpValid := rfl
theorem fit51 : fitF Tryd.prog NG Tryd.f51 c_iOpValid = true := by kernel_rfl
theorem e_iapply : Cd f_iapply = some c_iapply := rfl
theorem fit52 : fitF Tryd.prog NG Tryd.f52 c_iapply = true := by kernel_rfl
theorem e_sl6Rd_pick : Cd f_sl6Rd_pick = some c_sl6Rd_pick := rfl
theorem fit53 : fitF Tryd.prog NG Tryd.f53 c_sl6Rd_pick = true := by kernel_rfl
theorem e_sl4Words : Cd f_sl4Words = some c_sl4Words := rfl
theorem fit54 : fitF Tryd.prog NG Tryd.f54 c_sl4Words = true := by kernel_rfl
theorem e_sWordValid : Cd f_sWordValid = some c_sWordValid := rfl
theorem fit55 : fitF Tryd.prog NG Tryd.f55 c_sWordValid = true := by kernel_rfl
theorem e_sl44Word : Cd f_sl44Word = some c_sl44Word := rfl
theorem fit56 : fitF Tryd.prog NG Tryd.f56 c_sl44Word = true := by kernel_rfl
theorem e_sInstrDecode : Cd f_sInstrDecode = some c_sInstrDecode := rfl
theorem fit57 : fitF Tryd.prog NG Tryd.f57 c_sInstrDecode = true := by kernel_rfl
theorem e_sUnsigned : Cd f_sUnsigned = some c_sUnsigned := rfl
theorem fit58 : fitF Tryd.prog NG Tryd.f58 c_sUnsigned = true := by kernel_rfl
theorem e_sl44Do : Cd f_sl44Do = some c_sl44Do := rfl
theorem fit59 : fitF Tryd.prog NG Tryd.f59 c_sl44Do = true := by kernel_rfl
theorem e_slices_Clone_int_int : Cd f_slices_Clone_int_int = some c_slices_Clone_int_int := rfl
theorem fit60 : fitF Tryd.prog NG Tryd.f60 c_slices_Clone_int_int = true := by kernel_rfl
theorem e_iMachine_word : Cd f_iMachine_word = some c_iMachine_word := rfl
theorem fit61 : fitF Tryd.prog NG Tryd.f61 c_iMachine_word = true := by kernel_rfl
theorem e_iMachine_set : Cd f_iMachine_set = some c_iMachine_set := rfl
theorem fit62 : fitF Tryd.prog NG Tryd.f62 c_iMachine_set = true := by kernel_rfl
theorem e_itruth : Cd f_itruth = some c_itruth := rfl
theorem fit63 : fitF Tryd.prog NG Tryd.f63 c_itruth = true := by kernel_rfl
theorem e_sl91Word : Cd f_sl91Word = some c_sl91Word := rfl
theorem fit64 : fitF Tryd.prog NG Tryd.f64 c_sl91Word = true := by kernel_rfl
theorem e_sWrap : Cd f_sWrap = some c_sWrap := rfl
theorem fit65 : fitF Tryd.prog NG Tryd.f65 c_sWrap = true := by kernel_rfl
theorem e_sl42Encode : Cd f_sl42Encode = some c_sl42Encode := rfl
theorem fit66 : fitF Tryd.prog NG Tryd.f66 c_sl42Encode = true := by kernel_rfl
theorem e_sl94Near : Cd f_sl94Near = some c_sl94Near := rfl
theorem fit67 : fitF Tryd.prog NG Tryd.f67 c_sl94Near = true := by kernel_rfl
theorem e_iformatOf : Cd f_iformatOf = some c_iformatOf := rfl
theorem fit68 : fitF Tryd.prog NG Tryd.f68 c_iformatOf = true := by kernel_rfl
theorem e_iBits : Cd f_iBits = some c_iBits := rfl
theorem fit69 : fitF Tryd.prog NG Tryd.f69 c_iBits = true := by kernel_rfl
theorem e_iSignExtend : Cd f_iSignExtend = some c_iSignExtend := rfl
theorem fit70 : fitF Tryd.prog NG Tryd.f70 c_iSignExtend = true := by kernel_rfl
theorem e_iInstrValid : Cd f_iInstrValid = some c_iInstrValid := rfl
theorem fit71 : fitF Tryd.prog NG Tryd.f71 c_iInstrValid = true := by kernel_rfl
theorem e_iInstrEncode_1 : Cd f_iInstrEncode_1 = some c_iInstrEncode_1 := rfl
theorem fit72 : fitF Tryd.prog NG Tryd.f72 c_iInstrEncode_1 = true := by kernel_rfl
theorem e_sl42Op : Cd f_sl42Op = some c_sl42Op := rfl
theorem fit73 : fitF Tryd.prog NG Tryd.f73 c_sl42Op = true := by kernel_rfl
theorem e_sl42Fields : Cd f_sl42Fields = some c_sl42Fields := rfl
theorem fit74 : fitF Tryd.prog NG Tryd.f74 c_sl42Fields = true := by kernel_rfl
theorem e_sl44Load : Cd f_sl44Load = some c_sl44Load := rfl
theorem fit75 : fitF Tryd.prog NG Tryd.f75 c_sl44Load = true := by kernel_rfl
theorem e_sl44Jump : Cd f_sl44Jump = some c_sl44Jump := rfl
theorem fit76 : fitF Tryd.prog NG Tryd.f76 c_sl44Jump = true := by kernel_rfl
theorem e_sl44Set : Cd f_sl44Set = some c_sl44Set := rfl
theorem fit77 : fitF Tryd.prog NG Tryd.f77 c_sl44Set = true := by kernel_rfl
theorem e_sl2Flag : Cd f_sl2Flag = some c_sl2Flag := rfl
theorem fit78 : fitF Tryd.prog NG Tryd.f78 c_sl2Flag = true := by kernel_rfl
theorem e_sl44Alu : Cd f_sl44Alu = some c_sl44Alu := rfl
theorem fit79 : fitF Tryd.prog NG Tryd.f79 c_sl44Alu = true := by kernel_rfl
theorem e_sl42Imm : Cd f_sl42Imm = some c_sl42Imm := rfl
theorem fit80 : fitF Tryd.prog NG Tryd.f80 c_sl42Imm = true := by kernel_rfl
theorem e_sl42Mod : Cd f_sl42Mod = some c_sl42Mod := rfl
theorem fit81 : fitF Tryd.prog NG Tryd.f81 c_sl42Mod = true := by kernel_rfl
theorem e_sl42Put : Cd f_sl42Put = some c_sl42Put := rfl
theorem fit82 : fitF Tryd.prog NG Tryd.f82 c_sl42Put = true := by kernel_rfl
theorem e_sBits : Cd f_sBits = some c_sBits := rfl
theorem fit83 : fitF Tryd.prog NG Tryd.f83 c_sBits = true := by kernel_rfl
theorem e_sl42Mid : Cd f_sl42Mid = some c_sl42Mid := rfl
theorem fit84 : fitF Tryd.prog NG Tryd.f84 c_sl42Mid = true := by kernel_rfl
theorem e_sl42Branch : Cd f_sl42Branch = some c_sl42Branch := rfl
theorem fit85 : fitF Tryd.prog NG Tryd.f85 c_sl42Branch = true := by kernel_rfl
theorem e_sl42Jump : Cd f_sl42Jump = some c_sl42Jump := rfl
theorem fit86 : fitF Tryd.prog NG Tryd.f86 c_sl42Jump = true := by kernel_rfl
theorem e_sl42Seven : Cd f_sl42Seven = some c_sl42Seven := rfl
theorem fit87 : fitF Tryd.prog NG Tryd.f87 c_sl42Seven = true := by kernel_rfl
theorem e_sl94Instr : Cd f_sl94Instr = some c_sl94Instr := rfl
theorem fit88 : fitF Tryd.prog NG Tryd.f88 c_sl94Instr = true := by kernel_rfl
theorem e_iisMachineReg : Cd f_iisMachineReg = some c_iisMachineReg := rfl
theorem fit89 : fitF Tryd.prog NG Tryd.f89 c_iisMachineReg = true := by kernel_rfl
theorem e_sl42Three : Cd f_sl42Three = some c_sl42Three := rfl
theorem fit90 : fitF Tryd.prog NG Tryd.f90 c_sl42Three = true := by kernel_rfl
theorem e_sSignExtend : Cd f_sSignExtend = some c_sSignExtend := rfl
theorem fit91 : fitF Tryd.prog NG Tryd.f91 c_sSignExtend = true := by kernel_rfl
theorem e_sApply : Cd f_sApply = some c_sApply := rfl
theorem fit92 : fitF Tryd.prog NG Tryd.f92 c_sApply = true := by kernel_rfl
theorem e_sl1Power : Cd f_sl1Power = some c_sl1Power := rfl
theorem fit93 : fitF Tryd.prog NG Tryd.f93 c_sl1Power = true := by kernel_rfl
theorem e_sl94X : Cd f_sl94X = some c_sl94X := rfl
theorem fit94 : fitF Tryd.prog NG Tryd.f94 c_sl94X = true := by kernel_rfl
theorem e_sl94Imm : Cd f_sl94Imm = some c_sl94Imm := rfl
theorem fit95 : fitF Tryd.prog NG Tryd.f95 c_sl94Imm = true := by kernel_rfl
theorem e_sOpValid : Cd f_sOpValid = some c_sOpValid := rfl
theorem fit96 : fitF Tryd.prog NG Tryd.f96 c_sOpValid = true := by kernel_rfl
theorem e_sl2Shift : Cd f_sl2Shift = some c_sl2Shift := rfl
theorem fit97 : fitF Tryd.prog NG Tryd.f97 c_sl2Shift = true := by kernel_rfl
theorem e_sl2Divide : Cd f_sl2Divide = some c_sl2Divide := rfl
theorem fit98 : fitF Tryd.prog NG Tryd.f98 c_sl2Divide = true := by kernel_rfl
theorem e_sl2Remain : Cd f_sl2Remain = some c_sl2Remain := rfl
theorem fit99 : fitF Tryd.prog NG Tryd.f99 c_sl2Remain = true := by kernel_rfl
theorem fits : Fits Tryd.prog NG Cd := by
  intro f a h
  unfold Cd at h
  obtain ⟨q, hq, e⟩ := map_some h
  have hm := List.mem_of_find?_eq_some hq
  have hp := List.find?_some hq
  simp only [beq_iff_eq] at hp
  subst hp e
  simp only [tab, List.mem_cons, List.not_mem_nil, or_false] at hm
  rcases hm with rfl | rfl | rfl | rfl | rfl | rfl | rfl | rfl | rfl | rfl | rfl | rfl | rfl | rfl | rfl | rfl | rfl | rfl | rfl | rfl | rfl | rfl | rfl | rfl | rfl | rfl | rfl | rfl | rfl | rfl | rfl | rfl | rfl | rfl | rfl | rfl | rfl | rfl | rfl | rfl | rfl | rfl | rfl | rfl | rfl | rfl | rfl | rfl | rfl | rfl | rfl | rfl | rfl | rfl | rfl | rfl | rfl | rfl | rfl | rfl | rfl | rfl | rfl | rfl | rfl | rfl | rfl | rfl | rfl | rfl | rfl | rfl | rfl | rfl | rfl | rfl | rfl | rfl | rfl | rfl | rfl | rfl | rfl | rfl | rfl | rfl | rfl | rfl | rfl | rfl | rfl | rfl | rfl | rfl | rfl | rfl | rfl | rfl
  · exact ⟨_, Tryd.func2, fit2⟩
  · exact ⟨_, Tryd.func3, fit3⟩
  · exact ⟨_, Tryd.func4, fit4⟩
  · exact ⟨_, Tryd.func5, fit5⟩
  · exact ⟨_, Tryd.func6, fit6⟩
  · exact ⟨_, Tryd.func7, fit7⟩
  · exact ⟨_, Tryd.func8, fit8⟩
  · exact ⟨_, Tryd.func9, fit9⟩
  · exact ⟨_, Tryd.func10, fit10⟩
  · exact ⟨_, Tryd.func11, fit11⟩
  · exact ⟨_, Tryd.func12, fit12⟩
  · exact ⟨_, Tryd.func13, fit13⟩
  · exact ⟨_, Tryd.func14, fit14⟩
  · exact ⟨_, Tryd.func15, fit15⟩
  · exact ⟨_, Tryd.func16, fit16⟩
  · exact ⟨_, Tryd.func17, fit17⟩
  · exact ⟨_, Tryd.func18, fit18⟩
  · exact ⟨_, Tryd.func19, fit19⟩
  · exact ⟨_, Tryd.func20, fit20⟩
  · exact ⟨_, Tryd.func21, fit21⟩
  · exact ⟨_, Tryd.func22, fit22⟩
  · exact ⟨_, Tryd.func23, fit23⟩
  · exact ⟨_, Tryd.func24, fit24⟩
  · exact ⟨_, Tryd.func25, fit25⟩
  · exact ⟨_, Tryd.func26, fit26⟩
  · exact ⟨_, Tryd.func27, fit27⟩
  · exact ⟨_, Tryd.func28, fit28⟩
  · exact ⟨_, Tryd.func29, fit29⟩
  · exact ⟨_, Tryd.func30, fit30⟩
  · exact ⟨_, Tryd.func31, fit31⟩
  · exact ⟨_, Tryd.func32, fit32⟩
  · exact ⟨_, Tryd.func33, fit33⟩
  · exact ⟨_, Tryd.func34, fit34⟩
  · exact ⟨_, Tryd.func35, fit35⟩
  · exact ⟨_, Tryd.func36, fit36⟩
  · exact ⟨_, Tryd.func37, fit37⟩
  · exact ⟨_, Tryd.func38, fit38⟩
  · exact ⟨_, Tryd.func39, fit39⟩
  · exact ⟨_, Tryd.func40, fit40⟩
  · exact ⟨_, Tryd.func41, fit41⟩
  · exact ⟨_, Tryd.func42, fit42⟩
  · exact ⟨_, Tryd.func43, fit43⟩
  · exact ⟨_, Tryd.func44, fit44⟩
  · exact ⟨_, Tryd.func45, fit45⟩
  · exact ⟨_, Tryd.func46, fit46⟩
  · exact ⟨_, Tryd.func47, fit47⟩
  · exact ⟨_, Tryd.func48, fit48⟩
  · exact ⟨_, Tryd.func49, fit49⟩
  · exact ⟨_, Tryd.func50, fit50⟩
  · exact ⟨_, Tryd.func51, fit51⟩
  · exact ⟨_, Tryd.func52, fit52⟩
  · exact ⟨_, Tryd.func53, fit53⟩
  · exact ⟨_, Tryd.func54, fit54⟩
  · exact ⟨_, Tryd.func55, fit55⟩
  · exact ⟨_, Tryd.func56, fit56⟩
  · exact ⟨_, Tryd.func57, fit57⟩
  · exact ⟨_, Tryd.func58, fit58⟩
  · exact ⟨_, Tryd.func59, fit59⟩
  · exact ⟨_, Tryd.func60, fit60⟩
  · exact ⟨_, Tryd.func61, fit61⟩
  · exact ⟨_, Tryd.func62, fit62⟩
  · exact ⟨_, Tryd.func63, fit63⟩
  · exact ⟨_, Tryd.func64, fit64⟩
  · exact ⟨_, Tryd.func65, fit65⟩
  · exact ⟨_, Tryd.func66, fit66⟩
  · exact ⟨_, Tryd.func67, fit67⟩
  · exact ⟨_, Tryd.func68, fit68⟩
  · exact ⟨_, Tryd.func69, fit69⟩
  · exact ⟨_, Tryd.func70, fit70⟩
  · exact ⟨_, Tryd.func71, fit71⟩
  · exact ⟨_, Tryd.func72, fit72⟩
  · exact ⟨_, Tryd.func73, fit73⟩
  · exact ⟨_, Tryd.func74, fit74⟩
  · exact ⟨_, Tryd.func75, fit75⟩
  · exact ⟨_, Tryd.func76, fit76⟩
  · exact ⟨_, Tryd.func77, fit77⟩
  · exact ⟨_, Tryd.func78, fit78⟩
  · exact ⟨_, Tryd.func79, fit79⟩
  · exact ⟨_, Tryd.func80, fit80⟩
  · exact ⟨_, Tryd.func81, fit81⟩
  · exact ⟨_, Tryd.func82, fit82⟩
  · exact ⟨_, Tryd.func83, fit83⟩
  · exact ⟨_, Tryd.func84, fit84⟩
  · exact ⟨_, Tryd.func85, fit85⟩
  · exact ⟨_, Tryd.func86, fit86⟩
  · exact ⟨_, Tryd.func87, fit87⟩
  · exact ⟨_, Tryd.func88, fit88⟩
  · exact ⟨_, Tryd.func89, fit89⟩
  · exact ⟨_, Tryd.func90, fit90⟩
  · exact ⟨_, Tryd.func91, fit91⟩
  · exact ⟨_, Tryd.func92, fit92⟩
  · exact ⟨_, Tryd.func93, fit93⟩
  · exact ⟨_, Tryd.func94, fit94⟩
  · exact ⟨_, Tryd.func95, fit95⟩
  · exact ⟨_, Tryd.func96, fit96⟩
  · exact ⟨_, Tryd.func97, fit97⟩
  · exact ⟨_, Tryd.func98, fit98⟩
  · exact ⟨_, Tryd.func99, fit99⟩

end Go.Proofs.YtdgmihohmkdpjaaDoor.AM
