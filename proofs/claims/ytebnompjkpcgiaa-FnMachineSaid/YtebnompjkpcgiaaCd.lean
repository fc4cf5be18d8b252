/-
  The twins, in the abstract machine, of the functions that this claim reaches; by program. No condition.
-/
import Derived.Test.YtebnompjkpcgiaaAMo
import Derived.Test.YtebnompjkpcgiaaProg
namespace Go.Proofs.Ytebnompjkpcgiaa.AM
set_option linter.unusedSimpArgs false
set_option linter.unusedVariables false
set_option maxRecDepth 100000
def f_main_main : FuncId := 0
def f_gosem_cut : FuncId := 1
def f_gosem_cut_init : FuncId := 2
def f_wFnExactMachineValid : FuncId := 3
def f_wFnConstSum : FuncId := 4
def f_wFnExactConstInstrs : FuncId := 5
def f_wFnConst : FuncId := 6
def f_wFnMachine : FuncId := 7
def f_wFnThreadExpr : FuncId := 8
def f_wszMachine : FuncId := 9
def f_sMachineValid : FuncId := 10
def f_wtoMachine : FuncId := 11
def f_iMachineValid : FuncId := 12
def f_weqMachine : FuncId := 13
def f_sDrawConstInstrs : FuncId := 14
def f_iConstInstrs : FuncId := 15
def f_sConstInstrs : FuncId := 16
def f_wsameInstrs : FuncId := 17
def f_iWrap : FuncId := 18
def f_weqInstrS : FuncId := 19
def f_wmarkInstrS : FuncId := 20
def f_wheldInstrS : FuncId := 21
def f_iInstrValid : FuncId := 22
def f_sDrawMachineValid : FuncId := 23
def f_sDrawCompileExpr : FuncId := 24
def f_iCompileExpr : FuncId := 25
def f_sCompileExpr : FuncId := 26
def f_wsameCode : FuncId := 27
def f_sDrawExprEval : FuncId := 28
def f_iExprEval : FuncId := 29
def f_iThreadStep : FuncId := 30
def f_wsameInts : FuncId := 31
def f_wszIntS : FuncId := 32
def f_sl4Words : FuncId := 33
def f_sWordValid : FuncId := 34
def f_wtoIntS : FuncId := 35
def f_iareWords : FuncId := 36
def f_iWordValid : FuncId := 37
def f_weqIntS : FuncId := 38
def f_sl6Open : FuncId := 39
def f_sl6Rd_pick : FuncId := 40
def f_sl91Word : FuncId := 41
def f_iconstInstrs : FuncId := 42
def f_sl6In : FuncId := 43
def f_sl43Const : FuncId := 44
def f_weqInstr : FuncId := 45
def f_iisMachineReg : FuncId := 46
def f_iformatOf : FuncId := 47
def f_sl94Machine : FuncId := 48
def f_sl91Spoilt : FuncId := 49
def f_iExprValid : FuncId := 50
def f_iexprDepth : FuncId := 51
def f_icompileExpr : FuncId := 52
def f_sExprValid : FuncId := 53
def f_sl4Depth : FuncId := 54
def f_sl22Expr : FuncId := 55
def f_sl91Vars : FuncId := 56
def f_iexprEval : FuncId := 57
def f_iThreadValid : FuncId := 58
def f_iboxesValid : FuncId := 59
def f_iboxThere : FuncId := 60
def f_slices_Clone_int_int : FuncId := 61
def f_iboxesCopy : FuncId := 62
def f_iThread_step : FuncId := 63
def f_sWrap : FuncId := 64
def f_iaddi : FuncId := 65
def f_iSignExtend : FuncId := 66
def f_iBits : FuncId := 67
def f_iUnsigned : FuncId := 68
def f_sSignExtend : FuncId := 69
def f_sBits : FuncId := 70
def f_sUnsigned : FuncId := 71
def f_sl42Encode : FuncId := 72
def f_sl94Near : FuncId := 73
def f_sl91Expr : FuncId := 74
def f_sl91Leaf : FuncId := 75
def f_sl4Both : FuncId := 76
def f_sl91Op : FuncId := 77
def f_sl4Leaf : FuncId := 78
def f_iexprValid : FuncId := 79
def f_sl4Ok : FuncId := 80
def f_iapply : FuncId := 81
def f_iCodeValid : FuncId := 82
def f_ithreadFits : FuncId := 83
def f_iBoxValid : FuncId := 84
def f_iBox_put : FuncId := 85
def f_iBox_take : FuncId := 86
def f_iisUnsigned : FuncId := 87
def f_sl1Power : FuncId := 88
def f_sl42Imm : FuncId := 89
def f_sl42Mod : FuncId := 90
def f_sl42Put : FuncId := 91
def f_sl42Mid : FuncId := 92
def f_sl42Branch : FuncId := 93
def f_sl42Jump : FuncId := 94
def f_sl42Seven : FuncId := 95
def f_sl94Instr : FuncId := 96
def f_iOpValid : FuncId := 97
def f_sOpValid : FuncId := 98
def f_itruth : FuncId := 99
def f_iQuadValid : FuncId := 100
def f_sl42Three : FuncId := 101
def f_sl94X : FuncId := 102
def f_sl94Imm : FuncId := 103
def f_iisReg : FuncId := 104
def f_runtime_boundsError_Error : FuncId := 105
def f_runtime_boundsError_RuntimeError : FuncId := 106
def f_runtime_errorString_Error : FuncId := 107
def f_runtime_errorString_RuntimeError : FuncId := 108
def f_runtime_plainError_Error : FuncId := 109
def f_runtime_plainError_RuntimeError : FuncId := 110
def f_runtime_errorAddressString_Error : FuncId := 111
def f_runtime_errorAddressString_RuntimeError : FuncId := 112
def f_runtime_TypeAssertionError_Error : FuncId := 113
def f_runtime_TypeAssertionError_RuntimeError : FuncId := 114
def f_runtime_PanicNilError_Error : FuncId := 115
def f_runtime_PanicNilError_RuntimeError : FuncId := 116
def f_internal_abi_Type_Align : FuncId := 117
def f_internal_runtime_maps_unhashableTypeError_Error : FuncId := 118
def f_internal_runtime_maps_unhashableTypeError_RuntimeError : FuncId := 119
def f_internal_abi_Kind_String : FuncId := 120
/- gosem.cut.init -/
def c_gosem_cut_init : AFn := ⟨0, .seq (.ops [o1 0 (.call f_gosem_cut [])]) (.keep []), []⟩

/- loop.example/cothreads/laws.FnExactMachineValid -/
def c_wFnExactMachineValid : AFn := ⟨1, .seq (.seq (.ops [o1 1 (.box (.t 0)),
    o1 2 (.mv (.c (.b false)))]) (.keep [1]))
  (.seq (.ops [o1 3 (.mv (.c (.I 1048576)))])
  (.seq (.seq (.ops [o1 7 (.loadN 3 (.t 1)),
    o1 8 (.mv (.t 3)),
    o1 9 (.call f_wszMachine [(.t 7), (.t 8)]),
    o1 3 (.mv (.t 9))]) (.keep [1, 3]))
  (.seq (.seq (.seq (.ops [o1 10 (.mv (.t 3)),
    o1 11 (.bin .lss (.t 10) (.c (.I 0)))]) (.keep [1, 11]))
  (.seq (.cond (.t 11)
  (.seq (.ops [o1 2 (.mv (.c (.b true)))])
  (.ret))
  (.skip)) (.keep [1])))
  (.seq (.seq (.ops [o1 12 (.loadN 3 (.t 1)),
    o1 13 (.call f_wtoMachine [(.t 12)]),
    o1 14 (.call f_sMachineValid [(.t 13)]),
    o1 4 (.mv (.t 14))]) (.keep [1, 4]))
  (.seq (.seq (.ops [o1 15 (.loadN 3 (.t 1)),
    o1 16 (.call f_wtoMachine [(.t 15)]),
    o1 5 (.alloc [.nils, (.I 0), .nils]),
    o0 (.store 3 (.t 5) (.t 16))]) (.keep [1, 4, 5]))
  (.seq (.seq (.ops [o1 17 (.loadN 3 (.t 5)),
    o1 18 (.call f_iMachineValid [(.t 17)]),
    o1 6 (.mv (.t 18))]) (.keep [1, 4, 5, 6]))
  (.seq (.seq (.seq (.ops [o1 19 (.mv (.t 6)),
    o1 20 (.mv (.t 4)),
    o1 21 (.eqB true (.t 19) (.t 20))]) (.keep [1, 5, 21]))
  (.seq (.cond (.t 21)
  (.seq (.ops [o1 2 (.mv (.c (.b false)))])
  (.ret))
  (.skip)) (.keep [1, 5])))
  (.seq (.seq (.seq (.ops [o1 22 (.loadN 3 (.t 5)),
    o1 23 (.loadN 3 (.t 1)),
    ⟨some 24, none, [], true, .call f_wtoMachine [(.t 23)]⟩,
    ⟨some 25, none, [], true, .call f_weqMachine [(.t 22), (.t 24)]⟩,
    o1 26 (.un .not (.t 25))]) (.keep [26]))
  (.seq (.cond (.t 26)
  (.seq (.ops [o1 2 (.mv (.c (.b false)))])
  (.ret))
  (.skip)) (.keep [])))
  (.seq (.ops [o1 2 (.mv (.c (.b true)))])
  (.ret)))))))))), [.t 2]⟩

/- loop.example/cothreads/laws.FnConstSum -/
def c_wFnConstSum : AFn := ⟨1, .seq (.seq (.ops [o1 2 (.mv (.c (.b false)))]) (.keep [0]))
  (.seq (.seq (.seq (.ops [o1 10 (.mv (.t 0)),
    o1 11 (.len (.t 10)),
    o1 12 (.bin .gtr (.t 11) (.c (.I 1048576)))]) (.keep [0, 12]))
  (.seq (.cond (.t 12)
  (.seq (.ops [o1 2 (.mv (.c (.b true)))])
  (.ret))
  (.skip)) (.keep [0])))
  (.seq (.seq (.ops [o1 14 (.mv (.t 0)),
    o1 15 (.call f_sDrawConstInstrs [(.t 14)]),
    o1 13 (.mv (.t 15)),
    o1 16 (.ext (.t 13) 0),
    o1 17 (.ext (.t 13) 1),
    o1 3 (.mv (.t 16)),
    o1 4 (.mv (.t 17))]) (.keep [3, 4]))
  (.seq (.seq (.ops [o1 19 (.mv (.t 3)),
    o1 20 (.mv (.t 4)),
    o1 21 (.call f_iConstInstrs [(.t 19), (.t 20)]),
    o1 18 (.mv (.t 21)),
    o1 22 (.ext (.t 18) 0),
    o1 23 (.ext (.t 18) 1),
    o1 5 (.mv (.t 22)),
    o1 6 (.mv (.t 23))]) (.keep [3, 4, 5, 6]))
  (.seq (.seq (.ops [o1 25 (.mv (.t 3)),
    o1 26 (.mv (.t 4)),
    o1 27 (.call f_sConstInstrs [(.t 25), (.t 26)]),
    o1 24 (.mv (.t 27)),
    o1 28 (.ext (.t 24) 0),
    o1 29 (.ext (.t 24) 1),
    o1 7 (.mv (.t 28)),
    o1 8 (.mv (.t 29))]) (.keep [4, 5, 6, 7, 8]))
  (.seq (.seq (.seq (.ops [o1 30 (.mv (.t 6)),
    o1 31 (.mv (.t 8)),
    o1 32 (.eqB true (.t 30) (.t 31)),
    o1 33 (.mv (.t 32)),
    ⟨some 34, (some (33, false)), [], false, .mv (.t 5)⟩,
    ⟨some 35, (some (33, false)), [], false, .mv (.t 7)⟩,
    ⟨some 36, (some (33, false)), [], false, .call f_wsameInstrs [(.t 34), (.t 35)]⟩,
    ⟨some 37, (some (33, false)), [], false, .un .not (.t 36)⟩,
    o1 38 (.pick (.t 33) (.c (.b true)) (.t 37)),
    o1 39 (.mv (.t 38)),
    ⟨some 40, (some (39, false)), [], false, .mv (.t 6)⟩,
    ⟨some 41, (some (39, false)), [], false, .un .not (.t 40)⟩,
    o1 42 (.pick (.t 39) (.c (.b true)) (.t 41))]) (.keep [4, 5, 6, 7, 8, 42]))
  (.seq (.cond (.t 42)
  (.seq (.seq (.ops [o1 43 (.mv (.t 6)),
    o1 44 (.mv (.t 8)),
    o1 45 (.eqB false (.t 43) (.t 44)),
    o1 46 (.mv (.t 45)),
    ⟨some 47, (some (46, true)), [], false, .mv (.t 5)⟩,
    ⟨some 48, (some (46, true)), [], false, .mv (.t 7)⟩,
    ⟨some 49, (some (46, true)), [], false, .call f_wsameInstrs [(.t 47), (.t 48)]⟩,
    o1 50 (.pick (.t 46) (.t 49) (.c (.b false))),
    o1 2 (.mv (.t 50))]) (.keep [2]))
  (.ret))
  (.skip)) (.keep [4, 5])))
  (.seq (.seq (.ops [o1 51 (.mv (.t 5)),
    o1 52 (.mv (.t 5)),
    o1 53 (.len (.t 52)),
    o1 54 (.bin .sub (.t 53) (.c (.I 1))),
    o1 55 (.idxA 5 (.t 51) (.t 54)),
    o1 56 (.fldA 4 (.t 55)),
    o1 57 (.load (.t 56)),
    o1 9 (.mv (.t 57))]) (.keep [4, 5, 9]))
  (.seq (.seq (.seq (.ops [o1 58 (.mv (.t 5)),
    o1 59 (.len (.t 58)),
    o1 60 (.bin .eql (.t 59) (.c (.I 2)))]) (.keep [4, 5, 9, 60]))
  (.seq (.cond (.t 60)
  (.seq (.ops [o1 61 (.mv (.t 9)),
    o1 62 (.mv (.t 5)),
    o1 63 (.idxA 5 (.t 62) (.c (.I 0))),
    o1 64 (.fldA 4 (.t 63)),
    o1 65 (.load (.t 64)),
    o1 66 (.bin .mul (.t 65) (.c (.I 4096))),
    o1 67 (.bin .add (.t 61) (.t 66)),
    o1 9 (.mv (.t 67))]) (.keep [4, 9]))
  (.skip)) (.keep [4, 9])))
  (.seq (.seq (.ops [o1 68 (.mv (.t 9)),
    o1 69 (.call f_iWrap [(.t 68)]),
    o1 70 (.mv (.t 4)),
    o1 71 (.bin .eql (.t 69) (.t 70)),
    o1 2 (.mv (.t 71))]) (.keep [2]))
  (.ret))))))))), [.t 2]⟩

/- loop.example/cothreads/laws.FnExactConstInstrs -/
def c_wFnExactConstInstrs : AFn := ⟨2, .seq (.seq (.ops [o1 4 (.mv (.c (.b false)))]) (.keep [0, 1]))
  (.seq (.seq (.ops [o1 14 (.mv (.t 0)),
    o1 15 (.mv (.t 1)),
    o1 16 (.call f_sConstInstrs [(.t 14), (.t 15)]),
    o1 13 (.mv (.t 16)),
    o1 17 (.ext (.t 13) 0),
    o1 18 (.ext (.t 13) 1),
    o1 5 (.mv (.t 17)),
    o1 6 (.mv (.t 18))]) (.keep [0, 1, 5, 6]))
  (.seq (.seq (.ops [o1 20 (.mv (.t 0)),
    o1 21 (.mv (.t 1)),
    o1 22 (.call f_iConstInstrs [(.t 20), (.t 21)]),
    o1 19 (.mv (.t 22)),
    o1 23 (.ext (.t 19) 0),
    o1 24 (.ext (.t 19) 1),
    o1 7 (.mv (.t 23)),
    o1 8 (.mv (.t 24))]) (.keep [0, 1, 5, 6, 7, 8]))
  (.seq (.seq (.seq (.ops [o1 25 (.mv (.t 7)),
    o1 26 (.mv (.t 5)),
    o1 27 (.call f_weqInstrS [(.t 25), (.t 26)]),
    o1 28 (.un .not (.t 27)),
    o1 29 (.mv (.t 28)),
    ⟨some 30, (some (29, false)), [], false, .mv (.t 8)⟩,
    ⟨some 31, (some (29, false)), [], false, .mv (.t 6)⟩,
    ⟨some 32, (some (29, false)), [], false, .eqB true (.t 30) (.t 31)⟩,
    o1 33 (.pick (.t 29) (.c (.b true)) (.t 32))]) (.keep [0, 1, 5, 6, 7, 33]))
  (.seq (.cond (.t 33)
  (.seq (.ops [o1 4 (.mv (.c (.b false)))])
  (.ret))
  (.skip)) (.keep [0, 1, 5, 6, 7])))
  (.seq (.ops [o1 9 (.mv (.c (.I 1)))])
  (.seq (.seq (.ops [o1 34 (.mv (.t 7)),
    o1 35 (.mv (.t 9)),
    o1 36 (.call f_wmarkInstrS [(.t 34), (.t 35)]),
    o1 9 (.mv (.t 36))]) (.keep [0, 1, 5, 6, 7, 9]))
  (.seq (.ops [o1 10 (.mv (.c (.I 1)))])
  (.seq (.seq (.ops [o1 37 (.mv (.t 7)),
    o1 38 (.mv (.t 10)),
    o1 39 (.call f_wheldInstrS [(.t 37), (.t 38)]),
    o1 10 (.mv (.t 39))]) (.keep [0, 1, 5, 6, 7, 9, 10]))
  (.seq (.seq (.seq (.ops [o1 40 (.mv (.t 10)),
    o1 41 (.bin .lss (.t 40) (.c (.I 0)))]) (.keep [0, 1, 5, 6, 7, 9, 10, 41]))
  (.seq (.cond (.t 41)
  (.seq (.ops [o1 4 (.mv (.c (.b false)))])
  (.ret))
  (.skip)) (.keep [0, 1, 5, 6, 7, 9, 10])))
  (.seq (.seq (.seq (.ops [o1 42 (.mv (.t 10)),
    o1 43 (.mv (.t 9)),
    o1 44 (.bin .neq (.t 42) (.t 43))]) (.keep [0, 1, 5, 6, 7, 9, 44]))
  (.seq (.cond (.t 44)
  (.seq (.ops [o1 4 (.mv (.c (.b false)))])
  (.ret))
  (.skip)) (.keep [0, 1, 5, 6, 7, 9])))
  (.seq (.seq (.ops [o1 46 (.mv (.t 0)),
    o1 47 (.mv (.t 1)),
    o1 48 (.call f_iConstInstrs [(.t 46), (.t 47)]),
    o1 45 (.mv (.t 48)),
    o1 49 (.ext (.t 45) 0),
    o1 50 (.ext (.t 45) 1),
    o1 11 (.mv (.t 49)),
    o1 12 (.mv (.t 50))]) (.keep [5, 6, 7, 9, 11, 12]))
  (.seq (.seq (.seq (.ops [o1 51 (.mv (.t 11)),
    o1 52 (.mv (.t 5)),
    o1 53 (.call f_weqInstrS [(.t 51), (.t 52)]),
    o1 54 (.un .not (.t 53)),
    o1 55 (.mv (.t 54)),
    ⟨some 56, (some (55, false)), [], false, .mv (.t 12)⟩,
    ⟨some 57, (some (55, false)), [], false, .mv (.t 6)⟩,
    ⟨some 58, (some (55, false)), [], false, .eqB true (.t 56) (.t 57)⟩,
    o1 59 (.pick (.t 55) (.c (.b true)) (.t 58))]) (.keep [7, 9, 59]))
  (.seq (.cond (.t 59)
  (.seq (.ops [o1 4 (.mv (.c (.b false)))])
  (.ret))
  (.skip)) (.keep [7, 9])))
  (.seq (.ops [o1 10 (.mv (.c (.I 1)))])
  (.seq (.seq (.ops [o1 60 (.mv (.t 7)),
    o1 61 (.mv (.t 10)),
    o1 62 (.call f_wheldInstrS [(.t 60), (.t 61)]),
    o1 10 (.mv (.t 62))]) (.keep [9, 10]))
  (.seq (.seq (.seq (.ops [o1 63 (.mv (.t 10)),
    o1 64 (.bin .lss (.t 63) (.c (.I 0)))]) (.keep [9, 10, 64]))
  (.seq (.cond (.t 64)
  (.seq (.ops [o1 4 (.mv (.c (.b false)))])
  (.ret))
  (.skip)) (.keep [9, 10])))
  (.seq (.seq (.seq (.ops [o1 65 (.mv (.t 10)),
    o1 66 (.mv (.t 9)),
    o1 67 (.bin .neq (.t 65) (.t 66))]) (.keep [67]))
  (.seq (.cond (.t 67)
  (.seq (.ops [o1 4 (.mv (.c (.b false)))])
  (.ret))
  (.skip)) (.keep [])))
  (.seq (.ops [o1 4 (.mv (.c (.b true)))])
  (.ret))))))))))))))))), [.t 4]⟩

/- loop.example/cothreads/laws.FnConst -/
def c_wFnConst_l0 : AC := .seq (.seq (.seq (.seq (.ops [o1 52 (.mv (.t 9)),
    o1 53 (.mv (.t 5)),
    o1 54 (.len (.t 53)),
    o1 55 (.bin .lss (.t 52) (.t 54))]) (.keep [3, 4, 5, 9, 55]))
  (.seq (.cond (.t 55)
  (.skip)
  (.exit 0)) (.keep [3, 4, 5, 9])))
  (.seq (.seq (.block 1 (.seq (.seq (.ops [o1 58 (.mv (.t 5)),
    o1 59 (.mv (.t 9)),
    o1 60 (.idxA 5 (.t 58) (.t 59)),
    o1 61 (.loadN 5 (.t 60)),
    o1 62 (.call f_iInstrValid [(.t 61)]),
    o1 63 (.un .not (.t 62)),
    o1 64 (.mv (.t 63)),
    ⟨some 65, (some (64, false)), [], false, .mv (.t 5)⟩,
    ⟨some 66, (some (64, false)), [], false, .mv (.t 9)⟩,
    ⟨some 67, (some (64, false)), [], false, .idxA 5 (.t 65) (.t 66)⟩,
    ⟨some 68, (some (64, false)), [], false, .fldA 1 (.t 67)⟩,
    ⟨some 69, (some (64, false)), [], false, .load (.t 68)⟩,
    ⟨some 70, (some (64, false)), [], false, .mv (.t 3)⟩,
    ⟨some 71, (some (64, false)), [], false, .bin .neq (.t 69) (.t 70)⟩,
    o1 72 (.pick (.t 64) (.c (.b true)) (.t 71))]) (.keep [3, 4, 5, 9, 72]))
  (.seq (.cond (.t 72)
  (.seq (.ops [o1 2 (.mv (.c (.b false)))])
  (.ret))
  (.skip)) (.keep [3, 4, 5, 9])))) (.keep [3, 4, 5, 9]))
  (.seq (.ops [o1 56 (.mv (.t 9)),
    o1 57 (.bin .add (.t 56) (.c (.I 1))),
    o1 9 (.mv (.t 57))]) (.keep [3, 4, 5, 9])))) (.keep [3, 4, 5, 9])
def c_wFnConst : AFn := ⟨1, .seq (.seq (.ops [o1 2 (.mv (.c (.b false)))]) (.keep [0]))
  (.seq (.seq (.seq (.ops [o1 11 (.mv (.t 0)),
    o1 12 (.len (.t 11)),
    o1 13 (.bin .gtr (.t 12) (.c (.I 1048576)))]) (.keep [0, 13]))
  (.seq (.cond (.t 13)
  (.seq (.ops [o1 2 (.mv (.c (.b true)))])
  (.ret))
  (.skip)) (.keep [0])))
  (.seq (.seq (.ops [o1 15 (.mv (.t 0)),
    o1 16 (.call f_sDrawConstInstrs [(.t 15)]),
    o1 14 (.mv (.t 16)),
    o1 17 (.ext (.t 14) 0),
    o1 18 (.ext (.t 14) 1),
    o1 3 (.mv (.t 17)),
    o1 4 (.mv (.t 18))]) (.keep [3, 4]))
  (.seq (.seq (.ops [o1 20 (.mv (.t 3)),
    o1 21 (.mv (.t 4)),
    o1 22 (.call f_iConstInstrs [(.t 20), (.t 21)]),
    o1 19 (.mv (.t 22)),
    o1 23 (.ext (.t 19) 0),
    o1 24 (.ext (.t 19) 1),
    o1 5 (.mv (.t 23)),
    o1 6 (.mv (.t 24))]) (.keep [3, 4, 5, 6]))
  (.seq (.seq (.ops [o1 26 (.mv (.t 3)),
    o1 27 (.mv (.t 4)),
    o1 28 (.call f_sConstInstrs [(.t 26), (.t 27)]),
    o1 25 (.mv (.t 28)),
    o1 29 (.ext (.t 25) 0),
    o1 30 (.ext (.t 25) 1),
    o1 7 (.mv (.t 29)),
    o1 8 (.mv (.t 30))]) (.keep [3, 4, 5, 6, 7, 8]))
  (.seq (.seq (.seq (.ops [o1 31 (.mv (.t 6)),
    o1 32 (.mv (.t 8)),
    o1 33 (.eqB true (.t 31) (.t 32)),
    o1 34 (.mv (.t 33)),
    ⟨some 35, (some (34, false)), [], false, .mv (.t 5)⟩,
    ⟨some 36, (some (34, false)), [], false, .mv (.t 7)⟩,
    ⟨some 37, (some (34, false)), [], false, .call f_wsameInstrs [(.t 35), (.t 36)]⟩,
    ⟨some 38, (some (34, false)), [], false, .un .not (.t 37)⟩,
    o1 39 (.pick (.t 34) (.c (.b true)) (.t 38)),
    o1 40 (.mv (.t 39)),
    ⟨some 41, (some (40, false)), [], false, .mv (.t 6)⟩,
    ⟨some 42, (some (40, false)), [], false, .un .not (.t 41)⟩,
    o1 43 (.pick (.t 40) (.c (.b true)) (.t 42))]) (.keep [3, 4, 5, 6, 7, 8, 43]))
  (.seq (.cond (.t 43)
  (.seq (.seq (.ops [o1 44 (.mv (.t 6)),
    o1 45 (.mv (.t 8)),
    o1 46 (.eqB false (.t 44) (.t 45)),
    o1 47 (.mv (.t 46)),
    ⟨some 48, (some (47, true)), [], false, .mv (.t 5)⟩,
    ⟨some 49, (some (47, true)), [], false, .mv (.t 7)⟩,
    ⟨some 50, (some (47, true)), [], false, .call f_wsameInstrs [(.t 48), (.t 49)]⟩,
    o1 51 (.pick (.t 47) (.t 50) (.c (.b false))),
    o1 2 (.mv (.t 51))]) (.keep [2]))
  (.ret))
  (.skip)) (.keep [3, 4, 5])))
  (.seq (.seq (.ops [o1 9 (.mv (.c (.I 0)))])
  (.seq (.block 0 (.seq (.keep [3, 4, 5, 9]) (.loop c_wFnConst_l0))) (.keep [4, 5])))
  (.seq (.seq (.ops [o1 73 (.mv (.t 4)),
    o1 74 (.bin .geq (.t 73) (.c (.I (-2048)))),
    o1 75 (.mv (.t 74)),
    ⟨some 76, (some (75, true)), [], false, .mv (.t 4)⟩,
    ⟨some 77, (some (75, true)), [], false, .bin .leq (.t 76) (.c (.I 2047))⟩,
    o1 78 (.pick (.t 75) (.t 77) (.c (.b false))),
    o1 10 (.mv (.t 78))]) (.keep [5, 10]))
  (.seq (.seq (.ops [o1 79 (.mv (.t 5)),
    o1 80 (.len (.t 79)),
    o1 81 (.bin .leq (.t 80) (.c (.I 2))),
    o1 82 (.mv (.t 81)),
    ⟨some 83, (some (82, true)), [], false, .mv (.t 5)⟩,
    ⟨some 84, (some (82, true)), [], false, .len (.t 83)⟩,
    ⟨some 85, (some (82, true)), [], false, .bin .eql (.t 84) (.c (.I 1))⟩,
    ⟨some 86, (some (82, true)), [], false, .mv (.t 10)⟩,
    ⟨some 87, (some (82, true)), [], false, .eqB false (.t 85) (.t 86)⟩,
    o1 88 (.pick (.t 82) (.t 87) (.c (.b false))),
    o1 89 (.mv (.t 88)),
    ⟨some 90, (some (89, true)), [], false, .mv (.t 5)⟩,
    ⟨some 91, (some (89, true)), [], false, .mv (.t 5)⟩,
    ⟨some 92, (some (89, true)), [], false, .len (.t 91)⟩,
    ⟨some 93, (some (89, true)), [], false, .bin .sub (.t 92) (.c (.I 1))⟩,
    ⟨some 94, (some (89, true)), [], false, .idxA 5 (.t 90) (.t 93)⟩,
    ⟨some 95, (some (89, true)), [], false, .fldA 0 (.t 94)⟩,
    ⟨some 96, (some (89, true)), [], false, .load (.t 95)⟩,
    ⟨some 97, (some (89, true)), [], false, .bin .eql (.t 96) (.c (.I 12))⟩,
    o1 98 (.pick (.t 89) (.t 97) (.c (.b false))),
    o1 2 (.mv (.t 98))]) (.keep [2]))
  (.ret))))))))), [.t 2]⟩

/- loop.example/cothreads/laws.FnMachine -/
def c_wFnMachine : AFn := ⟨1, .seq (.seq (.ops [o1 2 (.mv (.c (.b false)))]) (.keep [0]))
  (.seq (.seq (.seq (.ops [o1 9 (.mv (.t 0)),
    o1 10 (.len (.t 9)),
    o1 11 (.bin .gtr (.t 10) (.c (.I 1048576)))]) (.keep [0, 11]))
  (.seq (.cond (.t 11)
  (.seq (.ops [o1 2 (.mv (.c (.b true)))])
  (.ret))
  (.skip)) (.keep [0])))
  (.seq (.seq (.ops [o1 12 (.mv (.t 0)),
    o1 13 (.call f_sDrawMachineValid [(.t 12)]),
    o1 3 (.alloc [.nils, (.I 0), .nils]),
    o0 (.store 3 (.t 3) (.t 13))]) (.keep [3]))
  (.seq (.seq (.ops [o1 14 (.loadN 3 (.t 3)),
    o1 15 (.call f_iMachineValid [(.t 14)]),
    o1 4 (.mv (.t 15))]) (.keep [3, 4]))
  (.seq (.seq (.ops [o1 16 (.loadN 3 (.t 3)),
    o1 17 (.call f_sMachineValid [(.t 16)]),
    o1 5 (.mv (.t 17))]) (.keep [3, 4, 5]))
  (.seq (.seq (.seq (.ops [o1 18 (.mv (.t 4)),
    o1 19 (.mv (.t 5)),
    o1 20 (.eqB true (.t 18) (.t 19)),
    o1 21 (.mv (.t 20)),
    ⟨some 22, (some (21, false)), [], false, .mv (.t 4)⟩,
    ⟨some 23, (some (21, false)), [], false, .un .not (.t 22)⟩,
    o1 24 (.pick (.t 21) (.c (.b true)) (.t 23))]) (.keep [3, 4, 5, 24]))
  (.seq (.cond (.t 24)
  (.seq (.seq (.ops [o1 25 (.mv (.t 4)),
    o1 26 (.mv (.t 5)),
    o1 27 (.eqB false (.t 25) (.t 26)),
    o1 2 (.mv (.t 27))]) (.keep [2]))
  (.ret))
  (.skip)) (.keep [3])))
  (.seq (.seq (.ops [o1 28 (.loadN 3 (.t 3)),
    o1 6 (.alloc [.nils, (.I 0), .nils]),
    o0 (.store 3 (.t 6) (.t 28))]) (.keep [3, 6]))
  (.seq (.seq (.ops [o1 29 (.bsl [(.I 0)] 1 [(0, 1, (.c (.I 5)))]),
    o1 30 (.fldA 0 (.t 3)),
    o1 31 (.load (.t 30)),
    o1 32 (.slice 1 (.t 31) (some (.c (.I 1))) none none),
    o1 33 (.app 1 (.t 29) (.t 32)),
    o1 34 (.fldA 0 (.t 6)),
    o0 (.store 1 (.t 34) (.t 33))]) (.keep [3, 6]))
  (.seq (.seq (.ops [o1 35 (.loadN 3 (.t 3)),
    o1 7 (.alloc [.nils, (.I 0), .nils]),
    o0 (.store 3 (.t 7) (.t 35))]) (.keep [3, 6, 7]))
  (.seq (.seq (.ops [o1 36 (.fldA 0 (.t 3)),
    o1 37 (.load (.t 36)),
    o1 38 (.slice 1 (.t 37) (some (.c (.I 1))) none none),
    o1 39 (.fldA 0 (.t 7)),
    o0 (.store 1 (.t 39) (.t 38))]) (.keep [3, 6, 7]))
  (.seq (.seq (.ops [o1 40 (.loadN 3 (.t 3)),
    o1 8 (.alloc [.nils, (.I 0), .nils]),
    o0 (.store 3 (.t 8) (.t 40))]) (.keep [6, 7, 8]))
  (.seq (.seq (.ops [o1 41 (.fldA 1 (.t 8)),
    o0 (.store 1 (.t 41) (.c (.I (-2147483647))))]) (.keep [6, 7, 8]))
  (.seq (.seq (.ops [o1 42 (.loadN 3 (.t 6)),
    o1 43 (.call f_iMachineValid [(.t 42)]),
    o1 44 (.un .not (.t 43)),
    o1 45 (.mv (.t 44)),
    ⟨some 46, (some (45, true)), [], false, .loadN 3 (.t 7)⟩,
    ⟨some 47, (some (45, true)), [], false, .call f_iMachineValid [(.t 46)]⟩,
    ⟨some 48, (some (45, true)), [], false, .un .not (.t 47)⟩,
    o1 49 (.pick (.t 45) (.t 48) (.c (.b false))),
    o1 50 (.mv (.t 49)),
    ⟨some 51, (some (50, true)), [], false, .loadN 3 (.t 8)⟩,
    ⟨some 52, (some (50, true)), [], false, .call f_iMachineValid [(.t 51)]⟩,
    o1 53 (.pick (.t 50) (.t 52) (.c (.b false))),
    o1 2 (.mv (.t 53))]) (.keep [2]))
  (.ret))))))))))))), [.t 2]⟩

/- loop.example/cothreads/laws.szMachine -/
def c_wszMachine : AFn := ⟨2, .seq (.seq (.ops [o1 2 (.box (.t 0)),
    o1 4 (.mv (.c (.I 0)))]) (.keep [1, 2]))
  (.seq (.seq (.ops [o1 5 (.fldA 0 (.t 2)),
    o1 6 (.load (.t 5)),
    o1 7 (.mv (.t 1)),
    o1 8 (.call f_wszIntS [(.t 6), (.t 7)]),
    o1 1 (.mv (.t 8))]) (.keep [1, 2]))
  (.seq (.seq (.seq (.ops [o1 9 (.mv (.t 1)),
    o1 10 (.bin .lss (.t 9) (.c (.I 0)))]) (.keep [1, 2, 10]))
  (.seq (.cond (.t 10)
  (.seq (.ops [o1 4 (.mv (.c (.I (-1))))])
  (.ret))
  (.skip)) (.keep [1, 2])))
  (.seq (.seq (.ops [o1 11 (.fldA 2 (.t 2)),
    o1 12 (.load (.t 11)),
    o1 13 (.mv (.t 1)),
    o1 14 (.call f_wszIntS [(.t 12), (.t 13)]),
    o1 1 (.mv (.t 14))]) (.keep [1]))
  (.seq (.seq (.seq (.ops [o1 15 (.mv (.t 1)),
    o1 16 (.bin .lss (.t 15) (.c (.I 0)))]) (.keep [1, 16]))
  (.seq (.cond (.t 16)
  (.seq (.ops [o1 4 (.mv (.c (.I (-1))))])
  (.ret))
  (.skip)) (.keep [1])))
  (.seq (.seq (.ops [o1 17 (.mv (.t 1)),
    o1 4 (.mv (.t 17))]) (.keep [4]))
  (.ret)))))), [.t 4]⟩

/- loop.example/cothreads/spec.MachineValid -/
def c_sMachineValid : AFn := ⟨1, .seq (.seq (.ops [o1 1 (.box (.t 0)),
    o1 2 (.mv (.c (.b false)))]) (.keep [1]))
  (.seq (.seq (.ops [o1 3 (.fldA 0 (.t 1)),
    o1 4 (.load (.t 3)),
    o1 5 (.call f_sl4Words [(.t 4), (.c (.I 32))]),
    o1 6 (.mv (.t 5)),
    ⟨some 7, (some (6, true)), [], false, .fldA 0 (.t 1)⟩,
    ⟨some 8, (some (6, true)), [], false, .load (.t 7)⟩,
    ⟨some 9, (some (6, true)), [], false, .idxA 1 (.t 8) (.c (.I 0))⟩,
    ⟨some 10, (some (6, true)), [], false, .load (.t 9)⟩,
    ⟨some 11, (some (6, true)), [], false, .bin .eql (.t 10) (.c (.I 0))⟩,
    o1 12 (.pick (.t 6) (.t 11) (.c (.b false))),
    o1 13 (.mv (.t 12)),
    ⟨some 14, (some (13, true)), [], false, .fldA 1 (.t 1)⟩,
    ⟨some 15, (some (13, true)), [], false, .load (.t 14)⟩,
    ⟨some 16, (some (13, true)), [], false, .call f_sWordValid [(.t 15)]⟩,
    o1 17 (.pick (.t 13) (.t 16) (.c (.b false))),
    o1 18 (.mv (.t 17)),
    ⟨some 19, (some (18, true)), [], false, .fldA 2 (.t 1)⟩,
    ⟨some 20, (some (18, true)), [], false, .load (.t 19)⟩,
    ⟨some 21, (some (18, true)), [], false, .len (.t 20)⟩,
    ⟨some 22, (some (18, true)), [], false, .bin .leq (.t 21) (.c (.I 10000))⟩,
    o1 23 (.pick (.t 18) (.t 22) (.c (.b false))),
    o1 24 (.mv (.t 23)),
    ⟨some 25, (some (24, true)), [], false, .fldA 2 (.t 1)⟩,
    ⟨some 26, (some (24, true)), [], false, .load (.t 25)⟩,
    ⟨some 27, (some (24, true)), [], false, .fldA 2 (.t 1)⟩,
    ⟨some 28, (some (24, true)), [], false, .load (.t 27)⟩,
    ⟨some 29, (some (24, true)), [], false, .len (.t 28)⟩,
    ⟨some 30, (some (24, true)), [], false, .call f_sl4Words [(.t 26), (.t 29)]⟩,
    o1 31 (.pick (.t 24) (.t 30) (.c (.b false))),
    o1 2 (.mv (.t 31))]) (.keep [2]))
  (.ret)), [.t 2]⟩

/- loop.example/cothreads/laws.toMachine -/
def c_wtoMachine : AFn := ⟨1, .seq (.ops [o1 1 (.box (.t 0)),
    o1 2 (.alloc [.nils, (.I 0), .nils])])
  (.seq (.ops [o1 3 (.alloc [.nils, (.I 0), .nils])])
  (.seq (.seq (.ops [o1 4 (.fldA 0 (.t 1)),
    o1 5 (.load (.t 4)),
    o1 6 (.call f_wtoIntS [(.t 5)]),
    o1 7 (.fldA 0 (.t 3)),
    o0 (.store 1 (.t 7) (.t 6))]) (.keep [1, 2, 3]))
  (.seq (.seq (.ops [o1 8 (.fldA 1 (.t 1)),
    o1 9 (.load (.t 8)),
    o1 10 (.fldA 1 (.t 3)),
    o0 (.store 1 (.t 10) (.t 9))]) (.keep [1, 2, 3]))
  (.seq (.seq (.ops [o1 11 (.fldA 2 (.t 1)),
    o1 12 (.load (.t 11)),
    o1 13 (.call f_wtoIntS [(.t 12)]),
    o1 14 (.fldA 2 (.t 3)),
    o0 (.store 1 (.t 14) (.t 13))]) (.keep [2, 3]))
  (.seq (.seq (.ops [o1 15 (.loadN 3 (.t 3)),
    o0 (.store 3 (.t 2) (.t 15))]) (.keep [2]))
  (.ret)))))), [.c 2 3]⟩

/- loop.example/cothreads/impl.MachineValid -/
def c_iMachineValid : AFn := ⟨1, .seq (.seq (.ops [o1 1 (.box (.t 0)),
    o1 2 (.mv (.c (.b false)))]) (.keep [1]))
  (.seq (.seq (.ops [o1 3 (.fldA 0 (.t 1)),
    o1 4 (.load (.t 3)),
    o1 5 (.len (.t 4)),
    o1 6 (.bin .eql (.t 5) (.c (.I 32))),
    o1 7 (.mv (.t 6)),
    ⟨some 8, (some (7, true)), [], false, .fldA 0 (.t 1)⟩,
    ⟨some 9, (some (7, true)), [], false, .load (.t 8)⟩,
    ⟨some 10, (some (7, true)), [], false, .call f_iareWords [(.t 9)]⟩,
    o1 11 (.pick (.t 7) (.t 10) (.c (.b false))),
    o1 12 (.mv (.t 11)),
    ⟨some 13, (some (12, true)), [], false, .fldA 0 (.t 1)⟩,
    ⟨some 14, (some (12, true)), [], false, .load (.t 13)⟩,
    ⟨some 15, (some (12, true)), [], false, .idxA 1 (.t 14) (.c (.I 0))⟩,
    ⟨some 16, (some (12, true)), [], false, .load (.t 15)⟩,
    ⟨some 17, (some (12, true)), [], false, .bin .eql (.t 16) (.c (.I 0))⟩,
    o1 18 (.pick (.t 12) (.t 17) (.c (.b false))),
    o1 19 (.mv (.t 18)),
    ⟨some 20, (some (19, true)), [], false, .fldA 1 (.t 1)⟩,
    ⟨some 21, (some (19, true)), [], false, .load (.t 20)⟩,
    ⟨some 22, (some (19, true)), [], false, .call f_iWordValid [(.t 21)]⟩,
    o1 23 (.pick (.t 19) (.t 22) (.c (.b false))),
    o1 24 (.mv (.t 23)),
    ⟨some 25, (some (24, true)), [], false, .fldA 2 (.t 1)⟩,
    ⟨some 26, (some (24, true)), [], false, .load (.t 25)⟩,
    ⟨some 27, (some (24, true)), [], false, .len (.t 26)⟩,
    ⟨some 28, (some (24, true)), [], false, .bin .leq (.t 27) (.c (.I 10000))⟩,
    o1 29 (.pick (.t 24) (.t 28) (.c (.b false))),
    o1 30 (.mv (.t 29)),
    ⟨some 31, (some (30, true)), [], false, .fldA 2 (.t 1)⟩,
    ⟨some 32, (some (30, true)), [], false, .load (.t 31)⟩,
    ⟨some 33, (some (30, true)), [], false, .call f_iareWords [(.t 32)]⟩,
    o1 34 (.pick (.t 30) (.t 33) (.c (.b false))),
    o1 2 (.mv (.t 34))]) (.keep [2]))
  (.ret)), [.t 2]⟩

/- loop.example/cothreads/laws.eqMachine -/
def c_weqMachine : AFn := ⟨2, .seq (.seq (.ops [o1 2 (.box (.t 0)),
    o1 3 (.box (.t 1)),
    o1 4 (.mv (.c (.b false)))]) (.keep [2, 3]))
  (.seq (.seq (.seq (.ops [o1 5 (.fldA 0 (.t 2)),
    o1 6 (.load (.t 5)),
    o1 7 (.fldA 0 (.t 3)),
    o1 8 (.load (.t 7)),
    o1 9 (.call f_weqIntS [(.t 6), (.t 8)]),
    o1 10 (.un .not (.t 9))]) (.keep [2, 3, 10]))
  (.seq (.cond (.t 10)
  (.seq (.ops [o1 4 (.mv (.c (.b false)))])
  (.ret))
  (.skip)) (.keep [2, 3])))
  (.seq (.seq (.seq (.ops [o1 11 (.fldA 1 (.t 2)),
    o1 12 (.load (.t 11)),
    o1 13 (.fldA 1 (.t 3)),
    o1 14 (.load (.t 13)),
    o1 15 (.bin .neq (.t 12) (.t 14))]) (.keep [2, 3, 15]))
  (.seq (.cond (.t 15)
  (.seq (.ops [o1 4 (.mv (.c (.b false)))])
  (.ret))
  (.skip)) (.keep [2, 3])))
  (.seq (.seq (.seq (.ops [o1 16 (.fldA 2 (.t 2)),
    o1 17 (.load (.t 16)),
    o1 18 (.fldA 2 (.t 3)),
    o1 19 (.load (.t 18)),
    o1 20 (.call f_weqIntS [(.t 17), (.t 19)]),
    o1 21 (.un .not (.t 20))]) (.keep [21]))
  (.seq (.cond (.t 21)
  (.seq (.ops [o1 4 (.mv (.c (.b false)))])
  (.ret))
  (.skip)) (.keep [])))
  (.seq (.ops [o1 4 (.mv (.c (.b true)))])
  (.ret))))), [.t 4]⟩

/- loop.example/cothreads/spec.DrawConstInstrs -/
def c_sDrawConstInstrs : AFn := ⟨1, .seq (.seq (.ops [o1 2 (.mv (.c (.I 0))),
    o1 3 (.mv (.c (.I 0)))]) (.keep [0]))
  (.seq (.seq (.ops [o1 7 (.mv (.t 0)),
    o1 8 (.call f_sl6Open [(.t 7)]),
    o1 4 (.mv (.t 8))]) (.keep [4]))
  (.seq (.seq (.ops [o1 9 (.mv (.t 4)),
    o1 10 (.call f_sl6Rd_pick [(.t 9), (.c (.I 31))]),
    o1 11 (.bin .add (.c (.I 1)) (.t 10)),
    o1 5 (.mv (.t 11))]) (.keep [4, 5]))
  (.seq (.seq (.ops [o1 12 (.mv (.t 4)),
    o1 13 (.call f_sl91Word [(.t 12)]),
    o1 6 (.mv (.t 13))]) (.keep [4, 5, 6]))
  (.seq (.seq (.seq (.ops [o1 14 (.mv (.t 4)),
    o1 15 (.call f_sl6Rd_pick [(.t 14), (.c (.I 16))])]) (.keep [4, 5, 6, 15]))
  (.seq (.block 0 (.seq (.seq (.ops [o1 17 (.bin .eql (.t 15) (.c (.I 0))),
    o1 16 (.mv (.t 17))]) (.keep [4, 5, 6, 15, 16]))
  (.seq (.cond (.t 16)
  (.seq (.ops [o1 18 (.bsl [(.I 0), (.I 0)] 2 [(0, 1, (.c (.I 0))), (1, 1, (.c (.I 32)))]),
    o1 19 (.mv (.t 4)),
    o1 20 (.call f_sl6Rd_pick [(.t 19), (.c (.I 2))]),
    o1 21 (.idxA 1 (.t 18) (.t 20)),
    o1 22 (.load (.t 21)),
    o1 5 (.mv (.t 22))]) (.keep [5, 6]))
  (.seq (.seq (.seq (.ops [o1 24 (.bin .eql (.t 15) (.c (.I 1))),
    o1 23 (.mv (.t 24))]) (.keep [4, 5, 6, 15, 23]))
  (.seq (.cond (.t 23)
  (.skip)
  (.seq (.seq (.ops [o1 25 (.bin .eql (.t 15) (.c (.I 2))),
    o1 23 (.mv (.t 25))]) (.keep [4, 5, 6, 15, 23]))
  (.seq (.cond (.t 23)
  (.skip)
  (.seq (.ops [o1 26 (.bin .eql (.t 15) (.c (.I 3))),
    o1 23 (.mv (.t 26))]) (.keep [4, 5, 6, 15, 23]))) (.keep [4, 5, 6, 15, 23])))) (.keep [4, 5, 6, 15, 23])))
  (.seq (.cond (.t 23)
  (.seq (.ops [o1 27 (.bsl [(.I 0), (.I 0), (.I 0), (.I 0), (.I 0), (.I 0), (.I 0), (.I 0), (.I 0)] 9 [(0, 1, (.c (.I (-2048)))), (1, 1, (.c (.I 2047))), (2, 1, (.c (.I 2048))), (3, 1, (.c (.I (-2049)))), (4, 1, (.c (.I 4095))), (5, 1, (.c (.I 4096))), (6, 1, (.c (.I 6144))), (7, 1, (.c (.I 2147481600))), (8, 1, (.c (.I 2147481599)))]),
    o1 28 (.mv (.t 4)),
    o1 29 (.call f_sl6Rd_pick [(.t 28), (.c (.I 9))]),
    o1 30 (.idxA 1 (.t 27) (.t 29)),
    o1 31 (.load (.t 30)),
    o1 6 (.mv (.t 31))]) (.keep [5, 6]))
  (.seq (.seq (.ops [o1 33 (.bin .eql (.t 15) (.c (.I 4))),
    o1 32 (.mv (.t 33))]) (.keep [5, 6, 32]))
  (.seq (.cond (.t 32)
  (.ops [o1 6 (.mv (.c (.I 2147483648)))])
  (.skip)) (.keep [5, 6])))) (.keep [5, 6])))) (.keep [5, 6])))) (.keep [5, 6])))
  (.seq (.seq (.ops [o1 34 (.mv (.t 5)),
    o1 35 (.mv (.t 6)),
    o1 2 (.mv (.t 34)),
    o1 3 (.mv (.t 35))]) (.keep [2, 3]))
  (.ret)))))), [.t 2, .t 3]⟩

/- loop.example/cothreads/impl.ConstInstrs -/
def c_iConstInstrs : AFn := ⟨2, .seq (.seq (.ops [o1 4 (.mv (.c .nils)),
    o1 5 (.mv (.c (.b false)))]) (.keep [0, 1]))
  (.seq (.seq (.seq (.ops [o1 6 (.mv (.t 0)),
    o1 7 (.bin .lss (.t 6) (.c (.I 1))),
    o1 8 (.mv (.t 7)),
    ⟨some 9, (some (8, false)), [], false, .mv (.t 0)⟩,
    ⟨some 10, (some (8, false)), [], false, .bin .gtr (.t 9) (.c (.I 31))⟩,
    o1 11 (.pick (.t 8) (.c (.b true)) (.t 10)),
    o1 12 (.mv (.t 11)),
    ⟨some 13, (some (12, false)), [], false, .mv (.t 1)⟩,
    ⟨some 14, (some (12, false)), [], false, .call f_iWordValid [(.t 13)]⟩,
    ⟨some 15, (some (12, false)), [], false, .un .not (.t 14)⟩,
    o1 16 (.pick (.t 12) (.c (.b true)) (.t 15))]) (.keep [0, 1, 16]))
  (.seq (.cond (.t 16)
  (.seq (.ops [o1 4 (.mv (.c .nils)),
    o1 5 (.mv (.c (.b false)))])
  (.ret))
  (.skip)) (.keep [0, 1])))
  (.seq (.seq (.ops [o1 17 (.mv (.t 0)),
    o1 18 (.mv (.t 1)),
    o1 19 (.call f_iconstInstrs [(.t 17), (.t 18)]),
    o1 4 (.mv (.t 19)),
    o1 5 (.mv (.c (.b true)))]) (.keep [4, 5]))
  (.ret))), [.t 4, .t 5]⟩

/- loop.example/cothreads/spec.ConstInstrs -/
def c_sConstInstrs : AFn := ⟨2, .seq (.seq (.ops [o1 4 (.mv (.c .nils)),
    o1 5 (.mv (.c (.b false)))]) (.keep [0, 1]))
  (.seq (.seq (.seq (.ops [o1 6 (.mv (.t 0)),
    o1 7 (.call f_sl6In [(.t 6), (.c (.I 1)), (.c (.I 31))]),
    o1 8 (.un .not (.t 7)),
    o1 9 (.mv (.t 8)),
    ⟨some 10, (some (9, false)), [], false, .mv (.t 1)⟩,
    ⟨some 11, (some (9, false)), [], false, .call f_sWordValid [(.t 10)]⟩,
    ⟨some 12, (some (9, false)), [], false, .un .not (.t 11)⟩,
    o1 13 (.pick (.t 9) (.c (.b true)) (.t 12))]) (.keep [0, 1, 13]))
  (.seq (.cond (.t 13)
  (.seq (.seq (.ops [o1 14 (.bsl [] 0 []),
    o1 4 (.mv (.t 14)),
    o1 5 (.mv (.c (.b false)))]) (.keep [4, 5]))
  (.ret))
  (.skip)) (.keep [0, 1])))
  (.seq (.seq (.ops [o1 15 (.mv (.t 0)),
    o1 16 (.mv (.t 1)),
    o1 17 (.call f_sl43Const [(.t 15), (.t 16)]),
    o1 4 (.mv (.t 17)),
    o1 5 (.mv (.c (.b true)))]) (.keep [4, 5]))
  (.ret))), [.t 4, .t 5]⟩

/- loop.example/cothreads/laws.sameInstrs -/
def c_wsameInstrs_l0 : AC := .seq (.seq (.seq (.seq (.ops [o1 11 (.mv (.t 5)),
    o1 12 (.mv (.t 0)),
    o1 13 (.len (.t 12)),
    o1 14 (.bin .lss (.t 11) (.t 13))]) (.keep [0, 1, 5, 14]))
  (.seq (.cond (.t 14)
  (.skip)
  (.exit 0)) (.keep [0, 1, 5])))
  (.seq (.seq (.block 1 (.seq (.seq (.ops [o1 17 (.mv (.t 0)),
    o1 18 (.mv (.t 5)),
    o1 19 (.idxA 5 (.t 17) (.t 18)),
    o1 20 (.loadN 5 (.t 19)),
    o1 21 (.mv (.t 1)),
    o1 22 (.mv (.t 5)),
    o1 23 (.idxA 5 (.t 21) (.t 22)),
    o1 24 (.loadN 5 (.t 23)),
    o1 25 (.eqA 5 true (.t 20) (.t 24))]) (.keep [0, 1, 5, 25]))
  (.seq (.cond (.t 25)
  (.seq (.ops [o1 4 (.mv (.c (.b false)))])
  (.ret))
  (.skip)) (.keep [0, 1, 5])))) (.keep [0, 1, 5]))
  (.seq (.ops [o1 15 (.mv (.t 5)),
    o1 16 (.bin .add (.t 15) (.c (.I 1))),
    o1 5 (.mv (.t 16))]) (.keep [0, 1, 5])))) (.keep [0, 1, 5])
def c_wsameInstrs : AFn := ⟨2, .seq (.seq (.ops [o1 4 (.mv (.c (.b false)))]) (.keep [0, 1]))
  (.seq (.seq (.seq (.ops [o1 6 (.mv (.t 0)),
    o1 7 (.len (.t 6)),
    o1 8 (.mv (.t 1)),
    o1 9 (.len (.t 8)),
    o1 10 (.bin .neq (.t 7) (.t 9))]) (.keep [0, 1, 10]))
  (.seq (.cond (.t 10)
  (.seq (.ops [o1 4 (.mv (.c (.b false)))])
  (.ret))
  (.skip)) (.keep [0, 1])))
  (.seq (.seq (.ops [o1 5 (.mv (.c (.I 0)))])
  (.seq (.block 0 (.seq (.keep [0, 1, 5]) (.loop c_wsameInstrs_l0))) (.keep [])))
  (.seq (.ops [o1 4 (.mv (.c (.b true)))])
  (.ret)))), [.t 4]⟩

/- loop.example/cothreads/impl.Wrap -/
def c_iWrap : AFn := ⟨1, .seq (.seq (.ops [o1 2 (.mv (.c (.I 0)))]) (.keep [0]))
  (.seq (.seq (.ops [o1 3 (.mv (.t 0)),
    o1 4 (.conv .i32 (.t 3)),
    o1 5 (.conv .i64 (.t 4)),
    o1 2 (.mv (.t 5))]) (.keep [2]))
  (.ret)), [.t 2]⟩

/- loop.example/cothreads/laws.eqInstrS -/
def c_weqInstrS_l0 : AC := .seq (.seq (.seq (.seq (.ops [o1 11 (.mv (.t 5)),
    o1 12 (.mv (.t 0)),
    o1 13 (.len (.t 12)),
    o1 14 (.bin .lss (.t 11) (.t 13))]) (.keep [0, 1, 5, 14]))
  (.seq (.cond (.t 14)
  (.skip)
  (.exit 0)) (.keep [0, 1, 5])))
  (.seq (.seq (.block 1 (.seq (.seq (.ops [o1 17 (.mv (.t 0)),
    o1 18 (.mv (.t 5)),
    o1 19 (.idxA 5 (.t 17) (.t 18)),
    o1 20 (.loadN 5 (.t 19)),
    o1 21 (.mv (.t 1)),
    o1 22 (.mv (.t 5)),
    o1 23 (.idxA 5 (.t 21) (.t 22)),
    o1 24 (.loadN 5 (.t 23)),
    ⟨some 25, none, [], true, .call f_weqInstr [(.t 20), (.t 24)]⟩,
    o1 26 (.un .not (.t 25))]) (.keep [0, 1, 5, 26]))
  (.seq (.cond (.t 26)
  (.seq (.ops [o1 4 (.mv (.c (.b false)))])
  (.ret))
  (.skip)) (.keep [0, 1, 5])))) (.keep [0, 1, 5]))
  (.seq (.ops [o1 15 (.mv (.t 5)),
    o1 16 (.bin .add (.t 15) (.c (.I 1))),
    o1 5 (.mv (.t 16))]) (.keep [0, 1, 5])))) (.keep [0, 1, 5])
def c_weqInstrS : AFn := ⟨2, .seq (.seq (.ops [o1 4 (.mv (.c (.b false)))]) (.keep [0, 1]))
  (.seq (.seq (.seq (.ops [o1 6 (.mv (.t 0)),
    o1 7 (.len (.t 6)),
    o1 8 (.mv (.t 1)),
    o1 9 (.len (.t 8)),
    o1 10 (.bin .neq (.t 7) (.t 9))]) (.keep [0, 1, 10]))
  (.seq (.cond (.t 10)
  (.seq (.ops [o1 4 (.mv (.c (.b false)))])
  (.ret))
  (.skip)) (.keep [0, 1])))
  (.seq (.seq (.ops [o1 5 (.mv (.c (.I 0)))])
  (.seq (.block 0 (.seq (.keep [0, 1, 5]) (.loop c_weqInstrS_l0))) (.keep [])))
  (.seq (.ops [o1 4 (.mv (.c (.b true)))])
  (.ret)))), [.t 4]⟩

/- loop.example/cothreads/laws.markInstrS -/
def c_wmarkInstrS_l0 : AC := .seq (.seq (.seq (.seq (.ops [o1 6 (.mv (.t 5)),
    o1 7 (.mv (.t 0)),
    o1 8 (.len (.t 7)),
    o1 9 (.bin .lss (.t 6) (.t 8))]) (.keep [0, 1, 5, 9]))
  (.seq (.cond (.t 9)
  (.skip)
  (.exit 0)) (.keep [0, 1, 5])))
  (.seq (.seq (.block 1 (.seq (.seq (.ops [o1 12 (.mv (.t 0)),
    o1 13 (.mv (.t 5)),
    o1 14 (.mv (.t 1)),
    o1 15 (.idxA 5 (.t 12) (.t 13)),
    o1 16 (.fldA 0 (.t 15)),
    o0 (.store 1 (.t 16) (.t 14))]) (.keep [0, 1, 5]))
  (.seq (.seq (.ops [o1 17 (.mv (.t 1)),
    o1 18 (.bin .add (.t 17) (.c (.I 1))),
    o1 1 (.mv (.t 18))]) (.keep [0, 1, 5]))
  (.seq (.seq (.ops [o1 19 (.mv (.t 0)),
    o1 20 (.mv (.t 5)),
    o1 21 (.mv (.t 1)),
    o1 22 (.idxA 5 (.t 19) (.t 20)),
    o1 23 (.fldA 1 (.t 22)),
    o0 (.store 1 (.t 23) (.t 21))]) (.keep [0, 1, 5]))
  (.seq (.seq (.ops [o1 24 (.mv (.t 1)),
    o1 25 (.bin .add (.t 24) (.c (.I 1))),
    o1 1 (.mv (.t 25))]) (.keep [0, 1, 5]))
  (.seq (.seq (.ops [o1 26 (.mv (.t 0)),
    o1 27 (.mv (.t 5)),
    o1 28 (.mv (.t 1)),
    o1 29 (.idxA 5 (.t 26) (.t 27)),
    o1 30 (.fldA 2 (.t 29)),
    o0 (.store 1 (.t 30) (.t 28))]) (.keep [0, 1, 5]))
  (.seq (.seq (.ops [o1 31 (.mv (.t 1)),
    o1 32 (.bin .add (.t 31) (.c (.I 1))),
    o1 1 (.mv (.t 32))]) (.keep [0, 1, 5]))
  (.seq (.seq (.ops [o1 33 (.mv (.t 0)),
    o1 34 (.mv (.t 5)),
    o1 35 (.mv (.t 1)),
    o1 36 (.idxA 5 (.t 33) (.t 34)),
    o1 37 (.fldA 3 (.t 36)),
    o0 (.store 1 (.t 37) (.t 35))]) (.keep [0, 1, 5]))
  (.seq (.seq (.ops [o1 38 (.mv (.t 1)),
    o1 39 (.bin .add (.t 38) (.c (.I 1))),
    o1 1 (.mv (.t 39))]) (.keep [0, 1, 5]))
  (.seq (.seq (.ops [o1 40 (.mv (.t 0)),
    o1 41 (.mv (.t 5)),
    o1 42 (.mv (.t 1)),
    o1 43 (.idxA 5 (.t 40) (.t 41)),
    o1 44 (.fldA 4 (.t 43)),
    o0 (.store 1 (.t 44) (.t 42))]) (.keep [0, 1, 5]))
  (.seq (.ops [o1 45 (.mv (.t 1)),
    o1 46 (.bin .add (.t 45) (.c (.I 1))),
    o1 1 (.mv (.t 46))]) (.keep [0, 1, 5])))))))))))) (.keep [0, 1, 5]))
  (.seq (.ops [o1 10 (.mv (.t 5)),
    o1 11 (.bin .add (.t 10) (.c (.I 1))),
    o1 5 (.mv (.t 11))]) (.keep [0, 1, 5])))) (.keep [0, 1, 5])
def c_wmarkInstrS : AFn := ⟨2, .seq (.seq (.ops [o1 4 (.mv (.c (.I 0)))]) (.keep [0, 1]))
  (.seq (.seq (.ops [o1 5 (.mv (.c (.I 0)))])
  (.seq (.block 0 (.seq (.keep [0, 1, 5]) (.loop c_wmarkInstrS_l0))) (.keep [1])))
  (.seq (.seq (.ops [o1 47 (.mv (.t 1)),
    o1 4 (.mv (.t 47))]) (.keep [4]))
  (.ret))), [.t 4]⟩

/- loop.example/cothreads/laws.heldInstrS -/
def c_wheldInstrS_l0 : AC := .seq (.seq (.seq (.seq (.ops [o1 6 (.mv (.t 5)),
    o1 7 (.mv (.t 0)),
    o1 8 (.len (.t 7)),
    o1 9 (.bin .lss (.t 6) (.t 8))]) (.keep [0, 1, 5, 9]))
  (.seq (.cond (.t 9)
  (.skip)
  (.exit 0)) (.keep [0, 1, 5])))
  (.seq (.seq (.block 1 (.seq (.seq (.seq (.ops [o1 12 (.mv (.t 0)),
    o1 13 (.mv (.t 5)),
    o1 14 (.idxA 5 (.t 12) (.t 13)),
    o1 15 (.fldA 0 (.t 14)),
    o1 16 (.load (.t 15)),
    o1 17 (.mv (.t 1)),
    o1 18 (.bin .neq (.t 16) (.t 17))]) (.keep [0, 1, 5, 18]))
  (.seq (.cond (.t 18)
  (.seq (.ops [o1 4 (.mv (.c (.I (-1))))])
  (.ret))
  (.skip)) (.keep [0, 1, 5])))
  (.seq (.seq (.ops [o1 19 (.mv (.t 1)),
    o1 20 (.bin .add (.t 19) (.c (.I 1))),
    o1 1 (.mv (.t 20))]) (.keep [0, 1, 5]))
  (.seq (.seq (.seq (.ops [o1 21 (.mv (.t 0)),
    o1 22 (.mv (.t 5)),
    o1 23 (.idxA 5 (.t 21) (.t 22)),
    o1 24 (.fldA 1 (.t 23)),
    o1 25 (.load (.t 24)),
    o1 26 (.mv (.t 1)),
    o1 27 (.bin .neq (.t 25) (.t 26))]) (.keep [0, 1, 5, 27]))
  (.seq (.cond (.t 27)
  (.seq (.ops [o1 4 (.mv (.c (.I (-1))))])
  (.ret))
  (.skip)) (.keep [0, 1, 5])))
  (.seq (.seq (.ops [o1 28 (.mv (.t 1)),
    o1 29 (.bin .add (.t 28) (.c (.I 1))),
    o1 1 (.mv (.t 29))]) (.keep [0, 1, 5]))
  (.seq (.seq (.seq (.ops [o1 30 (.mv (.t 0)),
    o1 31 (.mv (.t 5)),
    o1 32 (.idxA 5 (.t 30) (.t 31)),
    o1 33 (.fldA 2 (.t 32)),
    o1 34 (.load (.t 33)),
    o1 35 (.mv (.t 1)),
    o1 36 (.bin .neq (.t 34) (.t 35))]) (.keep [0, 1, 5, 36]))
  (.seq (.cond (.t 36)
  (.seq (.ops [o1 4 (.mv (.c (.I (-1))))])
  (.ret))
  (.skip)) (.keep [0, 1, 5])))
  (.seq (.seq (.ops [o1 37 (.mv (.t 1)),
    o1 38 (.bin .add (.t 37) (.c (.I 1))),
    o1 1 (.mv (.t 38))]) (.keep [0, 1, 5]))
  (.seq (.seq (.seq (.ops [o1 39 (.mv (.t 0)),
    o1 40 (.mv (.t 5)),
    o1 41 (.idxA 5 (.t 39) (.t 40)),
    o1 42 (.fldA 3 (.t 41)),
    o1 43 (.load (.t 42)),
    o1 44 (.mv (.t 1)),
    o1 45 (.bin .neq (.t 43) (.t 44))]) (.keep [0, 1, 5, 45]))
  (.seq (.cond (.t 45)
  (.seq (.ops [o1 4 (.mv (.c (.I (-1))))])
  (.ret))
  (.skip)) (.keep [0, 1, 5])))
  (.seq (.seq (.ops [o1 46 (.mv (.t 1)),
    o1 47 (.bin .add (.t 46) (.c (.I 1))),
    o1 1 (.mv (.t 47))]) (.keep [0, 1, 5]))
  (.seq (.seq (.seq (.ops [o1 48 (.mv (.t 0)),
    o1 49 (.mv (.t 5)),
    o1 50 (.idxA 5 (.t 48) (.t 49)),
    o1 51 (.fldA 4 (.t 50)),
    o1 52 (.load (.t 51)),
    o1 53 (.mv (.t 1)),
    o1 54 (.bin .neq (.t 52) (.t 53))]) (.keep [0, 1, 5, 54]))
  (.seq (.cond (.t 54)
  (.seq (.ops [o1 4 (.mv (.c (.I (-1))))])
  (.ret))
  (.skip)) (.keep [0, 1, 5])))
  (.seq (.ops [o1 55 (.mv (.t 1)),
    o1 56 (.bin .add (.t 55) (.c (.I 1))),
    o1 1 (.mv (.t 56))]) (.keep [0, 1, 5])))))))))))) (.keep [0, 1, 5]))
  (.seq (.ops [o1 10 (.mv (.t 5)),
    o1 11 (.bin .add (.t 10) (.c (.I 1))),
    o1 5 (.mv (.t 11))]) (.keep [0, 1, 5])))) (.keep [0, 1, 5])
def c_wheldInstrS : AFn := ⟨2, .seq (.seq (.ops [o1 4 (.mv (.c (.I 0)))]) (.keep [0, 1]))
  (.seq (.seq (.ops [o1 5 (.mv (.c (.I 0)))])
  (.seq (.block 0 (.seq (.keep [0, 1, 5]) (.loop c_wheldInstrS_l0))) (.keep [1])))
  (.seq (.seq (.ops [o1 57 (.mv (.t 1)),
    o1 4 (.mv (.t 57))]) (.keep [4]))
  (.ret))), [.t 4]⟩

/- loop.example/cothreads/impl.InstrValid -/
def c_iInstrValid : AFn := ⟨1, .seq (.seq (.ops [o1 1 (.box (.t 0)),
    o1 2 (.mv (.c (.b false)))]) (.keep [1]))
  (.seq (.seq (.ops [o1 7 (.fldA 1 (.t 1)),
    o1 8 (.load (.t 7)),
    ⟨some 9, none, [], true, .call f_iisMachineReg [(.t 8)]⟩,
    o1 10 (.fldA 2 (.t 1)),
    o1 11 (.load (.t 10)),
    ⟨some 12, none, [], true, .call f_iisMachineReg [(.t 11)]⟩,
    o1 13 (.fldA 3 (.t 1)),
    o1 14 (.load (.t 13)),
    ⟨some 15, none, [], true, .call f_iisMachineReg [(.t 14)]⟩,
    o1 3 (.mv (.t 9)),
    o1 4 (.mv (.t 12)),
    o1 5 (.mv (.t 15))]) (.keep [1, 3, 4, 5]))
  (.seq (.seq (.ops [o1 16 (.fldA 4 (.t 1)),
    o1 17 (.load (.t 16)),
    o1 18 (.bin .geq (.t 17) (.c (.I (-2048)))),
    o1 19 (.mv (.t 18)),
    ⟨some 20, (some (19, true)), [], false, .fldA 4 (.t 1)⟩,
    ⟨some 21, (some (19, true)), [], false, .load (.t 20)⟩,
    ⟨some 22, (some (19, true)), [], false, .bin .leq (.t 21) (.c (.I 2047))⟩,
    o1 23 (.pick (.t 19) (.t 22) (.c (.b false))),
    o1 6 (.mv (.t 23))]) (.keep [1, 3, 4, 5, 6]))
  (.seq (.seq (.seq (.ops [o1 24 (.fldA 0 (.t 1)),
    o1 25 (.load (.t 24)),
    o1 26 (.call f_iformatOf [(.t 25)])]) (.keep [1, 3, 4, 5, 6, 26]))
  (.seq (.block 0 (.seq (.seq (.ops [o1 28 (.bin .eql (.t 26) (.c (.i .u8 82))),
    o1 27 (.mv (.t 28))]) (.keep [1, 3, 4, 5, 6, 26, 27]))
  (.seq (.cond (.t 27)
  (.seq (.seq (.ops [o1 29 (.mv (.t 3)),
    o1 30 (.mv (.t 29)),
    ⟨some 31, (some (30, true)), [], false, .mv (.t 4)⟩,
    o1 32 (.pick (.t 30) (.t 31) (.c (.b false))),
    o1 33 (.mv (.t 32)),
    ⟨some 34, (some (33, true)), [], false, .mv (.t 5)⟩,
    o1 35 (.pick (.t 33) (.t 34) (.c (.b false))),
    o1 36 (.mv (.t 35)),
    ⟨some 37, (some (36, true)), [], false, .fldA 4 (.t 1)⟩,
    ⟨some 38, (some (36, true)), [], false, .load (.t 37)⟩,
    ⟨some 39, (some (36, true)), [], false, .bin .eql (.t 38) (.c (.I 0))⟩,
    o1 40 (.pick (.t 36) (.t 39) (.c (.b false))),
    o1 2 (.mv (.t 40))]) (.keep [2]))
  (.ret))
  (.seq (.seq (.ops [o1 42 (.bin .eql (.t 26) (.c (.i .u8 73))),
    o1 41 (.mv (.t 42))]) (.keep [1, 3, 4, 5, 6, 26, 41]))
  (.seq (.cond (.t 41)
  (.seq (.seq (.ops [o1 43 (.mv (.t 3)),
    o1 44 (.mv (.t 43)),
    ⟨some 45, (some (44, true)), [], false, .mv (.t 4)⟩,
    o1 46 (.pick (.t 44) (.t 45) (.c (.b false))),
    o1 47 (.mv (.t 46)),
    ⟨some 48, (some (47, true)), [], false, .fldA 3 (.t 1)⟩,
    ⟨some 49, (some (47, true)), [], false, .load (.t 48)⟩,
    ⟨some 50, (some (47, true)), [], false, .bin .eql (.t 49) (.c (.I 0))⟩,
    o1 51 (.pick (.t 47) (.t 50) (.c (.b false))),
    o1 52 (.mv (.t 51)),
    ⟨some 53, (some (52, true)), [], false, .mv (.t 6)⟩,
    o1 54 (.pick (.t 52) (.t 53) (.c (.b false))),
    o1 2 (.mv (.t 54))]) (.keep [2]))
  (.ret))
  (.seq (.seq (.ops [o1 56 (.bin .eql (.t 26) (.c (.i .u8 83))),
    o1 55 (.mv (.t 56))]) (.keep [1, 3, 4, 5, 6, 26, 55]))
  (.seq (.cond (.t 55)
  (.seq (.seq (.ops [o1 57 (.fldA 1 (.t 1)),
    o1 58 (.load (.t 57)),
    o1 59 (.bin .eql (.t 58) (.c (.I 0))),
    o1 60 (.mv (.t 59)),
    ⟨some 61, (some (60, true)), [], false, .mv (.t 4)⟩,
    o1 62 (.pick (.t 60) (.t 61) (.c (.b false))),
    o1 63 (.mv (.t 62)),
    ⟨some 64, (some (63, true)), [], false, .mv (.t 5)⟩,
    o1 65 (.pick (.t 63) (.t 64) (.c (.b false))),
    o1 66 (.mv (.t 65)),
    ⟨some 67, (some (66, true)), [], false, .mv (.t 6)⟩,
    o1 68 (.pick (.t 66) (.t 67) (.c (.b false))),
    o1 2 (.mv (.t 68))]) (.keep [2]))
  (.ret))
  (.seq (.seq (.ops [o1 70 (.bin .eql (.t 26) (.c (.i .u8 66))),
    o1 69 (.mv (.t 70))]) (.keep [1, 3, 4, 5, 26, 69]))
  (.seq (.cond (.t 69)
  (.seq (.seq (.ops [o1 71 (.fldA 1 (.t 1)),
    o1 72 (.load (.t 71)),
    o1 73 (.bin .eql (.t 72) (.c (.I 0))),
    o1 74 (.mv (.t 73)),
    ⟨some 75, (some (74, true)), [], false, .mv (.t 4)⟩,
    o1 76 (.pick (.t 74) (.t 75) (.c (.b false))),
    o1 77 (.mv (.t 76)),
    ⟨some 78, (some (77, true)), [], false, .mv (.t 5)⟩,
    o1 79 (.pick (.t 77) (.t 78) (.c (.b false))),
    o1 80 (.mv (.t 79)),
    ⟨some 81, (some (80, true)), [], false, .fldA 4 (.t 1)⟩,
    ⟨some 82, (some (80, true)), [], false, .load (.t 81)⟩,
    ⟨some 83, (some (80, true)), [], false, .bin .geq (.t 82) (.c (.I (-4096)))⟩,
    o1 84 (.pick (.t 80) (.t 83) (.c (.b false))),
    o1 85 (.mv (.t 84)),
    ⟨some 86, (some (85, true)), [], false, .fldA 4 (.t 1)⟩,
    ⟨some 87, (some (85, true)), [], false, .load (.t 86)⟩,
    ⟨some 88, (some (85, true)), [], false, .bin .leq (.t 87) (.c (.I 4094))⟩,
    o1 89 (.pick (.t 85) (.t 88) (.c (.b false))),
    o1 90 (.mv (.t 89)),
    ⟨some 91, (some (90, true)), [], false, .fldA 4 (.t 1)⟩,
    ⟨some 92, (some (90, true)), [], false, .load (.t 91)⟩,
    ⟨some 93, (some (90, true)), [], false, .bin .rem (.t 92) (.c (.I 2))⟩,
    ⟨some 94, (some (90, true)), [], false, .bin .eql (.t 93) (.c (.I 0))⟩,
    o1 95 (.pick (.t 90) (.t 94) (.c (.b false))),
    o1 2 (.mv (.t 95))]) (.keep [2]))
  (.ret))
  (.seq (.seq (.ops [o1 97 (.bin .eql (.t 26) (.c (.i .u8 85))),
    o1 96 (.mv (.t 97))]) (.keep [1, 3, 26, 96]))
  (.seq (.cond (.t 96)
  (.seq (.seq (.ops [o1 98 (.mv (.t 3)),
    o1 99 (.mv (.t 98)),
    ⟨some 100, (some (99, true)), [], false, .fldA 2 (.t 1)⟩,
    ⟨some 101, (some (99, true)), [], false, .load (.t 100)⟩,
    ⟨some 102, (some (99, true)), [], false, .bin .eql (.t 101) (.c (.I 0))⟩,
    o1 103 (.pick (.t 99) (.t 102) (.c (.b false))),
    o1 104 (.mv (.t 103)),
    ⟨some 105, (some (104, true)), [], false, .fldA 3 (.t 1)⟩,
    ⟨some 106, (some (104, true)), [], false, .load (.t 105)⟩,
    ⟨some 107, (some (104, true)), [], false, .bin .eql (.t 106) (.c (.I 0))⟩,
    o1 108 (.pick (.t 104) (.t 107) (.c (.b false))),
    o1 109 (.mv (.t 108)),
    ⟨some 110, (some (109, true)), [], false, .fldA 4 (.t 1)⟩,
    ⟨some 111, (some (109, true)), [], false, .load (.t 110)⟩,
    ⟨some 112, (some (109, true)), [], false, .bin .geq (.t 111) (.c (.I 0))⟩,
    o1 113 (.pick (.t 109) (.t 112) (.c (.b false))),
    o1 114 (.mv (.t 113)),
    ⟨some 115, (some (114, true)), [], false, .fldA 4 (.t 1)⟩,
    ⟨some 116, (some (114, true)), [], false, .load (.t 115)⟩,
    ⟨some 117, (some (114, true)), [], false, .bin .leq (.t 116) (.c (.I 1048575))⟩,
    o1 118 (.pick (.t 114) (.t 117) (.c (.b false))),
    o1 2 (.mv (.t 118))]) (.keep [2]))
  (.ret))
  (.seq (.seq (.ops [o1 120 (.bin .eql (.t 26) (.c (.i .u8 74))),
    o1 119 (.mv (.t 120))]) (.keep [1, 3, 26, 119]))
  (.seq (.cond (.t 119)
  (.seq (.seq (.ops [o1 121 (.mv (.t 3)),
    o1 122 (.mv (.t 121)),
    ⟨some 123, (some (122, true)), [], false, .fldA 2 (.t 1)⟩,
    ⟨some 124, (some (122, true)), [], false, .load (.t 123)⟩,
    ⟨some 125, (some (122, true)), [], false, .bin .eql (.t 124) (.c (.I 0))⟩,
    o1 126 (.pick (.t 122) (.t 125) (.c (.b false))),
    o1 127 (.mv (.t 126)),
    ⟨some 128, (some (127, true)), [], false, .fldA 3 (.t 1)⟩,
    ⟨some 129, (some (127, true)), [], false, .load (.t 128)⟩,
    ⟨some 130, (some (127, true)), [], false, .bin .eql (.t 129) (.c (.I 0))⟩,
    o1 131 (.pick (.t 127) (.t 130) (.c (.b false))),
    o1 132 (.mv (.t 131)),
    ⟨some 133, (some (132, true)), [], false, .fldA 4 (.t 1)⟩,
    ⟨some 134, (some (132, true)), [], false, .load (.t 133)⟩,
    ⟨some 135, (some (132, true)), [], false, .bin .geq (.t 134) (.c (.I (-1048576)))⟩,
    o1 136 (.pick (.t 132) (.t 135) (.c (.b false))),
    o1 137 (.mv (.t 136)),
    ⟨some 138, (some (137, true)), [], false, .fldA 4 (.t 1)⟩,
    ⟨some 139, (some (137, true)), [], false, .load (.t 138)⟩,
    ⟨some 140, (some (137, true)), [], false, .bin .leq (.t 139) (.c (.I 1048574))⟩,
    o1 141 (.pick (.t 137) (.t 140) (.c (.b false))),
    o1 142 (.mv (.t 141)),
    ⟨some 143, (some (142, true)), [], false, .fldA 4 (.t 1)⟩,
    ⟨some 144, (some (142, true)), [], false, .load (.t 143)⟩,
    ⟨some 145, (some (142, true)), [], false, .bin .rem (.t 144) (.c (.I 2))⟩,
    ⟨some 146, (some (142, true)), [], false, .bin .eql (.t 145) (.c (.I 0))⟩,
    o1 147 (.pick (.t 142) (.t 146) (.c (.b false))),
    o1 2 (.mv (.t 147))]) (.keep [2]))
  (.ret))
  (.seq (.seq (.ops [o1 149 (.bin .eql (.t 26) (.c (.i .u8 69))),
    o1 148 (.mv (.t 149))]) (.keep [1, 148]))
  (.seq (.cond (.t 148)
  (.seq (.seq (.ops [o1 150 (.loadN 5 (.t 1)),
    o1 151 (.build [(.I 0), (.I 0), (.I 0), (.I 0), (.I 0)] [(0, 1, (.c (.I 21)))]),
    o1 152 (.eqA 5 false (.t 150) (.t 151)),
    o1 2 (.mv (.t 152))]) (.keep [2]))
  (.ret))
  (.skip)) (.keep [])))) (.keep [])))) (.keep [])))) (.keep [])))) (.keep [])))) (.keep [])))) (.keep [])))) (.keep [])))
  (.seq (.ops [o1 2 (.mv (.c (.b false)))])
  (.ret))))), [.t 2]⟩

/- loop.example/cothreads/spec.DrawMachineValid -/
def c_sDrawMachineValid : AFn := ⟨1, .seq (.ops [o1 2 (.alloc [.nils, (.I 0), .nils])])
  (.seq (.seq (.ops [o1 3 (.mv (.t 0)),
    o1 4 (.call f_sl6Open [(.t 3)]),
    o1 5 (.call f_sl94Machine [(.t 4)]),
    o0 (.store 3 (.t 2) (.t 5))]) (.keep [2]))
  (.ret)), [.c 2 3]⟩

/- loop.example/cothreads/spec.DrawCompileExpr -/
def c_sDrawCompileExpr : AFn := ⟨1, .seq (.seq (.ops [o1 2 (.alloc [(.I 0), (.I 0), .nils]),
    o1 3 (.mv (.c (.I 0)))]) (.keep [0, 2]))
  (.seq (.seq (.ops [o1 6 (.mv (.t 0)),
    o1 7 (.call f_sl6Open [(.t 6)]),
    o1 4 (.mv (.t 7))]) (.keep [2, 4]))
  (.seq (.seq (.ops [o1 8 (.mv (.t 4)),
    o1 9 (.call f_sl91Spoilt [(.t 8)]),
    o1 5 (.alloc [(.I 0), (.I 0), .nils]),
    o0 (.store 3 (.t 5) (.t 9))]) (.keep [2, 4, 5]))
  (.seq (.seq (.ops [o1 10 (.loadN 3 (.t 5)),
    o1 11 (.bsl [(.I 0), (.I 0), (.I 0), (.I 0), (.I 0), (.I 0), (.I 0), (.I 0)] 8 [(0, 1, (.c (.I 4))), (1, 1, (.c (.I 4))), (2, 1, (.c (.I 5))), (3, 1, (.c (.I 6))), (4, 1, (.c (.I 7))), (5, 1, (.c (.I 8))), (6, 1, (.c (.I 3))), (7, 1, (.c (.I 11)))]),
    o1 12 (.mv (.t 4)),
    ⟨some 13, none, [(.t 5), (.t 11)], false, .call f_sl6Rd_pick [(.t 12), (.c (.I 8))]⟩,
    o1 14 (.idxA 1 (.t 11) (.t 13)),
    o1 15 (.load (.t 14)),
    ⟨none, none, [(.t 11), (.t 14)], false, .store 3 (.t 2) (.t 10)⟩,
    o1 3 (.mv (.t 15))]) (.keep [2, 3]))
  (.ret)))), [.c 2 3, .t 3]⟩

/- loop.example/cothreads/impl.CompileExpr -/
def c_iCompileExpr : AFn := ⟨2, .seq (.seq (.ops [o1 2 (.box (.t 0)),
    o1 4 (.mv (.c .nils)),
    o1 5 (.mv (.c (.b false)))]) (.keep [1, 2]))
  (.seq (.seq (.seq (.ops [o1 6 (.loadN 3 (.t 2)),
    o1 7 (.call f_iExprValid [(.t 6)]),
    o1 8 (.un .not (.t 7)),
    o1 9 (.mv (.t 8)),
    ⟨some 10, (some (9, false)), [], false, .mv (.t 1)⟩,
    ⟨some 11, (some (9, false)), [], false, .bin .lss (.t 10) (.c (.I 4))⟩,
    o1 12 (.pick (.t 9) (.c (.b true)) (.t 11)),
    o1 13 (.mv (.t 12)),
    ⟨some 14, (some (13, false)), [], false, .mv (.t 1)⟩,
    ⟨some 15, (some (13, false)), [], false, .bin .gtr (.t 14) (.c (.I 12))⟩,
    o1 16 (.pick (.t 13) (.c (.b true)) (.t 15)),
    o1 17 (.mv (.t 16)),
    ⟨some 18, (some (17, false)), [], false, .mv (.t 1)⟩,
    ⟨some 19, (some (17, false)), [], false, .loadN 3 (.t 2)⟩,
    ⟨some 20, (some (17, false)), [], false, .call f_iexprDepth [(.t 19)]⟩,
    ⟨some 21, (some (17, false)), [], false, .bin .add (.t 18) (.t 20)⟩,
    ⟨some 22, (some (17, false)), [], false, .bin .gtr (.t 21) (.c (.I 12))⟩,
    o1 23 (.pick (.t 17) (.c (.b true)) (.t 22))]) (.keep [1, 2, 23]))
  (.seq (.cond (.t 23)
  (.seq (.ops [o1 4 (.mv (.c .nils)),
    o1 5 (.mv (.c (.b false)))])
  (.ret))
  (.skip)) (.keep [1, 2])))
  (.seq (.seq (.ops [o1 24 (.loadN 3 (.t 2)),
    o1 25 (.mv (.t 1)),
    o1 26 (.call f_icompileExpr [(.t 24), (.t 25), (.c .nils)]),
    o1 4 (.mv (.t 26)),
    o1 5 (.mv (.c (.b true)))]) (.keep [4, 5]))
  (.ret))), [.t 4, .t 5]⟩

/- loop.example/cothreads/spec.CompileExpr -/
def c_sCompileExpr : AFn := ⟨2, .seq (.seq (.ops [o1 2 (.box (.t 0)),
    o1 4 (.mv (.c .nils)),
    o1 5 (.mv (.c (.b false)))]) (.keep [1, 2]))
  (.seq (.seq (.seq (.ops [o1 6 (.loadN 3 (.t 2)),
    o1 7 (.call f_sExprValid [(.t 6)]),
    o1 8 (.un .not (.t 7)),
    o1 9 (.mv (.t 8)),
    ⟨some 10, (some (9, false)), [], false, .mv (.t 1)⟩,
    ⟨some 11, (some (9, false)), [], false, .loadN 3 (.t 2)⟩,
    ⟨some 12, (some (9, false)), [], false, .call f_sl4Depth [(.t 11)]⟩,
    ⟨some 13, (some (9, false)), [], false, .bin .sub (.c (.I 12)) (.t 12)⟩,
    ⟨some 14, (some (9, false)), [], false, .call f_sl6In [(.t 10), (.c (.I 4)), (.t 13)]⟩,
    ⟨some 15, (some (9, false)), [], false, .un .not (.t 14)⟩,
    o1 16 (.pick (.t 9) (.c (.b true)) (.t 15))]) (.keep [1, 2, 16]))
  (.seq (.cond (.t 16)
  (.seq (.seq (.ops [o1 17 (.bsl [] 0 []),
    o1 4 (.mv (.t 17)),
    o1 5 (.mv (.c (.b false)))]) (.keep [4, 5]))
  (.ret))
  (.skip)) (.keep [1, 2])))
  (.seq (.seq (.ops [o1 18 (.loadN 3 (.t 2)),
    o1 19 (.mv (.t 1)),
    o1 20 (.call f_sl22Expr [(.t 18), (.t 19)]),
    o1 4 (.mv (.t 20)),
    o1 5 (.mv (.c (.b true)))]) (.keep [4, 5]))
  (.ret))), [.t 4, .t 5]⟩

/- loop.example/cothreads/laws.sameCode -/
def c_wsameCode_l0 : AC := .seq (.seq (.seq (.seq (.ops [o1 11 (.mv (.t 5)),
    o1 12 (.mv (.t 0)),
    o1 13 (.len (.t 12)),
    o1 14 (.bin .lss (.t 11) (.t 13))]) (.keep [0, 1, 5, 14]))
  (.seq (.cond (.t 14)
  (.skip)
  (.exit 0)) (.keep [0, 1, 5])))
  (.seq (.seq (.block 1 (.seq (.seq (.ops [o1 17 (.mv (.t 0)),
    o1 18 (.mv (.t 5)),
    o1 19 (.idxA 5 (.t 17) (.t 18)),
    o1 20 (.loadN 5 (.t 19)),
    o1 21 (.mv (.t 1)),
    o1 22 (.mv (.t 5)),
    o1 23 (.idxA 5 (.t 21) (.t 22)),
    o1 24 (.loadN 5 (.t 23)),
    o1 25 (.eqA 5 true (.t 20) (.t 24))]) (.keep [0, 1, 5, 25]))
  (.seq (.cond (.t 25)
  (.seq (.ops [o1 4 (.mv (.c (.b false)))])
  (.ret))
  (.skip)) (.keep [0, 1, 5])))) (.keep [0, 1, 5]))
  (.seq (.ops [o1 15 (.mv (.t 5)),
    o1 16 (.bin .add (.t 15) (.c (.I 1))),
    o1 5 (.mv (.t 16))]) (.keep [0, 1, 5])))) (.keep [0, 1, 5])
def c_wsameCode : AFn := ⟨2, .seq (.seq (.ops [o1 4 (.mv (.c (.b false)))]) (.keep [0, 1]))
  (.seq (.seq (.seq (.ops [o1 6 (.mv (.t 0)),
    o1 7 (.len (.t 6)),
    o1 8 (.mv (.t 1)),
    o1 9 (.len (.t 8)),
    o1 10 (.bin .neq (.t 7) (.t 9))]) (.keep [0, 1, 10]))
  (.seq (.cond (.t 10)
  (.seq (.ops [o1 4 (.mv (.c (.b false)))])
  (.ret))
  (.skip)) (.keep [0, 1])))
  (.seq (.seq (.ops [o1 5 (.mv (.c (.I 0)))])
  (.seq (.block 0 (.seq (.keep [0, 1, 5]) (.loop c_wsameCode_l0))) (.keep [])))
  (.seq (.ops [o1 4 (.mv (.c (.b true)))])
  (.ret)))), [.t 4]⟩

/- loop.example/cothreads/spec.DrawExprEval -/
def c_sDrawExprEval : AFn := ⟨1, .seq (.seq (.ops [o1 2 (.alloc [(.I 0), (.I 0), .nils]),
    o1 3 (.mv (.c .nils))]) (.keep [0, 2]))
  (.seq (.seq (.ops [o1 6 (.mv (.t 0)),
    o1 7 (.call f_sl6Open [(.t 6)]),
    o1 4 (.mv (.t 7))]) (.keep [2, 4]))
  (.seq (.seq (.ops [o1 8 (.mv (.t 4)),
    o1 9 (.call f_sl91Spoilt [(.t 8)]),
    o1 5 (.alloc [(.I 0), (.I 0), .nils]),
    o0 (.store 3 (.t 5) (.t 9))]) (.keep [2, 4, 5]))
  (.seq (.seq (.ops [o1 10 (.loadN 3 (.t 5)),
    o1 11 (.mv (.t 4)),
    ⟨some 12, none, [(.t 5)], false, .call f_sl91Vars [(.t 11)]⟩,
    o0 (.store 3 (.t 2) (.t 10)),
    o1 3 (.mv (.t 12))]) (.keep [2, 3]))
  (.ret)))), [.c 2 3, .t 3]⟩

/- loop.example/cothreads/impl.ExprEval -/
def c_iExprEval : AFn := ⟨2, .seq (.seq (.ops [o1 2 (.box (.t 0)),
    o1 4 (.mv (.c (.I 0))),
    o1 5 (.mv (.c (.b false)))]) (.keep [1, 2]))
  (.seq (.seq (.seq (.ops [o1 6 (.loadN 3 (.t 2)),
    o1 7 (.call f_iExprValid [(.t 6)]),
    o1 8 (.un .not (.t 7)),
    o1 9 (.mv (.t 8)),
    ⟨some 10, (some (9, false)), [], false, .mv (.t 1)⟩,
    ⟨some 11, (some (9, false)), [], false, .len (.t 10)⟩,
    ⟨some 12, (some (9, false)), [], false, .bin .neq (.t 11) (.c (.I 4))⟩,
    o1 13 (.pick (.t 9) (.c (.b true)) (.t 12)),
    o1 14 (.mv (.t 13)),
    ⟨some 15, (some (14, false)), [], false, .mv (.t 1)⟩,
    ⟨some 16, (some (14, false)), [], false, .call f_iareWords [(.t 15)]⟩,
    ⟨some 17, (some (14, false)), [], false, .un .not (.t 16)⟩,
    o1 18 (.pick (.t 14) (.c (.b true)) (.t 17))]) (.keep [1, 2, 18]))
  (.seq (.cond (.t 18)
  (.seq (.ops [o1 4 (.mv (.c (.I 0))),
    o1 5 (.mv (.c (.b false)))])
  (.ret))
  (.skip)) (.keep [1, 2])))
  (.seq (.seq (.ops [o1 19 (.mv (.t 1)),
    o1 20 (.call f_iexprEval [(.t 2), (.t 19)]),
    o1 4 (.mv (.t 20)),
    o1 5 (.mv (.c (.b true)))]) (.keep [4, 5]))
  (.ret))), [.t 4, .t 5]⟩

/- loop.example/cothreads/impl.ThreadStep -/
def c_iThreadStep : AFn := ⟨3, .seq (.seq (.ops [o1 4 (.box (.t 1)),
    o1 6 (.alloc [.nils, (.I 0)]),
    o1 7 (.mv (.c .nils)),
    o1 8 (.mv (.c .nils)),
    o1 9 (.mv (.c (.I 0)))]) (.keep [0, 2, 4, 6]))
  (.seq (.seq (.seq (.ops [o1 14 (.loadN 2 (.t 4)),
    o1 15 (.mv (.t 0)),
    o1 16 (.call f_iThreadValid [(.t 14), (.t 15)]),
    o1 17 (.un .not (.t 16)),
    o1 18 (.mv (.t 17)),
    ⟨some 19, (some (18, false)), [], false, .mv (.t 2)⟩,
    ⟨some 20, (some (18, false)), [], false, .call f_iboxesValid [(.t 19)]⟩,
    ⟨some 21, (some (18, false)), [], false, .un .not (.t 20)⟩,
    o1 22 (.pick (.t 18) (.c (.b true)) (.t 21)),
    o1 23 (.mv (.t 22)),
    ⟨some 24, (some (23, false)), [], false, .mv (.t 0)⟩,
    ⟨some 25, (some (23, false)), [], false, .fldA 1 (.t 4)⟩,
    ⟨some 26, (some (23, false)), [], false, .load (.t 25)⟩,
    ⟨some 27, (some (23, false)), [], false, .idxA 5 (.t 24) (.t 26)⟩,
    ⟨some 28, (some (23, false)), [], false, .loadN 5 (.t 27)⟩,
    ⟨some 29, (some (23, false)), [], false, .mv (.t 2)⟩,
    ⟨some 30, (some (23, false)), [], false, .len (.t 29)⟩,
    ⟨some 31, (some (23, false)), [], false, .call f_iboxThere [(.t 28), (.t 30)]⟩,
    ⟨some 32, (some (23, false)), [], false, .un .not (.t 31)⟩,
    o1 33 (.pick (.t 23) (.c (.b true)) (.t 32))]) (.keep [0, 2, 4, 6, 33]))
  (.seq (.cond (.t 33)
  (.seq (.seq (.ops [o1 34 (.build [.nils, (.I 0)] []),
    o0 (.store 2 (.t 6) (.t 34)),
    o1 7 (.mv (.c .nils)),
    o1 8 (.mv (.c .nils)),
    o1 9 (.mv (.c (.I 0)))]) (.keep [6, 7, 8, 9]))
  (.ret))
  (.skip)) (.keep [0, 2, 4, 6])))
  (.seq (.seq (.ops [o1 35 (.fldA 0 (.t 4)),
    o1 36 (.load (.t 35)),
    ⟨some 37, none, [], true, .call f_slices_Clone_int_int [(.t 36)]⟩,
    o1 38 (.fldA 1 (.t 4)),
    o1 39 (.load (.t 38)),
    o1 40 (.build [.nils, (.I 0)] [(0, 1, (.t 37)), (1, 1, (.t 39))]),
    o1 10 (.alloc [.nils, (.I 0)]),
    o0 (.store 2 (.t 10) (.t 40))]) (.keep [0, 2, 6, 10]))
  (.seq (.seq (.ops [o1 41 (.mv (.t 2)),
    o1 42 (.call f_iboxesCopy [(.t 41)]),
    o1 11 (.mv (.t 42))]) (.keep [0, 6, 10, 11]))
  (.seq (.ops [o1 12 (.alloc [.nils])])
  (.seq (.seq (.ops [o1 43 (.mv (.t 0)),
    o1 44 (.mv (.t 11)),
    o1 45 (.call f_iThread_step [(.t 10), (.t 43), (.t 44), (.t 12)]),
    o1 13 (.mv (.t 45))]) (.keep [6, 10, 11, 12, 13]))
  (.seq (.seq (.ops [o1 46 (.loadN 2 (.t 10)),
    o1 47 (.mv (.t 11)),
    o1 48 (.load (.t 12)),
    o1 49 (.mv (.t 13)),
    ⟨none, none, [(.t 12)], false, .store 2 (.t 6) (.t 46)⟩,
    o1 7 (.mv (.t 47)),
    o1 8 (.mv (.t 48)),
    o1 9 (.mv (.t 49))]) (.keep [6, 7, 8, 9]))
  (.ret))))))), [.c 6 2, .t 7, .t 8, .t 9]⟩

/- loop.example/cothreads/laws.sameInts -/
def c_wsameInts_l0 : AC := .seq (.seq (.seq (.seq (.ops [o1 11 (.mv (.t 5)),
    o1 12 (.mv (.t 0)),
    o1 13 (.len (.t 12)),
    o1 14 (.bin .lss (.t 11) (.t 13))]) (.keep [0, 1, 5, 14]))
  (.seq (.cond (.t 14)
  (.skip)
  (.exit 0)) (.keep [0, 1, 5])))
  (.seq (.seq (.block 1 (.seq (.seq (.ops [o1 17 (.mv (.t 0)),
    o1 18 (.mv (.t 5)),
    o1 19 (.idxA 1 (.t 17) (.t 18)),
    o1 20 (.load (.t 19)),
    o1 21 (.mv (.t 1)),
    o1 22 (.mv (.t 5)),
    o1 23 (.idxA 1 (.t 21) (.t 22)),
    o1 24 (.load (.t 23)),
    o1 25 (.bin .neq (.t 20) (.t 24))]) (.keep [0, 1, 5, 25]))
  (.seq (.cond (.t 25)
  (.seq (.ops [o1 4 (.mv (.c (.b false)))])
  (.ret))
  (.skip)) (.keep [0, 1, 5])))) (.keep [0, 1, 5]))
  (.seq (.ops [o1 15 (.mv (.t 5)),
    o1 16 (.bin .add (.t 15) (.c (.I 1))),
    o1 5 (.mv (.t 16))]) (.keep [0, 1, 5])))) (.keep [0, 1, 5])
def c_wsameInts : AFn := ⟨2, .seq (.seq (.ops [o1 4 (.mv (.c (.b false)))]) (.keep [0, 1]))
  (.seq (.seq (.seq (.ops [o1 6 (.mv (.t 0)),
    o1 7 (.len (.t 6)),
    o1 8 (.mv (.t 1)),
    o1 9 (.len (.t 8)),
    o1 10 (.bin .neq (.t 7) (.t 9))]) (.keep [0, 1, 10]))
  (.seq (.cond (.t 10)
  (.seq (.ops [o1 4 (.mv (.c (.b false)))])
  (.ret))
  (.skip)) (.keep [0, 1])))
  (.seq (.seq (.ops [o1 5 (.mv (.c (.I 0)))])
  (.seq (.block 0 (.seq (.keep [0, 1, 5]) (.loop c_wsameInts_l0))) (.keep [])))
  (.seq (.ops [o1 4 (.mv (.c (.b true)))])
  (.ret)))), [.t 4]⟩

/- loop.example/cothreads/laws.szIntS -/
def c_wszIntS : AFn := ⟨2, .seq (.seq (.ops [o1 4 (.mv (.c (.I 0)))]) (.keep [0, 1]))
  (.seq (.seq (.ops [o1 5 (.mv (.t 1)),
    o1 6 (.mv (.t 0)),
    o1 7 (.len (.t 6)),
    o1 8 (.bin .sub (.t 5) (.t 7)),
    o1 1 (.mv (.t 8))]) (.keep [1]))
  (.seq (.seq (.seq (.ops [o1 9 (.mv (.t 1)),
    o1 10 (.bin .lss (.t 9) (.c (.I 0)))]) (.keep [1, 10]))
  (.seq (.cond (.t 10)
  (.seq (.ops [o1 4 (.mv (.c (.I (-1))))])
  (.ret))
  (.skip)) (.keep [1])))
  (.seq (.seq (.ops [o1 11 (.mv (.t 1)),
    o1 4 (.mv (.t 11))]) (.keep [4]))
  (.ret)))), [.t 4]⟩

/- loop.example/cothreads/spec.l4Words -/
def c_sl4Words_l0 : AC := .seq (.seq (.seq (.seq (.ops [o1 10 (.mv (.t 5)),
    o1 11 (.mv (.t 0)),
    o1 12 (.len (.t 11)),
    o1 13 (.bin .lss (.t 10) (.t 12))]) (.keep [0, 5, 13]))
  (.seq (.cond (.t 13)
  (.skip)
  (.exit 0)) (.keep [0, 5])))
  (.seq (.seq (.block 1 (.seq (.seq (.ops [o1 16 (.mv (.t 0)),
    o1 17 (.mv (.t 5)),
    o1 18 (.idxA 1 (.t 16) (.t 17)),
    o1 19 (.load (.t 18)),
    o1 20 (.call f_sWordValid [(.t 19)]),
    o1 21 (.un .not (.t 20))]) (.keep [0, 5, 21]))
  (.seq (.cond (.t 21)
  (.seq (.ops [o1 4 (.mv (.c (.b false)))])
  (.ret))
  (.skip)) (.keep [0, 5])))) (.keep [0, 5]))
  (.seq (.ops [o1 14 (.mv (.t 5)),
    o1 15 (.bin .add (.t 14) (.c (.I 1))),
    o1 5 (.mv (.t 15))]) (.keep [0, 5])))) (.keep [0, 5])
def c_sl4Words : AFn := ⟨2, .seq (.seq (.ops [o1 4 (.mv (.c (.b false)))]) (.keep [0, 1]))
  (.seq (.seq (.seq (.ops [o1 6 (.mv (.t 0)),
    o1 7 (.len (.t 6)),
    o1 8 (.mv (.t 1)),
    o1 9 (.bin .neq (.t 7) (.t 8))]) (.keep [0, 9]))
  (.seq (.cond (.t 9)
  (.seq (.ops [o1 4 (.mv (.c (.b false)))])
  (.ret))
  (.skip)) (.keep [0])))
  (.seq (.seq (.ops [o1 5 (.mv (.c (.I 0)))])
  (.seq (.block 0 (.seq (.keep [0, 5]) (.loop c_sl4Words_l0))) (.keep [])))
  (.seq (.ops [o1 4 (.mv (.c (.b true)))])
  (.ret)))), [.t 4]⟩

/- loop.example/cothreads/spec.WordValid -/
def c_sWordValid : AFn := ⟨1, .seq (.seq (.ops [o1 2 (.mv (.c (.b false)))]) (.keep [0]))
  (.seq (.seq (.ops [o1 3 (.mv (.t 0)),
    o1 4 (.call f_sl6In [(.t 3), (.c (.I (-2147483648))), (.c (.I 2147483647))]),
    o1 2 (.mv (.t 4))]) (.keep [2]))
  (.ret)), [.t 2]⟩

/- loop.example/cothreads/laws.toIntS -/
def c_wtoIntS_l0 : AC := .seq (.seq (.seq (.seq (.ops [o1 8 (.mv (.t 4)),
    o1 9 (.mv (.t 0)),
    o1 10 (.len (.t 9)),
    o1 11 (.bin .lss (.t 8) (.t 10))]) (.keep [0, 3, 4, 11]))
  (.seq (.cond (.t 11)
  (.skip)
  (.exit 0)) (.keep [0, 3, 4])))
  (.seq (.seq (.block 1 (.seq (.ops [o1 14 (.mv (.t 3)),
    o1 15 (.mv (.t 4)),
    o1 16 (.mv (.t 0)),
    o1 17 (.mv (.t 4)),
    o1 18 (.idxA 1 (.t 16) (.t 17)),
    o1 19 (.load (.t 18)),
    o1 20 (.idxA 1 (.t 14) (.t 15)),
    o0 (.store 1 (.t 20) (.t 19))]) (.keep [0, 3, 4]))) (.keep [0, 3, 4]))
  (.seq (.ops [o1 12 (.mv (.t 4)),
    o1 13 (.bin .add (.t 12) (.c (.I 1))),
    o1 4 (.mv (.t 13))]) (.keep [0, 3, 4])))) (.keep [0, 3, 4])
def c_wtoIntS : AFn := ⟨1, .seq (.seq (.ops [o1 2 (.mv (.c .nils))]) (.keep [0]))
  (.seq (.seq (.ops [o1 5 (.mv (.t 0)),
    o1 6 (.len (.t 5)),
    o1 7 (.mksl [(.I 0)] (.t 6) (.t 6)),
    o1 3 (.mv (.t 7))]) (.keep [0, 3]))
  (.seq (.seq (.ops [o1 4 (.mv (.c (.I 0)))])
  (.seq (.block 0 (.seq (.keep [0, 3, 4]) (.loop c_wtoIntS_l0))) (.keep [3])))
  (.seq (.seq (.ops [o1 21 (.mv (.t 3)),
    o1 2 (.mv (.t 21))]) (.keep [2]))
  (.ret)))), [.t 2]⟩

/- loop.example/cothreads/impl.areWords -/
def c_iareWords_l0 : AC := .seq (.seq (.ops [o1 8 (.bin .lss (.t 7) (.t 6))])
  (.seq (.seq (.cond (.t 8)
  (.skip)
  (.exit 0)) (.keep [5, 6, 7]))
  (.seq (.seq (.block 1 (.seq (.seq (.ops [o1 9 (.idxA 1 (.t 5) (.t 7)),
    o1 10 (.load (.t 9)),
    o1 4 (.mv (.t 10))]) (.keep [4, 5, 6, 7]))
  (.seq (.seq (.ops [o1 11 (.mv (.t 4)),
    o1 12 (.call f_iWordValid [(.t 11)]),
    o1 13 (.un .not (.t 12))]) (.keep [5, 6, 7, 13]))
  (.seq (.cond (.t 13)
  (.seq (.ops [o1 2 (.mv (.c (.b false)))])
  (.ret))
  (.skip)) (.keep [5, 6, 7]))))) (.keep [5, 6, 7]))
  (.seq (.ops [o1 14 (.bin .add (.t 7) (.c (.I 1))),
    o1 7 (.mv (.t 14))]) (.keep [5, 6, 7]))))) (.keep [5, 6, 7])
def c_iareWords : AFn := ⟨1, .seq (.seq (.ops [o1 2 (.mv (.c (.b false)))]) (.keep [0]))
  (.seq (.seq (.ops [o1 5 (.mv (.t 0)),
    o1 6 (.len (.t 5)),
    o1 7 (.mv (.c (.I 0)))])
  (.seq (.block 0 (.seq (.keep [5, 6, 7]) (.loop c_iareWords_l0))) (.keep [])))
  (.seq (.ops [o1 2 (.mv (.c (.b true)))])
  (.ret))), [.t 2]⟩

/- loop.example/cothreads/impl.WordValid -/
def c_iWordValid : AFn := ⟨1, .seq (.seq (.ops [o1 2 (.mv (.c (.b false)))]) (.keep [0]))
  (.seq (.seq (.ops [o1 3 (.mv (.t 0)),
    o1 4 (.bin .geq (.t 3) (.c (.I (-2147483648)))),
    o1 5 (.mv (.t 4)),
    ⟨some 6, (some (5, true)), [], false, .mv (.t 0)⟩,
    ⟨some 7, (some (5, true)), [], false, .bin .leq (.t 6) (.c (.I 2147483647))⟩,
    o1 8 (.pick (.t 5) (.t 7) (.c (.b false))),
    o1 2 (.mv (.t 8))]) (.keep [2]))
  (.ret)), [.t 2]⟩

/- loop.example/cothreads/laws.eqIntS -/
def c_weqIntS_l0 : AC := .seq (.seq (.seq (.seq (.ops [o1 11 (.mv (.t 5)),
    o1 12 (.mv (.t 0)),
    o1 13 (.len (.t 12)),
    o1 14 (.bin .lss (.t 11) (.t 13))]) (.keep [0, 1, 5, 14]))
  (.seq (.cond (.t 14)
  (.skip)
  (.exit 0)) (.keep [0, 1, 5])))
  (.seq (.seq (.block 1 (.seq (.seq (.ops [o1 17 (.mv (.t 0)),
    o1 18 (.mv (.t 5)),
    o1 19 (.idxA 1 (.t 17) (.t 18)),
    o1 20 (.load (.t 19)),
    o1 21 (.mv (.t 1)),
    o1 22 (.mv (.t 5)),
    o1 23 (.idxA 1 (.t 21) (.t 22)),
    o1 24 (.load (.t 23)),
    o1 25 (.bin .neq (.t 20) (.t 24))]) (.keep [0, 1, 5, 25]))
  (.seq (.cond (.t 25)
  (.seq (.ops [o1 4 (.mv (.c (.b false)))])
  (.ret))
  (.skip)) (.keep [0, 1, 5])))) (.keep [0, 1, 5]))
  (.seq (.ops [o1 15 (.mv (.t 5)),
    o1 16 (.bin .add (.t 15) (.c (.I 1))),
    o1 5 (.mv (.t 16))]) (.keep [0, 1, 5])))) (.keep [0, 1, 5])
def c_weqIntS : AFn := ⟨2, .seq (.seq (.ops [o1 4 (.mv (.c (.b false)))]) (.keep [0, 1]))
  (.seq (.seq (.seq (.ops [o1 6 (.mv (.t 0)),
    o1 7 (.len (.t 6)),
    o1 8 (.mv (.t 1)),
    o1 9 (.len (.t 8)),
    o1 10 (.bin .neq (.t 7) (.t 9))]) (.keep [0, 1, 10]))
  (.seq (.cond (.t 10)
  (.seq (.ops [o1 4 (.mv (.c (.b false)))])
  (.ret))
  (.skip)) (.keep [0, 1])))
  (.seq (.seq (.ops [o1 5 (.mv (.c (.I 0)))])
  (.seq (.block 0 (.seq (.keep [0, 1, 5]) (.loop c_weqIntS_l0))) (.keep [])))
  (.seq (.ops [o1 4 (.mv (.c (.b true)))])
  (.ret)))), [.t 4]⟩

/- loop.example/cothreads/spec.l6Open -/
def c_sl6Open : AFn := ⟨1, .seq (.seq (.ops [o1 2 (.mv (.c .nilp))]) (.keep [0]))
  (.seq (.seq (.seq (.ops [o1 3 (.mv (.t 0)),
    o1 4 (.len (.t 3)),
    o1 5 (.bin .gtr (.t 4) (.c (.I 2000)))]) (.keep [0, 5]))
  (.seq (.cond (.t 5)
  (.seq (.ops [o1 6 (.mv (.t 0)),
    o1 7 (.slice 1 (.t 6) none (some (.c (.I 2000))) none),
    o1 0 (.mv (.t 7))]) (.keep [0]))
  (.skip)) (.keep [0])))
  (.seq (.seq (.ops [o1 8 (.mv (.t 0)),
    o1 9 (.build [.nils, (.I 0)] [(0, 1, (.t 8))]),
    o1 10 (.box (.t 9)),
    o1 2 (.mv (.t 10))]) (.keep [2]))
  (.ret))), [.t 2]⟩

/- (*loop.example/cothreads/spec.l6Rd).pick -/
def c_sl6Rd_pick : AFn := ⟨2, .seq (.seq (.ops [o1 4 (.mv (.c (.I 0)))]) (.keep [0, 1]))
  (.seq (.seq (.ops [o1 7 (.mv (.t 0)),
    o1 8 (.mv (.t 0)),
    o1 9 (.nilc (.t 8)),
    o1 10 (.fldA 1 (.t 9)),
    o1 11 (.load (.t 10)),
    o1 12 (.bin .add (.t 11) (.c (.I 1))),
    o1 13 (.nilc (.t 7)),
    o1 14 (.fldA 1 (.t 13)),
    o0 (.store 1 (.t 14) (.t 12))]) (.keep [0, 1]))
  (.seq (.seq (.seq (.ops [o1 15 (.mv (.t 1)),
    o1 16 (.bin .lss (.t 15) (.c (.I 1))),
    o1 17 (.mv (.t 16)),
    ⟨some 18, (some (17, false)), [], false, .mv (.t 0)⟩,
    ⟨some 19, (some (17, false)), [], false, .nilc (.t 18)⟩,
    ⟨some 20, (some (17, false)), [], false, .fldA 0 (.t 19)⟩,
    ⟨some 21, (some (17, false)), [], false, .load (.t 20)⟩,
    ⟨some 22, (some (17, false)), [], false, .len (.t 21)⟩,
    ⟨some 23, (some (17, false)), [], false, .bin .eql (.t 22) (.c (.I 0))⟩,
    o1 24 (.pick (.t 17) (.c (.b true)) (.t 23))]) (.keep [0, 1, 24]))
  (.seq (.cond (.t 24)
  (.seq (.ops [o1 4 (.mv (.c (.I 0)))])
  (.ret))
  (.skip)) (.keep [0, 1])))
  (.seq (.seq (.ops [o1 25 (.mv (.t 0)),
    o1 26 (.nilc (.t 25)),
    o1 27 (.fldA 1 (.t 26)),
    o1 28 (.load (.t 27)),
    o1 29 (.bin .sub (.t 28) (.c (.I 1))),
    o1 5 (.mv (.t 29))]) (.keep [0, 1, 5]))
  (.seq (.seq (.seq (.ops [o1 30 (.mv (.t 5)),
    o1 31 (.mv (.t 0)),
    o1 32 (.nilc (.t 31)),
    o1 33 (.fldA 0 (.t 32)),
    o1 34 (.load (.t 33)),
    o1 35 (.len (.t 34)),
    o1 36 (.bin .lss (.t 30) (.t 35))]) (.keep [0, 1, 5, 36]))
  (.seq (.cond (.t 36)
  (.seq (.seq (.ops [o1 37 (.mv (.t 0)),
    o1 38 (.nilc (.t 37)),
    o1 39 (.fldA 0 (.t 38)),
    o1 40 (.load (.t 39)),
    o1 41 (.mv (.t 5)),
    o1 42 (.idxA 1 (.t 40) (.t 41)),
    o1 43 (.load (.t 42)),
    o1 44 (.conv .i64 (.t 43)),
    o1 45 (.mv (.t 1)),
    o1 46 (.bin .rem (.t 44) (.t 45)),
    o1 4 (.mv (.t 46))]) (.keep [4]))
  (.ret))
  (.skip)) (.keep [0, 1, 5])))
  (.seq (.seq (.ops [o1 47 (.mv (.t 0)),
    o1 48 (.nilc (.t 47)),
    o1 49 (.fldA 0 (.t 48)),
    o1 50 (.load (.t 49)),
    o1 51 (.mv (.t 5)),
    o1 52 (.mv (.t 0)),
    o1 53 (.nilc (.t 52)),
    o1 54 (.fldA 0 (.t 53)),
    o1 55 (.load (.t 54)),
    o1 56 (.len (.t 55)),
    o1 57 (.bin .rem (.t 51) (.t 56)),
    o1 58 (.idxA 1 (.t 50) (.t 57)),
    o1 59 (.load (.t 58)),
    o1 60 (.conv .i64 (.t 59)),
    o1 61 (.bin .mul (.t 60) (.c (.I 131))),
    o1 62 (.mv (.t 0)),
    o1 63 (.nilc (.t 62)),
    o1 64 (.fldA 0 (.t 63)),
    o1 65 (.load (.t 64)),
    o1 66 (.mv (.t 5)),
    o1 67 (.bin .mul (.t 66) (.c (.I 7))),
    o1 68 (.bin .add (.t 67) (.c (.I 3))),
    o1 69 (.mv (.t 0)),
    o1 70 (.nilc (.t 69)),
    o1 71 (.fldA 0 (.t 70)),
    o1 72 (.load (.t 71)),
    o1 73 (.len (.t 72)),
    o1 74 (.bin .rem (.t 68) (.t 73)),
    o1 75 (.idxA 1 (.t 65) (.t 74)),
    o1 76 (.load (.t 75)),
    o1 77 (.conv .i64 (.t 76)),
    o1 78 (.bin .mul (.t 77) (.c (.I 1117))),
    o1 79 (.bin .add (.t 61) (.t 78)),
    o1 80 (.mv (.t 5)),
    o1 81 (.bin .mul (.t 80) (.c (.I 29))),
    o1 82 (.bin .add (.t 79) (.t 81)),
    o1 83 (.mv (.t 5)),
    o1 84 (.mv (.t 0)),
    o1 85 (.nilc (.t 84)),
    o1 86 (.fldA 0 (.t 85)),
    o1 87 (.load (.t 86)),
    o1 88 (.len (.t 87)),
    o1 89 (.bin .quo (.t 83) (.t 88)),
    o1 90 (.bin .mul (.t 89) (.c (.I 53))),
    o1 91 (.bin .add (.t 82) (.t 90)),
    o1 6 (.mv (.t 91))]) (.keep [1, 6]))
  (.seq (.seq (.ops [o1 92 (.mv (.t 6)),
    o1 93 (.mv (.t 6)),
    o1 94 (.bin .quo (.t 93) (.c (.I 64))),
    o1 95 (.bin .xor (.t 92) (.t 94)),
    o1 6 (.mv (.t 95))]) (.keep [1, 6]))
  (.seq (.seq (.ops [o1 96 (.mv (.t 6)),
    o1 97 (.mv (.t 1)),
    o1 98 (.bin .rem (.t 96) (.t 97)),
    o1 4 (.mv (.t 98))]) (.keep [4]))
  (.ret)))))))), [.t 4]⟩

/- loop.example/cothreads/spec.l91Word -/
def c_sl91Word : AFn := ⟨1, .seq (.seq (.ops [o1 2 (.mv (.c (.I 0)))]) (.keep [0]))
  (.seq (.seq (.seq (.ops [o1 3 (.mv (.t 0)),
    o1 4 (.call f_sl6Rd_pick [(.t 3), (.c (.I 6))])]) (.keep [0, 4]))
  (.seq (.block 0 (.seq (.seq (.ops [o1 6 (.bin .eql (.t 4) (.c (.I 0))),
    o1 5 (.mv (.t 6))]) (.keep [0, 4, 5]))
  (.seq (.cond (.t 5)
  (.seq (.seq (.ops [o1 7 (.bsl [(.I 0), (.I 0), (.I 0), (.I 0), (.I 0), (.I 0), (.I 0), (.I 0)] 8 [(0, 1, (.c (.I (-2147483648)))), (1, 1, (.c (.I 2147483647))), (2, 1, (.c (.I (-1)))), (3, 1, (.c (.I 0))), (4, 1, (.c (.I 1))), (5, 1, (.c (.I (-2147483647)))), (6, 1, (.c (.I 65536))), (7, 1, (.c (.I (-65536))))]),
    o1 8 (.mv (.t 0)),
    o1 9 (.call f_sl6Rd_pick [(.t 8), (.c (.I 8))]),
    o1 10 (.idxA 1 (.t 7) (.t 9)),
    o1 11 (.load (.t 10)),
    o1 2 (.mv (.t 11))]) (.keep [2]))
  (.ret))
  (.seq (.seq (.ops [o1 13 (.bin .eql (.t 4) (.c (.I 1))),
    o1 12 (.mv (.t 13))]) (.keep [0, 4, 12]))
  (.seq (.cond (.t 12)
  (.seq (.seq (.ops [o1 14 (.mv (.t 0)),
    o1 15 (.call f_sl6Rd_pick [(.t 14), (.c (.I 256))]),
    o1 16 (.bin .mul (.t 15) (.c (.I 65536))),
    o1 17 (.mv (.t 0)),
    o1 18 (.call f_sl6Rd_pick [(.t 17), (.c (.I 256))]),
    o1 19 (.bin .mul (.t 18) (.c (.I 256))),
    o1 20 (.bin .add (.t 16) (.t 19)),
    o1 21 (.mv (.t 0)),
    o1 22 (.call f_sl6Rd_pick [(.t 21), (.c (.I 256))]),
    o1 23 (.bin .add (.t 20) (.t 22)),
    o1 24 (.mv (.t 0)),
    o1 25 (.call f_sl6Rd_pick [(.t 24), (.c (.I 200))]),
    o1 26 (.bin .add (.c (.I 1)) (.t 25)),
    o1 27 (.bin .mul (.t 23) (.t 26)),
    o1 28 (.call f_sWrap [(.t 27)]),
    o1 2 (.mv (.t 28))]) (.keep [2]))
  (.ret))
  (.seq (.seq (.ops [o1 30 (.bin .eql (.t 4) (.c (.I 2))),
    o1 29 (.mv (.t 30))]) (.keep [0, 29]))
  (.seq (.cond (.t 29)
  (.seq (.seq (.ops [o1 31 (.mv (.t 0)),
    o1 32 (.call f_sl6Rd_pick [(.t 31), (.c (.I 200))]),
    o1 33 (.bin .sub (.c (.I 0)) (.t 32)),
    o1 2 (.mv (.t 33))]) (.keep [2]))
  (.ret))
  (.skip)) (.keep [0])))) (.keep [0])))) (.keep [0])))) (.keep [0])))
  (.seq (.seq (.ops [o1 34 (.mv (.t 0)),
    o1 35 (.call f_sl6Rd_pick [(.t 34), (.c (.I 20))]),
    o1 2 (.mv (.t 35))]) (.keep [2]))
  (.ret))), [.t 2]⟩

/- loop.example/cothreads/impl.constInstrs -/
def c_iconstInstrs : AFn := ⟨2, .seq (.seq (.ops [o1 4 (.mv (.c .nils))]) (.keep [0, 1]))
  (.seq (.seq (.seq (.ops [o1 7 (.mv (.t 1)),
    o1 8 (.bin .geq (.t 7) (.c (.I (-2048)))),
    o1 9 (.mv (.t 8)),
    ⟨some 10, (some (9, true)), [], false, .mv (.t 1)⟩,
    ⟨some 11, (some (9, true)), [], false, .bin .leq (.t 10) (.c (.I 2047))⟩,
    o1 12 (.pick (.t 9) (.t 11) (.c (.b false)))]) (.keep [0, 1, 12]))
  (.seq (.cond (.t 12)
  (.seq (.seq (.ops [o1 13 (.mv (.t 0)),
    o1 14 (.mv (.t 1)),
    o1 15 (.call f_iaddi [(.t 13), (.c (.I 0)), (.t 14)]),
    o1 16 (.bsl [(.I 0), (.I 0), (.I 0), (.I 0), (.I 0)] 1 [(0, 5, (.t 15))]),
    o1 4 (.mv (.t 16))]) (.keep [4]))
  (.ret))
  (.skip)) (.keep [0, 1])))
  (.seq (.seq (.ops [o1 17 (.mv (.t 1)),
    o1 18 (.call f_iUnsigned [(.t 17)]),
    o1 19 (.call f_iBits [(.t 18), (.c (.I 0)), (.c (.I 12))]),
    o1 20 (.call f_iSignExtend [(.t 19), (.c (.I 12))]),
    o1 5 (.mv (.t 20))]) (.keep [0, 1, 5]))
  (.seq (.seq (.ops [o1 21 (.mv (.t 1)),
    o1 22 (.mv (.t 5)),
    o1 23 (.bin .sub (.t 21) (.t 22)),
    o1 24 (.call f_iWrap [(.t 23)]),
    o1 25 (.call f_iUnsigned [(.t 24)]),
    o1 26 (.call f_iBits [(.t 25), (.c (.I 12)), (.c (.I 20))]),
    o1 6 (.mv (.t 26))]) (.keep [0, 5, 6]))
  (.seq (.seq (.ops [o1 27 (.mv (.t 0)),
    o1 28 (.mv (.t 6)),
    o1 29 (.build [(.I 0), (.I 0), (.I 0), (.I 0), (.I 0)] [(0, 1, (.c (.I 19))), (1, 1, (.t 27)), (4, 1, (.t 28))]),
    o1 30 (.mv (.t 0)),
    o1 31 (.mv (.t 0)),
    o1 32 (.mv (.t 5)),
    o1 33 (.call f_iaddi [(.t 30), (.t 31), (.t 32)]),
    o1 34 (.bsl [(.I 0), (.I 0), (.I 0), (.I 0), (.I 0), (.I 0), (.I 0), (.I 0), (.I 0), (.I 0)] 2 [(0, 5, (.t 29)), (5, 5, (.t 33))]),
    o1 4 (.mv (.t 34))]) (.keep [4]))
  (.ret))))), [.t 4]⟩

/- loop.example/cothreads/spec.l6In -/
def c_sl6In : AFn := ⟨3, .seq (.seq (.ops [o1 6 (.mv (.c (.b false)))]) (.keep [0, 1, 2]))
  (.seq (.seq (.ops [o1 7 (.mv (.t 0)),
    o1 8 (.mv (.t 1)),
    o1 9 (.bin .geq (.t 7) (.t 8)),
    o1 10 (.mv (.t 9)),
    ⟨some 11, (some (10, true)), [], false, .mv (.t 0)⟩,
    ⟨some 12, (some (10, true)), [], false, .mv (.t 2)⟩,
    ⟨some 13, (some (10, true)), [], false, .bin .leq (.t 11) (.t 12)⟩,
    o1 14 (.pick (.t 10) (.t 13) (.c (.b false))),
    o1 6 (.mv (.t 14))]) (.keep [6]))
  (.ret)), [.t 6]⟩

/- loop.example/cothreads/spec.l43Const -/
def c_sl43Const : AFn := ⟨2, .seq (.seq (.ops [o1 4 (.mv (.c .nils))]) (.keep [0, 1]))
  (.seq (.seq (.seq (.ops [o1 8 (.mv (.t 1)),
    o1 9 (.call f_sl6In [(.t 8), (.c (.I (-2048))), (.c (.I 2047))])]) (.keep [0, 1, 9]))
  (.seq (.cond (.t 9)
  (.seq (.seq (.ops [o1 10 (.mv (.t 0)),
    o1 11 (.mv (.t 1)),
    o1 12 (.build [(.I 0), (.I 0), (.I 0), (.I 0), (.I 0)] [(0, 1, (.c (.I 12))), (1, 1, (.t 10)), (4, 1, (.t 11))]),
    o1 13 (.bsl [(.I 0), (.I 0), (.I 0), (.I 0), (.I 0)] 1 [(0, 5, (.t 12))]),
    o1 4 (.mv (.t 13))]) (.keep [4]))
  (.ret))
  (.skip)) (.keep [0, 1])))
  (.seq (.seq (.ops [o1 14 (.mv (.t 1)),
    o1 15 (.call f_sUnsigned [(.t 14)]),
    o1 16 (.call f_sBits [(.t 15), (.c (.I 0)), (.c (.I 12))]),
    o1 17 (.call f_sSignExtend [(.t 16), (.c (.I 12))]),
    o1 5 (.mv (.t 17))]) (.keep [0, 1, 5]))
  (.seq (.seq (.ops [o1 18 (.mv (.t 1)),
    o1 19 (.mv (.t 5)),
    o1 20 (.bin .sub (.t 18) (.t 19)),
    o1 21 (.call f_sWrap [(.t 20)]),
    o1 22 (.call f_sUnsigned [(.t 21)]),
    o1 23 (.call f_sBits [(.t 22), (.c (.I 12)), (.c (.I 20))]),
    o1 6 (.mv (.t 23))]) (.keep [0, 5, 6]))
  (.seq (.seq (.ops [o1 24 (.mv (.t 0)),
    o1 25 (.mv (.t 6)),
    o1 26 (.build [(.I 0), (.I 0), (.I 0), (.I 0), (.I 0)] [(0, 1, (.c (.I 19))), (1, 1, (.t 24)), (4, 1, (.t 25))]),
    o1 27 (.bsl [(.I 0), (.I 0), (.I 0), (.I 0), (.I 0)] 1 [(0, 5, (.t 26))]),
    o1 7 (.mv (.t 27))]) (.keep [0, 5, 7]))
  (.seq (.seq (.ops [o1 28 (.mv (.t 7)),
    o1 29 (.mv (.t 0)),
    o1 30 (.mv (.t 0)),
    o1 31 (.mv (.t 5)),
    o1 32 (.build [(.I 0), (.I 0), (.I 0), (.I 0), (.I 0)] [(0, 1, (.c (.I 12))), (1, 1, (.t 29)), (2, 1, (.t 30)), (4, 1, (.t 31))]),
    o1 33 (.bsl [(.I 0), (.I 0), (.I 0), (.I 0), (.I 0)] 1 [(0, 5, (.t 32))]),
    o1 34 (.app 5 (.t 28) (.t 33)),
    o1 4 (.mv (.t 34))]) (.keep [4]))
  (.ret)))))), [.t 4]⟩

/- loop.example/cothreads/laws.eqInstr -/
def c_weqInstr : AFn := ⟨2, .seq (.seq (.ops [o1 2 (.box (.t 0)),
    o1 3 (.box (.t 1)),
    o1 4 (.mv (.c (.b false)))]) (.keep [2, 3]))
  (.seq (.seq (.seq (.ops [o1 5 (.fldA 0 (.t 2)),
    o1 6 (.load (.t 5)),
    o1 7 (.fldA 0 (.t 3)),
    o1 8 (.load (.t 7)),
    o1 9 (.bin .neq (.t 6) (.t 8))]) (.keep [2, 3, 9]))
  (.seq (.cond (.t 9)
  (.seq (.ops [o1 4 (.mv (.c (.b false)))])
  (.ret))
  (.skip)) (.keep [2, 3])))
  (.seq (.seq (.seq (.ops [o1 10 (.fldA 1 (.t 2)),
    o1 11 (.load (.t 10)),
    o1 12 (.fldA 1 (.t 3)),
    o1 13 (.load (.t 12)),
    o1 14 (.bin .neq (.t 11) (.t 13))]) (.keep [2, 3, 14]))
  (.seq (.cond (.t 14)
  (.seq (.ops [o1 4 (.mv (.c (.b false)))])
  (.ret))
  (.skip)) (.keep [2, 3])))
  (.seq (.seq (.seq (.ops [o1 15 (.fldA 2 (.t 2)),
    o1 16 (.load (.t 15)),
    o1 17 (.fldA 2 (.t 3)),
    o1 18 (.load (.t 17)),
    o1 19 (.bin .neq (.t 16) (.t 18))]) (.keep [2, 3, 19]))
  (.seq (.cond (.t 19)
  (.seq (.ops [o1 4 (.mv (.c (.b false)))])
  (.ret))
  (.skip)) (.keep [2, 3])))
  (.seq (.seq (.seq (.ops [o1 20 (.fldA 3 (.t 2)),
    o1 21 (.load (.t 20)),
    o1 22 (.fldA 3 (.t 3)),
    o1 23 (.load (.t 22)),
    o1 24 (.bin .neq (.t 21) (.t 23))]) (.keep [2, 3, 24]))
  (.seq (.cond (.t 24)
  (.seq (.ops [o1 4 (.mv (.c (.b false)))])
  (.ret))
  (.skip)) (.keep [2, 3])))
  (.seq (.seq (.seq (.ops [o1 25 (.fldA 4 (.t 2)),
    o1 26 (.load (.t 25)),
    o1 27 (.fldA 4 (.t 3)),
    o1 28 (.load (.t 27)),
    o1 29 (.bin .neq (.t 26) (.t 28))]) (.keep [29]))
  (.seq (.cond (.t 29)
  (.seq (.ops [o1 4 (.mv (.c (.b false)))])
  (.ret))
  (.skip)) (.keep [])))
  (.seq (.ops [o1 4 (.mv (.c (.b true)))])
  (.ret))))))), [.t 4]⟩

/- loop.example/cothreads/impl.isMachineReg -/
def c_iisMachineReg : AFn := ⟨1, .seq (.seq (.ops [o1 2 (.mv (.c (.b false)))]) (.keep [0]))
  (.seq (.seq (.ops [o1 3 (.mv (.t 0)),
    o1 4 (.bin .geq (.t 3) (.c (.I 0))),
    o1 5 (.mv (.t 4)),
    ⟨some 6, (some (5, true)), [], false, .mv (.t 0)⟩,
    ⟨some 7, (some (5, true)), [], false, .bin .lss (.t 6) (.c (.I 32))⟩,
    o1 8 (.pick (.t 5) (.t 7) (.c (.b false))),
    o1 2 (.mv (.t 8))]) (.keep [2]))
  (.ret)), [.t 2]⟩

/- loop.example/cothreads/impl.formatOf -/
def c_iformatOf : AFn := ⟨1, .seq (.seq (.ops [o1 2 (.mv (.c (.i .u8 0)))]) (.keep [0]))
  (.seq (.seq (.block 0 (.seq (.seq (.ops [o1 4 (.mv (.t 0)),
    o1 5 (.bin .geq (.t 4) (.c (.I 1))),
    o1 6 (.mv (.t 5)),
    ⟨some 7, (some (6, true)), [], false, .mv (.t 0)⟩,
    ⟨some 8, (some (6, true)), [], false, .bin .leq (.t 7) (.c (.I 11))⟩,
    o1 9 (.pick (.t 6) (.t 8) (.c (.b false))),
    o1 3 (.mv (.t 9))]) (.keep [0, 3]))
  (.seq (.cond (.t 3)
  (.seq (.ops [o1 2 (.mv (.c (.i .u8 82)))])
  (.ret))
  (.seq (.seq (.ops [o1 11 (.mv (.t 0)),
    o1 12 (.bin .geq (.t 11) (.c (.I 12))),
    o1 13 (.mv (.t 12)),
    ⟨some 14, (some (13, true)), [], false, .mv (.t 0)⟩,
    ⟨some 15, (some (13, true)), [], false, .bin .leq (.t 14) (.c (.I 15))⟩,
    o1 16 (.pick (.t 13) (.t 15) (.c (.b false))),
    o1 10 (.mv (.t 16))]) (.keep [0, 10]))
  (.seq (.cond (.t 10)
  (.seq (.ops [o1 2 (.mv (.c (.i .u8 73)))])
  (.ret))
  (.seq (.seq (.ops [o1 18 (.mv (.t 0)),
    o1 19 (.bin .eql (.t 18) (.c (.I 16))),
    o1 17 (.mv (.t 19))]) (.keep [0, 17]))
  (.seq (.cond (.t 17)
  (.seq (.ops [o1 2 (.mv (.c (.i .u8 83)))])
  (.ret))
  (.seq (.seq (.ops [o1 21 (.mv (.t 0)),
    o1 22 (.bin .eql (.t 21) (.c (.I 17))),
    o1 23 (.mv (.t 22)),
    ⟨some 24, (some (23, false)), [], false, .mv (.t 0)⟩,
    ⟨some 25, (some (23, false)), [], false, .bin .eql (.t 24) (.c (.I 18))⟩,
    o1 26 (.pick (.t 23) (.c (.b true)) (.t 25)),
    o1 20 (.mv (.t 26))]) (.keep [0, 20]))
  (.seq (.cond (.t 20)
  (.seq (.ops [o1 2 (.mv (.c (.i .u8 66)))])
  (.ret))
  (.seq (.seq (.ops [o1 28 (.mv (.t 0)),
    o1 29 (.bin .eql (.t 28) (.c (.I 19))),
    o1 27 (.mv (.t 29))]) (.keep [0, 27]))
  (.seq (.cond (.t 27)
  (.seq (.ops [o1 2 (.mv (.c (.i .u8 85)))])
  (.ret))
  (.seq (.seq (.ops [o1 31 (.mv (.t 0)),
    o1 32 (.bin .eql (.t 31) (.c (.I 20))),
    o1 30 (.mv (.t 32))]) (.keep [0, 30]))
  (.seq (.cond (.t 30)
  (.seq (.ops [o1 2 (.mv (.c (.i .u8 74)))])
  (.ret))
  (.seq (.seq (.ops [o1 34 (.mv (.t 0)),
    o1 35 (.bin .eql (.t 34) (.c (.I 21))),
    o1 33 (.mv (.t 35))]) (.keep [33]))
  (.seq (.cond (.t 33)
  (.seq (.ops [o1 2 (.mv (.c (.i .u8 69)))])
  (.ret))
  (.skip)) (.keep [])))) (.keep [])))) (.keep [])))) (.keep [])))) (.keep [])))) (.keep [])))) (.keep [])))) (.keep []))
  (.seq (.ops [o1 2 (.mv (.c (.i .u8 32)))])
  (.ret))), [.t 2]⟩

/- loop.example/cothreads/spec.l94Machine -/
def c_sl94Machine_l0 : AC := .seq (.seq (.seq (.seq (.ops [o1 13 (.mv (.t 4)),
    o1 14 (.bin .lss (.t 13) (.c (.I 8)))]) (.keep [0, 2, 3, 4, 14]))
  (.seq (.cond (.t 14)
  (.skip)
  (.exit 0)) (.keep [0, 2, 3, 4])))
  (.seq (.seq (.block 1 (.seq (.ops [o1 17 (.fldA 0 (.t 3)),
    o1 18 (.load (.t 17)),
    o1 19 (.mv (.t 4)),
    o1 20 (.mv (.t 0)),
    ⟨some 21, none, [(.t 17)], false, .call f_sl91Word [(.t 20)]⟩,
    o1 22 (.idxA 1 (.t 18) (.t 19)),
    o0 (.store 1 (.t 22) (.t 21))]) (.keep [0, 2, 3, 4]))) (.keep [0, 2, 3, 4]))
  (.seq (.ops [o1 15 (.mv (.t 4)),
    o1 16 (.bin .add (.t 15) (.c (.I 1))),
    o1 4 (.mv (.t 16))]) (.keep [0, 2, 3, 4])))) (.keep [0, 2, 3, 4])
def c_sl94Machine_l1 : AC := .seq (.seq (.seq (.seq (.ops [o1 26 (.mv (.t 6)),
    o1 27 (.mv (.t 5)),
    o1 28 (.bin .lss (.t 26) (.t 27))]) (.keep [0, 2, 3, 5, 6, 28]))
  (.seq (.cond (.t 28)
  (.skip)
  (.exit 2)) (.keep [0, 2, 3, 5, 6])))
  (.seq (.seq (.block 3 (.seq (.ops [o1 31 (.fldA 2 (.t 3)),
    o1 32 (.load (.t 31)),
    o1 33 (.mv (.t 0)),
    ⟨some 34, none, [(.t 31)], false, .call f_sl94Near [(.t 33)]⟩,
    ⟨some 35, none, [], true, .call f_sl42Encode [(.t 34)]⟩,
    ⟨some 36, none, [], true, .call f_sWrap [(.t 35)]⟩,
    o1 37 (.bsl [(.I 0)] 1 [(0, 1, (.t 36))]),
    o1 38 (.app 1 (.t 32) (.t 37)),
    o1 39 (.fldA 2 (.t 3)),
    o0 (.store 1 (.t 39) (.t 38))]) (.keep [0, 2, 3, 5, 6]))) (.keep [0, 2, 3, 5, 6]))
  (.seq (.ops [o1 29 (.mv (.t 6)),
    o1 30 (.bin .add (.t 29) (.c (.I 1))),
    o1 6 (.mv (.t 30))]) (.keep [0, 2, 3, 5, 6])))) (.keep [0, 2, 3, 5, 6])
def c_sl94Machine : AFn := ⟨1, .seq (.ops [o1 2 (.alloc [.nils, (.I 0), .nils])])
  (.seq (.seq (.ops [o1 7 (.mksl [(.I 0)] (.c (.I 32)) (.c (.I 32))),
    o1 8 (.mv (.t 0)),
    ⟨some 9, none, [(.t 7)], false, .call f_sl6Rd_pick [(.t 8), (.c (.I 3))]⟩,
    o1 10 (.bin .mul (.c (.I 4)) (.t 9)),
    o1 11 (.bsl [] 0 []),
    o1 12 (.build [.nils, (.I 0), .nils] [(0, 1, (.t 7)), (1, 1, (.t 10)), (2, 1, (.t 11))]),
    o1 3 (.alloc [.nils, (.I 0), .nils]),
    o0 (.store 3 (.t 3) (.t 12))]) (.keep [0, 2, 3]))
  (.seq (.seq (.ops [o1 4 (.mv (.c (.I 1)))])
  (.seq (.block 0 (.seq (.keep [0, 2, 3, 4]) (.loop c_sl94Machine_l0))) (.keep [0, 2, 3])))
  (.seq (.seq (.ops [o1 23 (.mv (.t 0)),
    o1 24 (.call f_sl6Rd_pick [(.t 23), (.c (.I 8))]),
    o1 25 (.bin .add (.c (.I 3)) (.t 24)),
    o1 5 (.mv (.t 25))]) (.keep [0, 2, 3, 5]))
  (.seq (.seq (.ops [o1 6 (.mv (.c (.I 0)))])
  (.seq (.block 2 (.seq (.keep [0, 2, 3, 5, 6]) (.loop c_sl94Machine_l1))) (.keep [0, 2, 3, 5])))
  (.seq (.seq (.seq (.ops [o1 40 (.mv (.t 0)),
    o1 41 (.call f_sl6Rd_pick [(.t 40), (.c (.I 30))])]) (.keep [0, 2, 3, 5, 41]))
  (.seq (.block 4 (.seq (.seq (.ops [o1 43 (.bin .eql (.t 41) (.c (.I 0))),
    o1 42 (.mv (.t 43))]) (.keep [0, 2, 3, 5, 41, 42]))
  (.seq (.cond (.t 42)
  (.seq (.ops [o1 44 (.fldA 0 (.t 3)),
    o1 45 (.load (.t 44)),
    o1 46 (.idxA 1 (.t 45) (.c (.I 0))),
    o0 (.store 1 (.t 46) (.c (.I 1)))]) (.keep [2, 3]))
  (.seq (.seq (.ops [o1 48 (.bin .eql (.t 41) (.c (.I 1))),
    o1 47 (.mv (.t 48))]) (.keep [0, 2, 3, 5, 41, 47]))
  (.seq (.cond (.t 47)
  (.seq (.ops [o1 49 (.mv (.t 5)),
    o1 50 (.bin .mul (.c (.I 4)) (.t 49)),
    o1 51 (.bsl [(.I 0), (.I 0), (.I 0), (.I 0)] 4 [(0, 1, (.c (.I 2))), (1, 1, (.c (.I (-4)))), (2, 1, (.t 50)), (3, 1, (.c (.I 2147483648)))]),
    o1 52 (.mv (.t 0)),
    o1 53 (.call f_sl6Rd_pick [(.t 52), (.c (.I 4))]),
    o1 54 (.idxA 1 (.t 51) (.t 53)),
    o1 55 (.load (.t 54)),
    o1 56 (.fldA 1 (.t 3)),
    o0 (.store 1 (.t 56) (.t 55))]) (.keep [2, 3]))
  (.seq (.seq (.ops [o1 58 (.bin .eql (.t 41) (.c (.I 2))),
    o1 57 (.mv (.t 58))]) (.keep [2, 3, 5, 41, 57]))
  (.seq (.cond (.t 57)
  (.seq (.ops [o1 59 (.fldA 2 (.t 3)),
    o1 60 (.load (.t 59)),
    o1 61 (.mv (.t 5)),
    o1 62 (.bin .sub (.t 61) (.c (.I 1))),
    o1 63 (.idxA 1 (.t 60) (.t 62)),
    o0 (.store 1 (.t 63) (.c (.I 0)))]) (.keep [2, 3]))
  (.seq (.seq (.ops [o1 65 (.bin .eql (.t 41) (.c (.I 3))),
    o1 64 (.mv (.t 65))]) (.keep [2, 3, 64]))
  (.seq (.cond (.t 64)
  (.seq (.ops [o1 66 (.fldA 0 (.t 3)),
    o1 67 (.load (.t 66)),
    o1 68 (.slice 1 (.t 67) (some (.c (.I 1))) none none),
    o1 69 (.fldA 0 (.t 3)),
    o0 (.store 1 (.t 69) (.t 68))]) (.keep [2, 3]))
  (.skip)) (.keep [2, 3])))) (.keep [2, 3])))) (.keep [2, 3])))) (.keep [2, 3])))) (.keep [2, 3])))
  (.seq (.seq (.ops [o1 70 (.loadN 3 (.t 3)),
    o0 (.store 3 (.t 2) (.t 70))]) (.keep [2]))
  (.ret))))))), [.c 2 3]⟩

/- loop.example/cothreads/spec.l91Spoilt -/
def c_sl91Spoilt : AFn := ⟨1, .seq (.ops [o1 2 (.alloc [(.I 0), (.I 0), .nils])])
  (.seq (.seq (.ops [o1 4 (.mv (.t 0)),
    o1 5 (.mv (.t 0)),
    o1 6 (.call f_sl6Rd_pick [(.t 5), (.c (.I 4))]),
    o1 7 (.bin .add (.c (.I 2)) (.t 6)),
    o1 8 (.call f_sl91Expr [(.t 4), (.t 7)]),
    o1 3 (.alloc [(.I 0), (.I 0), .nils]),
    o0 (.store 3 (.t 3) (.t 8))]) (.keep [0, 2, 3]))
  (.seq (.seq (.seq (.ops [o1 9 (.mv (.t 0)),
    o1 10 (.call f_sl6Rd_pick [(.t 9), (.c (.I 40))])]) (.keep [0, 2, 3, 10]))
  (.seq (.block 0 (.seq (.seq (.ops [o1 12 (.bin .eql (.t 10) (.c (.I 0))),
    o1 11 (.mv (.t 12))]) (.keep [0, 2, 3, 10, 11]))
  (.seq (.cond (.t 11)
  (.seq (.ops [o1 13 (.bsl [(.I 0), (.I 0)] 2 [(0, 1, (.c (.I (-1)))), (1, 1, (.c (.I 100000)))]),
    o1 14 (.mv (.t 0)),
    o1 15 (.call f_sl6Rd_pick [(.t 14), (.c (.I 2))]),
    o1 16 (.idxA 1 (.t 13) (.t 15)),
    o1 17 (.load (.t 16)),
    o1 18 (.fldA 1 (.t 3)),
    o0 (.store 1 (.t 18) (.t 17))]) (.keep [2, 3]))
  (.seq (.seq (.ops [o1 20 (.bin .eql (.t 10) (.c (.I 1))),
    o1 19 (.mv (.t 20))]) (.keep [0, 2, 3, 10, 19]))
  (.seq (.cond (.t 19)
  (.seq (.ops [o1 21 (.bsl [(.I 0), (.I 0)] 2 [(0, 1, (.c (.I (-1)))), (1, 1, (.c (.I 14)))]),
    o1 22 (.mv (.t 0)),
    o1 23 (.call f_sl6Rd_pick [(.t 22), (.c (.I 2))]),
    o1 24 (.idxA 1 (.t 21) (.t 23)),
    o1 25 (.load (.t 24)),
    o1 26 (.fldA 0 (.t 3)),
    o0 (.store 1 (.t 26) (.t 25))]) (.keep [2, 3]))
  (.seq (.seq (.ops [o1 28 (.bin .eql (.t 10) (.c (.I 2))),
    o1 27 (.mv (.t 28))]) (.keep [0, 2, 3, 10, 27]))
  (.seq (.cond (.t 27)
  (.seq (.ops [o1 29 (.fldA 2 (.t 3)),
    o1 30 (.load (.t 29)),
    o1 31 (.mv (.t 0)),
    ⟨some 32, none, [(.t 29)], false, .call f_sl91Leaf [(.t 31)]⟩,
    o1 33 (.bsl [(.I 0), (.I 0), .nils] 1 [(0, 3, (.t 32))]),
    o1 34 (.app 3 (.t 30) (.t 33)),
    o1 35 (.fldA 2 (.t 3)),
    o0 (.store 1 (.t 35) (.t 34))]) (.keep [2, 3]))
  (.seq (.seq (.ops [o1 37 (.bin .eql (.t 10) (.c (.I 3))),
    o1 36 (.mv (.t 37))]) (.keep [0, 2, 3, 10, 36]))
  (.seq (.cond (.t 36)
  (.seq (.seq (.ops [o1 38 (.loadN 3 (.t 3)),
    o1 39 (.mv (.t 0)),
    ⟨some 40, none, [(.t 3)], false, .call f_sl91Leaf [(.t 39)]⟩,
    ⟨some 41, none, [], true, .call f_sl4Both [(.c (.I 8)), (.t 38), (.t 40)]⟩,
    o1 42 (.mv (.t 0)),
    o1 43 (.call f_sl91Expr [(.t 42), (.c (.I 5))]),
    ⟨some 44, none, [], true, .call f_sl4Both [(.c (.I 8)), (.t 41), (.t 43)]⟩,
    o0 (.store 3 (.t 2) (.t 44))]) (.keep [2]))
  (.ret))
  (.seq (.seq (.ops [o1 46 (.bin .eql (.t 10) (.c (.I 4))),
    o1 45 (.mv (.t 46))]) (.keep [0, 2, 3, 45]))
  (.seq (.cond (.t 45)
  (.seq (.seq (.ops [o1 47 (.mv (.t 0)),
    o1 48 (.call f_sl91Op [(.t 47)]),
    o1 49 (.mv (.t 0)),
    o1 50 (.call f_sl91Expr [(.t 49), (.c (.I 4))]),
    o1 51 (.call f_sl4Leaf [(.c (.I 13)), (.c (.I 4))]),
    o1 52 (.call f_sl4Both [(.t 48), (.t 50), (.t 51)]),
    o0 (.store 3 (.t 2) (.t 52))]) (.keep [2]))
  (.ret))
  (.skip)) (.keep [2, 3])))) (.keep [2, 3])))) (.keep [2, 3])))) (.keep [2, 3])))) (.keep [2, 3])))) (.keep [2, 3])))
  (.seq (.seq (.ops [o1 53 (.loadN 3 (.t 3)),
    o0 (.store 3 (.t 2) (.t 53))]) (.keep [2]))
  (.ret)))), [.c 2 3]⟩

/- loop.example/cothreads/impl.ExprValid -/
def c_iExprValid : AFn := ⟨1, .seq (.seq (.ops [o1 1 (.box (.t 0)),
    o1 2 (.mv (.c (.b false)))]) (.keep [1]))
  (.seq (.seq (.ops [o1 3 (.loadN 3 (.t 1)),
    o1 4 (.call f_iexprValid [(.t 3), (.c (.I 5))]),
    o1 2 (.mv (.t 4))]) (.keep [2]))
  (.ret)), [.t 2]⟩

/- loop.example/cothreads/impl.exprDepth -/
def c_iexprDepth_l0 : AC := .seq (.seq (.ops [o1 10 (.bin .lss (.t 9) (.t 8))])
  (.seq (.seq (.cond (.t 10)
  (.skip)
  (.exit 0)) (.keep [3, 7, 8, 9]))
  (.seq (.seq (.block 1 (.seq (.seq (.ops [o1 11 (.idxA 3 (.t 7) (.t 9)),
    o1 12 (.loadN 3 (.t 11)),
    o1 5 (.alloc [(.I 0), (.I 0), .nils]),
    o0 (.store 3 (.t 5) (.t 12))]) (.keep [3, 5, 7, 8, 9]))
  (.seq (.ops [o1 13 (.mv (.t 3)),
    o1 14 (.loadN 3 (.t 5)),
    o1 15 (.call f_iexprDepth [(.t 14)]),
    o1 16 (.mx (.t 13) (.t 15)),
    o1 3 (.mv (.t 16))]) (.keep [3, 7, 8, 9])))) (.keep [3, 7, 8, 9]))
  (.seq (.ops [o1 17 (.bin .add (.t 9) (.c (.I 1))),
    o1 9 (.mv (.t 17))]) (.keep [3, 7, 8, 9]))))) (.keep [3, 7, 8, 9])
def c_iexprDepth : AFn := ⟨1, .seq (.seq (.ops [o1 1 (.box (.t 0)),
    o1 2 (.mv (.c (.I 0)))]) (.keep [1]))
  (.seq (.ops [o1 3 (.mv (.c (.I 0)))])
  (.seq (.seq (.seq (.ops [o1 6 (.fldA 2 (.t 1)),
    o1 7 (.load (.t 6)),
    o1 8 (.len (.t 7)),
    o1 9 (.mv (.c (.I 0)))]) (.keep [3, 7, 8, 9]))
  (.seq (.block 0 (.seq (.keep [3, 7, 8, 9]) (.loop c_iexprDepth_l0))) (.keep [3])))
  (.seq (.seq (.ops [o1 18 (.mv (.t 3)),
    o1 19 (.bin .add (.t 18) (.c (.I 1))),
    o1 2 (.mv (.t 19))]) (.keep [2]))
  (.ret)))), [.t 2]⟩

/- loop.example/cothreads/impl.compileExpr -/
def c_icompileExpr : AFn := ⟨3, .seq (.seq (.ops [o1 3 (.box (.t 0)),
    o1 6 (.mv (.c .nils))]) (.keep [1, 2, 3]))
  (.seq (.seq (.seq (.ops [o1 7 (.fldA 0 (.t 3)),
    o1 8 (.load (.t 7))]) (.keep [1, 2, 3, 8]))
  (.seq (.block 0 (.seq (.seq (.ops [o1 10 (.bin .eql (.t 8) (.c (.I 0))),
    o1 9 (.mv (.t 10))]) (.keep [1, 2, 3, 8, 9]))
  (.seq (.cond (.t 9)
  (.seq (.seq (.ops [o1 11 (.mv (.t 2)),
    o1 12 (.mv (.t 1)),
    o1 13 (.fldA 1 (.t 3)),
    o1 14 (.load (.t 13)),
    o1 15 (.build [(.I 0), (.I 0), (.I 0), (.I 0), (.I 0)] [(0, 1, (.c (.I 1))), (1, 1, (.t 12)), (4, 1, (.t 14))]),
    o1 16 (.bsl [(.I 0), (.I 0), (.I 0), (.I 0), (.I 0)] 1 [(0, 5, (.t 15))]),
    o1 17 (.app 5 (.t 11) (.t 16)),
    o1 6 (.mv (.t 17))]) (.keep [6]))
  (.ret))
  (.seq (.seq (.ops [o1 19 (.bin .eql (.t 8) (.c (.I 13))),
    o1 18 (.mv (.t 19))]) (.keep [1, 2, 3, 18]))
  (.seq (.cond (.t 18)
  (.seq (.seq (.ops [o1 20 (.mv (.t 2)),
    o1 21 (.mv (.t 1)),
    o1 22 (.fldA 1 (.t 3)),
    o1 23 (.load (.t 22)),
    o1 24 (.build [(.I 0), (.I 0), (.I 0), (.I 0), (.I 0)] [(0, 1, (.c (.I 2))), (1, 1, (.t 21)), (2, 1, (.t 23))]),
    o1 25 (.bsl [(.I 0), (.I 0), (.I 0), (.I 0), (.I 0)] 1 [(0, 5, (.t 24))]),
    o1 26 (.app 5 (.t 20) (.t 25)),
    o1 6 (.mv (.t 26))]) (.keep [6]))
  (.ret))
  (.skip)) (.keep [1, 2, 3])))) (.keep [1, 2, 3])))) (.keep [1, 2, 3])))
  (.seq (.seq (.ops [o1 27 (.fldA 2 (.t 3)),
    o1 28 (.load (.t 27)),
    o1 29 (.idxA 3 (.t 28) (.c (.I 0))),
    o1 30 (.loadN 3 (.t 29)),
    o1 31 (.mv (.t 1)),
    o1 32 (.mv (.t 2)),
    o1 33 (.call f_icompileExpr [(.t 30), (.t 31), (.t 32)]),
    o1 2 (.mv (.t 33))]) (.keep [1, 2, 3]))
  (.seq (.seq (.ops [o1 34 (.fldA 2 (.t 3)),
    o1 35 (.load (.t 34)),
    o1 36 (.idxA 3 (.t 35) (.c (.I 1))),
    o1 37 (.loadN 3 (.t 36)),
    o1 38 (.mv (.t 1)),
    o1 39 (.bin .add (.t 38) (.c (.I 1))),
    o1 40 (.mv (.t 2)),
    o1 41 (.call f_icompileExpr [(.t 37), (.t 39), (.t 40)]),
    o1 2 (.mv (.t 41))]) (.keep [1, 2, 3]))
  (.seq (.seq (.ops [o1 42 (.mv (.t 2)),
    o1 43 (.mv (.t 1)),
    o1 44 (.mv (.t 1)),
    o1 45 (.mv (.t 1)),
    o1 46 (.bin .add (.t 45) (.c (.I 1))),
    o1 47 (.fldA 0 (.t 3)),
    o1 48 (.load (.t 47)),
    o1 49 (.build [(.I 0), (.I 0), (.I 0), (.I 0), (.I 0)] [(0, 1, (.c (.I 3))), (1, 1, (.t 43)), (2, 1, (.t 44)), (3, 1, (.t 46)), (4, 1, (.t 48))]),
    o1 50 (.bsl [(.I 0), (.I 0), (.I 0), (.I 0), (.I 0)] 1 [(0, 5, (.t 49))]),
    o1 51 (.app 5 (.t 42) (.t 50)),
    o1 6 (.mv (.t 51))]) (.keep [6]))
  (.ret))))), [.t 6]⟩

/- loop.example/cothreads/spec.ExprValid -/
def c_sExprValid : AFn := ⟨1, .seq (.seq (.ops [o1 1 (.box (.t 0)),
    o1 2 (.mv (.c (.b false)))]) (.keep [1]))
  (.seq (.seq (.ops [o1 3 (.loadN 3 (.t 1)),
    o1 4 (.call f_sl4Ok [(.t 3), (.c (.I 5))]),
    o1 2 (.mv (.t 4))]) (.keep [2]))
  (.ret)), [.t 2]⟩

/- loop.example/cothreads/spec.l4Depth -/
def c_sl4Depth : AFn := ⟨1, .seq (.seq (.ops [o1 1 (.box (.t 0)),
    o1 2 (.mv (.c (.I 0)))]) (.keep [1]))
  (.seq (.seq (.seq (.ops [o1 3 (.fldA 2 (.t 1)),
    o1 4 (.load (.t 3)),
    o1 5 (.len (.t 4)),
    o1 6 (.bin .eql (.t 5) (.c (.I 0)))]) (.keep [1, 6]))
  (.seq (.cond (.t 6)
  (.seq (.ops [o1 2 (.mv (.c (.I 1)))])
  (.ret))
  (.skip)) (.keep [1])))
  (.seq (.seq (.ops [o1 7 (.fldA 2 (.t 1)),
    o1 8 (.load (.t 7)),
    o1 9 (.idxA 3 (.t 8) (.c (.I 0))),
    o1 10 (.loadN 3 (.t 9)),
    ⟨some 11, none, [], true, .call f_sl4Depth [(.t 10)]⟩,
    o1 12 (.fldA 2 (.t 1)),
    o1 13 (.load (.t 12)),
    o1 14 (.idxA 3 (.t 13) (.c (.I 1))),
    o1 15 (.loadN 3 (.t 14)),
    ⟨some 16, none, [], true, .call f_sl4Depth [(.t 15)]⟩,
    o1 17 (.mx (.t 11) (.t 16)),
    o1 18 (.bin .add (.c (.I 1)) (.t 17)),
    o1 2 (.mv (.t 18))]) (.keep [2]))
  (.ret))), [.t 2]⟩

/- loop.example/cothreads/spec.l22Expr -/
def c_sl22Expr : AFn := ⟨2, .seq (.seq (.ops [o1 2 (.box (.t 0)),
    o1 4 (.mv (.c .nils))]) (.keep [1, 2]))
  (.seq (.seq (.seq (.ops [o1 6 (.fldA 0 (.t 2)),
    o1 7 (.load (.t 6)),
    o1 8 (.bin .eql (.t 7) (.c (.I 0)))]) (.keep [1, 2, 8]))
  (.seq (.cond (.t 8)
  (.seq (.seq (.ops [o1 9 (.mv (.t 1)),
    o1 10 (.fldA 1 (.t 2)),
    o1 11 (.load (.t 10)),
    o1 12 (.build [(.I 0), (.I 0), (.I 0), (.I 0), (.I 0)] [(0, 1, (.c (.I 1))), (1, 1, (.t 9)), (4, 1, (.t 11))]),
    o1 13 (.bsl [(.I 0), (.I 0), (.I 0), (.I 0), (.I 0)] 1 [(0, 5, (.t 12))]),
    o1 4 (.mv (.t 13))]) (.keep [4]))
  (.ret))
  (.skip)) (.keep [1, 2])))
  (.seq (.seq (.seq (.ops [o1 14 (.fldA 0 (.t 2)),
    o1 15 (.load (.t 14)),
    o1 16 (.bin .eql (.t 15) (.c (.I 13)))]) (.keep [1, 2, 16]))
  (.seq (.cond (.t 16)
  (.seq (.seq (.ops [o1 17 (.mv (.t 1)),
    o1 18 (.fldA 1 (.t 2)),
    o1 19 (.load (.t 18)),
    o1 20 (.build [(.I 0), (.I 0), (.I 0), (.I 0), (.I 0)] [(0, 1, (.c (.I 2))), (1, 1, (.t 17)), (2, 1, (.t 19))]),
    o1 21 (.bsl [(.I 0), (.I 0), (.I 0), (.I 0), (.I 0)] 1 [(0, 5, (.t 20))]),
    o1 4 (.mv (.t 21))]) (.keep [4]))
  (.ret))
  (.skip)) (.keep [1, 2])))
  (.seq (.seq (.ops [o1 22 (.fldA 2 (.t 2)),
    o1 23 (.load (.t 22)),
    o1 24 (.idxA 3 (.t 23) (.c (.I 0))),
    o1 25 (.loadN 3 (.t 24)),
    o1 26 (.mv (.t 1)),
    ⟨some 27, none, [], true, .call f_sl22Expr [(.t 25), (.t 26)]⟩,
    o1 28 (.fldA 2 (.t 2)),
    o1 29 (.load (.t 28)),
    o1 30 (.idxA 3 (.t 29) (.c (.I 1))),
    o1 31 (.loadN 3 (.t 30)),
    o1 32 (.mv (.t 1)),
    o1 33 (.bin .add (.t 32) (.c (.I 1))),
    ⟨some 34, none, [], true, .call f_sl22Expr [(.t 31), (.t 33)]⟩,
    o1 35 (.app 5 (.t 27) (.t 34)),
    o1 5 (.mv (.t 35))]) (.keep [1, 2, 5]))
  (.seq (.seq (.ops [o1 36 (.mv (.t 5)),
    o1 37 (.mv (.t 1)),
    o1 38 (.mv (.t 1)),
    o1 39 (.mv (.t 1)),
    o1 40 (.bin .add (.t 39) (.c (.I 1))),
    o1 41 (.fldA 0 (.t 2)),
    o1 42 (.load (.t 41)),
    o1 43 (.build [(.I 0), (.I 0), (.I 0), (.I 0), (.I 0)] [(0, 1, (.c (.I 3))), (1, 1, (.t 37)), (2, 1, (.t 38)), (3, 1, (.t 40)), (4, 1, (.t 42))]),
    o1 44 (.bsl [(.I 0), (.I 0), (.I 0), (.I 0), (.I 0)] 1 [(0, 5, (.t 43))]),
    o1 45 (.app 5 (.t 36) (.t 44)),
    o1 4 (.mv (.t 45))]) (.keep [4]))
  (.ret))))), [.t 4]⟩

/- loop.example/cothreads/spec.l91Vars -/
def c_sl91Vars_l0 : AC := .seq (.seq (.seq (.seq (.ops [o1 6 (.mv (.t 4)),
    o1 7 (.bin .lss (.t 6) (.c (.I 4)))]) (.keep [0, 3, 4, 7]))
  (.seq (.cond (.t 7)
  (.skip)
  (.exit 0)) (.keep [0, 3, 4])))
  (.seq (.seq (.block 1 (.seq (.ops [o1 10 (.mv (.t 3)),
    o1 11 (.mv (.t 0)),
    o1 12 (.call f_sl91Word [(.t 11)]),
    o1 13 (.bsl [(.I 0)] 1 [(0, 1, (.t 12))]),
    o1 14 (.app 1 (.t 10) (.t 13)),
    o1 3 (.mv (.t 14))]) (.keep [0, 3, 4]))) (.keep [0, 3, 4]))
  (.seq (.ops [o1 8 (.mv (.t 4)),
    o1 9 (.bin .add (.t 8) (.c (.I 1))),
    o1 4 (.mv (.t 9))]) (.keep [0, 3, 4])))) (.keep [0, 3, 4])
def c_sl91Vars : AFn := ⟨1, .seq (.seq (.ops [o1 2 (.mv (.c .nils))]) (.keep [0]))
  (.seq (.seq (.ops [o1 5 (.bsl [] 0 []),
    o1 3 (.mv (.t 5))]) (.keep [0, 3]))
  (.seq (.seq (.ops [o1 4 (.mv (.c (.I 0)))])
  (.seq (.block 0 (.seq (.keep [0, 3, 4]) (.loop c_sl91Vars_l0))) (.keep [0, 3])))
  (.seq (.seq (.seq (.ops [o1 15 (.mv (.t 0)),
    o1 16 (.call f_sl6Rd_pick [(.t 15), (.c (.I 40))])]) (.keep [3, 16]))
  (.seq (.block 2 (.seq (.seq (.ops [o1 18 (.bin .eql (.t 16) (.c (.I 0))),
    o1 17 (.mv (.t 18))]) (.keep [3, 16, 17]))
  (.seq (.cond (.t 17)
  (.seq (.ops [o1 19 (.mv (.t 3)),
    o1 20 (.bsl [(.I 0)] 1 [(0, 1, (.c (.I 1)))]),
    o1 21 (.app 1 (.t 19) (.t 20)),
    o1 3 (.mv (.t 21))]) (.keep [3]))
  (.seq (.seq (.ops [o1 23 (.bin .eql (.t 16) (.c (.I 1))),
    o1 22 (.mv (.t 23))]) (.keep [3, 22]))
  (.seq (.cond (.t 22)
  (.seq (.ops [o1 24 (.mv (.t 3)),
    o1 25 (.idxA 1 (.t 24) (.c (.I 0))),
    o0 (.store 1 (.t 25) (.c (.I 2147483648)))]) (.keep [3]))
  (.skip)) (.keep [3])))) (.keep [3])))) (.keep [3])))
  (.seq (.seq (.ops [o1 26 (.mv (.t 3)),
    o1 2 (.mv (.t 26))]) (.keep [2]))
  (.ret))))), [.t 2]⟩

/- loop.example/cothreads/impl.exprEval -/
def c_iexprEval : AFn := ⟨2, .seq (.seq (.ops [o1 4 (.mv (.c (.I 0)))]) (.keep [0, 1]))
  (.seq (.seq (.seq (.ops [o1 5 (.mv (.t 0)),
    o1 6 (.nilc (.t 5)),
    o1 7 (.fldA 0 (.t 6)),
    o1 8 (.load (.t 7))]) (.keep [0, 1, 8]))
  (.seq (.block 0 (.seq (.seq (.ops [o1 10 (.bin .eql (.t 8) (.c (.I 0))),
    o1 9 (.mv (.t 10))]) (.keep [0, 1, 8, 9]))
  (.seq (.cond (.t 9)
  (.seq (.seq (.ops [o1 11 (.mv (.t 0)),
    o1 12 (.nilc (.t 11)),
    o1 13 (.fldA 1 (.t 12)),
    o1 14 (.load (.t 13)),
    o1 4 (.mv (.t 14))]) (.keep [4]))
  (.ret))
  (.seq (.seq (.ops [o1 16 (.bin .eql (.t 8) (.c (.I 13))),
    o1 15 (.mv (.t 16))]) (.keep [0, 1, 15]))
  (.seq (.cond (.t 15)
  (.seq (.seq (.ops [o1 17 (.mv (.t 1)),
    o1 18 (.mv (.t 0)),
    o1 19 (.nilc (.t 18)),
    o1 20 (.fldA 1 (.t 19)),
    o1 21 (.load (.t 20)),
    o1 22 (.idxA 1 (.t 17) (.t 21)),
    o1 23 (.load (.t 22)),
    o1 4 (.mv (.t 23))]) (.keep [4]))
  (.ret))
  (.skip)) (.keep [0, 1])))) (.keep [0, 1])))) (.keep [0, 1])))
  (.seq (.seq (.ops [o1 24 (.mv (.t 0)),
    o1 25 (.nilc (.t 24)),
    o1 26 (.fldA 0 (.t 25)),
    o1 27 (.load (.t 26)),
    o1 28 (.mv (.t 0)),
    o1 29 (.nilc (.t 28)),
    o1 30 (.fldA 2 (.t 29)),
    o1 31 (.load (.t 30)),
    o1 32 (.idxA 3 (.t 31) (.c (.I 0))),
    o1 33 (.mv (.t 1)),
    ⟨some 34, none, [], true, .call f_iexprEval [(.t 32), (.t 33)]⟩,
    o1 35 (.mv (.t 0)),
    o1 36 (.nilc (.t 35)),
    o1 37 (.fldA 2 (.t 36)),
    o1 38 (.load (.t 37)),
    o1 39 (.idxA 3 (.t 38) (.c (.I 1))),
    o1 40 (.mv (.t 1)),
    ⟨some 41, none, [], true, .call f_iexprEval [(.t 39), (.t 40)]⟩,
    ⟨some 42, none, [], true, .call f_iapply [(.t 27), (.t 34), (.t 41)]⟩,
    o1 4 (.mv (.t 42))]) (.keep [4]))
  (.ret))), [.t 4]⟩

/- loop.example/cothreads/impl.ThreadValid -/
def c_iThreadValid : AFn := ⟨2, .seq (.seq (.ops [o1 2 (.box (.t 0)),
    o1 4 (.mv (.c (.b false)))]) (.keep [1, 2]))
  (.seq (.seq (.ops [o1 5 (.mv (.t 1)),
    o1 6 (.call f_iCodeValid [(.t 5)]),
    o1 7 (.mv (.t 6)),
    ⟨some 8, (some (7, true)), [], false, .loadN 2 (.t 2)⟩,
    ⟨some 9, (some (7, true)), [], false, .mv (.t 1)⟩,
    ⟨some 10, (some (7, true)), [], false, .call f_ithreadFits [(.t 8), (.t 9)]⟩,
    o1 11 (.pick (.t 7) (.t 10) (.c (.b false))),
    o1 4 (.mv (.t 11))]) (.keep [4]))
  (.ret)), [.t 4]⟩

/- loop.example/cothreads/impl.boxesValid -/
def c_iboxesValid_l0 : AC := .seq (.seq (.ops [o1 8 (.bin .lss (.t 7) (.t 6))])
  (.seq (.seq (.cond (.t 8)
  (.skip)
  (.exit 0)) (.keep [0, 5, 6, 7]))
  (.seq (.seq (.block 1 (.seq (.seq (.ops [o1 9 (.idxA 2 (.t 5) (.t 7)),
    o1 10 (.loadN 2 (.t 9)),
    o1 4 (.alloc [(.I 0), .nils]),
    o0 (.store 2 (.t 4) (.t 10))]) (.keep [0, 4, 5, 6, 7]))
  (.seq (.seq (.ops [o1 11 (.loadN 2 (.t 4)),
    o1 12 (.call f_iBoxValid [(.t 11)]),
    o1 13 (.un .not (.t 12))]) (.keep [0, 5, 6, 7, 13]))
  (.seq (.cond (.t 13)
  (.seq (.ops [o1 2 (.mv (.c (.b false)))])
  (.ret))
  (.skip)) (.keep [0, 5, 6, 7]))))) (.keep [0, 5, 6, 7]))
  (.seq (.ops [o1 14 (.bin .add (.t 7) (.c (.I 1))),
    o1 7 (.mv (.t 14))]) (.keep [0, 5, 6, 7]))))) (.keep [0, 5, 6, 7])
def c_iboxesValid : AFn := ⟨1, .seq (.seq (.ops [o1 2 (.mv (.c (.b false)))]) (.keep [0]))
  (.seq (.seq (.ops [o1 5 (.mv (.t 0)),
    o1 6 (.len (.t 5)),
    o1 7 (.mv (.c (.I 0)))])
  (.seq (.block 0 (.seq (.keep [0, 5, 6, 7]) (.loop c_iboxesValid_l0))) (.keep [0])))
  (.seq (.seq (.ops [o1 15 (.mv (.t 0)),
    o1 16 (.len (.t 15)),
    o1 17 (.bin .leq (.t 16) (.c (.I 3))),
    o1 2 (.mv (.t 17))]) (.keep [2]))
  (.ret))), [.t 2]⟩

/- loop.example/cothreads/impl.boxThere -/
def c_iboxThere : AFn := ⟨2, .seq (.seq (.ops [o1 2 (.box (.t 0)),
    o1 4 (.mv (.c (.b false)))]) (.keep [1, 2]))
  (.seq (.seq (.ops [o1 5 (.fldA 0 (.t 2)),
    o1 6 (.load (.t 5)),
    o1 7 (.bin .neq (.t 6) (.c (.I 6))),
    o1 8 (.mv (.t 7)),
    ⟨some 9, (some (8, true)), [], false, .fldA 0 (.t 2)⟩,
    ⟨some 10, (some (8, true)), [], false, .load (.t 9)⟩,
    ⟨some 11, (some (8, true)), [], false, .bin .neq (.t 10) (.c (.I 7))⟩,
    o1 12 (.pick (.t 8) (.t 11) (.c (.b false))),
    o1 13 (.mv (.t 12)),
    ⟨some 14, (some (13, false)), [], false, .fldA 4 (.t 2)⟩,
    ⟨some 15, (some (13, false)), [], false, .load (.t 14)⟩,
    ⟨some 16, (some (13, false)), [], false, .mv (.t 1)⟩,
    ⟨some 17, (some (13, false)), [], false, .bin .lss (.t 15) (.t 16)⟩,
    o1 18 (.pick (.t 13) (.c (.b true)) (.t 17)),
    o1 4 (.mv (.t 18))]) (.keep [4]))
  (.ret)), [.t 4]⟩

/- slices.Clone[[]int,int] -/
def c_slices_Clone_int_int : AFn := ⟨1, .seq (.seq (.ops [o1 2 (.mv (.c .nils))]) (.keep [0]))
  (.seq (.seq (.seq (.ops [o1 3 (.mv (.t 0)),
    o1 4 (.eqN 0 false (.t 3) (.c .nils))]) (.keep [0, 4]))
  (.seq (.cond (.t 4)
  (.seq (.ops [o1 2 (.mv (.c .nils))])
  (.ret))
  (.skip)) (.keep [0])))
  (.seq (.seq (.ops [o1 5 (.bsl [] 0 []),
    o1 6 (.mv (.t 0)),
    o1 7 (.app 1 (.t 5) (.t 6)),
    o1 2 (.mv (.t 7))]) (.keep [2]))
  (.ret))), [.t 2]⟩

/- loop.example/cothreads/impl.boxesCopy -/
def c_iboxesCopy_l0 : AC := .seq (.seq (.ops [o1 9 (.bin .lss (.t 8) (.t 7))])
  (.seq (.seq (.cond (.t 9)
  (.skip)
  (.exit 0)) (.keep [3, 6, 7, 8]))
  (.seq (.seq (.block 1 (.seq (.seq (.ops [o1 10 (.idxA 2 (.t 6) (.t 8)),
    o1 11 (.loadN 2 (.t 10)),
    o1 5 (.alloc [(.I 0), .nils]),
    o0 (.store 2 (.t 5) (.t 11))]) (.keep [3, 5, 6, 7, 8]))
  (.seq (.ops [o1 12 (.mv (.t 3)),
    o1 13 (.fldA 0 (.t 5)),
    o1 14 (.load (.t 13)),
    o1 15 (.fldA 1 (.t 5)),
    o1 16 (.load (.t 15)),
    ⟨some 17, none, [], true, .call f_slices_Clone_int_int [(.t 16)]⟩,
    o1 18 (.build [(.I 0), .nils] [(0, 1, (.t 14)), (1, 1, (.t 17))]),
    o1 19 (.bsl [(.I 0), .nils] 1 [(0, 2, (.t 18))]),
    o1 20 (.app 2 (.t 12) (.t 19)),
    o1 3 (.mv (.t 20))]) (.keep [3, 6, 7, 8])))) (.keep [3, 6, 7, 8]))
  (.seq (.ops [o1 21 (.bin .add (.t 8) (.c (.I 1))),
    o1 8 (.mv (.t 21))]) (.keep [3, 6, 7, 8]))))) (.keep [3, 6, 7, 8])
def c_iboxesCopy : AFn := ⟨1, .seq (.seq (.ops [o1 2 (.mv (.c .nils))]) (.keep [0]))
  (.seq (.ops [o1 3 (.mv (.c .nils))])
  (.seq (.seq (.ops [o1 6 (.mv (.t 0)),
    o1 7 (.len (.t 6)),
    o1 8 (.mv (.c (.I 0)))])
  (.seq (.block 0 (.seq (.keep [3, 6, 7, 8]) (.loop c_iboxesCopy_l0))) (.keep [3])))
  (.seq (.seq (.ops [o1 22 (.mv (.t 3)),
    o1 2 (.mv (.t 22))]) (.keep [2]))
  (.ret)))), [.t 2]⟩

/- (*loop.example/cothreads/impl.Thread).step -/
def c_iThread_step : AFn := ⟨4, .seq (.seq (.ops [o1 8 (.mv (.c (.I 0)))]) (.keep [0, 1, 2, 3]))
  (.seq (.seq (.ops [o1 13 (.mv (.t 1)),
    o1 14 (.mv (.t 0)),
    o1 15 (.nilc (.t 14)),
    o1 16 (.fldA 1 (.t 15)),
    o1 17 (.load (.t 16)),
    o1 18 (.idxA 5 (.t 13) (.t 17)),
    o1 19 (.loadN 5 (.t 18)),
    o1 9 (.alloc [(.I 0), (.I 0), (.I 0), (.I 0), (.I 0)]),
    o0 (.store 5 (.t 9) (.t 19))]) (.keep [0, 2, 3, 9]))
  (.seq (.seq (.ops [o1 20 (.mv (.t 0)),
    o1 21 (.nilc (.t 20)),
    o1 22 (.fldA 1 (.t 21)),
    o1 23 (.load (.t 22)),
    o1 24 (.bin .add (.t 23) (.c (.I 1))),
    o1 10 (.mv (.t 24))]) (.keep [0, 2, 3, 9, 10]))
  (.seq (.seq (.seq (.ops [o1 25 (.fldA 0 (.t 9)),
    o1 26 (.load (.t 25))]) (.keep [0, 2, 3, 9, 10, 26]))
  (.seq (.block 0 (.seq (.seq (.ops [o1 28 (.bin .eql (.t 26) (.c (.I 1))),
    o1 27 (.mv (.t 28))]) (.keep [0, 2, 3, 9, 10, 26, 27]))
  (.seq (.cond (.t 27)
  (.seq (.ops [o1 29 (.mv (.t 0)),
    o1 30 (.nilc (.t 29)),
    o1 31 (.fldA 0 (.t 30)),
    o1 32 (.load (.t 31)),
    o1 33 (.fldA 1 (.t 9)),
    o1 34 (.load (.t 33)),
    o1 35 (.fldA 4 (.t 9)),
    o1 36 (.load (.t 35)),
    o1 37 (.idxA 1 (.t 32) (.t 34)),
    o0 (.store 1 (.t 37) (.t 36))]) (.keep [0, 10]))
  (.seq (.seq (.ops [o1 39 (.bin .eql (.t 26) (.c (.I 2))),
    o1 38 (.mv (.t 39))]) (.keep [0, 2, 3, 9, 10, 26, 38]))
  (.seq (.cond (.t 38)
  (.seq (.ops [o1 40 (.mv (.t 0)),
    o1 41 (.nilc (.t 40)),
    o1 42 (.fldA 0 (.t 41)),
    o1 43 (.load (.t 42)),
    o1 44 (.fldA 1 (.t 9)),
    o1 45 (.load (.t 44)),
    o1 46 (.mv (.t 0)),
    o1 47 (.nilc (.t 46)),
    o1 48 (.fldA 0 (.t 47)),
    o1 49 (.load (.t 48)),
    o1 50 (.fldA 2 (.t 9)),
    o1 51 (.load (.t 50)),
    o1 52 (.idxA 1 (.t 49) (.t 51)),
    o1 53 (.load (.t 52)),
    o1 54 (.idxA 1 (.t 43) (.t 45)),
    o0 (.store 1 (.t 54) (.t 53))]) (.keep [0, 10]))
  (.seq (.seq (.ops [o1 56 (.bin .eql (.t 26) (.c (.I 3))),
    o1 55 (.mv (.t 56))]) (.keep [0, 2, 3, 9, 10, 26, 55]))
  (.seq (.cond (.t 55)
  (.seq (.ops [o1 57 (.mv (.t 0)),
    o1 58 (.nilc (.t 57)),
    o1 59 (.fldA 0 (.t 58)),
    o1 60 (.load (.t 59)),
    o1 61 (.fldA 1 (.t 9)),
    o1 62 (.load (.t 61)),
    o1 63 (.fldA 4 (.t 9)),
    o1 64 (.load (.t 63)),
    o1 65 (.mv (.t 0)),
    o1 66 (.nilc (.t 65)),
    o1 67 (.fldA 0 (.t 66)),
    o1 68 (.load (.t 67)),
    o1 69 (.fldA 2 (.t 9)),
    o1 70 (.load (.t 69)),
    o1 71 (.idxA 1 (.t 68) (.t 70)),
    o1 72 (.load (.t 71)),
    o1 73 (.mv (.t 0)),
    o1 74 (.nilc (.t 73)),
    o1 75 (.fldA 0 (.t 74)),
    o1 76 (.load (.t 75)),
    o1 77 (.fldA 3 (.t 9)),
    o1 78 (.load (.t 77)),
    o1 79 (.idxA 1 (.t 76) (.t 78)),
    o1 80 (.load (.t 79)),
    ⟨some 81, none, [], true, .call f_iapply [(.t 64), (.t 72), (.t 80)]⟩,
    o1 82 (.idxA 1 (.t 60) (.t 62)),
    o0 (.store 1 (.t 82) (.t 81))]) (.keep [0, 10]))
  (.seq (.seq (.ops [o1 84 (.bin .eql (.t 26) (.c (.I 4))),
    o1 83 (.mv (.t 84))]) (.keep [0, 2, 3, 9, 10, 26, 83]))
  (.seq (.cond (.t 83)
  (.seq (.ops [o1 85 (.fldA 4 (.t 9)),
    o1 86 (.load (.t 85)),
    o1 10 (.mv (.t 86))]) (.keep [0, 10]))
  (.seq (.seq (.ops [o1 88 (.bin .eql (.t 26) (.c (.I 5))),
    o1 87 (.mv (.t 88))]) (.keep [0, 2, 3, 9, 10, 26, 87]))
  (.seq (.cond (.t 87)
  (.seq (.seq (.ops [o1 89 (.mv (.t 0)),
    o1 90 (.nilc (.t 89)),
    o1 91 (.fldA 0 (.t 90)),
    o1 92 (.load (.t 91)),
    o1 93 (.fldA 2 (.t 9)),
    o1 94 (.load (.t 93)),
    o1 95 (.idxA 1 (.t 92) (.t 94)),
    o1 96 (.load (.t 95)),
    o1 97 (.bin .eql (.t 96) (.c (.I 0)))]) (.keep [0, 9, 10, 97]))
  (.seq (.cond (.t 97)
  (.seq (.ops [o1 98 (.fldA 4 (.t 9)),
    o1 99 (.load (.t 98)),
    o1 10 (.mv (.t 99))]) (.keep [0, 10]))
  (.skip)) (.keep [0, 10])))
  (.seq (.seq (.ops [o1 101 (.bin .eql (.t 26) (.c (.I 6))),
    o1 100 (.mv (.t 101))]) (.keep [0, 2, 3, 9, 10, 26, 100]))
  (.seq (.cond (.t 100)
  (.seq (.seq (.ops [o1 102 (.mv (.t 2)),
    o1 103 (.fldA 4 (.t 9)),
    o1 104 (.load (.t 103)),
    o1 105 (.idxA 2 (.t 102) (.t 104)),
    o1 106 (.mv (.t 0)),
    o1 107 (.nilc (.t 106)),
    o1 108 (.fldA 0 (.t 107)),
    o1 109 (.load (.t 108)),
    o1 110 (.fldA 2 (.t 9)),
    o1 111 (.load (.t 110)),
    o1 112 (.idxA 1 (.t 109) (.t 111)),
    o1 113 (.load (.t 112)),
    o1 114 (.call f_iBox_put [(.t 105), (.t 113)]),
    o1 115 (.un .not (.t 114))]) (.keep [0, 10, 115]))
  (.seq (.cond (.t 115)
  (.seq (.ops [o1 8 (.mv (.c (.I 3)))])
  (.ret))
  (.skip)) (.keep [0, 10])))
  (.seq (.seq (.ops [o1 117 (.bin .eql (.t 26) (.c (.I 7))),
    o1 116 (.mv (.t 117))]) (.keep [0, 2, 3, 9, 10, 26, 116]))
  (.seq (.cond (.t 116)
  (.seq (.seq (.ops [o1 119 (.mv (.t 2)),
    o1 120 (.fldA 4 (.t 9)),
    o1 121 (.load (.t 120)),
    o1 122 (.idxA 2 (.t 119) (.t 121)),
    o1 123 (.call f_iBox_take [(.t 122)]),
    o1 118 (.mv (.t 123)),
    o1 124 (.ext (.t 118) 0),
    o1 125 (.ext (.t 118) 1),
    o1 11 (.mv (.t 124)),
    o1 12 (.mv (.t 125))]) (.keep [0, 9, 10, 11, 12]))
  (.seq (.seq (.seq (.ops [o1 126 (.mv (.t 12)),
    o1 127 (.un .not (.t 126))]) (.keep [0, 9, 10, 11, 127]))
  (.seq (.cond (.t 127)
  (.seq (.ops [o1 8 (.mv (.c (.I 3)))])
  (.ret))
  (.skip)) (.keep [0, 9, 10, 11])))
  (.seq (.ops [o1 128 (.mv (.t 0)),
    o1 129 (.nilc (.t 128)),
    o1 130 (.fldA 0 (.t 129)),
    o1 131 (.load (.t 130)),
    o1 132 (.fldA 1 (.t 9)),
    o1 133 (.load (.t 132)),
    o1 134 (.mv (.t 11)),
    o1 135 (.idxA 1 (.t 131) (.t 133)),
    o0 (.store 1 (.t 135) (.t 134))]) (.keep [0, 10]))))
  (.seq (.seq (.ops [o1 137 (.bin .eql (.t 26) (.c (.I 8))),
    o1 136 (.mv (.t 137))]) (.keep [0, 3, 9, 10, 26, 136]))
  (.seq (.cond (.t 136)
  (.seq (.seq (.ops [o1 138 (.mv (.t 0)),
    o1 139 (.mv (.t 10)),
    o1 140 (.nilc (.t 138)),
    o1 141 (.fldA 1 (.t 140)),
    o0 (.store 1 (.t 141) (.t 139))]) (.keep []))
  (.seq (.ops [o1 8 (.mv (.c (.I 2)))])
  (.ret)))
  (.seq (.seq (.ops [o1 143 (.bin .eql (.t 26) (.c (.I 9))),
    o1 142 (.mv (.t 143))]) (.keep [0, 3, 9, 10, 26, 142]))
  (.seq (.cond (.t 142)
  (.seq (.ops [o1 144 (.mv (.t 3)),
    o1 145 (.mv (.t 3)),
    o1 146 (.nilc (.t 145)),
    o1 147 (.load (.t 146)),
    o1 148 (.mv (.t 0)),
    o1 149 (.nilc (.t 148)),
    o1 150 (.fldA 0 (.t 149)),
    o1 151 (.load (.t 150)),
    o1 152 (.fldA 2 (.t 9)),
    o1 153 (.load (.t 152)),
    o1 154 (.idxA 1 (.t 151) (.t 153)),
    o1 155 (.load (.t 154)),
    o1 156 (.bsl [(.I 0)] 1 [(0, 1, (.t 155))]),
    o1 157 (.app 1 (.t 147) (.t 156)),
    o1 158 (.nilc (.t 144)),
    o0 (.store 1 (.t 158) (.t 157))]) (.keep [0, 10]))
  (.seq (.seq (.ops [o1 160 (.bin .eql (.t 26) (.c (.I 10))),
    o1 159 (.mv (.t 160))]) (.keep [0, 10, 159]))
  (.seq (.cond (.t 159)
  (.seq (.ops [o1 8 (.mv (.c (.I 4)))])
  (.ret))
  (.skip)) (.keep [0, 10])))) (.keep [0, 10])))) (.keep [0, 10])))) (.keep [0, 10])))) (.keep [0, 10])))) (.keep [0, 10])))) (.keep [0, 10])))) (.keep [0, 10])))) (.keep [0, 10])))) (.keep [0, 10])))) (.keep [0, 10])))
  (.seq (.seq (.ops [o1 161 (.mv (.t 0)),
    o1 162 (.mv (.t 10)),
    o1 163 (.nilc (.t 161)),
    o1 164 (.fldA 1 (.t 163)),
    o0 (.store 1 (.t 164) (.t 162))]) (.keep []))
  (.seq (.ops [o1 8 (.mv (.c (.I 1)))])
  (.ret)))))), [.t 8]⟩

/- loop.example/cothreads/spec.Wrap -/
def c_sWrap : AFn := ⟨1, .seq (.seq (.ops [o1 2 (.mv (.c (.I 0)))]) (.keep [0]))
  (.seq (.seq (.ops [o1 4 (.mv (.t 0)),
    o1 5 (.bin .rem (.t 4) (.c (.I 4294967296))),
    o1 3 (.mv (.t 5))]) (.keep [3]))
  (.seq (.seq (.seq (.ops [o1 6 (.mv (.t 3)),
    o1 7 (.bin .gtr (.t 6) (.c (.I 2147483647)))]) (.keep [3, 7]))
  (.seq (.cond (.t 7)
  (.seq (.seq (.ops [o1 8 (.mv (.t 3)),
    o1 9 (.bin .sub (.t 8) (.c (.I 4294967296))),
    o1 2 (.mv (.t 9))]) (.keep [2]))
  (.ret))
  (.skip)) (.keep [3])))
  (.seq (.seq (.seq (.ops [o1 10 (.mv (.t 3)),
    o1 11 (.bin .lss (.t 10) (.c (.I (-2147483648))))]) (.keep [3, 11]))
  (.seq (.cond (.t 11)
  (.seq (.seq (.ops [o1 12 (.mv (.t 3)),
    o1 13 (.bin .add (.t 12) (.c (.I 4294967296))),
    o1 2 (.mv (.t 13))]) (.keep [2]))
  (.ret))
  (.skip)) (.keep [3])))
  (.seq (.seq (.ops [o1 14 (.mv (.t 3)),
    o1 2 (.mv (.t 14))]) (.keep [2]))
  (.ret))))), [.t 2]⟩

/- loop.example/cothreads/impl.addi -/
def c_iaddi : AFn := ⟨3, .seq (.ops [o1 6 (.alloc [(.I 0), (.I 0), (.I 0), (.I 0), (.I 0)])])
  (.seq (.seq (.ops [o1 7 (.mv (.t 0)),
    o1 8 (.mv (.t 1)),
    o1 9 (.mv (.t 2)),
    o1 10 (.build [(.I 0), (.I 0), (.I 0), (.I 0), (.I 0)] [(0, 1, (.c (.I 12))), (1, 1, (.t 7)), (2, 1, (.t 8)), (4, 1, (.t 9))]),
    o0 (.store 5 (.t 6) (.t 10))]) (.keep [6]))
  (.ret)), [.c 6 5]⟩

/- loop.example/cothreads/impl.SignExtend -/
def c_iSignExtend : AFn := ⟨2, .seq (.seq (.ops [o1 4 (.mv (.c (.I 0)))]) (.keep [0, 1]))
  (.seq (.seq (.seq (.ops [o1 5 (.mv (.t 1)),
    o1 6 (.bin .lss (.t 5) (.c (.I 1))),
    o1 7 (.mv (.t 6)),
    ⟨some 8, (some (7, false)), [], false, .mv (.t 1)⟩,
    ⟨some 9, (some (7, false)), [], false, .bin .gtr (.t 8) (.c (.I 32))⟩,
    o1 10 (.pick (.t 7) (.c (.b true)) (.t 9)),
    o1 11 (.mv (.t 10)),
    ⟨some 12, (some (11, false)), [], false, .mv (.t 0)⟩,
    ⟨some 13, (some (11, false)), [], false, .bin .lss (.t 12) (.c (.I 0))⟩,
    o1 14 (.pick (.t 11) (.c (.b true)) (.t 13)),
    o1 15 (.mv (.t 14)),
    ⟨some 16, (some (15, false)), [], false, .mv (.t 0)⟩,
    ⟨some 17, (some (15, false)), [], false, .mv (.t 1)⟩,
    ⟨some 18, (some (15, false)), [], false, .bin .shl (.c (.I 1)) (.t 17)⟩,
    ⟨some 19, (some (15, false)), [], false, .bin .geq (.t 16) (.t 18)⟩,
    o1 20 (.pick (.t 15) (.c (.b true)) (.t 19))]) (.keep [0, 1, 20]))
  (.seq (.cond (.t 20)
  (.seq (.ops [o1 4 (.mv (.c (.I 0)))])
  (.ret))
  (.skip)) (.keep [0, 1])))
  (.seq (.seq (.seq (.ops [o1 21 (.mv (.t 0)),
    o1 22 (.mv (.t 1)),
    o1 23 (.bin .sub (.t 22) (.c (.I 1))),
    o1 24 (.bin .shl (.c (.I 1)) (.t 23)),
    o1 25 (.bin .geq (.t 21) (.t 24))]) (.keep [0, 1, 25]))
  (.seq (.cond (.t 25)
  (.seq (.seq (.ops [o1 26 (.mv (.t 0)),
    o1 27 (.mv (.t 1)),
    o1 28 (.bin .shl (.c (.I 1)) (.t 27)),
    o1 29 (.bin .sub (.t 26) (.t 28)),
    o1 4 (.mv (.t 29))]) (.keep [4]))
  (.ret))
  (.skip)) (.keep [0])))
  (.seq (.seq (.ops [o1 30 (.mv (.t 0)),
    o1 4 (.mv (.t 30))]) (.keep [4]))
  (.ret)))), [.t 4]⟩

/- loop.example/cothreads/impl.Bits -/
def c_iBits : AFn := ⟨3, .seq (.seq (.ops [o1 6 (.mv (.c (.I 0)))]) (.keep [0, 1, 2]))
  (.seq (.seq (.seq (.ops [o1 7 (.mv (.t 0)),
    o1 8 (.call f_iisUnsigned [(.t 7)]),
    o1 9 (.un .not (.t 8)),
    o1 10 (.mv (.t 9)),
    ⟨some 11, (some (10, false)), [], false, .mv (.t 1)⟩,
    ⟨some 12, (some (10, false)), [], false, .bin .lss (.t 11) (.c (.I 0))⟩,
    o1 13 (.pick (.t 10) (.c (.b true)) (.t 12)),
    o1 14 (.mv (.t 13)),
    ⟨some 15, (some (14, false)), [], false, .mv (.t 1)⟩,
    ⟨some 16, (some (14, false)), [], false, .bin .gtr (.t 15) (.c (.I 31))⟩,
    o1 17 (.pick (.t 14) (.c (.b true)) (.t 16)),
    o1 18 (.mv (.t 17)),
    ⟨some 19, (some (18, false)), [], false, .mv (.t 2)⟩,
    ⟨some 20, (some (18, false)), [], false, .bin .lss (.t 19) (.c (.I 1))⟩,
    o1 21 (.pick (.t 18) (.c (.b true)) (.t 20)),
    o1 22 (.mv (.t 21)),
    ⟨some 23, (some (22, false)), [], false, .mv (.t 2)⟩,
    ⟨some 24, (some (22, false)), [], false, .mv (.t 1)⟩,
    ⟨some 25, (some (22, false)), [], false, .bin .sub (.c (.I 32)) (.t 24)⟩,
    ⟨some 26, (some (22, false)), [], false, .bin .gtr (.t 23) (.t 25)⟩,
    o1 27 (.pick (.t 22) (.c (.b true)) (.t 26))]) (.keep [0, 1, 2, 27]))
  (.seq (.cond (.t 27)
  (.seq (.ops [o1 6 (.mv (.c (.I 0)))])
  (.ret))
  (.skip)) (.keep [0, 1, 2])))
  (.seq (.seq (.ops [o1 28 (.mv (.t 0)),
    o1 29 (.mv (.t 1)),
    o1 30 (.bin .shr (.t 28) (.t 29)),
    o1 31 (.mv (.t 2)),
    o1 32 (.bin .shl (.c (.I 1)) (.t 31)),
    o1 33 (.bin .sub (.t 32) (.c (.I 1))),
    o1 34 (.bin .and (.t 30) (.t 33)),
    o1 6 (.mv (.t 34))]) (.keep [6]))
  (.ret))), [.t 6]⟩

/- loop.example/cothreads/impl.Unsigned -/
def c_iUnsigned : AFn := ⟨1, .seq (.seq (.ops [o1 2 (.mv (.c (.I 0)))]) (.keep [0]))
  (.seq (.seq (.seq (.ops [o1 3 (.mv (.t 0)),
    o1 4 (.call f_iWordValid [(.t 3)]),
    o1 5 (.un .not (.t 4))]) (.keep [0, 5]))
  (.seq (.cond (.t 5)
  (.seq (.ops [o1 2 (.mv (.c (.I (-1))))])
  (.ret))
  (.skip)) (.keep [0])))
  (.seq (.seq (.ops [o1 6 (.mv (.t 0)),
    o1 7 (.conv .u32 (.t 6)),
    o1 8 (.conv .i64 (.t 7)),
    o1 2 (.mv (.t 8))]) (.keep [2]))
  (.ret))), [.t 2]⟩

/- loop.example/cothreads/spec.SignExtend -/
def c_sSignExtend : AFn := ⟨2, .seq (.seq (.ops [o1 4 (.mv (.c (.I 0)))]) (.keep [0, 1]))
  (.seq (.seq (.seq (.ops [o1 5 (.mv (.t 1)),
    o1 6 (.call f_sl6In [(.t 5), (.c (.I 1)), (.c (.I 32))]),
    o1 7 (.un .not (.t 6)),
    o1 8 (.mv (.t 7)),
    ⟨some 9, (some (8, false)), [], false, .mv (.t 0)⟩,
    ⟨some 10, (some (8, false)), [], false, .mv (.t 1)⟩,
    ⟨some 11, (some (8, false)), [], false, .call f_sl1Power [(.t 10)]⟩,
    ⟨some 12, (some (8, false)), [], false, .bin .sub (.t 11) (.c (.I 1))⟩,
    ⟨some 13, (some (8, false)), [], false, .call f_sl6In [(.t 9), (.c (.I 0)), (.t 12)]⟩,
    ⟨some 14, (some (8, false)), [], false, .un .not (.t 13)⟩,
    o1 15 (.pick (.t 8) (.c (.b true)) (.t 14))]) (.keep [0, 1, 15]))
  (.seq (.cond (.t 15)
  (.seq (.ops [o1 4 (.mv (.c (.I 0)))])
  (.ret))
  (.skip)) (.keep [0, 1])))
  (.seq (.seq (.seq (.ops [o1 16 (.mv (.t 0)),
    o1 17 (.mv (.t 1)),
    o1 18 (.bin .sub (.t 17) (.c (.I 1))),
    o1 19 (.call f_sl1Power [(.t 18)]),
    o1 20 (.bin .geq (.t 16) (.t 19))]) (.keep [0, 1, 20]))
  (.seq (.cond (.t 20)
  (.seq (.seq (.ops [o1 21 (.mv (.t 0)),
    o1 22 (.mv (.t 1)),
    o1 23 (.call f_sl1Power [(.t 22)]),
    o1 24 (.bin .sub (.t 21) (.t 23)),
    o1 4 (.mv (.t 24))]) (.keep [4]))
  (.ret))
  (.skip)) (.keep [0])))
  (.seq (.seq (.ops [o1 25 (.mv (.t 0)),
    o1 4 (.mv (.t 25))]) (.keep [4]))
  (.ret)))), [.t 4]⟩

/- loop.example/cothreads/spec.Bits -/
def c_sBits : AFn := ⟨3, .seq (.seq (.ops [o1 6 (.mv (.c (.I 0)))]) (.keep [0, 1, 2]))
  (.seq (.seq (.seq (.ops [o1 7 (.mv (.t 0)),
    o1 8 (.call f_sl6In [(.t 7), (.c (.I 0)), (.c (.I 4294967295))]),
    o1 9 (.un .not (.t 8)),
    o1 10 (.mv (.t 9)),
    ⟨some 11, (some (10, false)), [], false, .mv (.t 1)⟩,
    ⟨some 12, (some (10, false)), [], false, .call f_sl6In [(.t 11), (.c (.I 0)), (.c (.I 31))]⟩,
    ⟨some 13, (some (10, false)), [], false, .un .not (.t 12)⟩,
    o1 14 (.pick (.t 10) (.c (.b true)) (.t 13)),
    o1 15 (.mv (.t 14)),
    ⟨some 16, (some (15, false)), [], false, .mv (.t 2)⟩,
    ⟨some 17, (some (15, false)), [], false, .mv (.t 1)⟩,
    ⟨some 18, (some (15, false)), [], false, .bin .sub (.c (.I 32)) (.t 17)⟩,
    ⟨some 19, (some (15, false)), [], false, .call f_sl6In [(.t 16), (.c (.I 1)), (.t 18)]⟩,
    ⟨some 20, (some (15, false)), [], false, .un .not (.t 19)⟩,
    o1 21 (.pick (.t 15) (.c (.b true)) (.t 20))]) (.keep [0, 1, 2, 21]))
  (.seq (.cond (.t 21)
  (.seq (.ops [o1 6 (.mv (.c (.I 0)))])
  (.ret))
  (.skip)) (.keep [0, 1, 2])))
  (.seq (.seq (.ops [o1 22 (.mv (.t 0)),
    o1 23 (.mv (.t 1)),
    ⟨some 24, none, [], true, .call f_sl1Power [(.t 23)]⟩,
    o1 25 (.bin .quo (.t 22) (.t 24)),
    o1 26 (.mv (.t 2)),
    ⟨some 27, none, [], true, .call f_sl1Power [(.t 26)]⟩,
    o1 28 (.bin .rem (.t 25) (.t 27)),
    o1 6 (.mv (.t 28))]) (.keep [6]))
  (.ret))), [.t 6]⟩

/- loop.example/cothreads/spec.Unsigned -/
def c_sUnsigned : AFn := ⟨1, .seq (.seq (.ops [o1 2 (.mv (.c (.I 0)))]) (.keep [0]))
  (.seq (.seq (.seq (.ops [o1 3 (.mv (.t 0)),
    o1 4 (.call f_sWordValid [(.t 3)]),
    o1 5 (.un .not (.t 4))]) (.keep [0, 5]))
  (.seq (.cond (.t 5)
  (.seq (.ops [o1 2 (.mv (.c (.I (-1))))])
  (.ret))
  (.skip)) (.keep [0])))
  (.seq (.seq (.seq (.ops [o1 6 (.mv (.t 0)),
    o1 7 (.bin .lss (.t 6) (.c (.I 0)))]) (.keep [0, 7]))
  (.seq (.cond (.t 7)
  (.seq (.seq (.ops [o1 8 (.mv (.t 0)),
    o1 9 (.bin .add (.t 8) (.c (.I 4294967296))),
    o1 2 (.mv (.t 9))]) (.keep [2]))
  (.ret))
  (.skip)) (.keep [0])))
  (.seq (.seq (.ops [o1 10 (.mv (.t 0)),
    o1 2 (.mv (.t 10))]) (.keep [2]))
  (.ret)))), [.t 2]⟩

/- loop.example/cothreads/spec.l42Encode -/
def c_sl42Encode : AFn := ⟨1, .seq (.seq (.ops [o1 1 (.box (.t 0)),
    o1 2 (.mv (.c (.I 0)))]) (.keep [1]))
  (.seq (.seq (.seq (.ops [o1 4 (.fldA 0 (.t 1)),
    o1 5 (.load (.t 4))]) (.keep [1, 5]))
  (.seq (.block 0 (.seq (.seq (.seq (.ops [o1 7 (.bin .eql (.t 5) (.c (.I 12))),
    o1 6 (.mv (.t 7))]) (.keep [1, 5, 6]))
  (.seq (.cond (.t 6)
  (.skip)
  (.seq (.ops [o1 8 (.bin .eql (.t 5) (.c (.I 13))),
    o1 6 (.mv (.t 8))]) (.keep [1, 5, 6]))) (.keep [1, 5, 6])))
  (.seq (.cond (.t 6)
  (.seq (.seq (.ops [o1 9 (.loadN 5 (.t 1)),
    o1 10 (.call f_sl42Imm [(.t 9), (.c (.I 19))]),
    o1 2 (.mv (.t 10))]) (.keep [2]))
  (.ret))
  (.seq (.seq (.ops [o1 12 (.bin .eql (.t 5) (.c (.I 14))),
    o1 11 (.mv (.t 12))]) (.keep [1, 5, 11]))
  (.seq (.cond (.t 11)
  (.seq (.seq (.ops [o1 13 (.loadN 5 (.t 1)),
    o1 14 (.call f_sl42Imm [(.t 13), (.c (.I 3))]),
    o1 2 (.mv (.t 14))]) (.keep [2]))
  (.ret))
  (.seq (.seq (.ops [o1 16 (.bin .eql (.t 5) (.c (.I 15))),
    o1 15 (.mv (.t 16))]) (.keep [1, 5, 15]))
  (.seq (.cond (.t 15)
  (.seq (.seq (.ops [o1 17 (.loadN 5 (.t 1)),
    o1 18 (.call f_sl42Imm [(.t 17), (.c (.I 103))]),
    o1 2 (.mv (.t 18))]) (.keep [2]))
  (.ret))
  (.seq (.seq (.ops [o1 20 (.bin .eql (.t 5) (.c (.I 16))),
    o1 19 (.mv (.t 20))]) (.keep [1, 5, 19]))
  (.seq (.cond (.t 19)
  (.seq (.seq (.ops [o1 21 (.fldA 4 (.t 1)),
    o1 22 (.load (.t 21)),
    o1 23 (.call f_sl42Mod [(.t 22), (.c (.I 4096))]),
    o1 3 (.mv (.t 23))]) (.keep [1, 3]))
  (.seq (.seq (.ops [o1 24 (.mv (.t 3)),
    ⟨some 25, none, [], true, .call f_sBits [(.t 24), (.c (.I 5)), (.c (.I 7))]⟩,
    ⟨some 26, none, [], true, .call f_sl42Put [(.t 25), (.c (.I 25))]⟩,
    o1 27 (.fldA 3 (.t 1)),
    o1 28 (.load (.t 27)),
    ⟨some 29, none, [], true, .call f_sl42Put [(.t 28), (.c (.I 20))]⟩,
    o1 30 (.bin .add (.t 26) (.t 29)),
    o1 31 (.loadN 5 (.t 1)),
    ⟨some 32, none, [], true, .call f_sl42Mid [(.t 31), (.c (.I 35))]⟩,
    o1 33 (.bin .add (.t 30) (.t 32)),
    o1 34 (.mv (.t 3)),
    ⟨some 35, none, [], true, .call f_sBits [(.t 34), (.c (.I 0)), (.c (.I 5))]⟩,
    ⟨some 36, none, [], true, .call f_sl42Put [(.t 35), (.c (.I 7))]⟩,
    o1 37 (.bin .add (.t 33) (.t 36)),
    o1 2 (.mv (.t 37))]) (.keep [2]))
  (.ret)))
  (.seq (.seq (.seq (.ops [o1 39 (.bin .eql (.t 5) (.c (.I 17))),
    o1 38 (.mv (.t 39))]) (.keep [1, 5, 38]))
  (.seq (.cond (.t 38)
  (.skip)
  (.seq (.ops [o1 40 (.bin .eql (.t 5) (.c (.I 18))),
    o1 38 (.mv (.t 40))]) (.keep [1, 5, 38]))) (.keep [1, 5, 38])))
  (.seq (.cond (.t 38)
  (.seq (.seq (.ops [o1 41 (.loadN 5 (.t 1)),
    o1 42 (.call f_sl42Branch [(.t 41)]),
    o1 2 (.mv (.t 42))]) (.keep [2]))
  (.ret))
  (.seq (.seq (.ops [o1 44 (.bin .eql (.t 5) (.c (.I 19))),
    o1 43 (.mv (.t 44))]) (.keep [1, 5, 43]))
  (.seq (.cond (.t 43)
  (.seq (.seq (.ops [o1 45 (.fldA 4 (.t 1)),
    o1 46 (.load (.t 45)),
    ⟨some 47, none, [], true, .call f_sl42Put [(.t 46), (.c (.I 12))]⟩,
    o1 48 (.fldA 1 (.t 1)),
    o1 49 (.load (.t 48)),
    ⟨some 50, none, [], true, .call f_sl42Put [(.t 49), (.c (.I 7))]⟩,
    o1 51 (.bin .add (.t 47) (.t 50)),
    o1 52 (.bin .add (.t 51) (.c (.I 55))),
    o1 2 (.mv (.t 52))]) (.keep [2]))
  (.ret))
  (.seq (.seq (.ops [o1 54 (.bin .eql (.t 5) (.c (.I 20))),
    o1 53 (.mv (.t 54))]) (.keep [1, 5, 53]))
  (.seq (.cond (.t 53)
  (.seq (.seq (.ops [o1 55 (.loadN 5 (.t 1)),
    o1 56 (.call f_sl42Jump [(.t 55)]),
    o1 2 (.mv (.t 56))]) (.keep [2]))
  (.ret))
  (.seq (.seq (.ops [o1 58 (.bin .eql (.t 5) (.c (.I 21))),
    o1 57 (.mv (.t 58))]) (.keep [1, 57]))
  (.seq (.cond (.t 57)
  (.seq (.ops [o1 2 (.mv (.c (.I 115)))])
  (.ret))
  (.skip)) (.keep [1])))) (.keep [1])))) (.keep [1])))) (.keep [1])))) (.keep [1])))) (.keep [1])))) (.keep [1])))) (.keep [1])))) (.keep [1])))
  (.seq (.seq (.ops [o1 59 (.fldA 0 (.t 1)),
    o1 60 (.load (.t 59)),
    ⟨some 61, none, [], true, .call f_sl42Seven [(.t 60)]⟩,
    ⟨some 62, none, [], true, .call f_sl42Put [(.t 61), (.c (.I 25))]⟩,
    o1 63 (.fldA 3 (.t 1)),
    o1 64 (.load (.t 63)),
    ⟨some 65, none, [], true, .call f_sl42Put [(.t 64), (.c (.I 20))]⟩,
    o1 66 (.bin .add (.t 62) (.t 65)),
    o1 67 (.loadN 5 (.t 1)),
    ⟨some 68, none, [], true, .call f_sl42Mid [(.t 67), (.c (.I 51))]⟩,
    o1 69 (.bin .add (.t 66) (.t 68)),
    o1 70 (.fldA 1 (.t 1)),
    o1 71 (.load (.t 70)),
    ⟨some 72, none, [], true, .call f_sl42Put [(.t 71), (.c (.I 7))]⟩,
    o1 73 (.bin .add (.t 69) (.t 72)),
    o1 2 (.mv (.t 73))]) (.keep [2]))
  (.ret))), [.t 2]⟩

/- loop.example/cothreads/spec.l94Near -/
def c_sl94Near : AFn := ⟨1, .seq (.ops [o1 2 (.alloc [(.I 0), (.I 0), (.I 0), (.I 0), (.I 0)])])
  (.seq (.seq (.ops [o1 4 (.mv (.t 0)),
    o1 5 (.call f_sl94Instr [(.t 4)]),
    o1 3 (.alloc [(.I 0), (.I 0), (.I 0), (.I 0), (.I 0)]),
    o0 (.store 5 (.t 3) (.t 5))]) (.keep [0, 2, 3]))
  (.seq (.seq (.ops [o1 6 (.fldA 1 (.t 3)),
    o1 7 (.load (.t 6)),
    o1 8 (.bin .rem (.t 7) (.c (.I 8))),
    o1 9 (.fldA 1 (.t 3)),
    o0 (.store 1 (.t 9) (.t 8))]) (.keep [0, 2, 3]))
  (.seq (.seq (.ops [o1 10 (.fldA 2 (.t 3)),
    o1 11 (.load (.t 10)),
    o1 12 (.bin .rem (.t 11) (.c (.I 8))),
    o1 13 (.fldA 2 (.t 3)),
    o0 (.store 1 (.t 13) (.t 12))]) (.keep [0, 2, 3]))
  (.seq (.seq (.ops [o1 14 (.fldA 3 (.t 3)),
    o1 15 (.load (.t 14)),
    o1 16 (.bin .rem (.t 15) (.c (.I 8))),
    o1 17 (.fldA 3 (.t 3)),
    o0 (.store 1 (.t 17) (.t 16))]) (.keep [0, 2, 3]))
  (.seq (.seq (.seq (.ops [o1 18 (.fldA 0 (.t 3)),
    o1 19 (.load (.t 18))]) (.keep [0, 2, 3, 19]))
  (.seq (.block 0 (.seq (.seq (.seq (.ops [o1 21 (.bin .eql (.t 19) (.c (.I 14))),
    o1 20 (.mv (.t 21))]) (.keep [0, 2, 3, 19, 20]))
  (.seq (.cond (.t 20)
  (.skip)
  (.seq (.ops [o1 22 (.bin .eql (.t 19) (.c (.I 16))),
    o1 20 (.mv (.t 22))]) (.keep [0, 2, 3, 19, 20]))) (.keep [0, 2, 3, 19, 20])))
  (.seq (.cond (.t 20)
  (.seq (.seq (.ops [o1 23 (.mv (.t 0)),
    o1 24 (.call f_sl6Rd_pick [(.t 23), (.c (.I 12))]),
    o1 25 (.bin .mul (.c (.I 4)) (.t 24)),
    o1 26 (.fldA 4 (.t 3)),
    o0 (.store 1 (.t 26) (.t 25))]) (.keep [2, 3]))
  (.seq (.ops [o1 27 (.fldA 2 (.t 3)),
    o0 (.store 1 (.t 27) (.c (.I 0)))]) (.keep [2, 3])))
  (.seq (.seq (.seq (.ops [o1 29 (.bin .eql (.t 19) (.c (.I 17))),
    o1 28 (.mv (.t 29))]) (.keep [0, 2, 3, 19, 28]))
  (.seq (.cond (.t 28)
  (.skip)
  (.seq (.seq (.ops [o1 30 (.bin .eql (.t 19) (.c (.I 18))),
    o1 28 (.mv (.t 30))]) (.keep [0, 2, 3, 19, 28]))
  (.seq (.cond (.t 28)
  (.skip)
  (.seq (.ops [o1 31 (.bin .eql (.t 19) (.c (.I 20))),
    o1 28 (.mv (.t 31))]) (.keep [0, 2, 3, 19, 28]))) (.keep [0, 2, 3, 19, 28])))) (.keep [0, 2, 3, 19, 28])))
  (.seq (.cond (.t 28)
  (.seq (.ops [o1 32 (.mv (.t 0)),
    o1 33 (.call f_sl6Rd_pick [(.t 32), (.c (.I 6))]),
    o1 34 (.bin .mul (.c (.I 4)) (.t 33)),
    o1 35 (.bin .sub (.t 34) (.c (.I 8))),
    o1 36 (.fldA 4 (.t 3)),
    o0 (.store 1 (.t 36) (.t 35))]) (.keep [2, 3]))
  (.seq (.seq (.ops [o1 38 (.bin .eql (.t 19) (.c (.I 15))),
    o1 37 (.mv (.t 38))]) (.keep [0, 2, 3, 37]))
  (.seq (.cond (.t 37)
  (.seq (.seq (.ops [o1 39 (.mv (.t 0)),
    o1 40 (.call f_sl6Rd_pick [(.t 39), (.c (.I 8))]),
    o1 41 (.bin .mul (.c (.I 4)) (.t 40)),
    o1 42 (.fldA 4 (.t 3)),
    o0 (.store 1 (.t 42) (.t 41))]) (.keep [2, 3]))
  (.seq (.ops [o1 43 (.fldA 2 (.t 3)),
    o0 (.store 1 (.t 43) (.c (.I 0)))]) (.keep [2, 3])))
  (.skip)) (.keep [2, 3])))) (.keep [2, 3])))) (.keep [2, 3])))) (.keep [2, 3])))
  (.seq (.seq (.ops [o1 44 (.loadN 5 (.t 3)),
    o0 (.store 5 (.t 2) (.t 44))]) (.keep [2]))
  (.ret))))))), [.c 2 5]⟩

/- loop.example/cothreads/spec.l91Expr -/
def c_sl91Expr : AFn := ⟨2, .seq (.ops [o1 4 (.alloc [(.I 0), (.I 0), .nils])])
  (.seq (.seq (.seq (.ops [o1 7 (.mv (.t 1)),
    o1 8 (.bin .lss (.t 7) (.c (.I 2))),
    o1 9 (.mv (.t 8)),
    ⟨some 10, (some (9, false)), [], false, .mv (.t 0)⟩,
    ⟨some 11, (some (9, false)), [], false, .call f_sl6Rd_pick [(.t 10), (.c (.I 3))]⟩,
    ⟨some 12, (some (9, false)), [], false, .bin .eql (.t 11) (.c (.I 0))⟩,
    o1 13 (.pick (.t 9) (.c (.b true)) (.t 12))]) (.keep [0, 1, 4, 13]))
  (.seq (.cond (.t 13)
  (.seq (.seq (.ops [o1 14 (.mv (.t 0)),
    o1 15 (.call f_sl91Leaf [(.t 14)]),
    o0 (.store 3 (.t 4) (.t 15))]) (.keep [4]))
  (.ret))
  (.skip)) (.keep [0, 1, 4])))
  (.seq (.seq (.ops [o1 16 (.mv (.t 0)),
    o1 17 (.call f_sl91Op [(.t 16)]),
    o1 5 (.mv (.t 17))]) (.keep [0, 1, 4, 5]))
  (.seq (.seq (.ops [o1 18 (.mv (.t 0)),
    o1 19 (.mv (.t 1)),
    o1 20 (.bin .sub (.t 19) (.c (.I 1))),
    o1 21 (.call f_sl91Expr [(.t 18), (.t 20)]),
    o1 6 (.alloc [(.I 0), (.I 0), .nils]),
    o0 (.store 3 (.t 6) (.t 21))]) (.keep [0, 1, 4, 5, 6]))
  (.seq (.seq (.ops [o1 22 (.mv (.t 5)),
    o1 23 (.loadN 3 (.t 6)),
    o1 24 (.mv (.t 0)),
    o1 25 (.mv (.t 1)),
    o1 26 (.bin .sub (.t 25) (.c (.I 1))),
    ⟨some 27, none, [(.t 6)], false, .call f_sl91Expr [(.t 24), (.t 26)]⟩,
    ⟨some 28, none, [], true, .call f_sl4Both [(.t 22), (.t 23), (.t 27)]⟩,
    o0 (.store 3 (.t 4) (.t 28))]) (.keep [4]))
  (.ret))))), [.c 4 3]⟩

/- loop.example/cothreads/spec.l91Leaf -/
def c_sl91Leaf : AFn := ⟨1, .seq (.ops [o1 2 (.alloc [(.I 0), (.I 0), .nils])])
  (.seq (.seq (.seq (.ops [o1 3 (.mv (.t 0)),
    o1 4 (.call f_sl6Rd_pick [(.t 3), (.c (.I 4))])]) (.keep [0, 2, 4]))
  (.seq (.block 0 (.seq (.seq (.ops [o1 6 (.bin .eql (.t 4) (.c (.I 0))),
    o1 5 (.mv (.t 6))]) (.keep [0, 2, 4, 5]))
  (.seq (.cond (.t 5)
  (.seq (.seq (.ops [o1 7 (.mv (.t 0)),
    o1 8 (.call f_sl6Rd_pick [(.t 7), (.c (.I 4))]),
    o1 9 (.call f_sl4Leaf [(.c (.I 0)), (.t 8)]),
    o0 (.store 3 (.t 2) (.t 9))]) (.keep [2]))
  (.ret))
  (.seq (.seq (.ops [o1 11 (.bin .eql (.t 4) (.c (.I 1))),
    o1 10 (.mv (.t 11))]) (.keep [0, 2, 10]))
  (.seq (.cond (.t 10)
  (.seq (.seq (.ops [o1 12 (.bsl [(.I 0), (.I 0), (.I 0), (.I 0), (.I 0), (.I 0), (.I 0), (.I 0)] 8 [(0, 1, (.c (.I 5))), (1, 1, (.c (.I 31))), (2, 1, (.c (.I 32))), (3, 1, (.c (.I 100))), (4, 1, (.c (.I 2047))), (5, 1, (.c (.I 2048))), (6, 1, (.c (.I 65536))), (7, 1, (.c (.I 99999)))]),
    o1 13 (.mv (.t 0)),
    o1 14 (.call f_sl6Rd_pick [(.t 13), (.c (.I 8))]),
    o1 15 (.idxA 1 (.t 12) (.t 14)),
    o1 16 (.load (.t 15)),
    o1 17 (.call f_sl4Leaf [(.c (.I 0)), (.t 16)]),
    o0 (.store 3 (.t 2) (.t 17))]) (.keep [2]))
  (.ret))
  (.skip)) (.keep [0, 2])))) (.keep [0, 2])))) (.keep [0, 2])))
  (.seq (.seq (.ops [o1 18 (.mv (.t 0)),
    o1 19 (.call f_sl6Rd_pick [(.t 18), (.c (.I 4))]),
    o1 20 (.call f_sl4Leaf [(.c (.I 13)), (.t 19)]),
    o0 (.store 3 (.t 2) (.t 20))]) (.keep [2]))
  (.ret))), [.c 2 3]⟩

/- loop.example/cothreads/spec.l4Both -/
def c_sl4Both : AFn := ⟨3, .seq (.ops [o1 4 (.box (.t 1)),
    o1 5 (.box (.t 2)),
    o1 6 (.alloc [(.I 0), (.I 0), .nils])])
  (.seq (.seq (.ops [o1 7 (.mv (.t 0)),
    o1 8 (.loadN 3 (.t 4)),
    o1 9 (.loadN 3 (.t 5)),
    o1 10 (.bsl [(.I 0), (.I 0), .nils, (.I 0), (.I 0), .nils] 2 [(0, 3, (.t 8)), (3, 3, (.t 9))]),
    o1 11 (.build [(.I 0), (.I 0), .nils] [(0, 1, (.t 7)), (2, 1, (.t 10))]),
    o0 (.store 3 (.t 6) (.t 11))]) (.keep [6]))
  (.ret)), [.c 6 3]⟩

/- loop.example/cothreads/spec.l91Op -/
def c_sl91Op : AFn := ⟨1, .seq (.seq (.ops [o1 2 (.mv (.c (.I 0)))]) (.keep [0]))
  (.seq (.seq (.ops [o1 3 (.mv (.t 0)),
    o1 4 (.call f_sl6Rd_pick [(.t 3), (.c (.I 12))]),
    o1 5 (.bin .add (.c (.I 1)) (.t 4)),
    o1 2 (.mv (.t 5))]) (.keep [2]))
  (.ret)), [.t 2]⟩

/- loop.example/cothreads/spec.l4Leaf -/
def c_sl4Leaf : AFn := ⟨2, .seq (.ops [o1 4 (.alloc [(.I 0), (.I 0), .nils])])
  (.seq (.seq (.ops [o1 5 (.mv (.t 0)),
    o1 6 (.mv (.t 1)),
    o1 7 (.bsl [] 0 []),
    o1 8 (.build [(.I 0), (.I 0), .nils] [(0, 1, (.t 5)), (1, 1, (.t 6)), (2, 1, (.t 7))]),
    o0 (.store 3 (.t 4) (.t 8))]) (.keep [4]))
  (.ret)), [.c 4 3]⟩

/- loop.example/cothreads/impl.exprValid -/
def c_iexprValid : AFn := ⟨2, .seq (.seq (.ops [o1 2 (.box (.t 0)),
    o1 4 (.mv (.c (.b false)))]) (.keep [1, 2]))
  (.seq (.seq (.block 0 (.seq (.seq (.ops [o1 6 (.fldA 0 (.t 2)),
    o1 7 (.load (.t 6)),
    o1 8 (.bin .eql (.t 7) (.c (.I 0))),
    o1 5 (.mv (.t 8))]) (.keep [1, 2, 5]))
  (.seq (.cond (.t 5)
  (.seq (.seq (.ops [o1 9 (.fldA 1 (.t 2)),
    o1 10 (.load (.t 9)),
    o1 11 (.bin .geq (.t 10) (.c (.I 0))),
    o1 12 (.mv (.t 11)),
    ⟨some 13, (some (12, true)), [], false, .fldA 1 (.t 2)⟩,
    ⟨some 14, (some (12, true)), [], false, .load (.t 13)⟩,
    ⟨some 15, (some (12, true)), [], false, .bin .leq (.t 14) (.c (.I 99999))⟩,
    o1 16 (.pick (.t 12) (.t 15) (.c (.b false))),
    o1 17 (.mv (.t 16)),
    ⟨some 18, (some (17, true)), [], false, .fldA 2 (.t 2)⟩,
    ⟨some 19, (some (17, true)), [], false, .load (.t 18)⟩,
    ⟨some 20, (some (17, true)), [], false, .len (.t 19)⟩,
    ⟨some 21, (some (17, true)), [], false, .bin .eql (.t 20) (.c (.I 0))⟩,
    o1 22 (.pick (.t 17) (.t 21) (.c (.b false))),
    o1 23 (.mv (.t 22)),
    ⟨some 24, (some (23, true)), [], false, .mv (.t 1)⟩,
    ⟨some 25, (some (23, true)), [], false, .bin .gtr (.t 24) (.c (.I 0))⟩,
    o1 26 (.pick (.t 23) (.t 25) (.c (.b false))),
    o1 4 (.mv (.t 26))]) (.keep [4]))
  (.ret))
  (.seq (.seq (.ops [o1 28 (.fldA 0 (.t 2)),
    o1 29 (.load (.t 28)),
    o1 30 (.bin .eql (.t 29) (.c (.I 13))),
    o1 27 (.mv (.t 30))]) (.keep [1, 2, 27]))
  (.seq (.cond (.t 27)
  (.seq (.seq (.ops [o1 31 (.fldA 1 (.t 2)),
    o1 32 (.load (.t 31)),
    o1 33 (.bin .geq (.t 32) (.c (.I 0))),
    o1 34 (.mv (.t 33)),
    ⟨some 35, (some (34, true)), [], false, .fldA 1 (.t 2)⟩,
    ⟨some 36, (some (34, true)), [], false, .load (.t 35)⟩,
    ⟨some 37, (some (34, true)), [], false, .bin .lss (.t 36) (.c (.I 4))⟩,
    o1 38 (.pick (.t 34) (.t 37) (.c (.b false))),
    o1 39 (.mv (.t 38)),
    ⟨some 40, (some (39, true)), [], false, .fldA 2 (.t 2)⟩,
    ⟨some 41, (some (39, true)), [], false, .load (.t 40)⟩,
    ⟨some 42, (some (39, true)), [], false, .len (.t 41)⟩,
    ⟨some 43, (some (39, true)), [], false, .bin .eql (.t 42) (.c (.I 0))⟩,
    o1 44 (.pick (.t 39) (.t 43) (.c (.b false))),
    o1 45 (.mv (.t 44)),
    ⟨some 46, (some (45, true)), [], false, .mv (.t 1)⟩,
    ⟨some 47, (some (45, true)), [], false, .bin .gtr (.t 46) (.c (.I 0))⟩,
    o1 48 (.pick (.t 45) (.t 47) (.c (.b false))),
    o1 4 (.mv (.t 48))]) (.keep [4]))
  (.ret))
  (.skip)) (.keep [1, 2])))) (.keep [1, 2])))) (.keep [1, 2]))
  (.seq (.seq (.ops [o1 49 (.fldA 0 (.t 2)),
    o1 50 (.load (.t 49)),
    o1 51 (.call f_iOpValid [(.t 50)]),
    o1 52 (.mv (.t 51)),
    ⟨some 53, (some (52, true)), [], false, .fldA 1 (.t 2)⟩,
    ⟨some 54, (some (52, true)), [], false, .load (.t 53)⟩,
    ⟨some 55, (some (52, true)), [], false, .bin .eql (.t 54) (.c (.I 0))⟩,
    o1 56 (.pick (.t 52) (.t 55) (.c (.b false))),
    o1 57 (.mv (.t 56)),
    ⟨some 58, (some (57, true)), [], false, .fldA 2 (.t 2)⟩,
    ⟨some 59, (some (57, true)), [], false, .load (.t 58)⟩,
    ⟨some 60, (some (57, true)), [], false, .len (.t 59)⟩,
    ⟨some 61, (some (57, true)), [], false, .bin .eql (.t 60) (.c (.I 2))⟩,
    o1 62 (.pick (.t 57) (.t 61) (.c (.b false))),
    o1 63 (.mv (.t 62)),
    ⟨some 64, (some (63, true)), [], false, .mv (.t 1)⟩,
    ⟨some 65, (some (63, true)), [], false, .bin .gtr (.t 64) (.c (.I 1))⟩,
    o1 66 (.pick (.t 63) (.t 65) (.c (.b false))),
    o1 67 (.mv (.t 66)),
    ⟨some 68, (some (67, true)), [], false, .fldA 2 (.t 2)⟩,
    ⟨some 69, (some (67, true)), [], false, .load (.t 68)⟩,
    ⟨some 70, (some (67, true)), [], false, .idxA 3 (.t 69) (.c (.I 0))⟩,
    ⟨some 71, (some (67, true)), [], false, .loadN 3 (.t 70)⟩,
    ⟨some 72, (some (67, true)), [], false, .mv (.t 1)⟩,
    ⟨some 73, (some (67, true)), [], false, .bin .sub (.t 72) (.c (.I 1))⟩,
    ⟨some 74, (some (67, true)), [], false, .call f_iexprValid [(.t 71), (.t 73)]⟩,
    o1 75 (.pick (.t 67) (.t 74) (.c (.b false))),
    o1 76 (.mv (.t 75)),
    ⟨some 77, (some (76, true)), [], false, .fldA 2 (.t 2)⟩,
    ⟨some 78, (some (76, true)), [], false, .load (.t 77)⟩,
    ⟨some 79, (some (76, true)), [], false, .idxA 3 (.t 78) (.c (.I 1))⟩,
    ⟨some 80, (some (76, true)), [], false, .loadN 3 (.t 79)⟩,
    ⟨some 81, (some (76, true)), [], false, .mv (.t 1)⟩,
    ⟨some 82, (some (76, true)), [], false, .bin .sub (.t 81) (.c (.I 1))⟩,
    ⟨some 83, (some (76, true)), [], false, .call f_iexprValid [(.t 80), (.t 82)]⟩,
    o1 84 (.pick (.t 76) (.t 83) (.c (.b false))),
    o1 4 (.mv (.t 84))]) (.keep [4]))
  (.ret))), [.t 4]⟩

/- loop.example/cothreads/spec.l4Ok -/
def c_sl4Ok : AFn := ⟨2, .seq (.seq (.ops [o1 2 (.box (.t 0)),
    o1 4 (.mv (.c (.b false)))]) (.keep [1, 2]))
  (.seq (.seq (.seq (.ops [o1 5 (.mv (.t 1)),
    o1 6 (.bin .lss (.t 5) (.c (.I 1)))]) (.keep [1, 2, 6]))
  (.seq (.cond (.t 6)
  (.seq (.ops [o1 4 (.mv (.c (.b false)))])
  (.ret))
  (.skip)) (.keep [1, 2])))
  (.seq (.seq (.seq (.ops [o1 7 (.fldA 0 (.t 2)),
    o1 8 (.load (.t 7)),
    o1 9 (.bin .eql (.t 8) (.c (.I 0)))]) (.keep [1, 2, 9]))
  (.seq (.cond (.t 9)
  (.seq (.seq (.ops [o1 10 (.fldA 1 (.t 2)),
    o1 11 (.load (.t 10)),
    o1 12 (.call f_sl6In [(.t 11), (.c (.I 0)), (.c (.I 99999))]),
    o1 13 (.mv (.t 12)),
    ⟨some 14, (some (13, true)), [], false, .fldA 2 (.t 2)⟩,
    ⟨some 15, (some (13, true)), [], false, .load (.t 14)⟩,
    ⟨some 16, (some (13, true)), [], false, .len (.t 15)⟩,
    ⟨some 17, (some (13, true)), [], false, .bin .eql (.t 16) (.c (.I 0))⟩,
    o1 18 (.pick (.t 13) (.t 17) (.c (.b false))),
    o1 4 (.mv (.t 18))]) (.keep [4]))
  (.ret))
  (.skip)) (.keep [1, 2])))
  (.seq (.seq (.seq (.ops [o1 19 (.fldA 0 (.t 2)),
    o1 20 (.load (.t 19)),
    o1 21 (.bin .eql (.t 20) (.c (.I 13)))]) (.keep [1, 2, 21]))
  (.seq (.cond (.t 21)
  (.seq (.seq (.ops [o1 22 (.fldA 1 (.t 2)),
    o1 23 (.load (.t 22)),
    o1 24 (.call f_sl6In [(.t 23), (.c (.I 0)), (.c (.I 3))]),
    o1 25 (.mv (.t 24)),
    ⟨some 26, (some (25, true)), [], false, .fldA 2 (.t 2)⟩,
    ⟨some 27, (some (25, true)), [], false, .load (.t 26)⟩,
    ⟨some 28, (some (25, true)), [], false, .len (.t 27)⟩,
    ⟨some 29, (some (25, true)), [], false, .bin .eql (.t 28) (.c (.I 0))⟩,
    o1 30 (.pick (.t 25) (.t 29) (.c (.b false))),
    o1 4 (.mv (.t 30))]) (.keep [4]))
  (.ret))
  (.skip)) (.keep [1, 2])))
  (.seq (.seq (.ops [o1 31 (.fldA 0 (.t 2)),
    o1 32 (.load (.t 31)),
    o1 33 (.call f_sOpValid [(.t 32)]),
    o1 34 (.mv (.t 33)),
    ⟨some 35, (some (34, true)), [], false, .fldA 1 (.t 2)⟩,
    ⟨some 36, (some (34, true)), [], false, .load (.t 35)⟩,
    ⟨some 37, (some (34, true)), [], false, .bin .eql (.t 36) (.c (.I 0))⟩,
    o1 38 (.pick (.t 34) (.t 37) (.c (.b false))),
    o1 39 (.mv (.t 38)),
    ⟨some 40, (some (39, true)), [], false, .fldA 2 (.t 2)⟩,
    ⟨some 41, (some (39, true)), [], false, .load (.t 40)⟩,
    ⟨some 42, (some (39, true)), [], false, .len (.t 41)⟩,
    ⟨some 43, (some (39, true)), [], false, .bin .eql (.t 42) (.c (.I 2))⟩,
    o1 44 (.pick (.t 39) (.t 43) (.c (.b false))),
    o1 45 (.mv (.t 44)),
    ⟨some 46, (some (45, true)), [], false, .fldA 2 (.t 2)⟩,
    ⟨some 47, (some (45, true)), [], false, .load (.t 46)⟩,
    ⟨some 48, (some (45, true)), [], false, .idxA 3 (.t 47) (.c (.I 0))⟩,
    ⟨some 49, (some (45, true)), [], false, .loadN 3 (.t 48)⟩,
    ⟨some 50, (some (45, true)), [], false, .mv (.t 1)⟩,
    ⟨some 51, (some (45, true)), [], false, .bin .sub (.t 50) (.c (.I 1))⟩,
    ⟨some 52, (some (45, true)), [], false, .call f_sl4Ok [(.t 49), (.t 51)]⟩,
    o1 53 (.pick (.t 45) (.t 52) (.c (.b false))),
    o1 54 (.mv (.t 53)),
    ⟨some 55, (some (54, true)), [], false, .fldA 2 (.t 2)⟩,
    ⟨some 56, (some (54, true)), [], false, .load (.t 55)⟩,
    ⟨some 57, (some (54, true)), [], false, .idxA 3 (.t 56) (.c (.I 1))⟩,
    ⟨some 58, (some (54, true)), [], false, .loadN 3 (.t 57)⟩,
    ⟨some 59, (some (54, true)), [], false, .mv (.t 1)⟩,
    ⟨some 60, (some (54, true)), [], false, .bin .sub (.t 59) (.c (.I 1))⟩,
    ⟨some 61, (some (54, true)), [], false, .call f_sl4Ok [(.t 58), (.t 60)]⟩,
    o1 62 (.pick (.t 54) (.t 61) (.c (.b false))),
    o1 4 (.mv (.t 62))]) (.keep [4]))
  (.ret))))), [.t 4]⟩

/- loop.example/cothreads/impl.apply -/
def c_iapply : AFn := ⟨3, .seq (.seq (.ops [o1 6 (.mv (.c (.I 0)))]) (.keep [0, 1, 2]))
  (.seq (.seq (.ops [o1 7 (.mv (.t 0))])
  (.seq (.block 0 (.seq (.seq (.ops [o1 9 (.bin .eql (.t 7) (.c (.I 1))),
    o1 8 (.mv (.t 9))]) (.keep [1, 2, 7, 8]))
  (.seq (.cond (.t 8)
  (.seq (.seq (.ops [o1 10 (.mv (.t 1)),
    o1 11 (.mv (.t 2)),
    o1 12 (.bin .or (.t 10) (.t 11)),
    o1 6 (.mv (.t 12))]) (.keep [6]))
  (.ret))
  (.seq (.seq (.ops [o1 14 (.bin .eql (.t 7) (.c (.I 2))),
    o1 13 (.mv (.t 14))]) (.keep [1, 2, 7, 13]))
  (.seq (.cond (.t 13)
  (.seq (.seq (.ops [o1 15 (.mv (.t 1)),
    o1 16 (.mv (.t 2)),
    o1 17 (.bin .xor (.t 15) (.t 16)),
    o1 6 (.mv (.t 17))]) (.keep [6]))
  (.ret))
  (.seq (.seq (.ops [o1 19 (.bin .eql (.t 7) (.c (.I 3))),
    o1 18 (.mv (.t 19))]) (.keep [1, 2, 7, 18]))
  (.seq (.cond (.t 18)
  (.seq (.seq (.ops [o1 20 (.mv (.t 1)),
    o1 21 (.mv (.t 2)),
    o1 22 (.bin .and (.t 20) (.t 21)),
    o1 6 (.mv (.t 22))]) (.keep [6]))
  (.ret))
  (.seq (.seq (.ops [o1 24 (.bin .eql (.t 7) (.c (.I 4))),
    o1 23 (.mv (.t 24))]) (.keep [1, 2, 7, 23]))
  (.seq (.cond (.t 23)
  (.seq (.seq (.ops [o1 25 (.mv (.t 1)),
    o1 26 (.mv (.t 2)),
    o1 27 (.bin .eql (.t 25) (.t 26)),
    o1 28 (.call f_itruth [(.t 27)]),
    o1 6 (.mv (.t 28))]) (.keep [6]))
  (.ret))
  (.seq (.seq (.ops [o1 30 (.bin .eql (.t 7) (.c (.I 5))),
    o1 29 (.mv (.t 30))]) (.keep [1, 2, 7, 29]))
  (.seq (.cond (.t 29)
  (.seq (.seq (.ops [o1 31 (.mv (.t 1)),
    o1 32 (.mv (.t 2)),
    o1 33 (.bin .lss (.t 31) (.t 32)),
    o1 34 (.call f_itruth [(.t 33)]),
    o1 6 (.mv (.t 34))]) (.keep [6]))
  (.ret))
  (.seq (.seq (.ops [o1 36 (.bin .eql (.t 7) (.c (.I 6))),
    o1 35 (.mv (.t 36))]) (.keep [1, 2, 7, 35]))
  (.seq (.cond (.t 35)
  (.seq (.seq (.ops [o1 37 (.mv (.t 1)),
    o1 38 (.mv (.t 2)),
    o1 39 (.bin .and (.t 38) (.c (.I 31))),
    o1 40 (.bin .shl (.t 37) (.t 39)),
    o1 41 (.call f_iWrap [(.t 40)]),
    o1 6 (.mv (.t 41))]) (.keep [6]))
  (.ret))
  (.seq (.seq (.ops [o1 43 (.bin .eql (.t 7) (.c (.I 7))),
    o1 42 (.mv (.t 43))]) (.keep [1, 2, 7, 42]))
  (.seq (.cond (.t 42)
  (.seq (.seq (.ops [o1 44 (.mv (.t 1)),
    o1 45 (.mv (.t 2)),
    o1 46 (.bin .and (.t 45) (.c (.I 31))),
    o1 47 (.bin .shr (.t 44) (.t 46)),
    o1 6 (.mv (.t 47))]) (.keep [6]))
  (.ret))
  (.seq (.seq (.ops [o1 49 (.bin .eql (.t 7) (.c (.I 8))),
    o1 48 (.mv (.t 49))]) (.keep [1, 2, 7, 48]))
  (.seq (.cond (.t 48)
  (.seq (.seq (.ops [o1 50 (.mv (.t 1)),
    o1 51 (.mv (.t 2)),
    o1 52 (.bin .add (.t 50) (.t 51)),
    o1 53 (.call f_iWrap [(.t 52)]),
    o1 6 (.mv (.t 53))]) (.keep [6]))
  (.ret))
  (.seq (.seq (.ops [o1 55 (.bin .eql (.t 7) (.c (.I 9))),
    o1 54 (.mv (.t 55))]) (.keep [1, 2, 7, 54]))
  (.seq (.cond (.t 54)
  (.seq (.seq (.ops [o1 56 (.mv (.t 1)),
    o1 57 (.mv (.t 2)),
    o1 58 (.bin .sub (.t 56) (.t 57)),
    o1 59 (.call f_iWrap [(.t 58)]),
    o1 6 (.mv (.t 59))]) (.keep [6]))
  (.ret))
  (.seq (.seq (.ops [o1 61 (.bin .eql (.t 7) (.c (.I 10))),
    o1 60 (.mv (.t 61))]) (.keep [1, 2, 7, 60]))
  (.seq (.cond (.t 60)
  (.seq (.seq (.ops [o1 62 (.mv (.t 1)),
    o1 63 (.mv (.t 2)),
    o1 64 (.bin .mul (.t 62) (.t 63)),
    o1 65 (.call f_iWrap [(.t 64)]),
    o1 6 (.mv (.t 65))]) (.keep [6]))
  (.ret))
  (.seq (.seq (.ops [o1 67 (.bin .eql (.t 7) (.c (.I 11))),
    o1 66 (.mv (.t 67))]) (.keep [1, 2, 66]))
  (.seq (.cond (.t 66)
  (.seq (.seq (.seq (.ops [o1 68 (.mv (.t 2)),
    o1 69 (.bin .eql (.t 68) (.c (.I 0)))]) (.keep [1, 2, 69]))
  (.seq (.cond (.t 69)
  (.seq (.ops [o1 6 (.mv (.c (.I (-1))))])
  (.ret))
  (.skip)) (.keep [1, 2])))
  (.seq (.seq (.ops [o1 70 (.mv (.t 1)),
    o1 71 (.mv (.t 2)),
    o1 72 (.bin .quo (.t 70) (.t 71)),
    o1 73 (.call f_iWrap [(.t 72)]),
    o1 6 (.mv (.t 73))]) (.keep [6]))
  (.ret)))
  (.skip)) (.keep [1, 2])))) (.keep [1, 2])))) (.keep [1, 2])))) (.keep [1, 2])))) (.keep [1, 2])))) (.keep [1, 2])))) (.keep [1, 2])))) (.keep [1, 2])))) (.keep [1, 2])))) (.keep [1, 2])))) (.keep [1, 2])))) (.keep [1, 2])))
  (.seq (.seq (.seq (.ops [o1 74 (.mv (.t 2)),
    o1 75 (.bin .eql (.t 74) (.c (.I 0)))]) (.keep [1, 2, 75]))
  (.seq (.cond (.t 75)
  (.seq (.seq (.ops [o1 76 (.mv (.t 1)),
    o1 6 (.mv (.t 76))]) (.keep [6]))
  (.ret))
  (.skip)) (.keep [1, 2])))
  (.seq (.seq (.ops [o1 77 (.mv (.t 1)),
    o1 78 (.mv (.t 2)),
    o1 79 (.bin .rem (.t 77) (.t 78)),
    o1 6 (.mv (.t 79))]) (.keep [6]))
  (.ret)))), [.t 6]⟩

/- loop.example/cothreads/impl.CodeValid -/
def c_iCodeValid_l0 : AC := .seq (.seq (.ops [o1 17 (.bin .lss (.t 16) (.t 15))])
  (.seq (.seq (.cond (.t 17)
  (.skip)
  (.exit 0)) (.keep [0, 14, 15, 16]))
  (.seq (.seq (.block 1 (.seq (.seq (.ops [o1 18 (.idxA 5 (.t 14) (.t 16)),
    o1 19 (.loadN 5 (.t 18)),
    o1 4 (.alloc [(.I 0), (.I 0), (.I 0), (.I 0), (.I 0)]),
    o0 (.store 5 (.t 4) (.t 19))]) (.keep [0, 4, 14, 15, 16]))
  (.seq (.seq (.ops [o1 20 (.loadN 5 (.t 4)),
    o1 21 (.mv (.t 0)),
    o1 22 (.len (.t 21)),
    o1 23 (.call f_iQuadValid [(.t 20), (.t 22)]),
    o1 24 (.un .not (.t 23))]) (.keep [0, 14, 15, 16, 24]))
  (.seq (.cond (.t 24)
  (.seq (.ops [o1 2 (.mv (.c (.b false)))])
  (.ret))
  (.skip)) (.keep [0, 14, 15, 16]))))) (.keep [0, 14, 15, 16]))
  (.seq (.ops [o1 25 (.bin .add (.t 16) (.c (.I 1))),
    o1 16 (.mv (.t 25))]) (.keep [0, 14, 15, 16]))))) (.keep [0, 14, 15, 16])
def c_iCodeValid : AFn := ⟨1, .seq (.seq (.ops [o1 2 (.mv (.c (.b false)))]) (.keep [0]))
  (.seq (.seq (.seq (.ops [o1 6 (.mv (.t 0)),
    o1 7 (.len (.t 6)),
    o1 8 (.bin .lss (.t 7) (.c (.I 1))),
    o1 9 (.mv (.t 8)),
    ⟨some 10, (some (9, false)), [], false, .mv (.t 0)⟩,
    ⟨some 11, (some (9, false)), [], false, .len (.t 10)⟩,
    ⟨some 12, (some (9, false)), [], false, .bin .gtr (.t 11) (.c (.I 600))⟩,
    o1 13 (.pick (.t 9) (.c (.b true)) (.t 12))]) (.keep [0, 13]))
  (.seq (.cond (.t 13)
  (.seq (.ops [o1 2 (.mv (.c (.b false)))])
  (.ret))
  (.skip)) (.keep [0])))
  (.seq (.seq (.ops [o1 14 (.mv (.t 0)),
    o1 15 (.len (.t 14)),
    o1 16 (.mv (.c (.I 0)))])
  (.seq (.block 0 (.seq (.keep [0, 14, 15, 16]) (.loop c_iCodeValid_l0))) (.keep [0])))
  (.seq (.seq (.ops [o1 26 (.mv (.t 0)),
    o1 27 (.mv (.t 0)),
    o1 28 (.len (.t 27)),
    o1 29 (.bin .sub (.t 28) (.c (.I 1))),
    o1 30 (.idxA 5 (.t 26) (.t 29)),
    o1 31 (.fldA 0 (.t 30)),
    o1 32 (.load (.t 31)),
    o1 5 (.mv (.t 32))]) (.keep [5]))
  (.seq (.seq (.ops [o1 33 (.mv (.t 5)),
    o1 34 (.bin .eql (.t 33) (.c (.I 10))),
    o1 35 (.mv (.t 34)),
    ⟨some 36, (some (35, false)), [], false, .mv (.t 5)⟩,
    ⟨some 37, (some (35, false)), [], false, .bin .eql (.t 36) (.c (.I 4))⟩,
    o1 38 (.pick (.t 35) (.c (.b true)) (.t 37)),
    o1 2 (.mv (.t 38))]) (.keep [2]))
  (.ret))))), [.t 2]⟩

/- loop.example/cothreads/impl.threadFits -/
def c_ithreadFits : AFn := ⟨2, .seq (.seq (.ops [o1 2 (.box (.t 0)),
    o1 4 (.mv (.c (.b false)))]) (.keep [1, 2]))
  (.seq (.seq (.ops [o1 5 (.fldA 0 (.t 2)),
    o1 6 (.load (.t 5)),
    o1 7 (.len (.t 6)),
    o1 8 (.bin .eql (.t 7) (.c (.I 12))),
    o1 9 (.mv (.t 8)),
    ⟨some 10, (some (9, true)), [], false, .fldA 0 (.t 2)⟩,
    ⟨some 11, (some (9, true)), [], false, .load (.t 10)⟩,
    ⟨some 12, (some (9, true)), [], false, .call f_iareWords [(.t 11)]⟩,
    o1 13 (.pick (.t 9) (.t 12) (.c (.b false))),
    o1 14 (.mv (.t 13)),
    ⟨some 15, (some (14, true)), [], false, .fldA 1 (.t 2)⟩,
    ⟨some 16, (some (14, true)), [], false, .load (.t 15)⟩,
    ⟨some 17, (some (14, true)), [], false, .bin .geq (.t 16) (.c (.I 0))⟩,
    o1 18 (.pick (.t 14) (.t 17) (.c (.b false))),
    o1 19 (.mv (.t 18)),
    ⟨some 20, (some (19, true)), [], false, .fldA 1 (.t 2)⟩,
    ⟨some 21, (some (19, true)), [], false, .load (.t 20)⟩,
    ⟨some 22, (some (19, true)), [], false, .mv (.t 1)⟩,
    ⟨some 23, (some (19, true)), [], false, .len (.t 22)⟩,
    ⟨some 24, (some (19, true)), [], false, .bin .lss (.t 21) (.t 23)⟩,
    o1 25 (.pick (.t 19) (.t 24) (.c (.b false))),
    o1 4 (.mv (.t 25))]) (.keep [4]))
  (.ret)), [.t 4]⟩

/- loop.example/cothreads/impl.BoxValid -/
def c_iBoxValid : AFn := ⟨1, .seq (.seq (.ops [o1 1 (.box (.t 0)),
    o1 2 (.mv (.c (.b false)))]) (.keep [1]))
  (.seq (.seq (.ops [o1 3 (.fldA 0 (.t 1)),
    o1 4 (.load (.t 3)),
    o1 5 (.bin .geq (.t 4) (.c (.I 1))),
    o1 6 (.mv (.t 5)),
    ⟨some 7, (some (6, true)), [], false, .fldA 0 (.t 1)⟩,
    ⟨some 8, (some (6, true)), [], false, .load (.t 7)⟩,
    ⟨some 9, (some (6, true)), [], false, .bin .leq (.t 8) (.c (.I 4))⟩,
    o1 10 (.pick (.t 6) (.t 9) (.c (.b false))),
    o1 11 (.mv (.t 10)),
    ⟨some 12, (some (11, true)), [], false, .fldA 1 (.t 1)⟩,
    ⟨some 13, (some (11, true)), [], false, .load (.t 12)⟩,
    ⟨some 14, (some (11, true)), [], false, .len (.t 13)⟩,
    ⟨some 15, (some (11, true)), [], false, .fldA 0 (.t 1)⟩,
    ⟨some 16, (some (11, true)), [], false, .load (.t 15)⟩,
    ⟨some 17, (some (11, true)), [], false, .bin .leq (.t 14) (.t 16)⟩,
    o1 18 (.pick (.t 11) (.t 17) (.c (.b false))),
    o1 19 (.mv (.t 18)),
    ⟨some 20, (some (19, true)), [], false, .fldA 1 (.t 1)⟩,
    ⟨some 21, (some (19, true)), [], false, .load (.t 20)⟩,
    ⟨some 22, (some (19, true)), [], false, .call f_iareWords [(.t 21)]⟩,
    o1 23 (.pick (.t 19) (.t 22) (.c (.b false))),
    o1 2 (.mv (.t 23))]) (.keep [2]))
  (.ret)), [.t 2]⟩

/- (*loop.example/cothreads/impl.Box).put -/
def c_iBox_put : AFn := ⟨2, .seq (.seq (.ops [o1 4 (.mv (.c (.b false)))]) (.keep [0, 1]))
  (.seq (.seq (.seq (.ops [o1 5 (.mv (.t 0)),
    o1 6 (.nilc (.t 5)),
    o1 7 (.fldA 1 (.t 6)),
    o1 8 (.load (.t 7)),
    o1 9 (.len (.t 8)),
    o1 10 (.mv (.t 0)),
    o1 11 (.nilc (.t 10)),
    o1 12 (.fldA 0 (.t 11)),
    o1 13 (.load (.t 12)),
    o1 14 (.bin .eql (.t 9) (.t 13))]) (.keep [0, 1, 14]))
  (.seq (.cond (.t 14)
  (.seq (.ops [o1 4 (.mv (.c (.b false)))])
  (.ret))
  (.skip)) (.keep [0, 1])))
  (.seq (.seq (.ops [o1 15 (.mv (.t 0)),
    o1 16 (.mv (.t 0)),
    o1 17 (.nilc (.t 16)),
    o1 18 (.fldA 1 (.t 17)),
    o1 19 (.load (.t 18)),
    o1 20 (.mv (.t 1)),
    o1 21 (.bsl [(.I 0)] 1 [(0, 1, (.t 20))]),
    o1 22 (.app 1 (.t 19) (.t 21)),
    o1 23 (.nilc (.t 15)),
    o1 24 (.fldA 1 (.t 23)),
    o0 (.store 1 (.t 24) (.t 22))]) (.keep []))
  (.seq (.ops [o1 4 (.mv (.c (.b true)))])
  (.ret)))), [.t 4]⟩

/- (*loop.example/cothreads/impl.Box).take -/
def c_iBox_take : AFn := ⟨1, .seq (.seq (.ops [o1 2 (.mv (.c (.I 0))),
    o1 3 (.mv (.c (.b false)))]) (.keep [0]))
  (.seq (.seq (.seq (.ops [o1 5 (.mv (.t 0)),
    o1 6 (.nilc (.t 5)),
    o1 7 (.fldA 1 (.t 6)),
    o1 8 (.load (.t 7)),
    o1 9 (.len (.t 8)),
    o1 10 (.bin .eql (.t 9) (.c (.I 0)))]) (.keep [0, 10]))
  (.seq (.cond (.t 10)
  (.seq (.ops [o1 2 (.mv (.c (.I 0))),
    o1 3 (.mv (.c (.b false)))])
  (.ret))
  (.skip)) (.keep [0])))
  (.seq (.seq (.ops [o1 11 (.mv (.t 0)),
    o1 12 (.nilc (.t 11)),
    o1 13 (.fldA 1 (.t 12)),
    o1 14 (.load (.t 13)),
    o1 15 (.idxA 1 (.t 14) (.c (.I 0))),
    o1 16 (.load (.t 15)),
    o1 4 (.mv (.t 16))]) (.keep [0, 4]))
  (.seq (.seq (.ops [o1 17 (.mv (.t 0)),
    o1 18 (.mv (.t 0)),
    o1 19 (.nilc (.t 18)),
    o1 20 (.fldA 1 (.t 19)),
    o1 21 (.load (.t 20)),
    o1 22 (.slice 1 (.t 21) none (some (.c (.I 0))) none),
    o1 23 (.mv (.t 0)),
    o1 24 (.nilc (.t 23)),
    o1 25 (.fldA 1 (.t 24)),
    o1 26 (.load (.t 25)),
    o1 27 (.slice 1 (.t 26) (some (.c (.I 1))) none none),
    o1 28 (.app 1 (.t 22) (.t 27)),
    o1 29 (.nilc (.t 17)),
    o1 30 (.fldA 1 (.t 29)),
    o0 (.store 1 (.t 30) (.t 28))]) (.keep [4]))
  (.seq (.seq (.ops [o1 31 (.mv (.t 4)),
    o1 2 (.mv (.t 31)),
    o1 3 (.mv (.c (.b true)))]) (.keep [2, 3]))
  (.ret))))), [.t 2, .t 3]⟩

/- loop.example/cothreads/impl.isUnsigned -/
def c_iisUnsigned : AFn := ⟨1, .seq (.seq (.ops [o1 2 (.mv (.c (.b false)))]) (.keep [0]))
  (.seq (.seq (.ops [o1 3 (.mv (.t 0)),
    o1 4 (.bin .geq (.t 3) (.c (.I 0))),
    o1 5 (.mv (.t 4)),
    ⟨some 6, (some (5, true)), [], false, .mv (.t 0)⟩,
    ⟨some 7, (some (5, true)), [], false, .bin .lss (.t 6) (.c (.I 4294967296))⟩,
    o1 8 (.pick (.t 5) (.t 7) (.c (.b false))),
    o1 2 (.mv (.t 8))]) (.keep [2]))
  (.ret)), [.t 2]⟩

/- loop.example/cothreads/spec.l1Power -/
def c_sl1Power_l0 : AC := .seq (.seq (.seq (.seq (.ops [o1 5 (.mv (.t 4)),
    o1 6 (.mv (.t 0)),
    o1 7 (.bin .lss (.t 5) (.t 6))]) (.keep [0, 3, 4, 7]))
  (.seq (.cond (.t 7)
  (.skip)
  (.exit 0)) (.keep [0, 3, 4])))
  (.seq (.seq (.block 1 (.seq (.ops [o1 10 (.mv (.t 3)),
    o1 11 (.bin .mul (.t 10) (.c (.I 2))),
    o1 3 (.mv (.t 11))]) (.keep [0, 3, 4]))) (.keep [0, 3, 4]))
  (.seq (.ops [o1 8 (.mv (.t 4)),
    o1 9 (.bin .add (.t 8) (.c (.I 1))),
    o1 4 (.mv (.t 9))]) (.keep [0, 3, 4])))) (.keep [0, 3, 4])
def c_sl1Power : AFn := ⟨1, .seq (.seq (.ops [o1 2 (.mv (.c (.I 0)))]) (.keep [0]))
  (.seq (.ops [o1 3 (.mv (.c (.I 1)))])
  (.seq (.seq (.ops [o1 4 (.mv (.c (.I 0)))])
  (.seq (.block 0 (.seq (.keep [0, 3, 4]) (.loop c_sl1Power_l0))) (.keep [3])))
  (.seq (.seq (.ops [o1 12 (.mv (.t 3)),
    o1 2 (.mv (.t 12))]) (.keep [2]))
  (.ret)))), [.t 2]⟩

/- loop.example/cothreads/spec.l42Imm -/
def c_sl42Imm : AFn := ⟨2, .seq (.seq (.ops [o1 2 (.box (.t 0)),
    o1 4 (.mv (.c (.I 0)))]) (.keep [1, 2]))
  (.seq (.seq (.ops [o1 5 (.fldA 4 (.t 2)),
    o1 6 (.load (.t 5)),
    ⟨some 7, none, [], true, .call f_sl42Mod [(.t 6), (.c (.I 4096))]⟩,
    ⟨some 8, none, [], true, .call f_sl42Put [(.t 7), (.c (.I 20))]⟩,
    o1 9 (.loadN 5 (.t 2)),
    o1 10 (.mv (.t 1)),
    ⟨some 11, none, [], true, .call f_sl42Mid [(.t 9), (.t 10)]⟩,
    o1 12 (.bin .add (.t 8) (.t 11)),
    o1 13 (.fldA 1 (.t 2)),
    o1 14 (.load (.t 13)),
    ⟨some 15, none, [], true, .call f_sl42Put [(.t 14), (.c (.I 7))]⟩,
    o1 16 (.bin .add (.t 12) (.t 15)),
    o1 4 (.mv (.t 16))]) (.keep [4]))
  (.ret)), [.t 4]⟩

/- loop.example/cothreads/spec.l42Mod -/
def c_sl42Mod : AFn := ⟨2, .seq (.seq (.ops [o1 4 (.mv (.c (.I 0)))]) (.keep [0, 1]))
  (.seq (.seq (.seq (.ops [o1 5 (.mv (.t 0)),
    o1 6 (.bin .lss (.t 5) (.c (.I 0)))]) (.keep [0, 1, 6]))
  (.seq (.cond (.t 6)
  (.seq (.seq (.ops [o1 7 (.mv (.t 0)),
    o1 8 (.mv (.t 1)),
    o1 9 (.bin .add (.t 7) (.t 8)),
    o1 4 (.mv (.t 9))]) (.keep [4]))
  (.ret))
  (.skip)) (.keep [0])))
  (.seq (.seq (.ops [o1 10 (.mv (.t 0)),
    o1 4 (.mv (.t 10))]) (.keep [4]))
  (.ret))), [.t 4]⟩

/- loop.example/cothreads/spec.l42Put -/
def c_sl42Put : AFn := ⟨2, .seq (.seq (.ops [o1 4 (.mv (.c (.I 0)))]) (.keep [0, 1]))
  (.seq (.seq (.ops [o1 5 (.mv (.t 0)),
    o1 6 (.mv (.t 1)),
    o1 7 (.call f_sl1Power [(.t 6)]),
    o1 8 (.bin .mul (.t 5) (.t 7)),
    o1 4 (.mv (.t 8))]) (.keep [4]))
  (.ret)), [.t 4]⟩

/- loop.example/cothreads/spec.l42Mid -/
def c_sl42Mid : AFn := ⟨2, .seq (.seq (.ops [o1 2 (.box (.t 0)),
    o1 4 (.mv (.c (.I 0)))]) (.keep [1, 2]))
  (.seq (.seq (.ops [o1 5 (.fldA 2 (.t 2)),
    o1 6 (.load (.t 5)),
    ⟨some 7, none, [], true, .call f_sl42Put [(.t 6), (.c (.I 15))]⟩,
    o1 8 (.fldA 0 (.t 2)),
    o1 9 (.load (.t 8)),
    ⟨some 10, none, [], true, .call f_sl42Three [(.t 9)]⟩,
    ⟨some 11, none, [], true, .call f_sl42Put [(.t 10), (.c (.I 12))]⟩,
    o1 12 (.bin .add (.t 7) (.t 11)),
    o1 13 (.mv (.t 1)),
    o1 14 (.bin .add (.t 12) (.t 13)),
    o1 4 (.mv (.t 14))]) (.keep [4]))
  (.ret)), [.t 4]⟩

/- loop.example/cothreads/spec.l42Branch -/
def c_sl42Branch : AFn := ⟨1, .seq (.seq (.ops [o1 1 (.box (.t 0)),
    o1 2 (.mv (.c (.I 0)))]) (.keep [1]))
  (.seq (.seq (.ops [o1 5 (.fldA 4 (.t 1)),
    o1 6 (.load (.t 5)),
    o1 7 (.call f_sl42Mod [(.t 6), (.c (.I 8192))]),
    o1 3 (.mv (.t 7))]) (.keep [1, 3]))
  (.seq (.seq (.ops [o1 8 (.mv (.t 3)),
    ⟨some 9, none, [], true, .call f_sBits [(.t 8), (.c (.I 12)), (.c (.I 1))]⟩,
    ⟨some 10, none, [], true, .call f_sl42Put [(.t 9), (.c (.I 31))]⟩,
    o1 11 (.mv (.t 3)),
    ⟨some 12, none, [], true, .call f_sBits [(.t 11), (.c (.I 5)), (.c (.I 6))]⟩,
    ⟨some 13, none, [], true, .call f_sl42Put [(.t 12), (.c (.I 25))]⟩,
    o1 14 (.bin .add (.t 10) (.t 13)),
    o1 15 (.fldA 3 (.t 1)),
    o1 16 (.load (.t 15)),
    ⟨some 17, none, [], true, .call f_sl42Put [(.t 16), (.c (.I 20))]⟩,
    o1 18 (.bin .add (.t 14) (.t 17)),
    o1 4 (.mv (.t 18))]) (.keep [1, 3, 4]))
  (.seq (.seq (.ops [o1 19 (.mv (.t 4)),
    o1 20 (.loadN 5 (.t 1)),
    o1 21 (.call f_sl42Mid [(.t 20), (.c (.I 99))]),
    o1 22 (.bin .add (.t 19) (.t 21)),
    o1 23 (.mv (.t 3)),
    o1 24 (.call f_sBits [(.t 23), (.c (.I 1)), (.c (.I 4))]),
    o1 25 (.call f_sl42Put [(.t 24), (.c (.I 8))]),
    o1 26 (.bin .add (.t 22) (.t 25)),
    o1 27 (.mv (.t 3)),
    o1 28 (.call f_sBits [(.t 27), (.c (.I 11)), (.c (.I 1))]),
    o1 29 (.call f_sl42Put [(.t 28), (.c (.I 7))]),
    o1 30 (.bin .add (.t 26) (.t 29)),
    o1 2 (.mv (.t 30))]) (.keep [2]))
  (.ret)))), [.t 2]⟩

/- loop.example/cothreads/spec.l42Jump -/
def c_sl42Jump : AFn := ⟨1, .seq (.seq (.ops [o1 1 (.box (.t 0)),
    o1 2 (.mv (.c (.I 0)))]) (.keep [1]))
  (.seq (.seq (.ops [o1 5 (.fldA 4 (.t 1)),
    o1 6 (.load (.t 5)),
    o1 7 (.call f_sl42Mod [(.t 6), (.c (.I 2097152))]),
    o1 3 (.mv (.t 7))]) (.keep [1, 3]))
  (.seq (.seq (.ops [o1 8 (.mv (.t 3)),
    o1 9 (.call f_sBits [(.t 8), (.c (.I 20)), (.c (.I 1))]),
    o1 10 (.call f_sl42Put [(.t 9), (.c (.I 31))]),
    o1 11 (.mv (.t 3)),
    o1 12 (.call f_sBits [(.t 11), (.c (.I 1)), (.c (.I 10))]),
    o1 13 (.call f_sl42Put [(.t 12), (.c (.I 21))]),
    o1 14 (.bin .add (.t 10) (.t 13)),
    o1 15 (.mv (.t 3)),
    o1 16 (.call f_sBits [(.t 15), (.c (.I 11)), (.c (.I 1))]),
    o1 17 (.call f_sl42Put [(.t 16), (.c (.I 20))]),
    o1 18 (.bin .add (.t 14) (.t 17)),
    o1 4 (.mv (.t 18))]) (.keep [1, 3, 4]))
  (.seq (.seq (.ops [o1 19 (.mv (.t 4)),
    o1 20 (.mv (.t 3)),
    ⟨some 21, none, [], true, .call f_sBits [(.t 20), (.c (.I 12)), (.c (.I 8))]⟩,
    ⟨some 22, none, [], true, .call f_sl42Put [(.t 21), (.c (.I 12))]⟩,
    o1 23 (.bin .add (.t 19) (.t 22)),
    o1 24 (.fldA 1 (.t 1)),
    o1 25 (.load (.t 24)),
    ⟨some 26, none, [], true, .call f_sl42Put [(.t 25), (.c (.I 7))]⟩,
    o1 27 (.bin .add (.t 23) (.t 26)),
    o1 28 (.bin .add (.t 27) (.c (.I 111))),
    o1 2 (.mv (.t 28))]) (.keep [2]))
  (.ret)))), [.t 2]⟩

/- loop.example/cothreads/spec.l42Seven -/
def c_sl42Seven : AFn := ⟨1, .seq (.seq (.ops [o1 2 (.mv (.c (.I 0)))]) (.keep [0]))
  (.seq (.seq (.ops [o1 3 (.bsl [(.I 0), (.I 0), (.I 0), (.I 0), (.I 0), (.I 0), (.I 0), (.I 0), (.I 0), (.I 0), (.I 0)] 11 [(0, 1, (.c (.I 0))), (1, 1, (.c (.I 32))), (2, 1, (.c (.I 1))), (3, 1, (.c (.I 1))), (4, 1, (.c (.I 1))), (5, 1, (.c (.I 0))), (6, 1, (.c (.I 0))), (7, 1, (.c (.I 0))), (8, 1, (.c (.I 0))), (9, 1, (.c (.I 32))), (10, 1, (.c (.I 0)))]),
    o1 4 (.mv (.t 0)),
    o1 5 (.bin .sub (.t 4) (.c (.I 1))),
    o1 6 (.idxA 1 (.t 3) (.t 5)),
    o1 7 (.load (.t 6)),
    o1 2 (.mv (.t 7))]) (.keep [2]))
  (.ret)), [.t 2]⟩

/- loop.example/cothreads/spec.l94Instr -/
def c_sl94Instr : AFn := ⟨1, .seq (.ops [o1 2 (.alloc [(.I 0), (.I 0), (.I 0), (.I 0), (.I 0)])])
  (.seq (.seq (.ops [o1 6 (.mv (.t 0)),
    o1 7 (.call f_sl6Rd_pick [(.t 6), (.c (.I 21))]),
    o1 8 (.bin .add (.c (.I 1)) (.t 7)),
    o1 3 (.mv (.t 8))]) (.keep [0, 2, 3]))
  (.seq (.seq (.ops [o1 9 (.mv (.t 3)),
    o1 10 (.mv (.t 0)),
    o1 11 (.call f_sl94X [(.t 10)]),
    o1 12 (.mv (.t 0)),
    o1 13 (.call f_sl94X [(.t 12)]),
    o1 14 (.mv (.t 0)),
    o1 15 (.call f_sl94X [(.t 14)]),
    o1 16 (.build [(.I 0), (.I 0), (.I 0), (.I 0), (.I 0)] [(0, 1, (.t 9)), (1, 1, (.t 11)), (2, 1, (.t 13)), (3, 1, (.t 15))]),
    o1 4 (.alloc [(.I 0), (.I 0), (.I 0), (.I 0), (.I 0)]),
    o0 (.store 5 (.t 4) (.t 16))]) (.keep [0, 2, 3, 4]))
  (.seq (.seq (.ops [o1 17 (.mv (.t 0)),
    o1 18 (.call f_sl6Rd_pick [(.t 17), (.c (.I 2))]),
    o1 19 (.bin .eql (.t 18) (.c (.I 0))),
    o1 5 (.mv (.t 19))]) (.keep [0, 2, 3, 4, 5]))
  (.seq (.seq (.block 0 (.seq (.seq (.ops [o1 21 (.mv (.t 3)),
    o1 22 (.bin .leq (.t 21) (.c (.I 11))),
    o1 20 (.mv (.t 22))]) (.keep [0, 2, 3, 4, 5, 20]))
  (.seq (.cond (.t 20)
  (.seq (.seq (.ops [o1 23 (.loadN 5 (.t 4)),
    o0 (.store 5 (.t 2) (.t 23))]) (.keep [2]))
  (.ret))
  (.seq (.seq (.ops [o1 25 (.mv (.t 3)),
    o1 26 (.bin .leq (.t 25) (.c (.I 15))),
    o1 24 (.mv (.t 26))]) (.keep [0, 2, 3, 4, 5, 24]))
  (.seq (.cond (.t 24)
  (.seq (.seq (.ops [o1 27 (.mv (.t 3)),
    o1 28 (.fldA 1 (.t 4)),
    o1 29 (.load (.t 28)),
    o1 30 (.fldA 2 (.t 4)),
    o1 31 (.load (.t 30)),
    o1 32 (.mv (.t 0)),
    ⟨some 33, none, [(.t 28), (.t 30)], false, .call f_sl94Imm [(.t 32)]⟩,
    o1 34 (.build [(.I 0), (.I 0), (.I 0), (.I 0), (.I 0)] [(0, 1, (.t 27)), (1, 1, (.t 29)), (2, 1, (.t 31)), (4, 1, (.t 33))]),
    o0 (.store 5 (.t 2) (.t 34))]) (.keep [2]))
  (.ret))
  (.seq (.seq (.ops [o1 36 (.mv (.t 3)),
    o1 37 (.bin .eql (.t 36) (.c (.I 16))),
    o1 35 (.mv (.t 37))]) (.keep [0, 2, 3, 4, 5, 35]))
  (.seq (.cond (.t 35)
  (.seq (.seq (.ops [o1 38 (.mv (.t 3)),
    o1 39 (.fldA 2 (.t 4)),
    o1 40 (.load (.t 39)),
    o1 41 (.fldA 3 (.t 4)),
    o1 42 (.load (.t 41)),
    o1 43 (.mv (.t 0)),
    ⟨some 44, none, [(.t 39), (.t 41)], false, .call f_sl94Imm [(.t 43)]⟩,
    o1 45 (.build [(.I 0), (.I 0), (.I 0), (.I 0), (.I 0)] [(0, 1, (.t 38)), (2, 1, (.t 40)), (3, 1, (.t 42)), (4, 1, (.t 44))]),
    o0 (.store 5 (.t 2) (.t 45))]) (.keep [2]))
  (.ret))
  (.seq (.seq (.ops [o1 47 (.mv (.t 3)),
    o1 48 (.bin .eql (.t 47) (.c (.I 17))),
    o1 49 (.mv (.t 48)),
    ⟨some 50, (some (49, false)), [], false, .mv (.t 3)⟩,
    ⟨some 51, (some (49, false)), [], false, .bin .eql (.t 50) (.c (.I 18))⟩,
    o1 52 (.pick (.t 49) (.c (.b true)) (.t 51)),
    o1 46 (.mv (.t 52))]) (.keep [0, 2, 3, 4, 5, 46]))
  (.seq (.cond (.t 46)
  (.seq (.seq (.ops [o1 53 (.mv (.t 3)),
    o1 54 (.fldA 2 (.t 4)),
    o1 55 (.load (.t 54)),
    o1 56 (.fldA 3 (.t 4)),
    o1 57 (.load (.t 56)),
    o1 58 (.mv (.t 0)),
    ⟨some 59, none, [(.t 54), (.t 56)], false, .call f_sl94Imm [(.t 58)]⟩,
    o1 60 (.bin .mul (.c (.I 2)) (.t 59)),
    o1 61 (.build [(.I 0), (.I 0), (.I 0), (.I 0), (.I 0)] [(0, 1, (.t 53)), (2, 1, (.t 55)), (3, 1, (.t 57)), (4, 1, (.t 60))]),
    o0 (.store 5 (.t 2) (.t 61))]) (.keep [2]))
  (.ret))
  (.seq (.seq (.ops [o1 63 (.mv (.t 3)),
    o1 64 (.bin .eql (.t 63) (.c (.I 19))),
    o1 65 (.mv (.t 64)),
    ⟨some 66, (some (65, true)), [], false, .mv (.t 5)⟩,
    o1 67 (.pick (.t 65) (.t 66) (.c (.b false))),
    o1 62 (.mv (.t 67))]) (.keep [0, 2, 3, 4, 5, 62]))
  (.seq (.cond (.t 62)
  (.seq (.seq (.ops [o1 68 (.mv (.t 3)),
    o1 69 (.fldA 1 (.t 4)),
    o1 70 (.load (.t 69)),
    o1 71 (.mv (.t 0)),
    ⟨some 72, none, [(.t 69)], false, .call f_sl6Rd_pick [(.t 71), (.c (.I 256))]⟩,
    o1 73 (.bin .mul (.t 72) (.c (.I 4096))),
    o1 74 (.mv (.t 0)),
    ⟨some 75, none, [(.t 69)], false, .call f_sl6Rd_pick [(.t 74), (.c (.I 256))]⟩,
    o1 76 (.bin .mul (.t 75) (.c (.I 16))),
    o1 77 (.bin .add (.t 73) (.t 76)),
    o1 78 (.mv (.t 0)),
    ⟨some 79, none, [(.t 69)], false, .call f_sl6Rd_pick [(.t 78), (.c (.I 16))]⟩,
    o1 80 (.bin .add (.t 77) (.t 79)),
    o1 81 (.build [(.I 0), (.I 0), (.I 0), (.I 0), (.I 0)] [(0, 1, (.t 68)), (1, 1, (.t 70)), (4, 1, (.t 80))]),
    o0 (.store 5 (.t 2) (.t 81))]) (.keep [2]))
  (.ret))
  (.seq (.seq (.ops [o1 83 (.mv (.t 3)),
    o1 84 (.bin .eql (.t 83) (.c (.I 19))),
    o1 82 (.mv (.t 84))]) (.keep [0, 2, 3, 4, 5, 82]))
  (.seq (.cond (.t 82)
  (.seq (.seq (.ops [o1 85 (.mv (.t 3)),
    o1 86 (.fldA 1 (.t 4)),
    o1 87 (.load (.t 86)),
    o1 88 (.mv (.t 0)),
    ⟨some 89, none, [(.t 86)], false, .call f_sl6Rd_pick [(.t 88), (.c (.I 20))]⟩,
    o1 90 (.build [(.I 0), (.I 0), (.I 0), (.I 0), (.I 0)] [(0, 1, (.t 85)), (1, 1, (.t 87)), (4, 1, (.t 89))]),
    o0 (.store 5 (.t 2) (.t 90))]) (.keep [2]))
  (.ret))
  (.seq (.seq (.ops [o1 92 (.mv (.t 3)),
    o1 93 (.bin .eql (.t 92) (.c (.I 20))),
    o1 94 (.mv (.t 93)),
    ⟨some 95, (some (94, true)), [], false, .mv (.t 5)⟩,
    o1 96 (.pick (.t 94) (.t 95) (.c (.b false))),
    o1 91 (.mv (.t 96))]) (.keep [0, 2, 3, 4, 91]))
  (.seq (.cond (.t 91)
  (.seq (.seq (.ops [o1 97 (.mv (.t 3)),
    o1 98 (.fldA 1 (.t 4)),
    o1 99 (.load (.t 98)),
    o1 100 (.mv (.t 0)),
    ⟨some 101, none, [(.t 98)], false, .call f_sl6Rd_pick [(.t 100), (.c (.I 256))]⟩,
    o1 102 (.bin .mul (.t 101) (.c (.I 4096))),
    o1 103 (.mv (.t 0)),
    ⟨some 104, none, [(.t 98)], false, .call f_sl6Rd_pick [(.t 103), (.c (.I 256))]⟩,
    o1 105 (.bin .mul (.t 104) (.c (.I 16))),
    o1 106 (.bin .add (.t 102) (.t 105)),
    o1 107 (.mv (.t 0)),
    ⟨some 108, none, [(.t 98)], false, .call f_sl6Rd_pick [(.t 107), (.c (.I 16))]⟩,
    o1 109 (.bin .add (.t 106) (.t 108)),
    o1 110 (.bin .mul (.t 109) (.c (.I 2))),
    o1 111 (.bin .sub (.t 110) (.c (.I 1048576))),
    o1 112 (.build [(.I 0), (.I 0), (.I 0), (.I 0), (.I 0)] [(0, 1, (.t 97)), (1, 1, (.t 99)), (4, 1, (.t 111))]),
    o0 (.store 5 (.t 2) (.t 112))]) (.keep [2]))
  (.ret))
  (.seq (.seq (.ops [o1 114 (.mv (.t 3)),
    o1 115 (.bin .eql (.t 114) (.c (.I 20))),
    o1 113 (.mv (.t 115))]) (.keep [0, 2, 3, 4, 113]))
  (.seq (.cond (.t 113)
  (.seq (.seq (.ops [o1 116 (.mv (.t 3)),
    o1 117 (.fldA 1 (.t 4)),
    o1 118 (.load (.t 117)),
    o1 119 (.mv (.t 0)),
    ⟨some 120, none, [(.t 117)], false, .call f_sl94Imm [(.t 119)]⟩,
    o1 121 (.bin .mul (.c (.I 2)) (.t 120)),
    o1 122 (.build [(.I 0), (.I 0), (.I 0), (.I 0), (.I 0)] [(0, 1, (.t 116)), (1, 1, (.t 118)), (4, 1, (.t 121))]),
    o0 (.store 5 (.t 2) (.t 122))]) (.keep [2]))
  (.ret))
  (.skip)) (.keep [2, 3])))) (.keep [2, 3])))) (.keep [2, 3])))) (.keep [2, 3])))) (.keep [2, 3])))) (.keep [2, 3])))) (.keep [2, 3])))) (.keep [2, 3])))) (.keep [2, 3]))
  (.seq (.seq (.ops [o1 123 (.mv (.t 3)),
    o1 124 (.build [(.I 0), (.I 0), (.I 0), (.I 0), (.I 0)] [(0, 1, (.t 123))]),
    o0 (.store 5 (.t 2) (.t 124))]) (.keep [2]))
  (.ret)))))), [.c 2 5]⟩

/- loop.example/cothreads/impl.OpValid -/
def c_iOpValid : AFn := ⟨1, .seq (.seq (.ops [o1 2 (.mv (.c (.b false)))]) (.keep [0]))
  (.seq (.seq (.ops [o1 3 (.mv (.t 0)),
    o1 4 (.bin .geq (.t 3) (.c (.I 1))),
    o1 5 (.mv (.t 4)),
    ⟨some 6, (some (5, true)), [], false, .mv (.t 0)⟩,
    ⟨some 7, (some (5, true)), [], false, .bin .leq (.t 6) (.c (.I 12))⟩,
    o1 8 (.pick (.t 5) (.t 7) (.c (.b false))),
    o1 2 (.mv (.t 8))]) (.keep [2]))
  (.ret)), [.t 2]⟩

/- loop.example/cothreads/spec.OpValid -/
def c_sOpValid : AFn := ⟨1, .seq (.seq (.ops [o1 2 (.mv (.c (.b false)))]) (.keep [0]))
  (.seq (.seq (.ops [o1 3 (.mv (.t 0)),
    o1 4 (.call f_sl6In [(.t 3), (.c (.I 1)), (.c (.I 12))]),
    o1 2 (.mv (.t 4))]) (.keep [2]))
  (.ret)), [.t 2]⟩

/- loop.example/cothreads/impl.truth -/
def c_itruth : AFn := ⟨1, .seq (.seq (.ops [o1 2 (.mv (.c (.I 0)))]) (.keep [0]))
  (.seq (.seq (.ops [o1 3 (.mv (.t 0))])
  (.seq (.cond (.t 3)
  (.seq (.ops [o1 2 (.mv (.c (.I 1)))])
  (.ret))
  (.skip)) (.keep [])))
  (.seq (.ops [o1 2 (.mv (.c (.I 0)))])
  (.ret))), [.t 2]⟩

/- loop.example/cothreads/impl.QuadValid -/
def c_iQuadValid : AFn := ⟨2, .seq (.seq (.ops [o1 2 (.box (.t 0)),
    o1 4 (.mv (.c (.b false)))]) (.keep [1, 2]))
  (.seq (.seq (.ops [o1 9 (.fldA 1 (.t 2)),
    o1 10 (.load (.t 9)),
    ⟨some 11, none, [], true, .call f_iisReg [(.t 10)]⟩,
    o1 12 (.fldA 2 (.t 2)),
    o1 13 (.load (.t 12)),
    ⟨some 14, none, [], true, .call f_iisReg [(.t 13)]⟩,
    o1 15 (.fldA 3 (.t 2)),
    o1 16 (.load (.t 15)),
    ⟨some 17, none, [], true, .call f_iisReg [(.t 16)]⟩,
    o1 18 (.fldA 4 (.t 2)),
    o1 19 (.load (.t 18)),
    o1 5 (.mv (.t 11)),
    o1 6 (.mv (.t 14)),
    o1 7 (.mv (.t 17)),
    o1 8 (.mv (.t 19))]) (.keep [1, 2, 5, 6, 7, 8]))
  (.seq (.seq (.seq (.ops [o1 20 (.fldA 0 (.t 2)),
    o1 21 (.load (.t 20))]) (.keep [1, 2, 5, 6, 7, 8, 21]))
  (.seq (.block 0 (.seq (.seq (.ops [o1 23 (.bin .eql (.t 21) (.c (.I 1))),
    o1 22 (.mv (.t 23))]) (.keep [1, 2, 5, 6, 7, 8, 21, 22]))
  (.seq (.cond (.t 22)
  (.seq (.seq (.ops [o1 24 (.loadN 5 (.t 2)),
    o1 25 (.fldA 1 (.t 2)),
    o1 26 (.load (.t 25)),
    o1 27 (.mv (.t 8)),
    o1 28 (.build [(.I 0), (.I 0), (.I 0), (.I 0), (.I 0)] [(0, 1, (.c (.I 1))), (1, 1, (.t 26)), (4, 1, (.t 27))]),
    o1 29 (.eqA 5 false (.t 24) (.t 28)),
    o1 30 (.mv (.t 29)),
    ⟨some 31, (some (30, true)), [], false, .mv (.t 5)⟩,
    o1 32 (.pick (.t 30) (.t 31) (.c (.b false))),
    o1 33 (.mv (.t 32)),
    ⟨some 34, (some (33, true)), [], false, .mv (.t 8)⟩,
    ⟨some 35, (some (33, true)), [], false, .call f_iWordValid [(.t 34)]⟩,
    o1 36 (.pick (.t 33) (.t 35) (.c (.b false))),
    o1 4 (.mv (.t 36))]) (.keep [4]))
  (.ret))
  (.seq (.seq (.ops [o1 38 (.bin .eql (.t 21) (.c (.I 2))),
    o1 37 (.mv (.t 38))]) (.keep [1, 2, 5, 6, 7, 8, 21, 37]))
  (.seq (.cond (.t 37)
  (.seq (.seq (.ops [o1 39 (.loadN 5 (.t 2)),
    o1 40 (.fldA 1 (.t 2)),
    o1 41 (.load (.t 40)),
    o1 42 (.fldA 2 (.t 2)),
    o1 43 (.load (.t 42)),
    o1 44 (.build [(.I 0), (.I 0), (.I 0), (.I 0), (.I 0)] [(0, 1, (.c (.I 2))), (1, 1, (.t 41)), (2, 1, (.t 43))]),
    o1 45 (.eqA 5 false (.t 39) (.t 44)),
    o1 46 (.mv (.t 45)),
    ⟨some 47, (some (46, true)), [], false, .mv (.t 5)⟩,
    o1 48 (.pick (.t 46) (.t 47) (.c (.b false))),
    o1 49 (.mv (.t 48)),
    ⟨some 50, (some (49, true)), [], false, .mv (.t 6)⟩,
    o1 51 (.pick (.t 49) (.t 50) (.c (.b false))),
    o1 4 (.mv (.t 51))]) (.keep [4]))
  (.ret))
  (.seq (.seq (.ops [o1 53 (.bin .eql (.t 21) (.c (.I 3))),
    o1 52 (.mv (.t 53))]) (.keep [1, 2, 5, 6, 7, 8, 21, 52]))
  (.seq (.cond (.t 52)
  (.seq (.seq (.ops [o1 54 (.mv (.t 5)),
    o1 55 (.mv (.t 54)),
    ⟨some 56, (some (55, true)), [], false, .mv (.t 6)⟩,
    o1 57 (.pick (.t 55) (.t 56) (.c (.b false))),
    o1 58 (.mv (.t 57)),
    ⟨some 59, (some (58, true)), [], false, .mv (.t 7)⟩,
    o1 60 (.pick (.t 58) (.t 59) (.c (.b false))),
    o1 61 (.mv (.t 60)),
    ⟨some 62, (some (61, true)), [], false, .mv (.t 8)⟩,
    ⟨some 63, (some (61, true)), [], false, .call f_iOpValid [(.t 62)]⟩,
    o1 64 (.pick (.t 61) (.t 63) (.c (.b false))),
    o1 4 (.mv (.t 64))]) (.keep [4]))
  (.ret))
  (.seq (.seq (.ops [o1 66 (.bin .eql (.t 21) (.c (.I 4))),
    o1 65 (.mv (.t 66))]) (.keep [1, 2, 5, 6, 8, 21, 65]))
  (.seq (.cond (.t 65)
  (.seq (.seq (.ops [o1 67 (.loadN 5 (.t 2)),
    o1 68 (.mv (.t 8)),
    o1 69 (.build [(.I 0), (.I 0), (.I 0), (.I 0), (.I 0)] [(0, 1, (.c (.I 4))), (4, 1, (.t 68))]),
    o1 70 (.eqA 5 false (.t 67) (.t 69)),
    o1 71 (.mv (.t 70)),
    ⟨some 72, (some (71, true)), [], false, .mv (.t 8)⟩,
    ⟨some 73, (some (71, true)), [], false, .bin .geq (.t 72) (.c (.I 0))⟩,
    o1 74 (.pick (.t 71) (.t 73) (.c (.b false))),
    o1 75 (.mv (.t 74)),
    ⟨some 76, (some (75, true)), [], false, .mv (.t 8)⟩,
    ⟨some 77, (some (75, true)), [], false, .mv (.t 1)⟩,
    ⟨some 78, (some (75, true)), [], false, .bin .lss (.t 76) (.t 77)⟩,
    o1 79 (.pick (.t 75) (.t 78) (.c (.b false))),
    o1 4 (.mv (.t 79))]) (.keep [4]))
  (.ret))
  (.seq (.seq (.ops [o1 81 (.bin .eql (.t 21) (.c (.I 5))),
    o1 80 (.mv (.t 81))]) (.keep [1, 2, 5, 6, 8, 21, 80]))
  (.seq (.cond (.t 80)
  (.seq (.seq (.ops [o1 82 (.loadN 5 (.t 2)),
    o1 83 (.fldA 2 (.t 2)),
    o1 84 (.load (.t 83)),
    o1 85 (.mv (.t 8)),
    o1 86 (.build [(.I 0), (.I 0), (.I 0), (.I 0), (.I 0)] [(0, 1, (.c (.I 5))), (2, 1, (.t 84)), (4, 1, (.t 85))]),
    o1 87 (.eqA 5 false (.t 82) (.t 86)),
    o1 88 (.mv (.t 87)),
    ⟨some 89, (some (88, true)), [], false, .mv (.t 6)⟩,
    o1 90 (.pick (.t 88) (.t 89) (.c (.b false))),
    o1 91 (.mv (.t 90)),
    ⟨some 92, (some (91, true)), [], false, .mv (.t 8)⟩,
    ⟨some 93, (some (91, true)), [], false, .bin .geq (.t 92) (.c (.I 0))⟩,
    o1 94 (.pick (.t 91) (.t 93) (.c (.b false))),
    o1 95 (.mv (.t 94)),
    ⟨some 96, (some (95, true)), [], false, .mv (.t 8)⟩,
    ⟨some 97, (some (95, true)), [], false, .mv (.t 1)⟩,
    ⟨some 98, (some (95, true)), [], false, .bin .lss (.t 96) (.t 97)⟩,
    o1 99 (.pick (.t 95) (.t 98) (.c (.b false))),
    o1 4 (.mv (.t 99))]) (.keep [4]))
  (.ret))
  (.seq (.seq (.ops [o1 101 (.bin .eql (.t 21) (.c (.I 6))),
    o1 100 (.mv (.t 101))]) (.keep [2, 5, 6, 8, 21, 100]))
  (.seq (.cond (.t 100)
  (.seq (.seq (.ops [o1 102 (.loadN 5 (.t 2)),
    o1 103 (.fldA 2 (.t 2)),
    o1 104 (.load (.t 103)),
    o1 105 (.mv (.t 8)),
    o1 106 (.build [(.I 0), (.I 0), (.I 0), (.I 0), (.I 0)] [(0, 1, (.c (.I 6))), (2, 1, (.t 104)), (4, 1, (.t 105))]),
    o1 107 (.eqA 5 false (.t 102) (.t 106)),
    o1 108 (.mv (.t 107)),
    ⟨some 109, (some (108, true)), [], false, .mv (.t 6)⟩,
    o1 110 (.pick (.t 108) (.t 109) (.c (.b false))),
    o1 111 (.mv (.t 110)),
    ⟨some 112, (some (111, true)), [], false, .mv (.t 8)⟩,
    ⟨some 113, (some (111, true)), [], false, .bin .geq (.t 112) (.c (.I 0))⟩,
    o1 114 (.pick (.t 111) (.t 113) (.c (.b false))),
    o1 115 (.mv (.t 114)),
    ⟨some 116, (some (115, true)), [], false, .mv (.t 8)⟩,
    ⟨some 117, (some (115, true)), [], false, .bin .lss (.t 116) (.c (.I 3))⟩,
    o1 118 (.pick (.t 115) (.t 117) (.c (.b false))),
    o1 4 (.mv (.t 118))]) (.keep [4]))
  (.ret))
  (.seq (.seq (.ops [o1 120 (.bin .eql (.t 21) (.c (.I 7))),
    o1 119 (.mv (.t 120))]) (.keep [2, 5, 6, 8, 21, 119]))
  (.seq (.cond (.t 119)
  (.seq (.seq (.ops [o1 121 (.loadN 5 (.t 2)),
    o1 122 (.fldA 1 (.t 2)),
    o1 123 (.load (.t 122)),
    o1 124 (.mv (.t 8)),
    o1 125 (.build [(.I 0), (.I 0), (.I 0), (.I 0), (.I 0)] [(0, 1, (.c (.I 7))), (1, 1, (.t 123)), (4, 1, (.t 124))]),
    o1 126 (.eqA 5 false (.t 121) (.t 125)),
    o1 127 (.mv (.t 126)),
    ⟨some 128, (some (127, true)), [], false, .mv (.t 5)⟩,
    o1 129 (.pick (.t 127) (.t 128) (.c (.b false))),
    o1 130 (.mv (.t 129)),
    ⟨some 131, (some (130, true)), [], false, .mv (.t 8)⟩,
    ⟨some 132, (some (130, true)), [], false, .bin .geq (.t 131) (.c (.I 0))⟩,
    o1 133 (.pick (.t 130) (.t 132) (.c (.b false))),
    o1 134 (.mv (.t 133)),
    ⟨some 135, (some (134, true)), [], false, .mv (.t 8)⟩,
    ⟨some 136, (some (134, true)), [], false, .bin .lss (.t 135) (.c (.I 3))⟩,
    o1 137 (.pick (.t 134) (.t 136) (.c (.b false))),
    o1 4 (.mv (.t 137))]) (.keep [4]))
  (.ret))
  (.seq (.seq (.ops [o1 139 (.bin .eql (.t 21) (.c (.I 9))),
    o1 138 (.mv (.t 139))]) (.keep [2, 6, 21, 138]))
  (.seq (.cond (.t 138)
  (.seq (.seq (.ops [o1 140 (.loadN 5 (.t 2)),
    o1 141 (.fldA 2 (.t 2)),
    o1 142 (.load (.t 141)),
    o1 143 (.build [(.I 0), (.I 0), (.I 0), (.I 0), (.I 0)] [(0, 1, (.c (.I 9))), (2, 1, (.t 142))]),
    o1 144 (.eqA 5 false (.t 140) (.t 143)),
    o1 145 (.mv (.t 144)),
    ⟨some 146, (some (145, true)), [], false, .mv (.t 6)⟩,
    o1 147 (.pick (.t 145) (.t 146) (.c (.b false))),
    o1 4 (.mv (.t 147))]) (.keep [4]))
  (.ret))
  (.seq (.seq (.seq (.ops [o1 149 (.bin .eql (.t 21) (.c (.I 8))),
    o1 148 (.mv (.t 149))]) (.keep [2, 21, 148]))
  (.seq (.cond (.t 148)
  (.skip)
  (.seq (.ops [o1 150 (.bin .eql (.t 21) (.c (.I 10))),
    o1 148 (.mv (.t 150))]) (.keep [2, 148]))) (.keep [2, 148])))
  (.seq (.cond (.t 148)
  (.seq (.seq (.ops [o1 151 (.loadN 5 (.t 2)),
    o1 152 (.fldA 0 (.t 2)),
    o1 153 (.load (.t 152)),
    o1 154 (.build [(.I 0), (.I 0), (.I 0), (.I 0), (.I 0)] [(0, 1, (.t 153))]),
    o1 155 (.eqA 5 false (.t 151) (.t 154)),
    o1 4 (.mv (.t 155))]) (.keep [4]))
  (.ret))
  (.skip)) (.keep [])))) (.keep [])))) (.keep [])))) (.keep [])))) (.keep [])))) (.keep [])))) (.keep [])))) (.keep [])))) (.keep [])))) (.keep [])))
  (.seq (.ops [o1 4 (.mv (.c (.b false)))])
  (.ret)))), [.t 4]⟩

/- loop.example/cothreads/spec.l42Three -/
def c_sl42Three : AFn := ⟨1, .seq (.seq (.ops [o1 2 (.mv (.c (.I 0)))]) (.keep [0]))
  (.seq (.seq (.ops [o1 3 (.bsl [(.I 0), (.I 0), (.I 0), (.I 0), (.I 0), (.I 0), (.I 0), (.I 0), (.I 0), (.I 0), (.I 0), (.I 0), (.I 0), (.I 0), (.I 0), (.I 0), (.I 0), (.I 0), (.I 0), (.I 0), (.I 0)] 21 [(0, 1, (.c (.I 0))), (1, 1, (.c (.I 0))), (2, 1, (.c (.I 0))), (3, 1, (.c (.I 4))), (4, 1, (.c (.I 6))), (5, 1, (.c (.I 7))), (6, 1, (.c (.I 6))), (7, 1, (.c (.I 4))), (8, 1, (.c (.I 1))), (9, 1, (.c (.I 5))), (10, 1, (.c (.I 2))), (11, 1, (.c (.I 0))), (12, 1, (.c (.I 3))), (13, 1, (.c (.I 2))), (14, 1, (.c (.I 0))), (15, 1, (.c (.I 2))), (16, 1, (.c (.I 0))), (17, 1, (.c (.I 1))), (18, 1, (.c (.I 0))), (19, 1, (.c (.I 0))), (20, 1, (.c (.I 0)))]),
    o1 4 (.mv (.t 0)),
    o1 5 (.bin .sub (.t 4) (.c (.I 1))),
    o1 6 (.idxA 1 (.t 3) (.t 5)),
    o1 7 (.load (.t 6)),
    o1 2 (.mv (.t 7))]) (.keep [2]))
  (.ret)), [.t 2]⟩

/- loop.example/cothreads/spec.l94X -/
def c_sl94X : AFn := ⟨1, .seq (.seq (.ops [o1 2 (.mv (.c (.I 0)))]) (.keep [0]))
  (.seq (.seq (.ops [o1 3 (.mv (.t 0)),
    o1 4 (.call f_sl6Rd_pick [(.t 3), (.c (.I 32))]),
    o1 2 (.mv (.t 4))]) (.keep [2]))
  (.ret)), [.t 2]⟩

/- loop.example/cothreads/spec.l94Imm -/
def c_sl94Imm : AFn := ⟨1, .seq (.seq (.ops [o1 2 (.mv (.c (.I 0)))]) (.keep [0]))
  (.seq (.seq (.seq (.ops [o1 3 (.mv (.t 0)),
    o1 4 (.call f_sl6Rd_pick [(.t 3), (.c (.I 3))]),
    o1 5 (.bin .eql (.t 4) (.c (.I 0)))]) (.keep [0, 5]))
  (.seq (.cond (.t 5)
  (.seq (.seq (.ops [o1 6 (.bsl [(.I 0), (.I 0), (.I 0), (.I 0), (.I 0)] 5 [(0, 1, (.c (.I (-2048)))), (1, 1, (.c (.I 2047))), (2, 1, (.c (.I (-1)))), (3, 1, (.c (.I 0))), (4, 1, (.c (.I 1)))]),
    o1 7 (.mv (.t 0)),
    o1 8 (.call f_sl6Rd_pick [(.t 7), (.c (.I 5))]),
    o1 9 (.idxA 1 (.t 6) (.t 8)),
    o1 10 (.load (.t 9)),
    o1 2 (.mv (.t 10))]) (.keep [2]))
  (.ret))
  (.skip)) (.keep [0])))
  (.seq (.seq (.ops [o1 11 (.mv (.t 0)),
    o1 12 (.call f_sl6Rd_pick [(.t 11), (.c (.I 200))]),
    o1 13 (.bin .mul (.t 12) (.c (.I 20))),
    o1 14 (.bin .sub (.t 13) (.c (.I 2000))),
    o1 2 (.mv (.t 14))]) (.keep [2]))
  (.ret))), [.t 2]⟩

/- loop.example/cothreads/impl.isReg -/
def c_iisReg : AFn := ⟨1, .seq (.seq (.ops [o1 2 (.mv (.c (.b false)))]) (.keep [0]))
  (.seq (.seq (.ops [o1 3 (.mv (.t 0)),
    o1 4 (.bin .geq (.t 3) (.c (.I 0))),
    o1 5 (.mv (.t 4)),
    ⟨some 6, (some (5, true)), [], false, .mv (.t 0)⟩,
    ⟨some 7, (some (5, true)), [], false, .bin .lss (.t 6) (.c (.I 12))⟩,
    o1 8 (.pick (.t 5) (.t 7) (.c (.b false))),
    o1 2 (.mv (.t 8))]) (.keep [2]))
  (.ret)), [.t 2]⟩

def tab : List (Nat × AFn) := [(2, c_gosem_cut_init), (3, c_wFnExactMachineValid), (4, c_wFnConstSum), (5, c_wFnExactConstInstrs), (6, c_wFnConst), (7, c_wFnMachine), (9, c_wszMachine), (10, c_sMachineValid), (11, c_wtoMachine), (12, c_iMachineValid), (13, c_weqMachine), (14, c_sDrawConstInstrs), (15, c_iConstInstrs), (16, c_sConstInstrs), (17, c_wsameInstrs), (18, c_iWrap), (19, c_weqInstrS), (20, c_wmarkInstrS), (21, c_wheldInstrS), (22, c_iInstrValid), (23, c_sDrawMachineValid), (24, c_sDrawCompileExpr), (25, c_iCompileExpr), (26, c_sCompileExpr), (27, c_wsameCode), (28, c_sDrawExprEval), (29, c_iExprEval), (30, c_iThreadStep), (31, c_wsameInts), (32, c_wszIntS), (33, c_sl4Words), (34, c_sWordValid), (35, c_wtoIntS), (36, c_iareWords), (37, c_iWordValid), (38, c_weqIntS), (39, c_sl6Open), (40, c_sl6Rd_pick), (41, c_sl91Word), (42, c_iconstInstrs), (43, c_sl6In), (44, c_sl43Const), (45, c_weqInstr), (46, c_iisMachineReg), (47, c_iformatOf), (48, c_sl94Machine), (49, c_sl91Spoilt), (50, c_iExprValid), (51, c_iexprDepth), (52, c_icompileExpr), (53, c_sExprValid), (54, c_sl4Depth), (55, c_sl22Expr), (56, c_sl91Vars), (57, c_iexprEval), (58, c_iThreadValid), (59, c_iboxesValid), (60, c_iboxThere), (61, c_slices_Clone_int_int), (62, c_iboxesCopy), (63, c_iThread_step), (64, c_sWrap), (65, c_iaddi), (66, c_iSignExtend), (67, c_iBits), (68, c_iUnsigned), (69, c_sSignExtend), (70, c_sBits), (71, c_sUnsigned), (72, c_sl42Encode), (73, c_sl94Near), (74, c_sl91Expr), (75, c_sl91Leaf), (76, c_sl4Both), (77, c_sl91Op), (78, c_sl4Leaf), (79, c_iexprValid), (80, c_sl4Ok), (81, c_iapply), (82, c_iCodeValid), (83, c_ithreadFits), (84, c_iBoxValid), (85, c_iBox_put), (86, c_iBox_take), (87, c_iisUnsigned), (88, c_sl1Power), (89, c_sl42Imm), (90, c_sl42Mod), (91, c_sl42Put), (92, c_sl42Mid), (93, c_sl42Branch), (94, c_sl42Jump), (95, c_sl42Seven), (96, c_sl94Instr), (97, c_iOpValid), (98, c_sOpValid), (99, c_itruth), (100, c_iQuadValid), (101, c_sl42Three), (102, c_sl94X), (103, c_sl94Imm), (104, c_iisReg)]
def Cd : FuncId → Option AFn := fun f => (tab.find? fun q => q.1 == f).map (·.2)
def NG : Nat := 0
theorem e_gosem_cut_init : Cd f_gosem_cut_init = some c_gosem_cut_init := rfl
theorem fit2 : fitF Try.prog NG Try.f2 c_gosem_cut_init = true := by kernel_rfl
theorem e_wFnExactMachineValid : Cd f_wFnExactMachineValid = some c_wFnExactMachineValid := rfl
theorem fit3 : fitF Try.prog NG Try.f3 c_wFnExactMachineValid = true := by kernel_rfl
theorem e_wFnConstSum : Cd f_wFnConstSum = some c_wFnConstSum := rfl
theorem fit4 : fitF Try.prog NG Try.f4 c_wFnConstSum = true := by kernel_rfl
theorem e_wFnExactConstInstrs : Cd f_wFnExactConstInstrs = some c_wFnExactConstInstrs := rfl
theorem fit5 : fitF Try.prog NG Try.f5 c_wFnExactConstInstrs = true := by kernel_rfl
theorem e_wFnConst : Cd f_wFnConst = some c_wFnConst := rfl
theorem fit6 : fitF Try.prog NG Try.f6 c_wFnConst = true := by kernel_rfl
theorem e_wFnMachine : Cd f_wFnMachine = some c_wFnMachine := rfl
theorem fit7 : fitF Try.prog NG Try.f7 c_wFnMachine = true := by kernel_rfl
theorem e_wszMachine : Cd f_wszMachine = some c_wszMachine := rfl
theorem fit9 : fitF Try.prog NG Try.f9 c_wszMachine = true := by kernel_rfl
theorem e_sMachineValid : Cd f_sMachineValid = some c_sMachineValid := rfl
theorem fit10 : fitF Try.prog NG Try.f10 c_sMachineValid = true := by kernel_rfl
theorem e_wtoMachine : Cd f_wtoMachine = some c_wtoMachine := rfl
theorem fit11 : fitF Try.prog NG Try.f11 c_wtoMachine = true := by kernel_rfl
theorem e_iMachineValid : Cd f_iMachineValid = some c_iMachineValid := rfl
theorem fit12 : fitF Try.prog NG Try.f12 c_iMachineValid = true := by kernel_rfl
theorem e_weqMachine : Cd f_weqMachine = some c_weqMachine := rfl
theorem fit13 : fitF Try.prog NG Try.f13 c_weqMachine = true := by kernel_rfl
theorem e_sDrawConstInstrs : Cd f_sDrawConstInstrs = some c_sDrawConstInstrs := rfl
theorem fit14 : fitF Try.prog NG Try.f14 c_sDrawConstInstrs = true := by kernel_rfl
theorem e_iConstInstrs : Cd f_iConstInstrs = some c_iConstInstrs := rfl
theorem fit15 : fitF Try.prog NG Try.f15 c_iConstInstrs = true := by kernel_rfl
theorem e_sConstInstrs : Cd f_sConstInstrs = some c_sConstInstrs := rfl
theorem fit16 : fitF Try.prog NG Try.f16 c_sConstInstrs = true := by kernel_rfl
theorem e_wsameInstrs : Cd f_wsameInstrs = some c_wsameInstrs := rfl
theorem fit17 : fitF Try.prog NG Try.f17 c_wsameInstrs = true := by kernel_rfl
theorem e_iWrap : Cd f_iWrap = some c_iWrap := rfl
theorem fit18 : fitF Try.prog NG Try.f18 c_iWrap = true := by kernel_rfl
theorem e_weqInstrS : Cd f_weqInstrS = some c_weqInstrS := rfl
theorem fit19 : fitF Try.prog NG Try.f19 c_weqInstrS = true := by kernel_rfl
theorem e_wmarkInstrS : Cd f_wmarkInstrS = some c_wmarkInstrS := rfl
theorem fit20 : fitF Try.prog NG Try.f20 c_wmarkInstrS = true := by kernel_rfl
theorem e_wheldInstrS : Cd f_wheldInstrS = some c_wheldInstrS := rfl
theorem fit21 : fitF Try.prog NG Try.f21 c_wheldInstrS = true := by kernel_rfl
theorem e_iInstrValid : Cd f_iInstrValid = some c_iInstrValid := rfl
theorem fit22 : fitF Try.prog NG Try.f22 c_iInstrValid = true := by kernel_rfl
theorem e_sDrawMachineValid : Cd f_sDrawMachineValid = some c_sDrawMachineValid := rfl
theorem fit23 : fitF Try.prog NG Try.f23 c_sDrawMachineValid = true := by kernel_rfl
theorem e_sDrawCompileExpr : Cd f_sDrawCompileExpr = some c_sDrawCompileExpr := rfl
theorem fit24 : fitF Try.prog NG Try.f24 c_sDrawCompileExpr = true := by kernel_rfl
theorem e_iCompileExpr : Cd f_iCompileExpr = some c_iCompileExpr := rfl
theorem fit25 : fitF Try.prog NG Try.f25 c_iCompileExpr = true := by kernel_rfl
theorem e_sCompileExpr : Cd f_sCompileExpr = some c_sCompileExpr := rfl
theorem fit26 : fitF Try.prog NG Try.f26 c_sCompileExpr = true := by kernel_rfl
theorem e_wsameCode : Cd f_wsameCode = some c_wsameCode := rfl
theorem fit27 : fitF Try.prog NG Try.f27 c_wsameCode = true := by kernel_rfl
theorem e_sDrawExprEval : Cd f_sDrawExprEval = some c_sDrawExprEval := rfl
theorem fit28 : fitF Try.prog NG Try.f28 c_sDrawExprEval = true := by kernel_rfl
theorem e_iExprEval : Cd f_iExprEval = some c_iExprEval := rfl
theorem fit29 : fitF Try.prog NG Try.f29 c_iExprEval = true := by kernel_rfl
theorem e_iThreadStep : Cd f_iThreadStep = some c_iThreadStep := rfl
theorem fit30 : fitF Try.prog NG Try.f30 c_iThreadStep = true := by kernel_rfl
theorem e_wsameInts : Cd f_wsameInts = some c_wsameInts := rfl
theorem fit31 : fitF Try.prog NG Try.f31 c_wsameInts = true := by kernel_rfl
theorem e_wszIntS : Cd f_wszIntS = some c_wszIntS := rfl
theorem fit32 : fitF Try.prog NG Try.f32 c_wszIntS = true := by kernel_rfl
theorem e_sl4Words : Cd f_sl4Words = some c_sl4Words := rfl
theorem fit33 : fitF Try.prog NG Try.f33 c_sl4Words = true := by kernel_rfl
theorem e_sWordValid : Cd f_sWordValid = some c_sWordValid := rfl
theorem fit34 : fitF Try.prog NG Try.f34 c_sWordValid = true := by kernel_rfl
theorem e_wtoIntS : Cd f_wtoIntS = some c_wtoIntS := rfl
theorem fit35 : fitF Try.prog NG Try.f35 c_wtoIntS = true := by kernel_rfl
theorem e_iareWords : Cd f_iareWords = some c_iareWords := rfl
theorem fit36 : fitF Try.prog NG Try.f36 c_iareWords = true := by kernel_rfl
theorem e_iWordValid : Cd f_iWordValid = some c_iWordValid := rfl
theorem fit37 : fitF Try.prog NG Try.f37 c_iWordValid = true := by kernel_rfl
theorem e_weqIntS : Cd f_weqIntS = some c_weqIntS := rfl
theorem fit38 : fitF Try.prog NG Try.f38 c_weqIntS = true := by kernel_rfl
theorem e_sl6Open : Cd f_sl6Open = some c_sl6Open := rfl
theorem fit39 : fitF Try.prog NG Try.f39 c_sl6Open = true := by kernel_rfl
theorem e_sl6Rd_pick : Cd f_sl6Rd_pick = some c_sl6Rd_pick := rfl
theorem fit40 : fitF Try.prog NG Try.f40 c_sl6Rd_pick = true := by kernel_rfl
theorem e_sl91Word : Cd f_sl91Word = some c_sl91Word := rfl
theorem fit41 : fitF Try.prog NG Try.f41 c_sl91Word = true := by kernel_rfl
theorem e_iconstInstrs : Cd f_iconstInstrs = some c_iconstInstrs := rfl
theorem fit42 : fitF Try.prog NG Try.f42 c_iconstInstrs = true := by kernel_rfl
theorem e_sl6In : Cd f_sl6In = some c_sl6In := rfl
theorem fit43 : fitF Try.prog NG Try.f43 c_sl6In = true := by kernel_rfl
theorem e_sl43Const : Cd f_sl43Const = some c_sl43Const := rfl
theorem fit44 : fitF Try.prog NG Try.f44 c_sl43Const = true := by kernel_rfl
theorem e_weqInstr : Cd f_weqInstr = some c_weqInstr := rfl
theorem fit45 : fitF Try.prog NG Try.f45 c_weqInstr = true := by kernel_rfl
theorem e_iisMachineReg : Cd f_iisMachineReg = some c_iisMachineReg := rfl
theorem fit46 : fitF Try.prog NG Try.f46 c_iisMachineReg = true := by kernel_rfl
theorem e_iformatOf : Cd f_iformatOf = some c_iformatOf := rfl
theorem fit47 : fitF Try.prog NG Try.f47 c_iformatOf = true := by kernel_rfl
theorem e_sl94Machine : Cd f_sl94Machine = some c_sl94Machine := rfl
theorem fit48 : fitF Try.prog NG Try.f48 c_sl94Machine = true := by kernel_rfl
theorem e_sl91Spoilt : Cd f_sl91Spoilt = some c_sl91Spoilt := rfl
theorem fit49 : fitF Try.prog NG Try.f49 c_sl91Spoilt = true := by kernel_rfl
theorem e_iExprValid : Cd f_iExprValid = some c_iExprValid := rfl
theorem fit50 : fitF Try.prog NG Try.f50 c_iExprValid = true := by kernel_rfl
theorem e_iexprDepth : Cd f_iexprDepth = some c_iexprDepth := rfl
theorem fit51 : fitF Try.prog NG Try.f51 c_iexprDepth = true := by kernel_rfl
theorem e_icompileExpr : Cd f_icompileExpr = some c_icompileExpr := rfl
theorem fit52 : fitF Try.prog NG Try.f52 c_icompileExpr = true := by kernel_rfl
theorem e_sExprValid : Cd f_sExprValid = some c_sExprValid := rfl
theorem fit53 : fitF Try.prog NG Try.f53 c_sExprValid = true := by kernel_rfl
theorem e_sl4Depth : Cd f_sl4Depth = some c_sl4Depth := rfl
theorem fit54 : fitF Try.prog NG Try.f54 c_sl4Depth = true := by kernel_rfl
theorem e_sl22Expr : Cd f_sl22Expr = some c_sl22Expr := rfl
theorem fit55 : fitF Try.prog NG Try.f55 c_sl22Expr = true := by kernel_rfl
theorem e_sl91Vars : Cd f_sl91Vars = some c_sl91Vars := rfl
theorem fit56 : fitF Try.prog NG Try.f56 c_sl91Vars = true := by kernel_rfl
theorem e_iexprEval : Cd f_iexprEval = some c_iexprEval := rfl
theorem fit57 : fitF Try.prog NG Try.f57 c_iexprEval = true := by kernel_rfl
theorem e_iThreadValid : Cd f_iThreadValid = some c_iThreadValid := rfl
theorem fit58 : fitF Try.prog NG Try.f58 c_iThreadValid = true := by kernel_rfl
theorem e_iboxesValid : Cd f_iboxesValid = some c_iboxesValid := rfl
theorem fit59 : fitF Try.prog NG Try.f59 c_iboxesValid = true := by kernel_rfl
theorem e_iboxThere : Cd f_iboxThere = some c_iboxThere := rfl
theorem fit60 : fitF Try.prog NG Try.f60 c_iboxThere = true := by kernel_rfl
theorem e_slices_Clone_int_int : Cd f_slices_Clone_int_int = some c_slices_Clone_int_int := rfl
theorem fit61 : fitF Try.prog NG Try.f61 c_slices_Clone_int_int = true := by kernel_rfl
theorem e_iboxesCopy : Cd f_iboxesCopy = some c_iboxesCopy := rfl
theorem fit62 : fitF Try.prog NG Try.f62 c_iboxesCopy = true := by kernel_rfl
theorem e_iThread_step : Cd f_iThread_step = some c_iThread_step := rfl
theorem fit63 : fitF Try.prog NG Try.f63 c_iThread_step = true := by kernel_rfl
theorem e_sWrap : Cd f_sWrap = some c_sWrap := rfl
theorem fit64 : fitF Try.prog NG Try.f64 c_sWrap = true := by kernel_rfl
theorem e_iaddi : Cd f_iaddi = some c_iaddi := rfl
theorem fit65 : fitF Try.prog NG Try.f65 c_iaddi = true := by kernel_rfl
theorem e_iSignExtend : Cd f_iSignExtend = some c_iSignExtend := rfl
theorem fit66 : fitF Try.prog NG Try.f66 c_iSignExtend = true := by kernel_rfl
theorem e_iBits : Cd f_iBits = some c_iBits := rfl
theorem fit67 : fitF Try.prog NG Try.f67 c_iBits = true := by kernel_rfl
theorem e_iUnsigned : Cd f_iUnsigned = some c_iUnsigned := rfl
theorem fit68 : fitF Try.prog NG Try.f68 c_iUnsigned = true := by kernel_rfl
theorem e_sSignExtend : Cd f_sSignExtend = some c_sSignExtend := rfl
theorem fit69 : fitF Try.prog NG Try.f69 c_sSignExtend = true := by kernel_rfl
theorem e_sBits : Cd f_sBits = some c_sBits := rfl
theorem fit70 : fitF Try.prog NG Try.f70 c_sBits = true := by kernel_rfl
theorem e_sUnsigned : Cd f_sUnsigned = some c_sUnsigned := rfl
theorem fit71 : fitF Try.prog NG Try.f71 c_sUnsigned = true := by kernel_rfl
theorem e_sl42Encode : Cd f_sl42Encode = some c_sl42Encode := rfl
theorem fit72 : fitF Try.prog NG Try.f72 c_sl42Encode = true := by kernel_rfl
theorem e_sl94Near : Cd f_sl94Near = some c_sl94Near := rfl
theorem fit73 : fitF Try.prog NG Try.f73 c_sl94Near = true := by kernel_rfl
theorem e_sl91Expr : Cd f_sl91Expr = some c_sl91Expr := rfl
theorem fit74 : fitF Try.prog NG Try.f74 c_sl91Expr = true := by kernel_rfl
theorem e_sl91Leaf : Cd f_sl91Leaf = some c_sl91Leaf := rfl
theorem fit75 : fitF Try.prog NG Try.f75 c_sl91Leaf = true := by kernel_rfl
theorem e_sl4Both : Cd f_sl4Both = some c_sl4Both := rfl
theorem fit76 : fitF Try.prog NG Try.f76 c_sl4Both = true := by kernel_rfl
theorem e_sl91Op : Cd f_sl91Op = some c_sl91Op := rfl
theorem fit77 : fitF Try.prog NG Try.f77 c_sl91Op = true := by kernel_rfl
theorem e_sl4Leaf : Cd f_sl4Leaf = some c_sl4Leaf := rfl
theorem fit78 : fitF Try.prog NG Try.f78 c_sl4Leaf = true := by kernel_rfl
theorem e_iexprValid : Cd f_iexprValid = some c_iexprValid := rfl
theorem fit79 : fitF Try.prog NG Try.f79 c_iexprValid = true := by kernel_rfl
theorem e_sl4Ok : Cd f_sl4Ok = some c_sl4Ok := rfl
theorem fit80 : fitF Try.prog NG Try.f80 c_sl4Ok = true := by kernel_rfl
theorem e_iapply : Cd f_iapply = some c_iapply := rfl
theorem fit81 : fitF Try.prog NG Try.f81 c_iapply = true := by kernel_rfl
theorem e_iCodeValid : Cd f_iCodeValid = some c_iCodeValid := rfl
theorem fit82 : fitF Try.prog NG Try.f82 c_iCodeValid = true := by kernel_rfl
theorem e_ithreadFits : Cd f_ithreadFits = some c_ithreadFits := rfl
theorem fit83 : fitF Try.prog NG Try.f83 c_ithreadFits = true := by kernel_rfl
theorem e_iBoxValid : Cd f_iBoxValid = some c_iBoxValid := rfl
theorem fit84 : fitF Try.prog NG Try.f84 c_iBoxValid = true := by kernel_rfl
theorem e_iBox_put : Cd f_iBox_put = some c_iBox_put := rfl
theorem fit85 : fitF Try.prog NG Try.f85 c_iBox_put = true := by kernel_rfl
theorem e_iBox_take : Cd f_iBox_take = some c_iBox_take := rfl
theorem fit86 : fitF Try.prog NG Try.f86 c_iBox_take = true := by kernel_rfl
theorem e_iisUnsigned : Cd f_iisUnsigned = some c_iisUnsigned := rfl
theorem fit87 : fitF Try.prog NG Try.f87 c_iisUnsigned = true := by kernel_rfl
theorem e_sl1Power : Cd f_sl1Power = some c_sl1Power := rfl
theorem fit88 : fitF Try.prog NG Try.f88 c_sl1Power = true := by kernel_rfl
theorem e_sl42Imm : Cd f_sl42Imm = some c_sl42Imm := rfl
theorem fit89 : fitF Try.prog NG Try.f89 c_sl42Imm = true := by kernel_rfl
theorem e_sl42Mod : Cd f_sl42Mod = some c_sl42Mod := rfl
theorem fit90 : fitF Try.prog NG Try.f90 c_sl42Mod = true := by kernel_rfl
theorem e_sl42Put : Cd f_sl42Put = some c_sl42Put := rfl
theorem fit91 : fitF Try.prog NG Try.f91 c_sl42Put = true := by kernel_rfl
theorem e_sl42Mid : Cd f_sl42Mid = some c_sl42Mid := rfl
theorem fit92 : fitF Try.prog NG Try.f92 c_sl42Mid = true := by kernel_rfl
theorem e_sl42Branch : Cd f_sl42Branch = some c_sl42Branch := rfl
theorem fit93 : fitF Try.prog NG Try.f93 c_sl42Branch = true := by kernel_rfl
theorem e_sl42Jump : Cd f_sl42Jump = some c_sl42Jump := rfl
theorem fit94 : fitF Try.prog NG Try.f94 c_sl42Jump = true := by kernel_rfl
theorem e_sl42Seven : Cd f_sl42Seven = some c_sl42Seven := rfl
theorem fit95 : fitF Try.prog NG Try.f95 c_sl42Seven = true := by kernel_rfl
theorem e_sl94Instr : Cd f_sl94Instr = some c_sl94Instr := rfl
theorem fit96 : fitF Try.prog NG Try.f96 c_sl94Instr = true := by kernel_rfl
theorem e_iOpValid : Cd f_iOpValid = some c_iOpValid := rfl
theorem fit97 : fitF Try.prog NG Try.f97 c_iOpValid = true := by kernel_rfl
theorem e_sOpValid : Cd f_sOpValid = some c_sOpValid := rfl
theorem fit98 : fitF Try.prog NG Try.f98 c_sOpValid = true := by kernel_rfl
theorem e_itruth : Cd f_itruth = some c_itruth := rfl
theorem fit99 : fitF Try.prog NG Try.f99 c_itruth = true := by kernel_rfl
theorem e_iQuadValid : Cd f_iQuadValid = some c_iQuadValid := rfl
theorem fit100 : fitF Try.prog NG Try.f100 c_iQuadValid = true := by kernel_rfl
theorem e_sl42Three : Cd f_sl42Three = some c_sl42Three := rfl
theorem fit101 : fitF Try.prog NG Try.f101 c_sl42Three = true := by kernel_rfl
theorem e_sl94X : Cd f_sl94X = some c_sl94X := rfl
theorem fit102 : fitF Try.prog NG Try.f102 c_sl94X = true := by kernel_rfl
theorem e_sl94Imm : Cd f_sl94Imm = some c_sl94Imm := rfl
theorem fit103 : fitF Try.prog NG Try.f103 c_sl94Imm = true := by kernel_rfl
theorem e_iisReg : Cd f_iisReg = some c_iisReg := rfl
theorem fit104 : fitF Try.prog NG Try.f104 c_iisReg = true := by kernel_rfl
theorem fits : Fits Try.prog NG Cd := by
  intro f a h
  unfold Cd at h
  obtain ⟨q, hq, e⟩ := map_some h
  have hm := List.mem_of_find?_eq_some hq
  have hp := List.find?_some hq
  simp only [beq_iff_eq] at hp
  subst hp e
  simp only [tab, List.mem_cons, List.not_mem_nil, or_false] at hm
  rcases hm with rfl | rfl | rfl | rfl | rfl | rfl | rfl | rfl | rfl | rfl | rfl | rfl | rfl | rfl | rfl | rfl | rfl | rfl | rfl | rfl | rfl | rfl | rfl | rfl | rfl | rfl | rfl | rfl | rfl | rfl | rfl | rfl | rfl | rfl | rfl | rfl | rfl | rfl | rfl | rfl | rfl | rfl | rfl | rfl | rfl | rfl | rfl | rfl | rfl | rfl | rfl | rfl | rfl | rfl | rfl | rfl | rfl | rfl | rfl | rfl | rfl | rfl | rfl | rfl | rfl | rfl | rfl | rfl | rfl | rfl | rfl | rfl | rfl | rfl | rfl | rfl | rfl | rfl | rfl | rfl | rfl | rfl | rfl | rfl | rfl | rfl | rfl | rfl | rfl | rfl | rfl | rfl | rfl | rfl | rfl | rfl | rfl | rfl | rfl | rfl | rfl | rfl
  · exact ⟨_, Try.func2, fit2⟩
  · exact ⟨_, Try.func3, fit3⟩
  · exact ⟨_, Try.func4, fit4⟩
  · exact ⟨_, Try.func5, fit5⟩
  · exact ⟨_, Try.func6, fit6⟩
  · exact ⟨_, Try.func7, fit7⟩
  · exact ⟨_, Try.func9, fit9⟩
  · exact ⟨_, Try.func10, fit10⟩
  · exact ⟨_, Try.func11, fit11⟩
  · exact ⟨_, Try.func12, fit12⟩
  · exact ⟨_, Try.func13, fit13⟩
  · exact ⟨_, Try.func14, fit14⟩
  · exact ⟨_, Try.func15, fit15⟩
  · exact ⟨_, Try.func16, fit16⟩
  · exact ⟨_, Try.func17, fit17⟩
  · exact ⟨_, Try.func18, fit18⟩
  · exact ⟨_, Try.func19, fit19⟩
  · exact ⟨_, Try.func20, fit20⟩
  · exact ⟨_, Try.func21, fit21⟩
  · exact ⟨_, Try.func22, fit22⟩
  · exact ⟨_, Try.func23, fit23⟩
  · exact ⟨_, Try.func24, fit24⟩
  · exact ⟨_, Try.func25, fit25⟩
  · exact ⟨_, Try.func26, fit26⟩
  · exact ⟨_, Try.func27, fit27⟩
  · exact ⟨_, Try.func28, fit28⟩
  · exact ⟨_, Try.func29, fit29⟩
  · exact ⟨_, Try.func30, fit30⟩
  · exact ⟨_, Try.func31, fit31⟩
  · exact ⟨_, Try.func32, fit32⟩
  · exact ⟨_, Try.func33, fit33⟩
  · exact ⟨_, Try.func34, fit34⟩
  · exact ⟨_, Try.func35, fit35⟩
  · exact ⟨_, Try.func36, fit36⟩
  · exact ⟨_, Try.func37, fit37⟩
  · exact ⟨_, Try.func38, fit38⟩
  · exact ⟨_, Try.func39, fit39⟩
  · exact ⟨_, Try.func40, fit40⟩
  · exact ⟨_, Try.func41, fit41⟩
  · exact ⟨_, Try.func42, fit42⟩
  · exact ⟨_, Try.func43, fit43⟩
  · exact ⟨_, Try.func44, fit44⟩
  · exact ⟨_, Try.func45, fit45⟩
  · exact ⟨_, Try.func46, fit46⟩
  · exact ⟨_, Try.func47, fit47⟩
  · exact ⟨_, Try.func48, fit48⟩
  · exact ⟨_, Try.func49, fit49⟩
  · exact ⟨_, Try.func50, fit50⟩
  · exact ⟨_, Try.func51, fit51⟩
  · exact ⟨_, Try.func52, fit52⟩
  · exact ⟨_, Try.func53, fit53⟩
  · exact ⟨_, Try.func54, fit54⟩
  · exact ⟨_, Try.func55, fit55⟩
  · exact ⟨_, Try.func56, fit56⟩
  · exact ⟨_, Try.func57, fit57⟩
  · exact ⟨_, Try.func58, fit58⟩
  · exact ⟨_, Try.func59, fit59⟩
  · exact ⟨_, Try.func60, fit60⟩
  · exact ⟨_, Try.func61, fit61⟩
  · exact ⟨_, Try.func62, fit62⟩
  · exact ⟨_, Try.func63, fit63⟩
  · exact ⟨_, Try.func64, fit64⟩
  · exact ⟨_, Try.func65, fit65⟩
  · exact ⟨_, Try.func66, fit66⟩
  · exact ⟨_, Try.func67, fit67⟩
  · exact ⟨_, Try.func68, fit68⟩
  · exact ⟨_, Try.func69, fit69⟩
  · exact ⟨_, Try.func70, fit70⟩
  · exact ⟨_, Try.func71, fit71⟩
  · exact ⟨_, Try.func72, fit72⟩
  · exact ⟨_, Try.func73, fit73⟩
  · exact ⟨_, Try.func74, fit74⟩
  · exact ⟨_, Try.func75, fit75⟩
  · exact ⟨_, Try.func76, fit76⟩
  · exact ⟨_, Try.func77, fit77⟩
  · exact ⟨_, Try.func78, fit78⟩
  · exact ⟨_, Try.func79, fit79⟩
  · exact ⟨_, Try.func80, fit80⟩
  · exact ⟨_, Try.func81, fit81⟩
  · exact ⟨_, Try.func82, fit82⟩
  · exact ⟨_, Try.func83, fit83⟩
  · exact ⟨_, Try.func84, fit84⟩
  · exact ⟨_, Try.func85, fit85⟩
  · exact ⟨_, Try.func86, fit86⟩
  · exact ⟨_, Try.func87, fit87⟩
  · exact ⟨_, Try.func88, fit88⟩
  · exact ⟨_, Try.func89, fit89⟩
  · exact ⟨_, Try.func90, fit90⟩
  · exact ⟨_, Try.func91, fit91⟩
  · exact ⟨_, Try.func92, fit92⟩
  · exact ⟨_, Try.func93, fit93⟩
  · exact ⟨_, Try.func94, fit94⟩
  · exact ⟨_, Try.func95, fit95⟩
  · exact ⟨_, Try.func96, fit96⟩
  · exact ⟨_, Try.func97, fit97⟩
  · exact ⟨_, Try.func98, fit98⟩
  · exact ⟨_, Try.func99, fit99⟩
  · exact ⟨_, Try.func100, fit100⟩
  · exact ⟨_, Try.func101, fit101⟩
  · exact ⟨_, Try.func102, fit102⟩
  · exact ⟨_, Try.func103, fit103⟩
  · exact ⟨_, Try.func104, fit104⟩

end Go.Proofs.Ytebnompjkpcgiaa.AM
