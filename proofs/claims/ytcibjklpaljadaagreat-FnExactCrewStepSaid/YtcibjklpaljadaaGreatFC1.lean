/-
  The twins, in the abstract machine, of the functions that this claim reaches; by program (part 1). No condition.
-/
import Derived.Test.YtcibjklpaljadaaGreatFM2
import Derived.Test.YtcibjklpaljadaaGreatProg
namespace Go.Proofs.YtcibjklpaljadaaGreat.AM
set_option linter.unusedSimpArgs false
set_option linter.unusedVariables false
set_option maxRecDepth 100000
def f_wFnExactCrewStep : FuncId := 3
def f_wszCrew : FuncId := 5
def f_sCrewStep : FuncId := 6
def f_wtoCrew : FuncId := 7
def f_iCrewStep : FuncId := 8
def f_weqCrew : FuncId := 9
def f_wmarkCrew : FuncId := 10
def f_wheldCrew : FuncId := 11
def f_wszBoxS : FuncId := 13
def f_wtoBoxS : FuncId := 16
def f_weqBoxS : FuncId := 19
def f_weqIntS : FuncId := 20
def f_wmarkBoxS : FuncId := 22
def f_wmarkIntS : FuncId := 23
def f_wheldBoxS : FuncId := 25
def f_wheldIntS : FuncId := 26
def f_wszQuadSS : FuncId := 27
def f_wszThreadS : FuncId := 28
def f_wszIntS : FuncId := 29
def f_sCrewRun : FuncId := 30
def f_wtoQuadSS : FuncId := 31
def f_wtoThreadS : FuncId := 32
def f_wtoIntS : FuncId := 33
def f_iCrewRun : FuncId := 34
def f_weqQuadSS : FuncId := 35
def f_weqThreadS : FuncId := 36
def f_wmarkQuadSS : FuncId := 37
def f_wmarkThreadS : FuncId := 38
def f_wheldQuadSS : FuncId := 39
def f_wheldThreadS : FuncId := 40
def f_wszBox : FuncId := 42
def f_sl15Boxes : FuncId := 44
def f_sl15BoxesCopy : FuncId := 47
def f_wtoBox : FuncId := 54
def f_iboxesValid : FuncId := 56
def f_iboxesCopy : FuncId := 58
def f_weqBox : FuncId := 63
def f_wszQuadS : FuncId := 66
def f_wszThread : FuncId := 67
def f_sCrewValid : FuncId := 68
def f_sl6In : FuncId := 69
def f_sl24Copy : FuncId := 70
def f_sl24Step : FuncId := 71
def f_wtoQuadS : FuncId := 72
def f_wtoThread : FuncId := 73
def f_iCrewValid : FuncId := 74
def f_icodesCopy : FuncId := 75
def f_slices_Clone_int_int : FuncId := 76
def f_itakeTurns : FuncId := 77
def f_iCrewRun_1 : FuncId := 78
def f_iThread_step : FuncId := 79
def f_weqQuadS : FuncId := 80
def f_weqThread : FuncId := 81
def f_wmarkQuadS : FuncId := 82
def f_wheldQuadS : FuncId := 83
def f_sl4Words : FuncId := 86
def f_sBoxValid : FuncId := 87
def f_sBoxPut : FuncId := 88
def f_sBoxTake : FuncId := 89
def f_sApply : FuncId := 91
def f_iBoxValid : FuncId := 95
def f_iBox_put : FuncId := 98
def f_iBox_take : FuncId := 99
def f_sThreadValid : FuncId := 104
def f_sl24Code : FuncId := 105
def f_sl24Codes : FuncId := 106
def f_sl23Go : FuncId := 107
def f_sl23Step : FuncId := 108
def f_sNextTurn : FuncId := 109
def f_wtoQuad : FuncId := 110
def f_iturnsValid : FuncId := 111
def f_iThreadValid : FuncId := 112
def f_iboxThere : FuncId := 113
def f_slices_Clone_iQuad_iQuad : FuncId := 114
def f_iNextTurn : FuncId := 115
def f_iapply : FuncId := 116
def f_weqQuad : FuncId := 117
def f_sWordValid : FuncId := 121
def f_sOpValid : FuncId := 122
def f_sl2Flag : FuncId := 123
def f_sl2Shift : FuncId := 124
def f_sWrap : FuncId := 125
def f_sl2Divide : FuncId := 126
def f_sl2Remain : FuncId := 127
def f_iareWords : FuncId := 131
def f_sCodeValid : FuncId := 135
def f_sl23Fits : FuncId := 136
def f_sl23Quad : FuncId := 137
def f_sl23Talk : FuncId := 138
def f_sl23Pure : FuncId := 139
def f_iCodeValid : FuncId := 140
def f_ithreadFits : FuncId := 141
def f_itruth : FuncId := 142
def f_iWrap : FuncId := 143
def f_iWordValid : FuncId := 147
def f_sQuadValid : FuncId := 150
def f_sl23Set : FuncId := 151
def f_iQuadValid : FuncId := 152
def f_sl21Regs : FuncId := 158
def f_iisReg : FuncId := 159
def f_iOpValid : FuncId := 160
def f_sl21Reg : FuncId := 165
def c_wFnExactCrewStep : AFn := ⟨1, .seq (.seq (.ops [o1 1 (.box (.t 0)),
    o1 2 (.mv (.c (.b false)))]) (.keep [1]))
  (.seq (.ops [o1 3 (.mv (.c (.I 1048576)))])
  (.seq (.seq (.ops [o1 14 (.loadN 6 (.t 1)),
    o1 15 (.mv (.t 3)),
    o1 16 (.call f_wszCrew [(.t 14), (.t 15)]),
    o1 3 (.mv (.t 16))]) (.keep [1, 3]))
  (.seq (.seq (.seq (.ops [o1 17 (.mv (.t 3)),
    o1 18 (.bin .lss (.t 17) (.c (.I 0)))]) (.keep [1, 18]))
  (.seq (.cond (.t 18)
  (.seq (.ops [o1 2 (.mv (.c (.b true)))])
  (.ret))
  (.skip)) (.keep [1])))
  (.seq (.seq (.ops [o1 20 (.loadN 6 (.t 1)),
    o1 21 (.call f_wtoCrew [(.t 20)]),
    o1 22 (.call f_sCrewStep [(.t 21)]),
    o1 19 (.mv (.t 22)),
    o1 23 (.ext (.t 19) 0),
    o1 24 (.ext (.t 19) 1),
    o1 4 (.alloc [.nils, .nils, .nils, (.I 0), (.I 0), .nils]),
    o0 (.store 6 (.t 4) (.t 23)),
    o1 5 (.mv (.t 24))]) (.keep [1, 4, 5]))
  (.seq (.seq (.ops [o1 25 (.loadN 6 (.t 1)),
    o1 26 (.call f_wtoCrew [(.t 25)]),
    o1 6 (.alloc [.nils, .nils, .nils, (.I 0), (.I 0), .nils]),
    o0 (.store 6 (.t 6) (.t 26))]) (.keep [1, 4, 5, 6]))
  (.seq (.seq (.ops [o1 28 (.loadN 6 (.t 6)),
    o1 29 (.call f_iCrewStep [(.t 28)]),
    o1 27 (.mv (.t 29)),
    o1 30 (.ext (.t 27) 0),
    o1 31 (.ext (.t 27) 1),
    o1 7 (.alloc [.nils, .nils, .nils, (.I 0), (.I 0), .nils]),
    o0 (.store 6 (.t 7) (.t 30)),
    o1 8 (.mv (.t 31))]) (.keep [1, 4, 5, 6, 7, 8]))
  (.seq (.seq (.seq (.ops [o1 32 (.loadN 6 (.t 7)),
    o1 33 (.loadN 6 (.t 4)),
    o1 34 (.call f_weqCrew [(.t 32), (.t 33)]),
    o1 35 (.un .not (.t 34)),
    o1 36 (.mv (.t 35)),
    ⟨some 37, (some (36, false)), [], false, .mv (.t 8)⟩,
    ⟨some 38, (some (36, false)), [], false, .mv (.t 5)⟩,
    ⟨some 39, (some (36, false)), [], false, .eqB true (.t 37) (.t 38)⟩,
    o1 40 (.pick (.t 36) (.c (.b true)) (.t 39))]) (.keep [1, 4, 5, 6, 7, 8, 40]))
  (.seq (.cond (.t 40)
  (.seq (.ops [o1 2 (.mv (.c (.b false)))])
  (.ret))
  (.skip)) (.keep [1, 4, 5, 6, 7, 8])))
  (.seq (.seq (.seq (.ops [o1 41 (.loadN 6 (.t 6)),
    o1 42 (.loadN 6 (.t 1)),
    ⟨some 43, none, [], true, .call f_wtoCrew [(.t 42)]⟩,
    ⟨some 44, none, [], true, .call f_weqCrew [(.t 41), (.t 43)]⟩,
    o1 45 (.un .not (.t 44))]) (.keep [1, 4, 5, 6, 7, 8, 45]))
  (.seq (.cond (.t 45)
  (.seq (.ops [o1 2 (.mv (.c (.b false)))])
  (.ret))
  (.skip)) (.keep [1, 4, 5, 6, 7, 8])))
  (.seq (.ops [o1 9 (.mv (.c (.I 1)))])
  (.seq (.seq (.ops [o1 46 (.loadN 6 (.t 6)),
    o1 47 (.mv (.t 9)),
    o1 48 (.call f_wmarkCrew [(.t 46), (.t 47)]),
    o1 9 (.mv (.t 48))]) (.keep [1, 4, 5, 7, 8, 9]))
  (.seq (.seq (.seq (.ops [o1 49 (.mv (.t 9)),
    o1 50 (.bin .lss (.t 49) (.c (.I 0))),
    o1 51 (.mv (.t 50)),
    ⟨some 52, (some (51, false)), [], false, .loadN 6 (.t 7)⟩,
    ⟨some 53, (some (51, false)), [], false, .loadN 6 (.t 4)⟩,
    ⟨some 54, (some (51, false)), [], false, .call f_weqCrew [(.t 52), (.t 53)]⟩,
    ⟨some 55, (some (51, false)), [], false, .un .not (.t 54)⟩,
    o1 56 (.pick (.t 51) (.c (.b true)) (.t 55)),
    o1 57 (.mv (.t 56)),
    ⟨some 58, (some (57, false)), [], false, .mv (.t 8)⟩,
    ⟨some 59, (some (57, false)), [], false, .mv (.t 5)⟩,
    ⟨some 60, (some (57, false)), [], false, .eqB true (.t 58) (.t 59)⟩,
    o1 61 (.pick (.t 57) (.c (.b true)) (.t 60))]) (.keep [1, 4, 5, 7, 61]))
  (.seq (.cond (.t 61)
  (.seq (.ops [o1 2 (.mv (.c (.b false)))])
  (.ret))
  (.skip)) (.keep [1, 4, 5, 7])))
  (.seq (.ops [o1 10 (.mv (.c (.I 1)))])
  (.seq (.seq (.ops [o1 62 (.loadN 6 (.t 7)),
    o1 63 (.mv (.t 10)),
    o1 64 (.call f_wmarkCrew [(.t 62), (.t 63)]),
    o1 10 (.mv (.t 64))]) (.keep [1, 4, 5, 7, 10]))
  (.seq (.ops [o1 11 (.mv (.c (.I 1)))])
  (.seq (.seq (.ops [o1 65 (.loadN 6 (.t 7)),
    o1 66 (.mv (.t 11)),
    o1 67 (.call f_wheldCrew [(.t 65), (.t 66)]),
    o1 11 (.mv (.t 67))]) (.keep [1, 4, 5, 7, 10, 11]))
  (.seq (.seq (.seq (.ops [o1 68 (.mv (.t 11)),
    o1 69 (.bin .lss (.t 68) (.c (.I 0)))]) (.keep [1, 4, 5, 7, 10, 11, 69]))
  (.seq (.cond (.t 69)
  (.seq (.ops [o1 2 (.mv (.c (.b false)))])
  (.ret))
  (.skip)) (.keep [1, 4, 5, 7, 10, 11])))
  (.seq (.seq (.seq (.ops [o1 70 (.mv (.t 11)),
    o1 71 (.mv (.t 10)),
    o1 72 (.bin .neq (.t 70) (.t 71))]) (.keep [1, 4, 5, 7, 10, 72]))
  (.seq (.cond (.t 72)
  (.seq (.ops [o1 2 (.mv (.c (.b false)))])
  (.ret))
  (.skip)) (.keep [1, 4, 5, 7, 10])))
  (.seq (.seq (.ops [o1 74 (.loadN 6 (.t 1)),
    o1 75 (.call f_wtoCrew [(.t 74)]),
    o1 76 (.call f_iCrewStep [(.t 75)]),
    o1 73 (.mv (.t 76)),
    o1 77 (.ext (.t 73) 0),
    o1 78 (.ext (.t 73) 1),
    o1 12 (.alloc [.nils, .nils, .nils, (.I 0), (.I 0), .nils]),
    o0 (.store 6 (.t 12) (.t 77)),
    o1 13 (.mv (.t 78))]) (.keep [4, 5, 7, 10, 12, 13]))
  (.seq (.seq (.seq (.ops [o1 79 (.loadN 6 (.t 12)),
    o1 80 (.loadN 6 (.t 4)),
    o1 81 (.call f_weqCrew [(.t 79), (.t 80)]),
    o1 82 (.un .not (.t 81)),
    o1 83 (.mv (.t 82)),
    ⟨some 84, (some (83, false)), [], false, .mv (.t 13)⟩,
    ⟨some 85, (some (83, false)), [], false, .mv (.t 5)⟩,
    ⟨some 86, (some (83, false)), [], false, .eqB true (.t 84) (.t 85)⟩,
    o1 87 (.pick (.t 83) (.c (.b true)) (.t 86))]) (.keep [7, 10, 87]))
  (.seq (.cond (.t 87)
  (.seq (.ops [o1 2 (.mv (.c (.b false)))])
  (.ret))
  (.skip)) (.keep [7, 10])))
  (.seq (.ops [o1 11 (.mv (.c (.I 1)))])
  (.seq (.seq (.ops [o1 88 (.loadN 6 (.t 7)),
    o1 89 (.mv (.t 11)),
    o1 90 (.call f_wheldCrew [(.t 88), (.t 89)]),
    o1 11 (.mv (.t 90))]) (.keep [10, 11]))
  (.seq (.seq (.seq (.ops [o1 91 (.mv (.t 11)),
    o1 92 (.bin .lss (.t 91) (.c (.I 0)))]) (.keep [10, 11, 92]))
  (.seq (.cond (.t 92)
  (.seq (.ops [o1 2 (.mv (.c (.b false)))])
  (.ret))
  (.skip)) (.keep [10, 11])))
  (.seq (.seq (.seq (.ops [o1 93 (.mv (.t 11)),
    o1 94 (.mv (.t 10)),
    o1 95 (.bin .neq (.t 93) (.t 94))]) (.keep [95]))
  (.seq (.cond (.t 95)
  (.seq (.ops [o1 2 (.mv (.c (.b false)))])
  (.ret))
  (.skip)) (.keep [])))
  (.seq (.ops [o1 2 (.mv (.c (.b true)))])
  (.ret))))))))))))))))))))))))), [.t 2]⟩

/- loop.example/cothreads/laws.szCrew -/
def c_wszCrew : AFn := ⟨2, .seq (.seq (.ops [o1 2 (.box (.t 0)),
    o1 4 (.mv (.c (.I 0)))]) (.keep [1, 2]))
  (.seq (.seq (.ops [o1 5 (.fldA 0 (.t 2)),
    o1 6 (.load (.t 5)),
    o1 7 (.mv (.t 1)),
    o1 8 (.call f_wszQuadSS [(.t 6), (.t 7)]),
    o1 1 (.mv (.t 8))]) (.keep [1, 2]))
  (.seq (.seq (.seq (.ops [o1 9 (.mv (.t 1)),
    o1 10 (.bin .lss (.t 9) (.c (.I 0)))]) (.keep [1, 2, 10]))
  (.seq (.cond (.t 10)
  (.seq (.ops [o1 4 (.mv (.c (.I (-1))))])
  (.ret))
  (.skip)) (.keep [1, 2])))
  (.seq (.seq (.ops [o1 11 (.fldA 1 (.t 2)),
    o1 12 (.load (.t 11)),
    o1 13 (.mv (.t 1)),
    o1 14 (.call f_wszThreadS [(.t 12), (.t 13)]),
    o1 1 (.mv (.t 14))]) (.keep [1, 2]))
  (.seq (.seq (.seq (.ops [o1 15 (.mv (.t 1)),
    o1 16 (.bin .lss (.t 15) (.c (.I 0)))]) (.keep [1, 2, 16]))
  (.seq (.cond (.t 16)
  (.seq (.ops [o1 4 (.mv (.c (.I (-1))))])
  (.ret))
  (.skip)) (.keep [1, 2])))
  (.seq (.seq (.ops [o1 17 (.fldA 2 (.t 2)),
    o1 18 (.load (.t 17)),
    o1 19 (.mv (.t 1)),
    o1 20 (.call f_wszBoxS [(.t 18), (.t 19)]),
    o1 1 (.mv (.t 20))]) (.keep [1, 2]))
  (.seq (.seq (.seq (.ops [o1 21 (.mv (.t 1)),
    o1 22 (.bin .lss (.t 21) (.c (.I 0)))]) (.keep [1, 2, 22]))
  (.seq (.cond (.t 22)
  (.seq (.ops [o1 4 (.mv (.c (.I (-1))))])
  (.ret))
  (.skip)) (.keep [1, 2])))
  (.seq (.seq (.ops [o1 23 (.fldA 5 (.t 2)),
    o1 24 (.load (.t 23)),
    o1 25 (.mv (.t 1)),
    o1 26 (.call f_wszIntS [(.t 24), (.t 25)]),
    o1 1 (.mv (.t 26))]) (.keep [1]))
  (.seq (.seq (.seq (.ops [o1 27 (.mv (.t 1)),
    o1 28 (.bin .lss (.t 27) (.c (.I 0)))]) (.keep [1, 28]))
  (.seq (.cond (.t 28)
  (.seq (.ops [o1 4 (.mv (.c (.I (-1))))])
  (.ret))
  (.skip)) (.keep [1])))
  (.seq (.seq (.ops [o1 29 (.mv (.t 1)),
    o1 4 (.mv (.t 29))]) (.keep [4]))
  (.ret)))))))))), [.t 4]⟩

/- loop.example/cothreads/spec.CrewStep -/
def c_sCrewStep : AFn := ⟨1, .seq (.seq (.ops [o1 1 (.box (.t 0)),
    o1 2 (.alloc [.nils, .nils, .nils, (.I 0), (.I 0), .nils]),
    o1 3 (.mv (.c (.b false)))]) (.keep [1, 2]))
  (.seq (.seq (.ops [o1 4 (.loadN 6 (.t 1)),
    o1 5 (.call f_sCrewRun [(.t 4), (.c (.I 1))]),
    o1 6 (.ext (.t 5) 0),
    o1 7 (.ext (.t 5) 1),
    o0 (.store 6 (.t 2) (.t 6)),
    o1 3 (.mv (.t 7))]) (.keep [2, 3]))
  (.ret)), [.c 2 6, .t 3]⟩

/- loop.example/cothreads/laws.toCrew -/
def c_wtoCrew : AFn := ⟨1, .seq (.ops [o1 1 (.box (.t 0)),
    o1 2 (.alloc [.nils, .nils, .nils, (.I 0), (.I 0), .nils])])
  (.seq (.ops [o1 3 (.alloc [.nils, .nils, .nils, (.I 0), (.I 0), .nils])])
  (.seq (.seq (.ops [o1 4 (.fldA 0 (.t 1)),
    o1 5 (.load (.t 4)),
    o1 6 (.call f_wtoQuadSS [(.t 5)]),
    o1 7 (.fldA 0 (.t 3)),
    o0 (.store 1 (.t 7) (.t 6))]) (.keep [1, 2, 3]))
  (.seq (.seq (.ops [o1 8 (.fldA 1 (.t 1)),
    o1 9 (.load (.t 8)),
    o1 10 (.call f_wtoThreadS [(.t 9)]),
    o1 11 (.fldA 1 (.t 3)),
    o0 (.store 1 (.t 11) (.t 10))]) (.keep [1, 2, 3]))
  (.seq (.seq (.ops [o1 12 (.fldA 2 (.t 1)),
    o1 13 (.load (.t 12)),
    o1 14 (.call f_wtoBoxS [(.t 13)]),
    o1 15 (.fldA 2 (.t 3)),
    o0 (.store 1 (.t 15) (.t 14))]) (.keep [1, 2, 3]))
  (.seq (.seq (.ops [o1 16 (.fldA 3 (.t 1)),
    o1 17 (.load (.t 16)),
    o1 18 (.fldA 3 (.t 3)),
    o0 (.store 1 (.t 18) (.t 17))]) (.keep [1, 2, 3]))
  (.seq (.seq (.ops [o1 19 (.fldA 4 (.t 1)),
    o1 20 (.load (.t 19)),
    o1 21 (.fldA 4 (.t 3)),
    o0 (.store 1 (.t 21) (.t 20))]) (.keep [1, 2, 3]))
  (.seq (.seq (.ops [o1 22 (.fldA 5 (.t 1)),
    o1 23 (.load (.t 22)),
    o1 24 (.call f_wtoIntS [(.t 23)]),
    o1 25 (.fldA 5 (.t 3)),
    o0 (.store 1 (.t 25) (.t 24))]) (.keep [2, 3]))
  (.seq (.seq (.ops [o1 26 (.loadN 6 (.t 3)),
    o0 (.store 6 (.t 2) (.t 26))]) (.keep [2]))
  (.ret))))))))), [.c 2 6]⟩

/- loop.example/cothreads/impl.CrewStep -/
def c_iCrewStep : AFn := ⟨1, .seq (.seq (.ops [o1 1 (.box (.t 0)),
    o1 2 (.alloc [.nils, .nils, .nils, (.I 0), (.I 0), .nils]),
    o1 3 (.mv (.c (.b false)))]) (.keep [1, 2]))
  (.seq (.seq (.ops [o1 4 (.loadN 6 (.t 1)),
    o1 5 (.call f_iCrewRun [(.t 4), (.c (.I 1))]),
    o1 6 (.ext (.t 5) 0),
    o1 7 (.ext (.t 5) 1),
    o0 (.store 6 (.t 2) (.t 6)),
    o1 3 (.mv (.t 7))]) (.keep [2, 3]))
  (.ret)), [.c 2 6, .t 3]⟩

/- loop.example/cothreads/laws.eqCrew -/
def c_weqCrew : AFn := ⟨2, .seq (.seq (.ops [o1 2 (.box (.t 0)),
    o1 3 (.box (.t 1)),
    o1 4 (.mv (.c (.b false)))]) (.keep [2, 3]))
  (.seq (.seq (.seq (.ops [o1 5 (.fldA 0 (.t 2)),
    o1 6 (.load (.t 5)),
    o1 7 (.fldA 0 (.t 3)),
    o1 8 (.load (.t 7)),
    o1 9 (.call f_weqQuadSS [(.t 6), (.t 8)]),
    o1 10 (.un .not (.t 9))]) (.keep [2, 3, 10]))
  (.seq (.cond (.t 10)
  (.seq (.ops [o1 4 (.mv (.c (.b false)))])
  (.ret))
  (.skip)) (.keep [2, 3])))
  (.seq (.seq (.seq (.ops [o1 11 (.fldA 1 (.t 2)),
    o1 12 (.load (.t 11)),
    o1 13 (.fldA 1 (.t 3)),
    o1 14 (.load (.t 13)),
    o1 15 (.call f_weqThreadS [(.t 12), (.t 14)]),
    o1 16 (.un .not (.t 15))]) (.keep [2, 3, 16]))
  (.seq (.cond (.t 16)
  (.seq (.ops [o1 4 (.mv (.c (.b false)))])
  (.ret))
  (.skip)) (.keep [2, 3])))
  (.seq (.seq (.seq (.ops [o1 17 (.fldA 2 (.t 2)),
    o1 18 (.load (.t 17)),
    o1 19 (.fldA 2 (.t 3)),
    o1 20 (.load (.t 19)),
    o1 21 (.call f_weqBoxS [(.t 18), (.t 20)]),
    o1 22 (.un .not (.t 21))]) (.keep [2, 3, 22]))
  (.seq (.cond (.t 22)
  (.seq (.ops [o1 4 (.mv (.c (.b false)))])
  (.ret))
  (.skip)) (.keep [2, 3])))
  (.seq (.seq (.seq (.ops [o1 23 (.fldA 3 (.t 2)),
    o1 24 (.load (.t 23)),
    o1 25 (.fldA 3 (.t 3)),
    o1 26 (.load (.t 25)),
    o1 27 (.bin .neq (.t 24) (.t 26))]) (.keep [2, 3, 27]))
  (.seq (.cond (.t 27)
  (.seq (.ops [o1 4 (.mv (.c (.b false)))])
  (.ret))
  (.skip)) (.keep [2, 3])))
  (.seq (.seq (.seq (.ops [o1 28 (.fldA 4 (.t 2)),
    o1 29 (.load (.t 28)),
    o1 30 (.fldA 4 (.t 3)),
    o1 31 (.load (.t 30)),
    o1 32 (.bin .neq (.t 29) (.t 31))]) (.keep [2, 3, 32]))
  (.seq (.cond (.t 32)
  (.seq (.ops [o1 4 (.mv (.c (.b false)))])
  (.ret))
  (.skip)) (.keep [2, 3])))
  (.seq (.seq (.seq (.ops [o1 33 (.fldA 5 (.t 2)),
    o1 34 (.load (.t 33)),
    o1 35 (.fldA 5 (.t 3)),
    o1 36 (.load (.t 35)),
    o1 37 (.call f_weqIntS [(.t 34), (.t 36)]),
    o1 38 (.un .not (.t 37))]) (.keep [38]))
  (.seq (.cond (.t 38)
  (.seq (.ops [o1 4 (.mv (.c (.b false)))])
  (.ret))
  (.skip)) (.keep [])))
  (.seq (.ops [o1 4 (.mv (.c (.b true)))])
  (.ret)))))))), [.t 4]⟩

/- loop.example/cothreads/laws.markCrew -/
def c_wmarkCrew : AFn := ⟨2, .seq (.seq (.ops [o1 2 (.box (.t 0)),
    o1 4 (.mv (.c (.I 0)))]) (.keep [1, 2]))
  (.seq (.seq (.ops [o1 5 (.fldA 0 (.t 2)),
    o1 6 (.load (.t 5)),
    o1 7 (.mv (.t 1)),
    o1 8 (.call f_wmarkQuadSS [(.t 6), (.t 7)]),
    o1 1 (.mv (.t 8))]) (.keep [1, 2]))
  (.seq (.seq (.ops [o1 9 (.fldA 1 (.t 2)),
    o1 10 (.load (.t 9)),
    o1 11 (.mv (.t 1)),
    o1 12 (.call f_wmarkThreadS [(.t 10), (.t 11)]),
    o1 1 (.mv (.t 12))]) (.keep [1, 2]))
  (.seq (.seq (.ops [o1 13 (.fldA 2 (.t 2)),
    o1 14 (.load (.t 13)),
    o1 15 (.mv (.t 1)),
    o1 16 (.call f_wmarkBoxS [(.t 14), (.t 15)]),
    o1 1 (.mv (.t 16))]) (.keep [1, 2]))
  (.seq (.seq (.ops [o1 17 (.fldA 5 (.t 2)),
    o1 18 (.load (.t 17)),
    o1 19 (.mv (.t 1)),
    o1 20 (.call f_wmarkIntS [(.t 18), (.t 19)]),
    o1 1 (.mv (.t 20))]) (.keep [1]))
  (.seq (.seq (.ops [o1 21 (.mv (.t 1)),
    o1 4 (.mv (.t 21))]) (.keep [4]))
  (.ret)))))), [.t 4]⟩

/- loop.example/cothreads/laws.heldCrew -/
def c_wheldCrew : AFn := ⟨2, .seq (.seq (.ops [o1 2 (.box (.t 0)),
    o1 4 (.mv (.c (.I 0)))]) (.keep [1, 2]))
  (.seq (.seq (.ops [o1 5 (.fldA 0 (.t 2)),
    o1 6 (.load (.t 5)),
    o1 7 (.mv (.t 1)),
    o1 8 (.call f_wheldQuadSS [(.t 6), (.t 7)]),
    o1 1 (.mv (.t 8))]) (.keep [1, 2]))
  (.seq (.seq (.seq (.ops [o1 9 (.mv (.t 1)),
    o1 10 (.bin .lss (.t 9) (.c (.I 0)))]) (.keep [1, 2, 10]))
  (.seq (.cond (.t 10)
  (.seq (.ops [o1 4 (.mv (.c (.I (-1))))])
  (.ret))
  (.skip)) (.keep [1, 2])))
  (.seq (.seq (.ops [o1 11 (.fldA 1 (.t 2)),
    o1 12 (.load (.t 11)),
    o1 13 (.mv (.t 1)),
    o1 14 (.call f_wheldThreadS [(.t 12), (.t 13)]),
    o1 1 (.mv (.t 14))]) (.keep [1, 2]))
  (.seq (.seq (.seq (.ops [o1 15 (.mv (.t 1)),
    o1 16 (.bin .lss (.t 15) (.c (.I 0)))]) (.keep [1, 2, 16]))
  (.seq (.cond (.t 16)
  (.seq (.ops [o1 4 (.mv (.c (.I (-1))))])
  (.ret))
  (.skip)) (.keep [1, 2])))
  (.seq (.seq (.ops [o1 17 (.fldA 2 (.t 2)),
    o1 18 (.load (.t 17)),
    o1 19 (.mv (.t 1)),
    o1 20 (.call f_wheldBoxS [(.t 18), (.t 19)]),
    o1 1 (.mv (.t 20))]) (.keep [1, 2]))
  (.seq (.seq (.seq (.ops [o1 21 (.mv (.t 1)),
    o1 22 (.bin .lss (.t 21) (.c (.I 0)))]) (.keep [1, 2, 22]))
  (.seq (.cond (.t 22)
  (.seq (.ops [o1 4 (.mv (.c (.I (-1))))])
  (.ret))
  (.skip)) (.keep [1, 2])))
  (.seq (.seq (.ops [o1 23 (.fldA 5 (.t 2)),
    o1 24 (.load (.t 23)),
    o1 25 (.mv (.t 1)),
    o1 26 (.call f_wheldIntS [(.t 24), (.t 25)]),
    o1 1 (.mv (.t 26))]) (.keep [1]))
  (.seq (.seq (.seq (.ops [o1 27 (.mv (.t 1)),
    o1 28 (.bin .lss (.t 27) (.c (.I 0)))]) (.keep [1, 28]))
  (.seq (.cond (.t 28)
  (.seq (.ops [o1 4 (.mv (.c (.I (-1))))])
  (.ret))
  (.skip)) (.keep [1])))
  (.seq (.seq (.ops [o1 29 (.mv (.t 1)),
    o1 4 (.mv (.t 29))]) (.keep [4]))
  (.ret)))))))))), [.t 4]⟩

/- loop.example/cothreads/laws.szBoxS -/
def c_wszBoxS_l0 : AC := .seq (.seq (.seq (.seq (.ops [o1 12 (.mv (.t 5)),
    o1 13 (.mv (.t 0)),
    o1 14 (.len (.t 13)),
    o1 15 (.bin .lss (.t 12) (.t 14))]) (.keep [0, 1, 5, 15]))
  (.seq (.cond (.t 15)
  (.skip)
  (.exit 0)) (.keep [0, 1, 5])))
  (.seq (.seq (.block 1 (.seq (.seq (.ops [o1 18 (.mv (.t 0)),
    o1 19 (.mv (.t 5)),
    o1 20 (.idxA 2 (.t 18) (.t 19)),
    o1 21 (.loadN 2 (.t 20)),
    o1 22 (.mv (.t 1)),
    o1 23 (.call f_wszBox [(.t 21), (.t 22)]),
    o1 1 (.mv (.t 23))]) (.keep [0, 1, 5]))
  (.seq (.seq (.ops [o1 24 (.mv (.t 1)),
    o1 25 (.bin .lss (.t 24) (.c (.I 0)))]) (.keep [0, 1, 5, 25]))
  (.seq (.cond (.t 25)
  (.seq (.ops [o1 4 (.mv (.c (.I (-1))))])
  (.ret))
  (.skip)) (.keep [0, 1, 5]))))) (.keep [0, 1, 5]))
  (.seq (.ops [o1 16 (.mv (.t 5)),
    o1 17 (.bin .add (.t 16) (.c (.I 1))),
    o1 5 (.mv (.t 17))]) (.keep [0, 1, 5])))) (.keep [0, 1, 5])
def c_wszBoxS : AFn := ⟨2, .seq (.seq (.ops [o1 4 (.mv (.c (.I 0)))]) (.keep [0, 1]))
  (.seq (.seq (.ops [o1 6 (.mv (.t 1)),
    o1 7 (.mv (.t 0)),
    o1 8 (.len (.t 7)),
    o1 9 (.bin .sub (.t 6) (.t 8)),
    o1 1 (.mv (.t 9))]) (.keep [0, 1]))
  (.seq (.seq (.seq (.ops [o1 10 (.mv (.t 1)),
    o1 11 (.bin .lss (.t 10) (.c (.I 0)))]) (.keep [0, 1, 11]))
  (.seq (.cond (.t 11)
  (.seq (.ops [o1 4 (.mv (.c (.I (-1))))])
  (.ret))
  (.skip)) (.keep [0, 1])))
  (.seq (.seq (.ops [o1 5 (.mv (.c (.I 0)))])
  (.seq (.block 0 (.seq (.keep [0, 1, 5]) (.loop c_wszBoxS_l0))) (.keep [1])))
  (.seq (.seq (.ops [o1 26 (.mv (.t 1)),
    o1 4 (.mv (.t 26))]) (.keep [4]))
  (.ret))))), [.t 4]⟩

/- loop.example/cothreads/laws.toBoxS -/
def c_wtoBoxS_l0 : AC := .seq (.seq (.seq (.seq (.ops [o1 8 (.mv (.t 4)),
    o1 9 (.mv (.t 0)),
    o1 10 (.len (.t 9)),
    o1 11 (.bin .lss (.t 8) (.t 10))]) (.keep [0, 3, 4, 11]))
  (.seq (.cond (.t 11)
  (.skip)
  (.exit 0)) (.keep [0, 3, 4])))
  (.seq (.seq (.block 1 (.seq (.ops [o1 14 (.mv (.t 3)),
    o1 15 (.mv (.t 4)),
    o1 16 (.mv (.t 0)),
    o1 17 (.mv (.t 4)),
    o1 18 (.idxA 2 (.t 16) (.t 17)),
    o1 19 (.loadN 2 (.t 18)),
    o1 20 (.call f_wtoBox [(.t 19)]),
    o1 21 (.idxA 2 (.t 14) (.t 15)),
    o0 (.store 2 (.t 21) (.t 20))]) (.keep [0, 3, 4]))) (.keep [0, 3, 4]))
  (.seq (.ops [o1 12 (.mv (.t 4)),
    o1 13 (.bin .add (.t 12) (.c (.I 1))),
    o1 4 (.mv (.t 13))]) (.keep [0, 3, 4])))) (.keep [0, 3, 4])
def c_wtoBoxS : AFn := ⟨1, .seq (.seq (.ops [o1 2 (.mv (.c .nils))]) (.keep [0]))
  (.seq (.seq (.ops [o1 5 (.mv (.t 0)),
    o1 6 (.len (.t 5)),
    o1 7 (.mksl [(.I 0), .nils] (.t 6) (.t 6)),
    o1 3 (.mv (.t 7))]) (.keep [0, 3]))
  (.seq (.seq (.ops [o1 4 (.mv (.c (.I 0)))])
  (.seq (.block 0 (.seq (.keep [0, 3, 4]) (.loop c_wtoBoxS_l0))) (.keep [3])))
  (.seq (.seq (.ops [o1 22 (.mv (.t 3)),
    o1 2 (.mv (.t 22))]) (.keep [2]))
  (.ret)))), [.t 2]⟩

/- loop.example/cothreads/laws.eqBoxS -/
def c_weqBoxS_l0 : AC := .seq (.seq (.seq (.seq (.ops [o1 11 (.mv (.t 5)),
    o1 12 (.mv (.t 0)),
    o1 13 (.len (.t 12)),
    o1 14 (.bin .lss (.t 11) (.t 13))]) (.keep [0, 1, 5, 14]))
  (.seq (.cond (.t 14)
  (.skip)
  (.exit 0)) (.keep [0, 1, 5])))
  (.seq (.seq (.block 1 (.seq (.seq (.ops [o1 17 (.mv (.t 0)),
    o1 18 (.mv (.t 5)),
    o1 19 (.idxA 2 (.t 17) (.t 18)),
    o1 20 (.loadN 2 (.t 19)),
    o1 21 (.mv (.t 1)),
    o1 22 (.mv (.t 5)),
    o1 23 (.idxA 2 (.t 21) (.t 22)),
    o1 24 (.loadN 2 (.t 23)),
    ⟨some 25, none, [], true, .call f_weqBox [(.t 20), (.t 24)]⟩,
    o1 26 (.un .not (.t 25))]) (.keep [0, 1, 5, 26]))
  (.seq (.cond (.t 26)
  (.seq (.ops [o1 4 (.mv (.c (.b false)))])
  (.ret))
  (.skip)) (.keep [0, 1, 5])))) (.keep [0, 1, 5]))
  (.seq (.ops [o1 15 (.mv (.t 5)),
    o1 16 (.bin .add (.t 15) (.c (.I 1))),
    o1 5 (.mv (.t 16))]) (.keep [0, 1, 5])))) (.keep [0, 1, 5])
def c_weqBoxS : AFn := ⟨2, .seq (.seq (.ops [o1 4 (.mv (.c (.b false)))]) (.keep [0, 1]))
  (.seq (.seq (.seq (.ops [o1 6 (.mv (.t 0)),
    o1 7 (.len (.t 6)),
    o1 8 (.mv (.t 1)),
    o1 9 (.len (.t 8)),
    o1 10 (.bin .neq (.t 7) (.t 9))]) (.keep [0, 1, 10]))
  (.seq (.cond (.t 10)
  (.seq (.ops [o1 4 (.mv (.c (.b false)))])
  (.ret))
  (.skip)) (.keep [0, 1])))
  (.seq (.seq (.ops [o1 5 (.mv (.c (.I 0)))])
  (.seq (.block 0 (.seq (.keep [0, 1, 5]) (.loop c_weqBoxS_l0))) (.keep [])))
  (.seq (.ops [o1 4 (.mv (.c (.b true)))])
  (.ret)))), [.t 4]⟩

/- loop.example/cothreads/laws.eqIntS -/
def c_weqIntS_l0 : AC := .seq (.seq (.seq (.seq (.ops [o1 11 (.mv (.t 5)),
    o1 12 (.mv (.t 0)),
    o1 13 (.len (.t 12)),
    o1 14 (.bin .lss (.t 11) (.t 13))]) (.keep [0, 1, 5, 14]))
  (.seq (.cond (.t 14)
  (.skip)
  (.exit 0)) (.keep [0, 1, 5])))
  (.seq (.seq (.block 1 (.seq (.seq (.ops [o1 17 (.mv (.t 0)),
    o1 18 (.mv (.t 5)),
    o1 19 (.idxA 1 (.t 17) (.t 18)),
    o1 20 (.load (.t 19)),
    o1 21 (.mv (.t 1)),
    o1 22 (.mv (.t 5)),
    o1 23 (.idxA 1 (.t 21) (.t 22)),
    o1 24 (.load (.t 23)),
    o1 25 (.bin .neq (.t 20) (.t 24))]) (.keep [0, 1, 5, 25]))
  (.seq (.cond (.t 25)
  (.seq (.ops [o1 4 (.mv (.c (.b false)))])
  (.ret))
  (.skip)) (.keep [0, 1, 5])))) (.keep [0, 1, 5]))
  (.seq (.ops [o1 15 (.mv (.t 5)),
    o1 16 (.bin .add (.t 15) (.c (.I 1))),
    o1 5 (.mv (.t 16))]) (.keep [0, 1, 5])))) (.keep [0, 1, 5])
def c_weqIntS : AFn := ⟨2, .seq (.seq (.ops [o1 4 (.mv (.c (.b false)))]) (.keep [0, 1]))
  (.seq (.seq (.seq (.ops [o1 6 (.mv (.t 0)),
    o1 7 (.len (.t 6)),
    o1 8 (.mv (.t 1)),
    o1 9 (.len (.t 8)),
    o1 10 (.bin .neq (.t 7) (.t 9))]) (.keep [0, 1, 10]))
  (.seq (.cond (.t 10)
  (.seq (.ops [o1 4 (.mv (.c (.b false)))])
  (.ret))
  (.skip)) (.keep [0, 1])))
  (.seq (.seq (.ops [o1 5 (.mv (.c (.I 0)))])
  (.seq (.block 0 (.seq (.keep [0, 1, 5]) (.loop c_weqIntS_l0))) (.keep [])))
  (.seq (.ops [o1 4 (.mv (.c (.b true)))])
  (.ret)))), [.t 4]⟩

/- loop.example/cothreads/laws.markBoxS -/
def c_wmarkBoxS_l0 : AC := .seq (.seq (.seq (.seq (.ops [o1 6 (.mv (.t 5)),
    o1 7 (.mv (.t 0)),
    o1 8 (.len (.t 7)),
    o1 9 (.bin .lss (.t 6) (.t 8))]) (.keep [0, 1, 5, 9]))
  (.seq (.cond (.t 9)
  (.skip)
  (.exit 0)) (.keep [0, 1, 5])))
  (.seq (.seq (.block 1 (.seq (.seq (.ops [o1 12 (.mv (.t 0)),
    o1 13 (.mv (.t 5)),
    o1 14 (.mv (.t 1)),
    o1 15 (.idxA 2 (.t 12) (.t 13)),
    o1 16 (.fldA 0 (.t 15)),
    o0 (.store 1 (.t 16) (.t 14))]) (.keep [0, 1, 5]))
  (.seq (.seq (.ops [o1 17 (.mv (.t 1)),
    o1 18 (.bin .add (.t 17) (.c (.I 1))),
    o1 1 (.mv (.t 18))]) (.keep [0, 1, 5]))
  (.seq (.ops [o1 19 (.mv (.t 0)),
    o1 20 (.mv (.t 5)),
    o1 21 (.idxA 2 (.t 19) (.t 20)),
    o1 22 (.fldA 1 (.t 21)),
    o1 23 (.load (.t 22)),
    o1 24 (.mv (.t 1)),
    o1 25 (.call f_wmarkIntS [(.t 23), (.t 24)]),
    o1 1 (.mv (.t 25))]) (.keep [0, 1, 5]))))) (.keep [0, 1, 5]))
  (.seq (.ops [o1 10 (.mv (.t 5)),
    o1 11 (.bin .add (.t 10) (.c (.I 1))),
    o1 5 (.mv (.t 11))]) (.keep [0, 1, 5])))) (.keep [0, 1, 5])
def c_wmarkBoxS : AFn := ⟨2, .seq (.seq (.ops [o1 4 (.mv (.c (.I 0)))]) (.keep [0, 1]))
  (.seq (.seq (.ops [o1 5 (.mv (.c (.I 0)))])
  (.seq (.block 0 (.seq (.keep [0, 1, 5]) (.loop c_wmarkBoxS_l0))) (.keep [1])))
  (.seq (.seq (.ops [o1 26 (.mv (.t 1)),
    o1 4 (.mv (.t 26))]) (.keep [4]))
  (.ret))), [.t 4]⟩

/- loop.example/cothreads/laws.markIntS -/
def c_wmarkIntS_l0 : AC := .seq (.seq (.seq (.seq (.ops [o1 6 (.mv (.t 5)),
    o1 7 (.mv (.t 0)),
    o1 8 (.len (.t 7)),
    o1 9 (.bin .lss (.t 6) (.t 8))]) (.keep [0, 1, 5, 9]))
  (.seq (.cond (.t 9)
  (.skip)
  (.exit 0)) (.keep [0, 1, 5])))
  (.seq (.seq (.block 1 (.seq (.seq (.ops [o1 12 (.mv (.t 0)),
    o1 13 (.mv (.t 5)),
    o1 14 (.mv (.t 1)),
    o1 15 (.idxA 1 (.t 12) (.t 13)),
    o0 (.store 1 (.t 15) (.t 14))]) (.keep [0, 1, 5]))
  (.seq (.ops [o1 16 (.mv (.t 1)),
    o1 17 (.bin .add (.t 16) (.c (.I 1))),
    o1 1 (.mv (.t 17))]) (.keep [0, 1, 5])))) (.keep [0, 1, 5]))
  (.seq (.ops [o1 10 (.mv (.t 5)),
    o1 11 (.bin .add (.t 10) (.c (.I 1))),
    o1 5 (.mv (.t 11))]) (.keep [0, 1, 5])))) (.keep [0, 1, 5])
def c_wmarkIntS : AFn := ⟨2, .seq (.seq (.ops [o1 4 (.mv (.c (.I 0)))]) (.keep [0, 1]))
  (.seq (.seq (.ops [o1 5 (.mv (.c (.I 0)))])
  (.seq (.block 0 (.seq (.keep [0, 1, 5]) (.loop c_wmarkIntS_l0))) (.keep [1])))
  (.seq (.seq (.ops [o1 18 (.mv (.t 1)),
    o1 4 (.mv (.t 18))]) (.keep [4]))
  (.ret))), [.t 4]⟩

/- loop.example/cothreads/laws.heldBoxS -/
def c_wheldBoxS_l0 : AC := .seq (.seq (.seq (.seq (.ops [o1 6 (.mv (.t 5)),
    o1 7 (.mv (.t 0)),
    o1 8 (.len (.t 7)),
    o1 9 (.bin .lss (.t 6) (.t 8))]) (.keep [0, 1, 5, 9]))
  (.seq (.cond (.t 9)
  (.skip)
  (.exit 0)) (.keep [0, 1, 5])))
  (.seq (.seq (.block 1 (.seq (.seq (.seq (.ops [o1 12 (.mv (.t 0)),
    o1 13 (.mv (.t 5)),
    o1 14 (.idxA 2 (.t 12) (.t 13)),
    o1 15 (.fldA 0 (.t 14)),
    o1 16 (.load (.t 15)),
    o1 17 (.mv (.t 1)),
    o1 18 (.bin .neq (.t 16) (.t 17))]) (.keep [0, 1, 5, 18]))
  (.seq (.cond (.t 18)
  (.seq (.ops [o1 4 (.mv (.c (.I (-1))))])
  (.ret))
  (.skip)) (.keep [0, 1, 5])))
  (.seq (.seq (.ops [o1 19 (.mv (.t 1)),
    o1 20 (.bin .add (.t 19) (.c (.I 1))),
    o1 1 (.mv (.t 20))]) (.keep [0, 1, 5]))
  (.seq (.seq (.ops [o1 21 (.mv (.t 0)),
    o1 22 (.mv (.t 5)),
    o1 23 (.idxA 2 (.t 21) (.t 22)),
    o1 24 (.fldA 1 (.t 23)),
    o1 25 (.load (.t 24)),
    o1 26 (.mv (.t 1)),
    o1 27 (.call f_wheldIntS [(.t 25), (.t 26)]),
    o1 1 (.mv (.t 27))]) (.keep [0, 1, 5]))
  (.seq (.seq (.ops [o1 28 (.mv (.t 1)),
    o1 29 (.bin .lss (.t 28) (.c (.I 0)))]) (.keep [0, 1, 5, 29]))
  (.seq (.cond (.t 29)
  (.seq (.ops [o1 4 (.mv (.c (.I (-1))))])
  (.ret))
  (.skip)) (.keep [0, 1, 5]))))))) (.keep [0, 1, 5]))
  (.seq (.ops [o1 10 (.mv (.t 5)),
    o1 11 (.bin .add (.t 10) (.c (.I 1))),
    o1 5 (.mv (.t 11))]) (.keep [0, 1, 5])))) (.keep [0, 1, 5])
def c_wheldBoxS : AFn := ⟨2, .seq (.seq (.ops [o1 4 (.mv (.c (.I 0)))]) (.keep [0, 1]))
  (.seq (.seq (.ops [o1 5 (.mv (.c (.I 0)))])
  (.seq (.block 0 (.seq (.keep [0, 1, 5]) (.loop c_wheldBoxS_l0))) (.keep [1])))
  (.seq (.seq (.ops [o1 30 (.mv (.t 1)),
    o1 4 (.mv (.t 30))]) (.keep [4]))
  (.ret))), [.t 4]⟩

/- loop.example/cothreads/laws.heldIntS -/
def c_wheldIntS_l0 : AC := .seq (.seq (.seq (.seq (.ops [o1 6 (.mv (.t 5)),
    o1 7 (.mv (.t 0)),
    o1 8 (.len (.t 7)),
    o1 9 (.bin .lss (.t 6) (.t 8))]) (.keep [0, 1, 5, 9]))
  (.seq (.cond (.t 9)
  (.skip)
  (.exit 0)) (.keep [0, 1, 5])))
  (.seq (.seq (.block 1 (.seq (.seq (.seq (.ops [o1 12 (.mv (.t 0)),
    o1 13 (.mv (.t 5)),
    o1 14 (.idxA 1 (.t 12) (.t 13)),
    o1 15 (.load (.t 14)),
    o1 16 (.mv (.t 1)),
    o1 17 (.bin .neq (.t 15) (.t 16))]) (.keep [0, 1, 5, 17]))
  (.seq (.cond (.t 17)
  (.seq (.ops [o1 4 (.mv (.c (.I (-1))))])
  (.ret))
  (.skip)) (.keep [0, 1, 5])))
  (.seq (.ops [o1 18 (.mv (.t 1)),
    o1 19 (.bin .add (.t 18) (.c (.I 1))),
    o1 1 (.mv (.t 19))]) (.keep [0, 1, 5])))) (.keep [0, 1, 5]))
  (.seq (.ops [o1 10 (.mv (.t 5)),
    o1 11 (.bin .add (.t 10) (.c (.I 1))),
    o1 5 (.mv (.t 11))]) (.keep [0, 1, 5])))) (.keep [0, 1, 5])
def c_wheldIntS : AFn := ⟨2, .seq (.seq (.ops [o1 4 (.mv (.c (.I 0)))]) (.keep [0, 1]))
  (.seq (.seq (.ops [o1 5 (.mv (.c (.I 0)))])
  (.seq (.block 0 (.seq (.keep [0, 1, 5]) (.loop c_wheldIntS_l0))) (.keep [1])))
  (.seq (.seq (.ops [o1 20 (.mv (.t 1)),
    o1 4 (.mv (.t 20))]) (.keep [4]))
  (.ret))), [.t 4]⟩

/- loop.example/cothreads/laws.szQuadSS -/
def c_wszQuadSS_l0 : AC := .seq (.seq (.seq (.seq (.ops [o1 12 (.mv (.t 5)),
    o1 13 (.mv (.t 0)),
    o1 14 (.len (.t 13)),
    o1 15 (.bin .lss (.t 12) (.t 14))]) (.keep [0, 1, 5, 15]))
  (.seq (.cond (.t 15)
  (.skip)
  (.exit 0)) (.keep [0, 1, 5])))
  (.seq (.seq (.block 1 (.seq (.seq (.ops [o1 18 (.mv (.t 0)),
    o1 19 (.mv (.t 5)),
    o1 20 (.idxA 1 (.t 18) (.t 19)),
    o1 21 (.load (.t 20)),
    o1 22 (.mv (.t 1)),
    o1 23 (.call f_wszQuadS [(.t 21), (.t 22)]),
    o1 1 (.mv (.t 23))]) (.keep [0, 1, 5]))
  (.seq (.seq (.ops [o1 24 (.mv (.t 1)),
    o1 25 (.bin .lss (.t 24) (.c (.I 0)))]) (.keep [0, 1, 5, 25]))
  (.seq (.cond (.t 25)
  (.seq (.ops [o1 4 (.mv (.c (.I (-1))))])
  (.ret))
  (.skip)) (.keep [0, 1, 5]))))) (.keep [0, 1, 5]))
  (.seq (.ops [o1 16 (.mv (.t 5)),
    o1 17 (.bin .add (.t 16) (.c (.I 1))),
    o1 5 (.mv (.t 17))]) (.keep [0, 1, 5])))) (.keep [0, 1, 5])
def c_wszQuadSS : AFn := ⟨2, .seq (.seq (.ops [o1 4 (.mv (.c (.I 0)))]) (.keep [0, 1]))
  (.seq (.seq (.ops [o1 6 (.mv (.t 1)),
    o1 7 (.mv (.t 0)),
    o1 8 (.len (.t 7)),
    o1 9 (.bin .sub (.t 6) (.t 8)),
    o1 1 (.mv (.t 9))]) (.keep [0, 1]))
  (.seq (.seq (.seq (.ops [o1 10 (.mv (.t 1)),
    o1 11 (.bin .lss (.t 10) (.c (.I 0)))]) (.keep [0, 1, 11]))
  (.seq (.cond (.t 11)
  (.seq (.ops [o1 4 (.mv (.c (.I (-1))))])
  (.ret))
  (.skip)) (.keep [0, 1])))
  (.seq (.seq (.ops [o1 5 (.mv (.c (.I 0)))])
  (.seq (.block 0 (.seq (.keep [0, 1, 5]) (.loop c_wszQuadSS_l0))) (.keep [1])))
  (.seq (.seq (.ops [o1 26 (.mv (.t 1)),
    o1 4 (.mv (.t 26))]) (.keep [4]))
  (.ret))))), [.t 4]⟩

/- loop.example/cothreads/laws.szThreadS -/
def c_wszThreadS_l0 : AC := .seq (.seq (.seq (.seq (.ops [o1 12 (.mv (.t 5)),
    o1 13 (.mv (.t 0)),
    o1 14 (.len (.t 13)),
    o1 15 (.bin .lss (.t 12) (.t 14))]) (.keep [0, 1, 5, 15]))
  (.seq (.cond (.t 15)
  (.skip)
  (.exit 0)) (.keep [0, 1, 5])))
  (.seq (.seq (.block 1 (.seq (.seq (.ops [o1 18 (.mv (.t 0)),
    o1 19 (.mv (.t 5)),
    o1 20 (.idxA 2 (.t 18) (.t 19)),
    o1 21 (.loadN 2 (.t 20)),
    o1 22 (.mv (.t 1)),
    o1 23 (.call f_wszThread [(.t 21), (.t 22)]),
    o1 1 (.mv (.t 23))]) (.keep [0, 1, 5]))
  (.seq (.seq (.ops [o1 24 (.mv (.t 1)),
    o1 25 (.bin .lss (.t 24) (.c (.I 0)))]) (.keep [0, 1, 5, 25]))
  (.seq (.cond (.t 25)
  (.seq (.ops [o1 4 (.mv (.c (.I (-1))))])
  (.ret))
  (.skip)) (.keep [0, 1, 5]))))) (.keep [0, 1, 5]))
  (.seq (.ops [o1 16 (.mv (.t 5)),
    o1 17 (.bin .add (.t 16) (.c (.I 1))),
    o1 5 (.mv (.t 17))]) (.keep [0, 1, 5])))) (.keep [0, 1, 5])
def c_wszThreadS : AFn := ⟨2, .seq (.seq (.ops [o1 4 (.mv (.c (.I 0)))]) (.keep [0, 1]))
  (.seq (.seq (.ops [o1 6 (.mv (.t 1)),
    o1 7 (.mv (.t 0)),
    o1 8 (.len (.t 7)),
    o1 9 (.bin .sub (.t 6) (.t 8)),
    o1 1 (.mv (.t 9))]) (.keep [0, 1]))
  (.seq (.seq (.seq (.ops [o1 10 (.mv (.t 1)),
    o1 11 (.bin .lss (.t 10) (.c (.I 0)))]) (.keep [0, 1, 11]))
  (.seq (.cond (.t 11)
  (.seq (.ops [o1 4 (.mv (.c (.I (-1))))])
  (.ret))
  (.skip)) (.keep [0, 1])))
  (.seq (.seq (.ops [o1 5 (.mv (.c (.I 0)))])
  (.seq (.block 0 (.seq (.keep [0, 1, 5]) (.loop c_wszThreadS_l0))) (.keep [1])))
  (.seq (.seq (.ops [o1 26 (.mv (.t 1)),
    o1 4 (.mv (.t 26))]) (.keep [4]))
  (.ret))))), [.t 4]⟩

/- loop.example/cothreads/laws.szIntS -/
def c_wszIntS : AFn := ⟨2, .seq (.seq (.ops [o1 4 (.mv (.c (.I 0)))]) (.keep [0, 1]))
  (.seq (.seq (.ops [o1 5 (.mv (.t 1)),
    o1 6 (.mv (.t 0)),
    o1 7 (.len (.t 6)),
    o1 8 (.bin .sub (.t 5) (.t 7)),
    o1 1 (.mv (.t 8))]) (.keep [1]))
  (.seq (.seq (.seq (.ops [o1 9 (.mv (.t 1)),
    o1 10 (.bin .lss (.t 9) (.c (.I 0)))]) (.keep [1, 10]))
  (.seq (.cond (.t 10)
  (.seq (.ops [o1 4 (.mv (.c (.I (-1))))])
  (.ret))
  (.skip)) (.keep [1])))
  (.seq (.seq (.ops [o1 11 (.mv (.t 1)),
    o1 4 (.mv (.t 11))]) (.keep [4]))
  (.ret)))), [.t 4]⟩

/- loop.example/cothreads/spec.CrewRun -/
def c_sCrewRun_l0 : AC := .seq (.seq (.seq (.seq (.ops [o1 19 (.mv (.t 7)),
    o1 20 (.mv (.t 1)),
    o1 21 (.bin .lss (.t 19) (.t 20)),
    o1 22 (.mv (.t 21)),
    ⟨some 23, (some (22, true)), [], false, .fldA 4 (.t 6)⟩,
    ⟨some 24, (some (22, true)), [], false, .load (.t 23)⟩,
    ⟨some 25, (some (22, true)), [], false, .fldA 1 (.t 6)⟩,
    ⟨some 26, (some (22, true)), [], false, .load (.t 25)⟩,
    ⟨some 27, (some (22, true)), [], false, .len (.t 26)⟩,
    ⟨some 28, (some (22, true)), [], false, .bin .lss (.t 24) (.t 27)⟩,
    o1 29 (.pick (.t 22) (.t 28) (.c (.b false)))]) (.keep [1, 4, 6, 7, 29]))
  (.seq (.cond (.t 29)
  (.skip)
  (.exit 0)) (.keep [1, 4, 6, 7])))
  (.seq (.seq (.block 1 (.seq (.ops [o1 32 (.call f_sl24Step [(.t 6)])]) (.keep [1, 4, 6, 7]))) (.keep [1, 4, 6, 7]))
  (.seq (.ops [o1 30 (.mv (.t 7)),
    o1 31 (.bin .add (.t 30) (.c (.I 1))),
    o1 7 (.mv (.t 31))]) (.keep [1, 4, 6, 7])))) (.keep [1, 4, 6, 7])
def c_sCrewRun : AFn := ⟨2, .seq (.seq (.ops [o1 2 (.box (.t 0)),
    o1 4 (.alloc [.nils, .nils, .nils, (.I 0), (.I 0), .nils]),
    o1 5 (.mv (.c (.b false)))]) (.keep [1, 2, 4]))
  (.seq (.seq (.seq (.ops [o1 8 (.loadN 6 (.t 2)),
    o1 9 (.call f_sCrewValid [(.t 8)]),
    o1 10 (.un .not (.t 9)),
    o1 11 (.mv (.t 10)),
    ⟨some 12, (some (11, false)), [], false, .mv (.t 1)⟩,
    ⟨some 13, (some (11, false)), [], false, .call f_sl6In [(.t 12), (.c (.I 0)), (.c (.I 100000))]⟩,
    ⟨some 14, (some (11, false)), [], false, .un .not (.t 13)⟩,
    o1 15 (.pick (.t 11) (.c (.b true)) (.t 14))]) (.keep [1, 2, 4, 15]))
  (.seq (.cond (.t 15)
  (.seq (.seq (.ops [o1 16 (.build [.nils, .nils, .nils, (.I 0), (.I 0), .nils] []),
    o0 (.store 6 (.t 4) (.t 16)),
    o1 5 (.mv (.c (.b false)))]) (.keep [4, 5]))
  (.ret))
  (.skip)) (.keep [1, 2, 4])))
  (.seq (.seq (.ops [o1 17 (.loadN 6 (.t 2)),
    o1 18 (.call f_sl24Copy [(.t 17)]),
    o1 6 (.alloc [.nils, .nils, .nils, (.I 0), (.I 0), .nils]),
    o0 (.store 6 (.t 6) (.t 18))]) (.keep [1, 4, 6]))
  (.seq (.seq (.ops [o1 7 (.mv (.c (.I 0)))])
  (.seq (.block 0 (.seq (.keep [1, 4, 6, 7]) (.loop c_sCrewRun_l0))) (.keep [4, 6])))
  (.seq (.seq (.ops [o1 33 (.loadN 6 (.t 6)),
    o0 (.store 6 (.t 4) (.t 33)),
    o1 5 (.mv (.c (.b true)))]) (.keep [4, 5]))
  (.ret))))), [.c 4 6, .t 5]⟩

/- loop.example/cothreads/laws.toQuadSS -/
def c_wtoQuadSS_l0 : AC := .seq (.seq (.seq (.seq (.ops [o1 8 (.mv (.t 4)),
    o1 9 (.mv (.t 0)),
    o1 10 (.len (.t 9)),
    o1 11 (.bin .lss (.t 8) (.t 10))]) (.keep [0, 3, 4, 11]))
  (.seq (.cond (.t 11)
  (.skip)
  (.exit 0)) (.keep [0, 3, 4])))
  (.seq (.seq (.block 1 (.seq (.ops [o1 14 (.mv (.t 3)),
    o1 15 (.mv (.t 4)),
    o1 16 (.mv (.t 0)),
    o1 17 (.mv (.t 4)),
    o1 18 (.idxA 1 (.t 16) (.t 17)),
    o1 19 (.load (.t 18)),
    o1 20 (.call f_wtoQuadS [(.t 19)]),
    o1 21 (.idxA 1 (.t 14) (.t 15)),
    o0 (.store 1 (.t 21) (.t 20))]) (.keep [0, 3, 4]))) (.keep [0, 3, 4]))
  (.seq (.ops [o1 12 (.mv (.t 4)),
    o1 13 (.bin .add (.t 12) (.c (.I 1))),
    o1 4 (.mv (.t 13))]) (.keep [0, 3, 4])))) (.keep [0, 3, 4])
def c_wtoQuadSS : AFn := ⟨1, .seq (.seq (.ops [o1 2 (.mv (.c .nils))]) (.keep [0]))
  (.seq (.seq (.ops [o1 5 (.mv (.t 0)),
    o1 6 (.len (.t 5)),
    o1 7 (.mksl [.nils] (.t 6) (.t 6)),
    o1 3 (.mv (.t 7))]) (.keep [0, 3]))
  (.seq (.seq (.ops [o1 4 (.mv (.c (.I 0)))])
  (.seq (.block 0 (.seq (.keep [0, 3, 4]) (.loop c_wtoQuadSS_l0))) (.keep [3])))
  (.seq (.seq (.ops [o1 22 (.mv (.t 3)),
    o1 2 (.mv (.t 22))]) (.keep [2]))
  (.ret)))), [.t 2]⟩

/- loop.example/cothreads/laws.toThreadS -/
def c_wtoThreadS_l0 : AC := .seq (.seq (.seq (.seq (.ops [o1 8 (.mv (.t 4)),
    o1 9 (.mv (.t 0)),
    o1 10 (.len (.t 9)),
    o1 11 (.bin .lss (.t 8) (.t 10))]) (.keep [0, 3, 4, 11]))
  (.seq (.cond (.t 11)
  (.skip)
  (.exit 0)) (.keep [0, 3, 4])))
  (.seq (.seq (.block 1 (.seq (.ops [o1 14 (.mv (.t 3)),
    o1 15 (.mv (.t 4)),
    o1 16 (.mv (.t 0)),
    o1 17 (.mv (.t 4)),
    o1 18 (.idxA 2 (.t 16) (.t 17)),
    o1 19 (.loadN 2 (.t 18)),
    o1 20 (.call f_wtoThread [(.t 19)]),
    o1 21 (.idxA 2 (.t 14) (.t 15)),
    o0 (.store 2 (.t 21) (.t 20))]) (.keep [0, 3, 4]))) (.keep [0, 3, 4]))
  (.seq (.ops [o1 12 (.mv (.t 4)),
    o1 13 (.bin .add (.t 12) (.c (.I 1))),
    o1 4 (.mv (.t 13))]) (.keep [0, 3, 4])))) (.keep [0, 3, 4])
def c_wtoThreadS : AFn := ⟨1, .seq (.seq (.ops [o1 2 (.mv (.c .nils))]) (.keep [0]))
  (.seq (.seq (.ops [o1 5 (.mv (.t 0)),
    o1 6 (.len (.t 5)),
    o1 7 (.mksl [.nils, (.I 0)] (.t 6) (.t 6)),
    o1 3 (.mv (.t 7))]) (.keep [0, 3]))
  (.seq (.seq (.ops [o1 4 (.mv (.c (.I 0)))])
  (.seq (.block 0 (.seq (.keep [0, 3, 4]) (.loop c_wtoThreadS_l0))) (.keep [3])))
  (.seq (.seq (.ops [o1 22 (.mv (.t 3)),
    o1 2 (.mv (.t 22))]) (.keep [2]))
  (.ret)))), [.t 2]⟩

/- loop.example/cothreads/laws.toIntS -/
def c_wtoIntS_l0 : AC := .seq (.seq (.seq (.seq (.ops [o1 8 (.mv (.t 4)),
    o1 9 (.mv (.t 0)),
    o1 10 (.len (.t 9)),
    o1 11 (.bin .lss (.t 8) (.t 10))]) (.keep [0, 3, 4, 11]))
  (.seq (.cond (.t 11)
  (.skip)
  (.exit 0)) (.keep [0, 3, 4])))
  (.seq (.seq (.block 1 (.seq (.ops [o1 14 (.mv (.t 3)),
    o1 15 (.mv (.t 4)),
    o1 16 (.mv (.t 0)),
    o1 17 (.mv (.t 4)),
    o1 18 (.idxA 1 (.t 16) (.t 17)),
    o1 19 (.load (.t 18)),
    o1 20 (.idxA 1 (.t 14) (.t 15)),
    o0 (.store 1 (.t 20) (.t 19))]) (.keep [0, 3, 4]))) (.keep [0, 3, 4]))
  (.seq (.ops [o1 12 (.mv (.t 4)),
    o1 13 (.bin .add (.t 12) (.c (.I 1))),
    o1 4 (.mv (.t 13))]) (.keep [0, 3, 4])))) (.keep [0, 3, 4])
def c_wtoIntS : AFn := ⟨1, .seq (.seq (.ops [o1 2 (.mv (.c .nils))]) (.keep [0]))
  (.seq (.seq (.ops [o1 5 (.mv (.t 0)),
    o1 6 (.len (.t 5)),
    o1 7 (.mksl [(.I 0)] (.t 6) (.t 6)),
    o1 3 (.mv (.t 7))]) (.keep [0, 3]))
  (.seq (.seq (.ops [o1 4 (.mv (.c (.I 0)))])
  (.seq (.block 0 (.seq (.keep [0, 3, 4]) (.loop c_wtoIntS_l0))) (.keep [3])))
  (.seq (.seq (.ops [o1 21 (.mv (.t 3)),
    o1 2 (.mv (.t 21))]) (.keep [2]))
  (.ret)))), [.t 2]⟩

/- loop.example/cothreads/impl.CrewRun -/
def c_iCrewRun_l0 : AC := .seq (.seq (.ops [o1 35 (.bin .lss (.t 34) (.t 33))])
  (.seq (.seq (.cond (.t 35)
  (.skip)
  (.exit 0)) (.keep [1, 2, 4, 6, 32, 33, 34]))
  (.seq (.seq (.block 1 (.seq (.seq (.ops [o1 36 (.idxA 2 (.t 32) (.t 34)),
    o1 37 (.loadN 2 (.t 36)),
    o1 8 (.alloc [.nils, (.I 0)]),
    o0 (.store 2 (.t 8) (.t 37))]) (.keep [1, 2, 4, 6, 8, 32, 33, 34]))
  (.seq (.ops [o1 38 (.fldA 1 (.t 6)),
    o1 39 (.load (.t 38)),
    o1 40 (.fldA 0 (.t 8)),
    o1 41 (.load (.t 40)),
    ⟨some 42, none, [], true, .call f_slices_Clone_int_int [(.t 41)]⟩,
    o1 43 (.fldA 1 (.t 8)),
    o1 44 (.load (.t 43)),
    o1 45 (.build [.nils, (.I 0)] [(0, 1, (.t 42)), (1, 1, (.t 44))]),
    o1 46 (.bsl [.nils, (.I 0)] 1 [(0, 2, (.t 45))]),
    o1 47 (.app 2 (.t 39) (.t 46)),
    o1 48 (.fldA 1 (.t 6)),
    o0 (.store 1 (.t 48) (.t 47))]) (.keep [1, 2, 4, 6, 32, 33, 34])))) (.keep [1, 2, 4, 6, 32, 33, 34]))
  (.seq (.ops [o1 49 (.bin .add (.t 34) (.c (.I 1))),
    o1 34 (.mv (.t 49))]) (.keep [1, 2, 4, 6, 32, 33, 34]))))) (.keep [1, 2, 4, 6, 32, 33, 34])
def c_iCrewRun : AFn := ⟨2, .seq (.seq (.ops [o1 2 (.box (.t 0)),
    o1 4 (.alloc [.nils, .nils, .nils, (.I 0), (.I 0), .nils]),
    o1 5 (.mv (.c (.b false)))]) (.keep [1, 2, 4]))
  (.seq (.seq (.seq (.ops [o1 9 (.loadN 6 (.t 2)),
    o1 10 (.call f_iCrewValid [(.t 9)]),
    o1 11 (.un .not (.t 10)),
    o1 12 (.mv (.t 11)),
    ⟨some 13, (some (12, false)), [], false, .mv (.t 1)⟩,
    ⟨some 14, (some (12, false)), [], false, .bin .lss (.t 13) (.c (.I 0))⟩,
    o1 15 (.pick (.t 12) (.c (.b true)) (.t 14)),
    o1 16 (.mv (.t 15)),
    ⟨some 17, (some (16, false)), [], false, .mv (.t 1)⟩,
    ⟨some 18, (some (16, false)), [], false, .bin .gtr (.t 17) (.c (.I 100000))⟩,
    o1 19 (.pick (.t 16) (.c (.b true)) (.t 18))]) (.keep [1, 2, 4, 19]))
  (.seq (.cond (.t 19)
  (.seq (.seq (.ops [o1 20 (.build [.nils, .nils, .nils, (.I 0), (.I 0), .nils] []),
    o0 (.store 6 (.t 4) (.t 20)),
    o1 5 (.mv (.c (.b false)))]) (.keep [4, 5]))
  (.ret))
  (.skip)) (.keep [1, 2, 4])))
  (.seq (.seq (.ops [o1 21 (.fldA 0 (.t 2)),
    o1 22 (.load (.t 21)),
    ⟨some 23, none, [], true, .call f_icodesCopy [(.t 22)]⟩,
    o1 24 (.fldA 2 (.t 2)),
    o1 25 (.load (.t 24)),
    ⟨some 26, none, [], true, .call f_iboxesCopy [(.t 25)]⟩,
    o1 27 (.fldA 5 (.t 2)),
    o1 28 (.load (.t 27)),
    ⟨some 29, none, [], true, .call f_slices_Clone_int_int [(.t 28)]⟩,
    o1 30 (.build [.nils, .nils, .nils, (.I 0), (.I 0), .nils] [(0, 1, (.t 23)), (2, 1, (.t 26)), (5, 1, (.t 29))]),
    o1 6 (.alloc [.nils, .nils, .nils, (.I 0), (.I 0), .nils]),
    o0 (.store 6 (.t 6) (.t 30))]) (.keep [1, 2, 4, 6]))
  (.seq (.seq (.seq (.ops [o1 31 (.fldA 1 (.t 2)),
    o1 32 (.load (.t 31)),
    o1 33 (.len (.t 32)),
    o1 34 (.mv (.c (.I 0)))]) (.keep [1, 2, 4, 6, 32, 33, 34]))
  (.seq (.block 0 (.seq (.keep [1, 2, 4, 6, 32, 33, 34]) (.loop c_iCrewRun_l0))) (.keep [1, 2, 4, 6])))
  (.seq (.seq (.ops [o1 51 (.mv (.t 1)),
    o1 52 (.fldA 1 (.t 6)),
    o1 53 (.load (.t 52)),
    o1 54 (.len (.t 53)),
    o1 55 (.fldA 3 (.t 2)),
    o1 56 (.load (.t 55)),
    o1 57 (.fldA 4 (.t 2)),
    o1 58 (.load (.t 57)),
    o1 59 (.mkfn f_iCrewRun_1 [] [(.t 6)]),
    o1 60 (.call f_itakeTurns [(.t 51), (.t 54), (.t 56), (.t 58), (.t 59)]),
    o1 50 (.mv (.t 60)),
    o1 61 (.ext (.t 50) 0),
    o1 62 (.ext (.t 50) 1),
    o1 63 (.ext (.t 50) 2),
    o1 64 (.fldA 3 (.t 6)),
    o0 (.store 1 (.t 64) (.t 61)),
    o1 65 (.fldA 4 (.t 6)),
    o0 (.store 1 (.t 65) (.t 62))]) (.keep [4, 6]))
  (.seq (.seq (.ops [o1 66 (.loadN 6 (.t 6)),
    o0 (.store 6 (.t 4) (.t 66)),
    o1 5 (.mv (.c (.b true)))]) (.keep [4, 5]))
  (.ret)))))), [.c 4 6, .t 5]⟩

/- loop.example/cothreads/laws.eqQuadSS -/
def c_weqQuadSS_l0 : AC := .seq (.seq (.seq (.seq (.ops [o1 11 (.mv (.t 5)),
    o1 12 (.mv (.t 0)),
    o1 13 (.len (.t 12)),
    o1 14 (.bin .lss (.t 11) (.t 13))]) (.keep [0, 1, 5, 14]))
  (.seq (.cond (.t 14)
  (.skip)
  (.exit 0)) (.keep [0, 1, 5])))
  (.seq (.seq (.block 1 (.seq (.seq (.ops [o1 17 (.mv (.t 0)),
    o1 18 (.mv (.t 5)),
    o1 19 (.idxA 1 (.t 17) (.t 18)),
    o1 20 (.load (.t 19)),
    o1 21 (.mv (.t 1)),
    o1 22 (.mv (.t 5)),
    o1 23 (.idxA 1 (.t 21) (.t 22)),
    o1 24 (.load (.t 23)),
    ⟨some 25, none, [], true, .call f_weqQuadS [(.t 20), (.t 24)]⟩,
    o1 26 (.un .not (.t 25))]) (.keep [0, 1, 5, 26]))
  (.seq (.cond (.t 26)
  (.seq (.ops [o1 4 (.mv (.c (.b false)))])
  (.ret))
  (.skip)) (.keep [0, 1, 5])))) (.keep [0, 1, 5]))
  (.seq (.ops [o1 15 (.mv (.t 5)),
    o1 16 (.bin .add (.t 15) (.c (.I 1))),
    o1 5 (.mv (.t 16))]) (.keep [0, 1, 5])))) (.keep [0, 1, 5])
def c_weqQuadSS : AFn := ⟨2, .seq (.seq (.ops [o1 4 (.mv (.c (.b false)))]) (.keep [0, 1]))
  (.seq (.seq (.seq (.ops [o1 6 (.mv (.t 0)),
    o1 7 (.len (.t 6)),
    o1 8 (.mv (.t 1)),
    o1 9 (.len (.t 8)),
    o1 10 (.bin .neq (.t 7) (.t 9))]) (.keep [0, 1, 10]))
  (.seq (.cond (.t 10)
  (.seq (.ops [o1 4 (.mv (.c (.b false)))])
  (.ret))
  (.skip)) (.keep [0, 1])))
  (.seq (.seq (.ops [o1 5 (.mv (.c (.I 0)))])
  (.seq (.block 0 (.seq (.keep [0, 1, 5]) (.loop c_weqQuadSS_l0))) (.keep [])))
  (.seq (.ops [o1 4 (.mv (.c (.b true)))])
  (.ret)))), [.t 4]⟩

/- loop.example/cothreads/laws.eqThreadS -/
def c_weqThreadS_l0 : AC := .seq (.seq (.seq (.seq (.ops [o1 11 (.mv (.t 5)),
    o1 12 (.mv (.t 0)),
    o1 13 (.len (.t 12)),
    o1 14 (.bin .lss (.t 11) (.t 13))]) (.keep [0, 1, 5, 14]))
  (.seq (.cond (.t 14)
  (.skip)
  (.exit 0)) (.keep [0, 1, 5])))
  (.seq (.seq (.block 1 (.seq (.seq (.ops [o1 17 (.mv (.t 0)),
    o1 18 (.mv (.t 5)),
    o1 19 (.idxA 2 (.t 17) (.t 18)),
    o1 20 (.loadN 2 (.t 19)),
    o1 21 (.mv (.t 1)),
    o1 22 (.mv (.t 5)),
    o1 23 (.idxA 2 (.t 21) (.t 22)),
    o1 24 (.loadN 2 (.t 23)),
    ⟨some 25, none, [], true, .call f_weqThread [(.t 20), (.t 24)]⟩,
    o1 26 (.un .not (.t 25))]) (.keep [0, 1, 5, 26]))
  (.seq (.cond (.t 26)
  (.seq (.ops [o1 4 (.mv (.c (.b false)))])
  (.ret))
  (.skip)) (.keep [0, 1, 5])))) (.keep [0, 1, 5]))
  (.seq (.ops [o1 15 (.mv (.t 5)),
    o1 16 (.bin .add (.t 15) (.c (.I 1))),
    o1 5 (.mv (.t 16))]) (.keep [0, 1, 5])))) (.keep [0, 1, 5])
def c_weqThreadS : AFn := ⟨2, .seq (.seq (.ops [o1 4 (.mv (.c (.b false)))]) (.keep [0, 1]))
  (.seq (.seq (.seq (.ops [o1 6 (.mv (.t 0)),
    o1 7 (.len (.t 6)),
    o1 8 (.mv (.t 1)),
    o1 9 (.len (.t 8)),
    o1 10 (.bin .neq (.t 7) (.t 9))]) (.keep [0, 1, 10]))
  (.seq (.cond (.t 10)
  (.seq (.ops [o1 4 (.mv (.c (.b false)))])
  (.ret))
  (.skip)) (.keep [0, 1])))
  (.seq (.seq (.ops [o1 5 (.mv (.c (.I 0)))])
  (.seq (.block 0 (.seq (.keep [0, 1, 5]) (.loop c_weqThreadS_l0))) (.keep [])))
  (.seq (.ops [o1 4 (.mv (.c (.b true)))])
  (.ret)))), [.t 4]⟩

/- loop.example/cothreads/laws.markQuadSS -/
def c_wmarkQuadSS_l0 : AC := .seq (.seq (.seq (.seq (.ops [o1 6 (.mv (.t 5)),
    o1 7 (.mv (.t 0)),
    o1 8 (.len (.t 7)),
    o1 9 (.bin .lss (.t 6) (.t 8))]) (.keep [0, 1, 5, 9]))
  (.seq (.cond (.t 9)
  (.skip)
  (.exit 0)) (.keep [0, 1, 5])))
  (.seq (.seq (.block 1 (.seq (.ops [o1 12 (.mv (.t 0)),
    o1 13 (.mv (.t 5)),
    o1 14 (.idxA 1 (.t 12) (.t 13)),
    o1 15 (.load (.t 14)),
    o1 16 (.mv (.t 1)),
    o1 17 (.call f_wmarkQuadS [(.t 15), (.t 16)]),
    o1 1 (.mv (.t 17))]) (.keep [0, 1, 5]))) (.keep [0, 1, 5]))
  (.seq (.ops [o1 10 (.mv (.t 5)),
    o1 11 (.bin .add (.t 10) (.c (.I 1))),
    o1 5 (.mv (.t 11))]) (.keep [0, 1, 5])))) (.keep [0, 1, 5])
def c_wmarkQuadSS : AFn := ⟨2, .seq (.seq (.ops [o1 4 (.mv (.c (.I 0)))]) (.keep [0, 1]))
  (.seq (.seq (.ops [o1 5 (.mv (.c (.I 0)))])
  (.seq (.block 0 (.seq (.keep [0, 1, 5]) (.loop c_wmarkQuadSS_l0))) (.keep [1])))
  (.seq (.seq (.ops [o1 18 (.mv (.t 1)),
    o1 4 (.mv (.t 18))]) (.keep [4]))
  (.ret))), [.t 4]⟩

/- loop.example/cothreads/laws.markThreadS -/
def c_wmarkThreadS_l0 : AC := .seq (.seq (.seq (.seq (.ops [o1 6 (.mv (.t 5)),
    o1 7 (.mv (.t 0)),
    o1 8 (.len (.t 7)),
    o1 9 (.bin .lss (.t 6) (.t 8))]) (.keep [0, 1, 5, 9]))
  (.seq (.cond (.t 9)
  (.skip)
  (.exit 0)) (.keep [0, 1, 5])))
  (.seq (.seq (.block 1 (.seq (.seq (.ops [o1 12 (.mv (.t 0)),
    o1 13 (.mv (.t 5)),
    o1 14 (.idxA 2 (.t 12) (.t 13)),
    o1 15 (.fldA 0 (.t 14)),
    o1 16 (.load (.t 15)),
    o1 17 (.mv (.t 1)),
    o1 18 (.call f_wmarkIntS [(.t 16), (.t 17)]),
    o1 1 (.mv (.t 18))]) (.keep [0, 1, 5]))
  (.seq (.seq (.ops [o1 19 (.mv (.t 0)),
    o1 20 (.mv (.t 5)),
    o1 21 (.mv (.t 1)),
    o1 22 (.idxA 2 (.t 19) (.t 20)),
    o1 23 (.fldA 1 (.t 22)),
    o0 (.store 1 (.t 23) (.t 21))]) (.keep [0, 1, 5]))
  (.seq (.ops [o1 24 (.mv (.t 1)),
    o1 25 (.bin .add (.t 24) (.c (.I 1))),
    o1 1 (.mv (.t 25))]) (.keep [0, 1, 5]))))) (.keep [0, 1, 5]))
  (.seq (.ops [o1 10 (.mv (.t 5)),
    o1 11 (.bin .add (.t 10) (.c (.I 1))),
    o1 5 (.mv (.t 11))]) (.keep [0, 1, 5])))) (.keep [0, 1, 5])
def c_wmarkThreadS : AFn := ⟨2, .seq (.seq (.ops [o1 4 (.mv (.c (.I 0)))]) (.keep [0, 1]))
  (.seq (.seq (.ops [o1 5 (.mv (.c (.I 0)))])
  (.seq (.block 0 (.seq (.keep [0, 1, 5]) (.loop c_wmarkThreadS_l0))) (.keep [1])))
  (.seq (.seq (.ops [o1 26 (.mv (.t 1)),
    o1 4 (.mv (.t 26))]) (.keep [4]))
  (.ret))), [.t 4]⟩

/- loop.example/cothreads/laws.heldQuadSS -/
def c_wheldQuadSS_l0 : AC := .seq (.seq (.seq (.seq (.ops [o1 6 (.mv (.t 5)),
    o1 7 (.mv (.t 0)),
    o1 8 (.len (.t 7)),
    o1 9 (.bin .lss (.t 6) (.t 8))]) (.keep [0, 1, 5, 9]))
  (.seq (.cond (.t 9)
  (.skip)
  (.exit 0)) (.keep [0, 1, 5])))
  (.seq (.seq (.block 1 (.seq (.seq (.ops [o1 12 (.mv (.t 0)),
    o1 13 (.mv (.t 5)),
    o1 14 (.idxA 1 (.t 12) (.t 13)),
    o1 15 (.load (.t 14)),
    o1 16 (.mv (.t 1)),
    o1 17 (.call f_wheldQuadS [(.t 15), (.t 16)]),
    o1 1 (.mv (.t 17))]) (.keep [0, 1, 5]))
  (.seq (.seq (.ops [o1 18 (.mv (.t 1)),
    o1 19 (.bin .lss (.t 18) (.c (.I 0)))]) (.keep [0, 1, 5, 19]))
  (.seq (.cond (.t 19)
  (.seq (.ops [o1 4 (.mv (.c (.I (-1))))])
  (.ret))
  (.skip)) (.keep [0, 1, 5]))))) (.keep [0, 1, 5]))
  (.seq (.ops [o1 10 (.mv (.t 5)),
    o1 11 (.bin .add (.t 10) (.c (.I 1))),
    o1 5 (.mv (.t 11))]) (.keep [0, 1, 5])))) (.keep [0, 1, 5])
def c_wheldQuadSS : AFn := ⟨2, .seq (.seq (.ops [o1 4 (.mv (.c (.I 0)))]) (.keep [0, 1]))
  (.seq (.seq (.ops [o1 5 (.mv (.c (.I 0)))])
  (.seq (.block 0 (.seq (.keep [0, 1, 5]) (.loop c_wheldQuadSS_l0))) (.keep [1])))
  (.seq (.seq (.ops [o1 20 (.mv (.t 1)),
    o1 4 (.mv (.t 20))]) (.keep [4]))
  (.ret))), [.t 4]⟩

/- loop.example/cothreads/laws.heldThreadS -/
def c_wheldThreadS_l0 : AC := .seq (.seq (.seq (.seq (.ops [o1 6 (.mv (.t 5)),
    o1 7 (.mv (.t 0)),
    o1 8 (.len (.t 7)),
    o1 9 (.bin .lss (.t 6) (.t 8))]) (.keep [0, 1, 5, 9]))
  (.seq (.cond (.t 9)
  (.skip)
  (.exit 0)) (.keep [0, 1, 5])))
  (.seq (.seq (.block 1 (.seq (.seq (.ops [o1 12 (.mv (.t 0)),
    o1 13 (.mv (.t 5)),
    o1 14 (.idxA 2 (.t 12) (.t 13)),
    o1 15 (.fldA 0 (.t 14)),
    o1 16 (.load (.t 15)),
    o1 17 (.mv (.t 1)),
    o1 18 (.call f_wheldIntS [(.t 16), (.t 17)]),
    o1 1 (.mv (.t 18))]) (.keep [0, 1, 5]))
  (.seq (.seq (.seq (.ops [o1 19 (.mv (.t 1)),
    o1 20 (.bin .lss (.t 19) (.c (.I 0)))]) (.keep [0, 1, 5, 20]))
  (.seq (.cond (.t 20)
  (.seq (.ops [o1 4 (.mv (.c (.I (-1))))])
  (.ret))
  (.skip)) (.keep [0, 1, 5])))
  (.seq (.seq (.seq (.ops [o1 21 (.mv (.t 0)),
    o1 22 (.mv (.t 5)),
    o1 23 (.idxA 2 (.t 21) (.t 22)),
    o1 24 (.fldA 1 (.t 23)),
    o1 25 (.load (.t 24)),
    o1 26 (.mv (.t 1)),
    o1 27 (.bin .neq (.t 25) (.t 26))]) (.keep [0, 1, 5, 27]))
  (.seq (.cond (.t 27)
  (.seq (.ops [o1 4 (.mv (.c (.I (-1))))])
  (.ret))
  (.skip)) (.keep [0, 1, 5])))
  (.seq (.ops [o1 28 (.mv (.t 1)),
    o1 29 (.bin .add (.t 28) (.c (.I 1))),
    o1 1 (.mv (.t 29))]) (.keep [0, 1, 5])))))) (.keep [0, 1, 5]))
  (.seq (.ops [o1 10 (.mv (.t 5)),
    o1 11 (.bin .add (.t 10) (.c (.I 1))),
    o1 5 (.mv (.t 11))]) (.keep [0, 1, 5])))) (.keep [0, 1, 5])
def c_wheldThreadS : AFn := ⟨2, .seq (.seq (.ops [o1 4 (.mv (.c (.I 0)))]) (.keep [0, 1]))
  (.seq (.seq (.ops [o1 5 (.mv (.c (.I 0)))])
  (.seq (.block 0 (.seq (.keep [0, 1, 5]) (.loop c_wheldThreadS_l0))) (.keep [1])))
  (.seq (.seq (.ops [o1 30 (.mv (.t 1)),
    o1 4 (.mv (.t 30))]) (.keep [4]))
  (.ret))), [.t 4]⟩

/- loop.example/cothreads/laws.szBox -/
def c_wszBox : AFn := ⟨2, .seq (.seq (.ops [o1 2 (.box (.t 0)),
    o1 4 (.mv (.c (.I 0)))]) (.keep [1, 2]))
  (.seq (.seq (.ops [o1 5 (.fldA 1 (.t 2)),
    o1 6 (.load (.t 5)),
    o1 7 (.mv (.t 1)),
    o1 8 (.call f_wszIntS [(.t 6), (.t 7)]),
    o1 1 (.mv (.t 8))]) (.keep [1]))
  (.seq (.seq (.seq (.ops [o1 9 (.mv (.t 1)),
    o1 10 (.bin .lss (.t 9) (.c (.I 0)))]) (.keep [1, 10]))
  (.seq (.cond (.t 10)
  (.seq (.ops [o1 4 (.mv (.c (.I (-1))))])
  (.ret))
  (.skip)) (.keep [1])))
  (.seq (.seq (.ops [o1 11 (.mv (.t 1)),
    o1 4 (.mv (.t 11))]) (.keep [4]))
  (.ret)))), [.t 4]⟩

/- loop.example/cothreads/spec.l15Boxes -/
def c_sl15Boxes_l0 : AC := .seq (.seq (.seq (.seq (.ops [o1 4 (.mv (.t 3)),
    o1 5 (.mv (.t 0)),
    o1 6 (.len (.t 5)),
    o1 7 (.bin .lss (.t 4) (.t 6))]) (.keep [0, 3, 7]))
  (.seq (.cond (.t 7)
  (.skip)
  (.exit 0)) (.keep [0, 3])))
  (.seq (.seq (.block 1 (.seq (.seq (.ops [o1 10 (.mv (.t 0)),
    o1 11 (.mv (.t 3)),
    o1 12 (.idxA 2 (.t 10) (.t 11)),
    o1 13 (.loadN 2 (.t 12)),
    o1 14 (.call f_sBoxValid [(.t 13)]),
    o1 15 (.un .not (.t 14))]) (.keep [0, 3, 15]))
  (.seq (.cond (.t 15)
  (.seq (.ops [o1 2 (.mv (.c (.b false)))])
  (.ret))
  (.skip)) (.keep [0, 3])))) (.keep [0, 3]))
  (.seq (.ops [o1 8 (.mv (.t 3)),
    o1 9 (.bin .add (.t 8) (.c (.I 1))),
    o1 3 (.mv (.t 9))]) (.keep [0, 3])))) (.keep [0, 3])
def c_sl15Boxes : AFn := ⟨1, .seq (.seq (.ops [o1 2 (.mv (.c (.b false)))]) (.keep [0]))
  (.seq (.seq (.ops [o1 3 (.mv (.c (.I 0)))])
  (.seq (.block 0 (.seq (.keep [0, 3]) (.loop c_sl15Boxes_l0))) (.keep [0])))
  (.seq (.seq (.ops [o1 16 (.mv (.t 0)),
    o1 17 (.len (.t 16)),
    o1 18 (.bin .leq (.t 17) (.c (.I 3))),
    o1 2 (.mv (.t 18))]) (.keep [2]))
  (.ret))), [.t 2]⟩

/- loop.example/cothreads/spec.l15BoxesCopy -/
def c_sl15BoxesCopy_l0 : AC := .seq (.seq (.seq (.seq (.ops [o1 6 (.mv (.t 4)),
    o1 7 (.mv (.t 0)),
    o1 8 (.len (.t 7)),
    o1 9 (.bin .lss (.t 6) (.t 8))]) (.keep [0, 3, 4, 9]))
  (.seq (.cond (.t 9)
  (.skip)
  (.exit 0)) (.keep [0, 3, 4])))
  (.seq (.seq (.block 1 (.seq (.ops [o1 12 (.mv (.t 3)),
    o1 13 (.mv (.t 0)),
    o1 14 (.mv (.t 4)),
    o1 15 (.idxA 2 (.t 13) (.t 14)),
    o1 16 (.fldA 0 (.t 15)),
    o1 17 (.load (.t 16)),
    o1 18 (.bsl [] 0 []),
    o1 19 (.mv (.t 0)),
    o1 20 (.mv (.t 4)),
    o1 21 (.idxA 2 (.t 19) (.t 20)),
    o1 22 (.fldA 1 (.t 21)),
    o1 23 (.load (.t 22)),
    ⟨some 24, none, [], true, .app 1 (.t 18) (.t 23)⟩,
    o1 25 (.build [(.I 0), .nils] [(0, 1, (.t 17)), (1, 1, (.t 24))]),
    o1 26 (.bsl [(.I 0), .nils] 1 [(0, 2, (.t 25))]),
    o1 27 (.app 2 (.t 12) (.t 26)),
    o1 3 (.mv (.t 27))]) (.keep [0, 3, 4]))) (.keep [0, 3, 4]))
  (.seq (.ops [o1 10 (.mv (.t 4)),
    o1 11 (.bin .add (.t 10) (.c (.I 1))),
    o1 4 (.mv (.t 11))]) (.keep [0, 3, 4])))) (.keep [0, 3, 4])
def c_sl15BoxesCopy : AFn := ⟨1, .seq (.seq (.ops [o1 2 (.mv (.c .nils))]) (.keep [0]))
  (.seq (.seq (.ops [o1 5 (.bsl [] 0 []),
    o1 3 (.mv (.t 5))]) (.keep [0, 3]))
  (.seq (.seq (.ops [o1 4 (.mv (.c (.I 0)))])
  (.seq (.block 0 (.seq (.keep [0, 3, 4]) (.loop c_sl15BoxesCopy_l0))) (.keep [3])))
  (.seq (.seq (.ops [o1 28 (.mv (.t 3)),
    o1 2 (.mv (.t 28))]) (.keep [2]))
  (.ret)))), [.t 2]⟩

/- loop.example/cothreads/laws.toBox -/
def c_wtoBox : AFn := ⟨1, .seq (.ops [o1 1 (.box (.t 0)),
    o1 2 (.alloc [(.I 0), .nils])])
  (.seq (.ops [o1 3 (.alloc [(.I 0), .nils])])
  (.seq (.seq (.ops [o1 4 (.fldA 0 (.t 1)),
    o1 5 (.load (.t 4)),
    o1 6 (.fldA 0 (.t 3)),
    o0 (.store 1 (.t 6) (.t 5))]) (.keep [1, 2, 3]))
  (.seq (.seq (.ops [o1 7 (.fldA 1 (.t 1)),
    o1 8 (.load (.t 7)),
    o1 9 (.call f_wtoIntS [(.t 8)]),
    o1 10 (.fldA 1 (.t 3)),
    o0 (.store 1 (.t 10) (.t 9))]) (.keep [2, 3]))
  (.seq (.seq (.ops [o1 11 (.loadN 2 (.t 3)),
    o0 (.store 2 (.t 2) (.t 11))]) (.keep [2]))
  (.ret))))), [.c 2 2]⟩

/- loop.example/cothreads/impl.boxesValid -/
def c_iboxesValid_l0 : AC := .seq (.seq (.ops [o1 8 (.bin .lss (.t 7) (.t 6))])
  (.seq (.seq (.cond (.t 8)
  (.skip)
  (.exit 0)) (.keep [0, 5, 6, 7]))
  (.seq (.seq (.block 1 (.seq (.seq (.ops [o1 9 (.idxA 2 (.t 5) (.t 7)),
    o1 10 (.loadN 2 (.t 9)),
    o1 4 (.alloc [(.I 0), .nils]),
    o0 (.store 2 (.t 4) (.t 10))]) (.keep [0, 4, 5, 6, 7]))
  (.seq (.seq (.ops [o1 11 (.loadN 2 (.t 4)),
    o1 12 (.call f_iBoxValid [(.t 11)]),
    o1 13 (.un .not (.t 12))]) (.keep [0, 5, 6, 7, 13]))
  (.seq (.cond (.t 13)
  (.seq (.ops [o1 2 (.mv (.c (.b false)))])
  (.ret))
  (.skip)) (.keep [0, 5, 6, 7]))))) (.keep [0, 5, 6, 7]))
  (.seq (.ops [o1 14 (.bin .add (.t 7) (.c (.I 1))),
    o1 7 (.mv (.t 14))]) (.keep [0, 5, 6, 7]))))) (.keep [0, 5, 6, 7])
def c_iboxesValid : AFn := ⟨1, .seq (.seq (.ops [o1 2 (.mv (.c (.b false)))]) (.keep [0]))
  (.seq (.seq (.ops [o1 5 (.mv (.t 0)),
    o1 6 (.len (.t 5)),
    o1 7 (.mv (.c (.I 0)))])
  (.seq (.block 0 (.seq (.keep [0, 5, 6, 7]) (.loop c_iboxesValid_l0))) (.keep [0])))
  (.seq (.seq (.ops [o1 15 (.mv (.t 0)),
    o1 16 (.len (.t 15)),
    o1 17 (.bin .leq (.t 16) (.c (.I 3))),
    o1 2 (.mv (.t 17))]) (.keep [2]))
  (.ret))), [.t 2]⟩

/- loop.example/cothreads/impl.boxesCopy -/
def c_iboxesCopy_l0 : AC := .seq (.seq (.ops [o1 9 (.bin .lss (.t 8) (.t 7))])
  (.seq (.seq (.cond (.t 9)
  (.skip)
  (.exit 0)) (.keep [3, 6, 7, 8]))
  (.seq (.seq (.block 1 (.seq (.seq (.ops [o1 10 (.idxA 2 (.t 6) (.t 8)),
    o1 11 (.loadN 2 (.t 10)),
    o1 5 (.alloc [(.I 0), .nils]),
    o0 (.store 2 (.t 5) (.t 11))]) (.keep [3, 5, 6, 7, 8]))
  (.seq (.ops [o1 12 (.mv (.t 3)),
    o1 13 (.fldA 0 (.t 5)),
    o1 14 (.load (.t 13)),
    o1 15 (.fldA 1 (.t 5)),
    o1 16 (.load (.t 15)),
    ⟨some 17, none, [], true, .call f_slices_Clone_int_int [(.t 16)]⟩,
    o1 18 (.build [(.I 0), .nils] [(0, 1, (.t 14)), (1, 1, (.t 17))]),
    o1 19 (.bsl [(.I 0), .nils] 1 [(0, 2, (.t 18))]),
    o1 20 (.app 2 (.t 12) (.t 19)),
    o1 3 (.mv (.t 20))]) (.keep [3, 6, 7, 8])))) (.keep [3, 6, 7, 8]))
  (.seq (.ops [o1 21 (.bin .add (.t 8) (.c (.I 1))),
    o1 8 (.mv (.t 21))]) (.keep [3, 6, 7, 8]))))) (.keep [3, 6, 7, 8])
def c_iboxesCopy : AFn := ⟨1, .seq (.seq (.ops [o1 2 (.mv (.c .nils))]) (.keep [0]))
  (.seq (.ops [o1 3 (.mv (.c .nils))])
  (.seq (.seq (.ops [o1 6 (.mv (.t 0)),
    o1 7 (.len (.t 6)),
    o1 8 (.mv (.c (.I 0)))])
  (.seq (.block 0 (.seq (.keep [3, 6, 7, 8]) (.loop c_iboxesCopy_l0))) (.keep [3])))
  (.seq (.seq (.ops [o1 22 (.mv (.t 3)),
    o1 2 (.mv (.t 22))]) (.keep [2]))
  (.ret)))), [.t 2]⟩

/- loop.example/cothreads/laws.eqBox -/
def c_weqBox : AFn := ⟨2, .seq (.seq (.ops [o1 2 (.box (.t 0)),
    o1 3 (.box (.t 1)),
    o1 4 (.mv (.c (.b false)))]) (.keep [2, 3]))
  (.seq (.seq (.seq (.ops [o1 5 (.fldA 0 (.t 2)),
    o1 6 (.load (.t 5)),
    o1 7 (.fldA 0 (.t 3)),
    o1 8 (.load (.t 7)),
    o1 9 (.bin .neq (.t 6) (.t 8))]) (.keep [2, 3, 9]))
  (.seq (.cond (.t 9)
  (.seq (.ops [o1 4 (.mv (.c (.b false)))])
  (.ret))
  (.skip)) (.keep [2, 3])))
  (.seq (.seq (.seq (.ops [o1 10 (.fldA 1 (.t 2)),
    o1 11 (.load (.t 10)),
    o1 12 (.fldA 1 (.t 3)),
    o1 13 (.load (.t 12)),
    o1 14 (.call f_weqIntS [(.t 11), (.t 13)]),
    o1 15 (.un .not (.t 14))]) (.keep [15]))
  (.seq (.cond (.t 15)
  (.seq (.ops [o1 4 (.mv (.c (.b false)))])
  (.ret))
  (.skip)) (.keep [])))
  (.seq (.ops [o1 4 (.mv (.c (.b true)))])
  (.ret)))), [.t 4]⟩

/- loop.example/cothreads/laws.szQuadS -/
def c_wszQuadS : AFn := ⟨2, .seq (.seq (.ops [o1 4 (.mv (.c (.I 0)))]) (.keep [0, 1]))
  (.seq (.seq (.ops [o1 5 (.mv (.t 1)),
    o1 6 (.mv (.t 0)),
    o1 7 (.len (.t 6)),
    o1 8 (.bin .sub (.t 5) (.t 7)),
    o1 1 (.mv (.t 8))]) (.keep [1]))
  (.seq (.seq (.seq (.ops [o1 9 (.mv (.t 1)),
    o1 10 (.bin .lss (.t 9) (.c (.I 0)))]) (.keep [1, 10]))
  (.seq (.cond (.t 10)
  (.seq (.ops [o1 4 (.mv (.c (.I (-1))))])
  (.ret))
  (.skip)) (.keep [1])))
  (.seq (.seq (.ops [o1 11 (.mv (.t 1)),
    o1 4 (.mv (.t 11))]) (.keep [4]))
  (.ret)))), [.t 4]⟩

/- loop.example/cothreads/laws.szThread -/
def c_wszThread : AFn := ⟨2, .seq (.seq (.ops [o1 2 (.box (.t 0)),
    o1 4 (.mv (.c (.I 0)))]) (.keep [1, 2]))
  (.seq (.seq (.ops [o1 5 (.fldA 0 (.t 2)),
    o1 6 (.load (.t 5)),
    o1 7 (.mv (.t 1)),
    o1 8 (.call f_wszIntS [(.t 6), (.t 7)]),
    o1 1 (.mv (.t 8))]) (.keep [1]))
  (.seq (.seq (.seq (.ops [o1 9 (.mv (.t 1)),
    o1 10 (.bin .lss (.t 9) (.c (.I 0)))]) (.keep [1, 10]))
  (.seq (.cond (.t 10)
  (.seq (.ops [o1 4 (.mv (.c (.I (-1))))])
  (.ret))
  (.skip)) (.keep [1])))
  (.seq (.seq (.ops [o1 11 (.mv (.t 1)),
    o1 4 (.mv (.t 11))]) (.keep [4]))
  (.ret)))), [.t 4]⟩

/- loop.example/cothreads/spec.CrewValid -/
def c_sCrewValid_l0 : AC := .seq (.seq (.seq (.seq (.ops [o1 39 (.mv (.t 4)),
    o1 40 (.mv (.t 3)),
    o1 41 (.bin .lss (.t 39) (.t 40))]) (.keep [1, 3, 4, 41]))
  (.seq (.cond (.t 41)
  (.skip)
  (.exit 0)) (.keep [1, 3, 4])))
  (.seq (.seq (.block 1 (.seq (.seq (.ops [o1 44 (.fldA 1 (.t 1)),
    o1 45 (.load (.t 44)),
    o1 46 (.mv (.t 4)),
    o1 47 (.idxA 2 (.t 45) (.t 46)),
    o1 48 (.loadN 2 (.t 47)),
    o1 49 (.fldA 0 (.t 1)),
    o1 50 (.load (.t 49)),
    o1 51 (.mv (.t 4)),
    o1 52 (.idxA 1 (.t 50) (.t 51)),
    o1 53 (.load (.t 52)),
    ⟨some 54, none, [], true, .call f_sThreadValid [(.t 48), (.t 53)]⟩,
    o1 55 (.un .not (.t 54)),
    o1 56 (.mv (.t 55)),
    ⟨some 57, (some (56, false)), [], false, .fldA 0 (.t 1)⟩,
    ⟨some 58, (some (56, false)), [], false, .load (.t 57)⟩,
    ⟨some 59, (some (56, false)), [], false, .mv (.t 4)⟩,
    ⟨some 60, (some (56, false)), [], false, .idxA 1 (.t 58) (.t 59)⟩,
    ⟨some 61, (some (56, false)), [], false, .load (.t 60)⟩,
    ⟨some 62, (some (56, false)), [], false, .fldA 2 (.t 1)⟩,
    ⟨some 63, (some (56, false)), [], false, .load (.t 62)⟩,
    ⟨some 64, (some (56, false)), [], false, .len (.t 63)⟩,
    ⟨some 65, (some (56, false)), [], true, .call f_sl24Code [(.t 61), (.t 64)]⟩,
    ⟨some 66, (some (56, false)), [], false, .un .not (.t 65)⟩,
    o1 67 (.pick (.t 56) (.c (.b true)) (.t 66))]) (.keep [1, 3, 4, 67]))
  (.seq (.cond (.t 67)
  (.seq (.ops [o1 2 (.mv (.c (.b false)))])
  (.ret))
  (.skip)) (.keep [1, 3, 4])))) (.keep [1, 3, 4]))
  (.seq (.ops [o1 42 (.mv (.t 4)),
    o1 43 (.bin .add (.t 42) (.c (.I 1))),
    o1 4 (.mv (.t 43))]) (.keep [1, 3, 4])))) (.keep [1, 3, 4])
def c_sCrewValid : AFn := ⟨1, .seq (.seq (.ops [o1 1 (.box (.t 0)),
    o1 2 (.mv (.c (.b false)))]) (.keep [1]))
  (.seq (.seq (.ops [o1 5 (.fldA 1 (.t 1)),
    o1 6 (.load (.t 5)),
    o1 7 (.len (.t 6)),
    o1 3 (.mv (.t 7))]) (.keep [1, 3]))
  (.seq (.seq (.seq (.ops [o1 8 (.mv (.t 3)),
    o1 9 (.call f_sl6In [(.t 8), (.c (.I 1)), (.c (.I 3))]),
    o1 10 (.un .not (.t 9)),
    o1 11 (.mv (.t 10)),
    ⟨some 12, (some (11, false)), [], false, .fldA 0 (.t 1)⟩,
    ⟨some 13, (some (11, false)), [], false, .load (.t 12)⟩,
    ⟨some 14, (some (11, false)), [], false, .len (.t 13)⟩,
    ⟨some 15, (some (11, false)), [], false, .mv (.t 3)⟩,
    ⟨some 16, (some (11, false)), [], false, .bin .neq (.t 14) (.t 15)⟩,
    o1 17 (.pick (.t 11) (.c (.b true)) (.t 16)),
    o1 18 (.mv (.t 17)),
    ⟨some 19, (some (18, false)), [], false, .fldA 2 (.t 1)⟩,
    ⟨some 20, (some (18, false)), [], false, .load (.t 19)⟩,
    ⟨some 21, (some (18, false)), [], false, .call f_sl15Boxes [(.t 20)]⟩,
    ⟨some 22, (some (18, false)), [], false, .un .not (.t 21)⟩,
    o1 23 (.pick (.t 18) (.c (.b true)) (.t 22)),
    o1 24 (.mv (.t 23)),
    ⟨some 25, (some (24, false)), [], false, .fldA 3 (.t 1)⟩,
    ⟨some 26, (some (24, false)), [], false, .load (.t 25)⟩,
    ⟨some 27, (some (24, false)), [], false, .mv (.t 3)⟩,
    ⟨some 28, (some (24, false)), [], false, .bin .sub (.t 27) (.c (.I 1))⟩,
    ⟨some 29, (some (24, false)), [], false, .call f_sl6In [(.t 26), (.c (.I 0)), (.t 28)]⟩,
    ⟨some 30, (some (24, false)), [], false, .un .not (.t 29)⟩,
    o1 31 (.pick (.t 24) (.c (.b true)) (.t 30)),
    o1 32 (.mv (.t 31)),
    ⟨some 33, (some (32, false)), [], false, .fldA 4 (.t 1)⟩,
    ⟨some 34, (some (32, false)), [], false, .load (.t 33)⟩,
    ⟨some 35, (some (32, false)), [], false, .mv (.t 3)⟩,
    ⟨some 36, (some (32, false)), [], false, .call f_sl6In [(.t 34), (.c (.I 0)), (.t 35)]⟩,
    ⟨some 37, (some (32, false)), [], false, .un .not (.t 36)⟩,
    o1 38 (.pick (.t 32) (.c (.b true)) (.t 37))]) (.keep [1, 3, 38]))
  (.seq (.cond (.t 38)
  (.seq (.ops [o1 2 (.mv (.c (.b false)))])
  (.ret))
  (.skip)) (.keep [1, 3])))
  (.seq (.seq (.ops [o1 4 (.mv (.c (.I 0)))])
  (.seq (.block 0 (.seq (.keep [1, 3, 4]) (.loop c_sCrewValid_l0))) (.keep [1])))
  (.seq (.seq (.ops [o1 68 (.fldA 5 (.t 1)),
    o1 69 (.load (.t 68)),
    o1 70 (.fldA 5 (.t 1)),
    o1 71 (.load (.t 70)),
    o1 72 (.len (.t 71)),
    o1 73 (.call f_sl4Words [(.t 69), (.t 72)]),
    o1 2 (.mv (.t 73))]) (.keep [2]))
  (.ret))))), [.t 2]⟩

/- loop.example/cothreads/spec.l6In -/
def c_sl6In : AFn := ⟨3, .seq (.seq (.ops [o1 6 (.mv (.c (.b false)))]) (.keep [0, 1, 2]))
  (.seq (.seq (.ops [o1 7 (.mv (.t 0)),
    o1 8 (.mv (.t 1)),
    o1 9 (.bin .geq (.t 7) (.t 8)),
    o1 10 (.mv (.t 9)),
    ⟨some 11, (some (10, true)), [], false, .mv (.t 0)⟩,
    ⟨some 12, (some (10, true)), [], false, .mv (.t 2)⟩,
    ⟨some 13, (some (10, true)), [], false, .bin .leq (.t 11) (.t 12)⟩,
    o1 14 (.pick (.t 10) (.t 13) (.c (.b false))),
    o1 6 (.mv (.t 14))]) (.keep [6]))
  (.ret)), [.t 6]⟩

/- loop.example/cothreads/spec.l24Copy -/
def c_sl24Copy_l0 : AC := .seq (.seq (.seq (.seq (.ops [o1 21 (.mv (.t 4)),
    o1 22 (.fldA 1 (.t 1)),
    o1 23 (.load (.t 22)),
    o1 24 (.len (.t 23)),
    o1 25 (.bin .lss (.t 21) (.t 24))]) (.keep [1, 2, 3, 4, 25]))
  (.seq (.cond (.t 25)
  (.skip)
  (.exit 0)) (.keep [1, 2, 3, 4])))
  (.seq (.seq (.block 1 (.seq (.ops [o1 28 (.fldA 1 (.t 3)),
    o1 29 (.load (.t 28)),
    o1 30 (.fldA 1 (.t 1)),
    o1 31 (.load (.t 30)),
    o1 32 (.mv (.t 4)),
    o1 33 (.idxA 2 (.t 31) (.t 32)),
    o1 34 (.loadN 2 (.t 33)),
    o1 35 (.fldA 1 (.t 1)),
    o1 36 (.load (.t 35)),
    o1 37 (.mv (.t 4)),
    o1 38 (.idxA 2 (.t 36) (.t 37)),
    o1 39 (.fldA 1 (.t 38)),
    o1 40 (.load (.t 39)),
    ⟨some 41, none, [], true, .call f_sl23Go [(.t 34), (.t 40)]⟩,
    o1 42 (.bsl [.nils, (.I 0)] 1 [(0, 2, (.t 41))]),
    o1 43 (.app 2 (.t 29) (.t 42)),
    o1 44 (.fldA 1 (.t 3)),
    o0 (.store 1 (.t 44) (.t 43))]) (.keep [1, 2, 3, 4]))) (.keep [1, 2, 3, 4]))
  (.seq (.ops [o1 26 (.mv (.t 4)),
    o1 27 (.bin .add (.t 26) (.c (.I 1))),
    o1 4 (.mv (.t 27))]) (.keep [1, 2, 3, 4])))) (.keep [1, 2, 3, 4])
def c_sl24Copy : AFn := ⟨1, .seq (.ops [o1 1 (.box (.t 0)),
    o1 2 (.alloc [.nils, .nils, .nils, (.I 0), (.I 0), .nils])])
  (.seq (.seq (.ops [o1 5 (.fldA 0 (.t 1)),
    o1 6 (.load (.t 5)),
    ⟨some 7, none, [], true, .call f_sl24Codes [(.t 6)]⟩,
    o1 8 (.bsl [] 0 []),
    o1 9 (.fldA 2 (.t 1)),
    o1 10 (.load (.t 9)),
    ⟨some 11, none, [], true, .call f_sl15BoxesCopy [(.t 10)]⟩,
    o1 12 (.fldA 3 (.t 1)),
    o1 13 (.load (.t 12)),
    o1 14 (.fldA 4 (.t 1)),
    o1 15 (.load (.t 14)),
    o1 16 (.bsl [] 0 []),
    o1 17 (.fldA 5 (.t 1)),
    o1 18 (.load (.t 17)),
    ⟨some 19, none, [], true, .app 1 (.t 16) (.t 18)⟩,
    o1 20 (.build [.nils, .nils, .nils, (.I 0), (.I 0), .nils] [(0, 1, (.t 7)), (1, 1, (.t 8)), (2, 1, (.t 11)), (3, 1, (.t 13)), (4, 1, (.t 15)), (5, 1, (.t 19))]),
    o1 3 (.alloc [.nils, .nils, .nils, (.I 0), (.I 0), .nils]),
    o0 (.store 6 (.t 3) (.t 20))]) (.keep [1, 2, 3]))
  (.seq (.seq (.ops [o1 4 (.mv (.c (.I 0)))])
  (.seq (.block 0 (.seq (.keep [1, 2, 3, 4]) (.loop c_sl24Copy_l0))) (.keep [2, 3])))
  (.seq (.seq (.ops [o1 45 (.loadN 6 (.t 3)),
    o0 (.store 6 (.t 2) (.t 45))]) (.keep [2]))
  (.ret)))), [.c 2 6]⟩

/- loop.example/cothreads/spec.l24Step -/
def c_sl24Step : AFn := ⟨1, .seq (.seq (.ops [o1 10 (.mv (.t 0)),
    o1 11 (.nilc (.t 10)),
    o1 12 (.fldA 1 (.t 11)),
    o1 13 (.load (.t 12)),
    o1 14 (.mv (.t 0)),
    o1 15 (.nilc (.t 14)),
    o1 16 (.fldA 3 (.t 15)),
    o1 17 (.load (.t 16)),
    o1 18 (.idxA 2 (.t 13) (.t 17)),
    o1 19 (.loadN 2 (.t 18)),
    o1 2 (.alloc [.nils, (.I 0)]),
    o0 (.store 2 (.t 2) (.t 19))]) (.keep [0, 2]))
  (.seq (.seq (.ops [o1 21 (.mv (.t 0)),
    o1 22 (.nilc (.t 21)),
    o1 23 (.fldA 0 (.t 22)),
    o1 24 (.load (.t 23)),
    o1 25 (.mv (.t 0)),
    o1 26 (.nilc (.t 25)),
    o1 27 (.fldA 3 (.t 26)),
    o1 28 (.load (.t 27)),
    o1 29 (.idxA 1 (.t 24) (.t 28)),
    o1 30 (.load (.t 29)),
    o1 31 (.fldA 1 (.t 2)),
    o1 32 (.load (.t 31)),
    o1 33 (.idxA 5 (.t 30) (.t 32)),
    o1 34 (.loadN 5 (.t 33)),
    o1 35 (.loadN 2 (.t 2)),
    o1 36 (.mv (.t 0)),
    o1 37 (.nilc (.t 36)),
    o1 38 (.fldA 2 (.t 37)),
    o1 39 (.load (.t 38)),
    ⟨some 40, none, [], true, .call f_sl23Step [(.t 34), (.t 35), (.t 39)]⟩,
    o1 20 (.mv (.t 40)),
    o1 41 (.ext (.t 20) 0),
    o1 42 (.ext (.t 20) 1),
    o1 43 (.ext (.t 20) 2),
    o1 44 (.ext (.t 20) 3),
    o1 3 (.alloc [.nils, (.I 0)]),
    o0 (.store 2 (.t 3) (.t 41)),
    o1 4 (.mv (.t 42)),
    o1 5 (.mv (.t 43)),
    o1 6 (.mv (.t 44))]) (.keep [0, 3, 4, 5, 6]))
  (.seq (.seq (.ops [o1 45 (.mv (.t 0)),
    o1 46 (.nilc (.t 45)),
    o1 47 (.fldA 1 (.t 46)),
    o1 48 (.load (.t 47)),
    o1 49 (.mv (.t 0)),
    o1 50 (.nilc (.t 49)),
    o1 51 (.fldA 3 (.t 50)),
    o1 52 (.load (.t 51)),
    o1 53 (.loadN 2 (.t 3)),
    o1 54 (.idxA 2 (.t 48) (.t 52)),
    o0 (.store 2 (.t 54) (.t 53))]) (.keep [0, 4, 5, 6]))
  (.seq (.seq (.ops [o1 55 (.mv (.t 0)),
    o1 56 (.mv (.t 4)),
    o1 57 (.nilc (.t 55)),
    o1 58 (.fldA 2 (.t 57)),
    o0 (.store 1 (.t 58) (.t 56))]) (.keep [0, 5, 6]))
  (.seq (.seq (.ops [o1 59 (.mv (.t 0)),
    o1 60 (.mv (.t 0)),
    o1 61 (.nilc (.t 60)),
    o1 62 (.fldA 5 (.t 61)),
    o1 63 (.load (.t 62)),
    o1 64 (.mv (.t 5)),
    o1 65 (.app 1 (.t 63) (.t 64)),
    o1 66 (.nilc (.t 59)),
    o1 67 (.fldA 5 (.t 66)),
    o0 (.store 1 (.t 67) (.t 65))]) (.keep [0, 6]))
  (.seq (.seq (.ops [o1 69 (.mv (.t 0)),
    o1 70 (.nilc (.t 69)),
    o1 71 (.fldA 1 (.t 70)),
    o1 72 (.load (.t 71)),
    o1 73 (.len (.t 72)),
    o1 74 (.mv (.t 0)),
    o1 75 (.nilc (.t 74)),
    o1 76 (.fldA 3 (.t 75)),
    o1 77 (.load (.t 76)),
    o1 78 (.mv (.t 0)),
    o1 79 (.nilc (.t 78)),
    o1 80 (.fldA 4 (.t 79)),
    o1 81 (.load (.t 80)),
    o1 82 (.mv (.t 6)),
    ⟨some 83, none, [], true, .call f_sNextTurn [(.t 73), (.t 77), (.t 81), (.t 82)]⟩,
    o1 68 (.mv (.t 83)),
    o1 84 (.ext (.t 68) 0),
    o1 85 (.ext (.t 68) 1),
    o1 86 (.ext (.t 68) 2),
    o1 7 (.mv (.t 84)),
    o1 8 (.mv (.t 85)),
    o1 9 (.mv (.t 86))]) (.keep [0, 7, 8]))
  (.seq (.seq (.ops [o1 87 (.mv (.t 0)),
    o1 88 (.mv (.t 7)),
    o1 89 (.nilc (.t 87)),
    o1 90 (.fldA 3 (.t 89)),
    o0 (.store 1 (.t 90) (.t 88))]) (.keep [0, 8]))
  (.seq (.ops [o1 91 (.mv (.t 0)),
    o1 92 (.mv (.t 8)),
    o1 93 (.nilc (.t 91)),
    o1 94 (.fldA 4 (.t 93)),
    o0 (.store 1 (.t 94) (.t 92))]) (.keep [])))))))), []⟩

/- loop.example/cothreads/laws.toQuadS -/
def c_wtoQuadS_l0 : AC := .seq (.seq (.seq (.seq (.ops [o1 8 (.mv (.t 4)),
    o1 9 (.mv (.t 0)),
    o1 10 (.len (.t 9)),
    o1 11 (.bin .lss (.t 8) (.t 10))]) (.keep [0, 3, 4, 11]))
  (.seq (.cond (.t 11)
  (.skip)
  (.exit 0)) (.keep [0, 3, 4])))
  (.seq (.seq (.block 1 (.seq (.ops [o1 14 (.mv (.t 3)),
    o1 15 (.mv (.t 4)),
    o1 16 (.mv (.t 0)),
    o1 17 (.mv (.t 4)),
    o1 18 (.idxA 5 (.t 16) (.t 17)),
    o1 19 (.loadN 5 (.t 18)),
    o1 20 (.call f_wtoQuad [(.t 19)]),
    o1 21 (.idxA 5 (.t 14) (.t 15)),
    o0 (.store 5 (.t 21) (.t 20))]) (.keep [0, 3, 4]))) (.keep [0, 3, 4]))
  (.seq (.ops [o1 12 (.mv (.t 4)),
    o1 13 (.bin .add (.t 12) (.c (.I 1))),
    o1 4 (.mv (.t 13))]) (.keep [0, 3, 4])))) (.keep [0, 3, 4])
def c_wtoQuadS : AFn := ⟨1, .seq (.seq (.ops [o1 2 (.mv (.c .nils))]) (.keep [0]))
  (.seq (.seq (.ops [o1 5 (.mv (.t 0)),
    o1 6 (.len (.t 5)),
    o1 7 (.mksl [(.I 0), (.I 0), (.I 0), (.I 0), (.I 0)] (.t 6) (.t 6)),
    o1 3 (.mv (.t 7))]) (.keep [0, 3]))
  (.seq (.seq (.ops [o1 4 (.mv (.c (.I 0)))])
  (.seq (.block 0 (.seq (.keep [0, 3, 4]) (.loop c_wtoQuadS_l0))) (.keep [3])))
  (.seq (.seq (.ops [o1 22 (.mv (.t 3)),
    o1 2 (.mv (.t 22))]) (.keep [2]))
  (.ret)))), [.t 2]⟩

/- loop.example/cothreads/laws.toThread -/
def c_wtoThread : AFn := ⟨1, .seq (.ops [o1 1 (.box (.t 0)),
    o1 2 (.alloc [.nils, (.I 0)])])
  (.seq (.ops [o1 3 (.alloc [.nils, (.I 0)])])
  (.seq (.seq (.ops [o1 4 (.fldA 0 (.t 1)),
    o1 5 (.load (.t 4)),
    o1 6 (.call f_wtoIntS [(.t 5)]),
    o1 7 (.fldA 0 (.t 3)),
    o0 (.store 1 (.t 7) (.t 6))]) (.keep [1, 2, 3]))
  (.seq (.seq (.ops [o1 8 (.fldA 1 (.t 1)),
    o1 9 (.load (.t 8)),
    o1 10 (.fldA 1 (.t 3)),
    o0 (.store 1 (.t 10) (.t 9))]) (.keep [2, 3]))
  (.seq (.seq (.ops [o1 11 (.loadN 2 (.t 3)),
    o0 (.store 2 (.t 2) (.t 11))]) (.keep [2]))
  (.ret))))), [.c 2 2]⟩

/- loop.example/cothreads/impl.CrewValid -/
def c_iCrewValid_l1 : AC := .seq (.seq (.ops [o1 52 (.bin .lss (.t 51) (.t 50))])
  (.seq (.seq (.cond (.t 52)
  (.skip)
  (.exit 2)) (.keep [1, 34, 35, 36, 49, 50, 51]))
  (.seq (.seq (.block 3 (.seq (.seq (.ops [o1 53 (.idxA 5 (.t 49) (.t 51)),
    o1 54 (.loadN 5 (.t 53)),
    o1 6 (.alloc [(.I 0), (.I 0), (.I 0), (.I 0), (.I 0)]),
    o0 (.store 5 (.t 6) (.t 54))]) (.keep [1, 6, 34, 35, 36, 49, 50, 51]))
  (.seq (.seq (.ops [o1 55 (.loadN 5 (.t 6)),
    o1 56 (.fldA 2 (.t 1)),
    o1 57 (.load (.t 56)),
    o1 58 (.len (.t 57)),
    o1 59 (.call f_iboxThere [(.t 55), (.t 58)]),
    o1 60 (.un .not (.t 59))]) (.keep [1, 34, 35, 36, 49, 50, 51, 60]))
  (.seq (.cond (.t 60)
  (.seq (.ops [o1 2 (.mv (.c (.b false)))])
  (.ret))
  (.skip)) (.keep [1, 34, 35, 36, 49, 50, 51]))))) (.keep [1, 34, 35, 36, 49, 50, 51]))
  (.seq (.ops [o1 61 (.bin .add (.t 51) (.c (.I 1))),
    o1 51 (.mv (.t 61))]) (.keep [1, 34, 35, 36, 49, 50, 51]))))) (.keep [1, 34, 35, 36, 49, 50, 51])
def c_iCrewValid_l0 : AC := .seq (.seq (.ops [o1 37 (.bin .lss (.t 36) (.t 35))])
  (.seq (.seq (.cond (.t 37)
  (.skip)
  (.exit 0)) (.keep [1, 34, 35, 36]))
  (.seq (.seq (.block 1 (.seq (.seq (.ops [o1 38 (.mv (.t 36)),
    o1 39 (.idxA 1 (.t 34) (.t 36)),
    o1 40 (.load (.t 39)),
    o1 3 (.mv (.t 38)),
    o1 4 (.mv (.t 40))]) (.keep [1, 3, 4, 34, 35, 36]))
  (.seq (.seq (.seq (.ops [o1 41 (.fldA 1 (.t 1)),
    o1 42 (.load (.t 41)),
    o1 43 (.mv (.t 3)),
    o1 44 (.idxA 2 (.t 42) (.t 43)),
    o1 45 (.loadN 2 (.t 44)),
    o1 46 (.mv (.t 4)),
    o1 47 (.call f_iThreadValid [(.t 45), (.t 46)]),
    o1 48 (.un .not (.t 47))]) (.keep [1, 4, 34, 35, 36, 48]))
  (.seq (.cond (.t 48)
  (.seq (.ops [o1 2 (.mv (.c (.b false)))])
  (.ret))
  (.skip)) (.keep [1, 4, 34, 35, 36])))
  (.seq (.ops [o1 49 (.mv (.t 4)),
    o1 50 (.len (.t 49)),
    o1 51 (.mv (.c (.I 0)))])
  (.seq (.block 2 (.seq (.keep [1, 34, 35, 36, 49, 50, 51]) (.loop c_iCrewValid_l1))) (.keep [1, 34, 35, 36])))))) (.keep [1, 34, 35, 36]))
  (.seq (.ops [o1 62 (.bin .add (.t 36) (.c (.I 1))),
    o1 36 (.mv (.t 62))]) (.keep [1, 34, 35, 36]))))) (.keep [1, 34, 35, 36])
def c_iCrewValid : AFn := ⟨1, .seq (.seq (.ops [o1 1 (.box (.t 0)),
    o1 2 (.mv (.c (.b false)))]) (.keep [1]))
  (.seq (.seq (.seq (.ops [o1 7 (.fldA 0 (.t 1)),
    o1 8 (.load (.t 7)),
    o1 9 (.len (.t 8)),
    o1 10 (.fldA 3 (.t 1)),
    o1 11 (.load (.t 10)),
    o1 12 (.fldA 4 (.t 1)),
    o1 13 (.load (.t 12)),
    o1 14 (.fldA 5 (.t 1)),
    o1 15 (.load (.t 14)),
    o1 16 (.call f_iturnsValid [(.t 9), (.t 11), (.t 13), (.t 15)]),
    o1 17 (.un .not (.t 16)),
    o1 18 (.mv (.t 17)),
    ⟨some 19, (some (18, false)), [], false, .fldA 1 (.t 1)⟩,
    ⟨some 20, (some (18, false)), [], false, .load (.t 19)⟩,
    ⟨some 21, (some (18, false)), [], false, .len (.t 20)⟩,
    ⟨some 22, (some (18, false)), [], false, .fldA 0 (.t 1)⟩,
    ⟨some 23, (some (18, false)), [], false, .load (.t 22)⟩,
    ⟨some 24, (some (18, false)), [], false, .len (.t 23)⟩,
    ⟨some 25, (some (18, false)), [], false, .bin .neq (.t 21) (.t 24)⟩,
    o1 26 (.pick (.t 18) (.c (.b true)) (.t 25)),
    o1 27 (.mv (.t 26)),
    ⟨some 28, (some (27, false)), [], false, .fldA 2 (.t 1)⟩,
    ⟨some 29, (some (27, false)), [], false, .load (.t 28)⟩,
    ⟨some 30, (some (27, false)), [], false, .call f_iboxesValid [(.t 29)]⟩,
    ⟨some 31, (some (27, false)), [], false, .un .not (.t 30)⟩,
    o1 32 (.pick (.t 27) (.c (.b true)) (.t 31))]) (.keep [1, 32]))
  (.seq (.cond (.t 32)
  (.seq (.ops [o1 2 (.mv (.c (.b false)))])
  (.ret))
  (.skip)) (.keep [1])))
  (.seq (.seq (.seq (.ops [o1 33 (.fldA 0 (.t 1)),
    o1 34 (.load (.t 33)),
    o1 35 (.len (.t 34)),
    o1 36 (.mv (.c (.I 0)))]) (.keep [1, 34, 35, 36]))
  (.seq (.block 0 (.seq (.keep [1, 34, 35, 36]) (.loop c_iCrewValid_l0))) (.keep [])))
  (.seq (.ops [o1 2 (.mv (.c (.b true)))])
  (.ret)))), [.t 2]⟩

/- loop.example/cothreads/impl.codesCopy -/
def c_icodesCopy_l0 : AC := .seq (.seq (.ops [o1 9 (.bin .lss (.t 8) (.t 7))])
  (.seq (.seq (.cond (.t 9)
  (.skip)
  (.exit 0)) (.keep [3, 6, 7, 8]))
  (.seq (.seq (.block 1 (.seq (.seq (.ops [o1 10 (.idxA 1 (.t 6) (.t 8)),
    o1 11 (.load (.t 10)),
    o1 5 (.mv (.t 11))]) (.keep [3, 5, 6, 7, 8]))
  (.seq (.ops [o1 12 (.mv (.t 3)),
    o1 13 (.mv (.t 5)),
    o1 14 (.call f_slices_Clone_iQuad_iQuad [(.t 13)]),
    o1 15 (.bsl [.nils] 1 [(0, 1, (.t 14))]),
    o1 16 (.app 1 (.t 12) (.t 15)),
    o1 3 (.mv (.t 16))]) (.keep [3, 6, 7, 8])))) (.keep [3, 6, 7, 8]))
  (.seq (.ops [o1 17 (.bin .add (.t 8) (.c (.I 1))),
    o1 8 (.mv (.t 17))]) (.keep [3, 6, 7, 8]))))) (.keep [3, 6, 7, 8])
def c_icodesCopy : AFn := ⟨1, .seq (.seq (.ops [o1 2 (.mv (.c .nils))]) (.keep [0]))
  (.seq (.ops [o1 3 (.mv (.c .nils))])
  (.seq (.seq (.ops [o1 6 (.mv (.t 0)),
    o1 7 (.len (.t 6)),
    o1 8 (.mv (.c (.I 0)))])
  (.seq (.block 0 (.seq (.keep [3, 6, 7, 8]) (.loop c_icodesCopy_l0))) (.keep [3])))
  (.seq (.seq (.ops [o1 18 (.mv (.t 3)),
    o1 2 (.mv (.t 18))]) (.keep [2]))
  (.ret)))), [.t 2]⟩

/- slices.Clone[[]int,int] -/
def c_slices_Clone_int_int : AFn := ⟨1, .seq (.seq (.ops [o1 2 (.mv (.c .nils))]) (.keep [0]))
  (.seq (.seq (.seq (.ops [o1 3 (.mv (.t 0)),
    o1 4 (.eqN 0 false (.t 3) (.c .nils))]) (.keep [0, 4]))
  (.seq (.cond (.t 4)
  (.seq (.ops [o1 2 (.mv (.c .nils))])
  (.ret))
  (.skip)) (.keep [0])))
  (.seq (.seq (.ops [o1 5 (.bsl [] 0 []),
    o1 6 (.mv (.t 0)),
    o1 7 (.app 1 (.t 5) (.t 6)),
    o1 2 (.mv (.t 7))]) (.keep [2]))
  (.ret))), [.t 2]⟩

/- loop.example/cothreads/impl.takeTurns -/
def c_itakeTurns_l0 : AC := .seq (.seq (.seq (.seq (.ops [o1 16 (.mv (.t 0)),
    o1 17 (.bin .gtr (.t 16) (.c (.I 0))),
    o1 18 (.mv (.t 17)),
    ⟨some 19, (some (18, true)), [], false, .mv (.t 3)⟩,
    ⟨some 20, (some (18, true)), [], false, .mv (.t 1)⟩,
    ⟨some 21, (some (18, true)), [], false, .bin .lss (.t 19) (.t 20)⟩,
    o1 22 (.pick (.t 18) (.t 21) (.c (.b false)))]) (.keep [0, 1, 2, 3, 4, 22]))
  (.seq (.cond (.t 22)
  (.skip)
  (.exit 0)) (.keep [0, 1, 2, 3, 4])))
  (.seq (.seq (.block 1 (.seq (.seq (.ops [o1 26 (.mv (.t 1)),
    o1 27 (.mv (.t 2)),
    o1 28 (.mv (.t 3)),
    o1 29 (.mv (.t 4)),
    o1 30 (.mv (.t 2)),
    o1 31 (.callv (.t 29) [(.t 30)]),
    o1 32 (.call f_iNextTurn [(.t 26), (.t 27), (.t 28), (.t 31)]),
    o1 25 (.mv (.t 32)),
    o1 33 (.ext (.t 25) 0),
    o1 34 (.ext (.t 25) 1),
    o1 35 (.ext (.t 25) 2),
    o1 13 (.mv (.t 33)),
    o1 14 (.mv (.t 34)),
    o1 15 (.mv (.t 35))]) (.keep [0, 1, 4, 13, 14, 15]))
  (.seq (.seq (.seq (.ops [o1 36 (.mv (.t 15)),
    o1 37 (.un .not (.t 36))]) (.keep [0, 1, 4, 13, 14, 37]))
  (.seq (.cond (.t 37)
  (.seq (.ops [o1 10 (.mv (.c (.I 0))),
    o1 11 (.mv (.c (.I 0))),
    o1 12 (.mv (.c (.b false)))])
  (.ret))
  (.skip)) (.keep [0, 1, 4, 13, 14])))
  (.seq (.ops [o1 38 (.mv (.t 13)),
    o1 39 (.mv (.t 14)),
    o1 2 (.mv (.t 38)),
    o1 3 (.mv (.t 39))]) (.keep [0, 1, 2, 3, 4]))))) (.keep [0, 1, 2, 3, 4]))
  (.seq (.ops [o1 23 (.mv (.t 0)),
    o1 24 (.bin .sub (.t 23) (.c (.I 1))),
    o1 0 (.mv (.t 24))]) (.keep [0, 1, 2, 3, 4])))) (.keep [0, 1, 2, 3, 4])
def c_itakeTurns : AFn := ⟨5, .seq (.seq (.ops [o1 10 (.mv (.c (.I 0))),
    o1 11 (.mv (.c (.I 0))),
    o1 12 (.mv (.c (.b false)))]) (.keep [0, 1, 2, 3, 4]))
  (.seq (.seq (.block 0 (.seq (.keep [0, 1, 2, 3, 4]) (.loop c_itakeTurns_l0))) (.keep [2, 3]))
  (.seq (.seq (.ops [o1 40 (.mv (.t 2)),
    o1 41 (.mv (.t 3)),
    o1 10 (.mv (.t 40)),
    o1 11 (.mv (.t 41)),
    o1 12 (.mv (.c (.b true)))]) (.keep [10, 11, 12]))
  (.ret))), [.t 10, .t 11, .t 12]⟩

/- loop.example/cothreads/impl.CrewRun$1 -/
def c_iCrewRun_1 : AFn := ⟨2, .seq (.seq (.ops [o1 3 (.mv (.c (.I 0)))]) (.keep [0, 1]))
  (.seq (.seq (.ops [o1 4 (.fldA 1 (.t 1)),
    o1 5 (.load (.t 4)),
    o1 6 (.mv (.t 0)),
    o1 7 (.idxA 2 (.t 5) (.t 6)),
    o1 8 (.fldA 0 (.t 1)),
    o1 9 (.load (.t 8)),
    o1 10 (.mv (.t 0)),
    o1 11 (.idxA 1 (.t 9) (.t 10)),
    o1 12 (.load (.t 11)),
    o1 13 (.fldA 2 (.t 1)),
    o1 14 (.load (.t 13)),
    o1 15 (.fldA 5 (.t 1)),
    o1 16 (.call f_iThread_step [(.t 7), (.t 12), (.t 14), (.t 15)]),
    o1 3 (.mv (.t 16))]) (.keep [3]))
  (.ret)), [.t 3]⟩

/- (*loop.example/cothreads/impl.Thread).step -/
def c_iThread_step : AFn := ⟨4, .seq (.seq (.ops [o1 8 (.mv (.c (.I 0)))]) (.keep [0, 1, 2, 3]))
  (.seq (.seq (.ops [o1 13 (.mv (.t 1)),
    o1 14 (.mv (.t 0)),
    o1 15 (.nilc (.t 14)),
    o1 16 (.fldA 1 (.t 15)),
    o1 17 (.load (.t 16)),
    o1 18 (.idxA 5 (.t 13) (.t 17)),
    o1 19 (.loadN 5 (.t 18)),
    o1 9 (.alloc [(.I 0), (.I 0), (.I 0), (.I 0), (.I 0)]),
    o0 (.store 5 (.t 9) (.t 19))]) (.keep [0, 2, 3, 9]))
  (.seq (.seq (.ops [o1 20 (.mv (.t 0)),
    o1 21 (.nilc (.t 20)),
    o1 22 (.fldA 1 (.t 21)),
    o1 23 (.load (.t 22)),
    o1 24 (.bin .add (.t 23) (.c (.I 1))),
    o1 10 (.mv (.t 24))]) (.keep [0, 2, 3, 9, 10]))
  (.seq (.seq (.seq (.ops [o1 25 (.fldA 0 (.t 9)),
    o1 26 (.load (.t 25))]) (.keep [0, 2, 3, 9, 10, 26]))
  (.seq (.block 0 (.seq (.seq (.ops [o1 28 (.bin .eql (.t 26) (.c (.I 1))),
    o1 27 (.mv (.t 28))]) (.keep [0, 2, 3, 9, 10, 26, 27]))
  (.seq (.cond (.t 27)
  (.seq (.ops [o1 29 (.mv (.t 0)),
    o1 30 (.nilc (.t 29)),
    o1 31 (.fldA 0 (.t 30)),
    o1 32 (.load (.t 31)),
    o1 33 (.fldA 1 (.t 9)),
    o1 34 (.load (.t 33)),
    o1 35 (.fldA 4 (.t 9)),
    o1 36 (.load (.t 35)),
    o1 37 (.idxA 1 (.t 32) (.t 34)),
    o0 (.store 1 (.t 37) (.t 36))]) (.keep [0, 10]))
  (.seq (.seq (.ops [o1 39 (.bin .eql (.t 26) (.c (.I 2))),
    o1 38 (.mv (.t 39))]) (.keep [0, 2, 3, 9, 10, 26, 38]))
  (.seq (.cond (.t 38)
  (.seq (.ops [o1 40 (.mv (.t 0)),
    o1 41 (.nilc (.t 40)),
    o1 42 (.fldA 0 (.t 41)),
    o1 43 (.load (.t 42)),
    o1 44 (.fldA 1 (.t 9)),
    o1 45 (.load (.t 44)),
    o1 46 (.mv (.t 0)),
    o1 47 (.nilc (.t 46)),
    o1 48 (.fldA 0 (.t 47)),
    o1 49 (.load (.t 48)),
    o1 50 (.fldA 2 (.t 9)),
    o1 51 (.load (.t 50)),
    o1 52 (.idxA 1 (.t 49) (.t 51)),
    o1 53 (.load (.t 52)),
    o1 54 (.idxA 1 (.t 43) (.t 45)),
    o0 (.store 1 (.t 54) (.t 53))]) (.keep [0, 10]))
  (.seq (.seq (.ops [o1 56 (.bin .eql (.t 26) (.c (.I 3))),
    o1 55 (.mv (.t 56))]) (.keep [0, 2, 3, 9, 10, 26, 55]))
  (.seq (.cond (.t 55)
  (.seq (.ops [o1 57 (.mv (.t 0)),
    o1 58 (.nilc (.t 57)),
    o1 59 (.fldA 0 (.t 58)),
    o1 60 (.load (.t 59)),
    o1 61 (.fldA 1 (.t 9)),
    o1 62 (.load (.t 61)),
    o1 63 (.fldA 4 (.t 9)),
    o1 64 (.load (.t 63)),
    o1 65 (.mv (.t 0)),
    o1 66 (.nilc (.t 65)),
    o1 67 (.fldA 0 (.t 66)),
    o1 68 (.load (.t 67)),
    o1 69 (.fldA 2 (.t 9)),
    o1 70 (.load (.t 69)),
    o1 71 (.idxA 1 (.t 68) (.t 70)),
    o1 72 (.load (.t 71)),
    o1 73 (.mv (.t 0)),
    o1 74 (.nilc (.t 73)),
    o1 75 (.fldA 0 (.t 74)),
    o1 76 (.load (.t 75)),
    o1 77 (.fldA 3 (.t 9)),
    o1 78 (.load (.t 77)),
    o1 79 (.idxA 1 (.t 76) (.t 78)),
    o1 80 (.load (.t 79)),
    ⟨some 81, none, [], true, .call f_iapply [(.t 64), (.t 72), (.t 80)]⟩,
    o1 82 (.idxA 1 (.t 60) (.t 62)),
    o0 (.store 1 (.t 82) (.t 81))]) (.keep [0, 10]))
  (.seq (.seq (.ops [o1 84 (.bin .eql (.t 26) (.c (.I 4))),
    o1 83 (.mv (.t 84))]) (.keep [0, 2, 3, 9, 10, 26, 83]))
  (.seq (.cond (.t 83)
  (.seq (.ops [o1 85 (.fldA 4 (.t 9)),
    o1 86 (.load (.t 85)),
    o1 10 (.mv (.t 86))]) (.keep [0, 10]))
  (.seq (.seq (.ops [o1 88 (.bin .eql (.t 26) (.c (.I 5))),
    o1 87 (.mv (.t 88))]) (.keep [0, 2, 3, 9, 10, 26, 87]))
  (.seq (.cond (.t 87)
  (.seq (.seq (.ops [o1 89 (.mv (.t 0)),
    o1 90 (.nilc (.t 89)),
    o1 91 (.fldA 0 (.t 90)),
    o1 92 (.load (.t 91)),
    o1 93 (.fldA 2 (.t 9)),
    o1 94 (.load (.t 93)),
    o1 95 (.idxA 1 (.t 92) (.t 94)),
    o1 96 (.load (.t 95)),
    o1 97 (.bin .eql (.t 96) (.c (.I 0)))]) (.keep [0, 9, 10, 97]))
  (.seq (.cond (.t 97)
  (.seq (.ops [o1 98 (.fldA 4 (.t 9)),
    o1 99 (.load (.t 98)),
    o1 10 (.mv (.t 99))]) (.keep [0, 10]))
  (.skip)) (.keep [0, 10])))
  (.seq (.seq (.ops [o1 101 (.bin .eql (.t 26) (.c (.I 6))),
    o1 100 (.mv (.t 101))]) (.keep [0, 2, 3, 9, 10, 26, 100]))
  (.seq (.cond (.t 100)
  (.seq (.seq (.ops [o1 102 (.mv (.t 2)),
    o1 103 (.fldA 4 (.t 9)),
    o1 104 (.load (.t 103)),
    o1 105 (.idxA 2 (.t 102) (.t 104)),
    o1 106 (.mv (.t 0)),
    o1 107 (.nilc (.t 106)),
    o1 108 (.fldA 0 (.t 107)),
    o1 109 (.load (.t 108)),
    o1 110 (.fldA 2 (.t 9)),
    o1 111 (.load (.t 110)),
    o1 112 (.idxA 1 (.t 109) (.t 111)),
    o1 113 (.load (.t 112)),
    o1 114 (.call f_iBox_put [(.t 105), (.t 113)]),
    o1 115 (.un .not (.t 114))]) (.keep [0, 10, 115]))
  (.seq (.cond (.t 115)
  (.seq (.ops [o1 8 (.mv (.c (.I 3)))])
  (.ret))
  (.skip)) (.keep [0, 10])))
  (.seq (.seq (.ops [o1 117 (.bin .eql (.t 26) (.c (.I 7))),
    o1 116 (.mv (.t 117))]) (.keep [0, 2, 3, 9, 10, 26, 116]))
  (.seq (.cond (.t 116)
  (.seq (.seq (.ops [o1 119 (.mv (.t 2)),
    o1 120 (.fldA 4 (.t 9)),
    o1 121 (.load (.t 120)),
    o1 122 (.idxA 2 (.t 119) (.t 121)),
    o1 123 (.call f_iBox_take [(.t 122)]),
    o1 118 (.mv (.t 123)),
    o1 124 (.ext (.t 118) 0),
    o1 125 (.ext (.t 118) 1),
    o1 11 (.mv (.t 124)),
    o1 12 (.mv (.t 125))]) (.keep [0, 9, 10, 11, 12]))
  (.seq (.seq (.seq (.ops [o1 126 (.mv (.t 12)),
    o1 127 (.un .not (.t 126))]) (.keep [0, 9, 10, 11, 127]))
  (.seq (.cond (.t 127)
  (.seq (.ops [o1 8 (.mv (.c (.I 3)))])
  (.ret))
  (.skip)) (.keep [0, 9, 10, 11])))
  (.seq (.ops [o1 128 (.mv (.t 0)),
    o1 129 (.nilc (.t 128)),
    o1 130 (.fldA 0 (.t 129)),
    o1 131 (.load (.t 130)),
    o1 132 (.fldA 1 (.t 9)),
    o1 133 (.load (.t 132)),
    o1 134 (.mv (.t 11)),
    o1 135 (.idxA 1 (.t 131) (.t 133)),
    o0 (.store 1 (.t 135) (.t 134))]) (.keep [0, 10]))))
  (.seq (.seq (.ops [o1 137 (.bin .eql (.t 26) (.c (.I 8))),
    o1 136 (.mv (.t 137))]) (.keep [0, 3, 9, 10, 26, 136]))
  (.seq (.cond (.t 136)
  (.seq (.seq (.ops [o1 138 (.mv (.t 0)),
    o1 139 (.mv (.t 10)),
    o1 140 (.nilc (.t 138)),
    o1 141 (.fldA 1 (.t 140)),
    o0 (.store 1 (.t 141) (.t 139))]) (.keep []))
  (.seq (.ops [o1 8 (.mv (.c (.I 2)))])
  (.ret)))
  (.seq (.seq (.ops [o1 143 (.bin .eql (.t 26) (.c (.I 9))),
    o1 142 (.mv (.t 143))]) (.keep [0, 3, 9, 10, 26, 142]))
  (.seq (.cond (.t 142)
  (.seq (.ops [o1 144 (.mv (.t 3)),
    o1 145 (.mv (.t 3)),
    o1 146 (.nilc (.t 145)),
    o1 147 (.load (.t 146)),
    o1 148 (.mv (.t 0)),
    o1 149 (.nilc (.t 148)),
    o1 150 (.fldA 0 (.t 149)),
    o1 151 (.load (.t 150)),
    o1 152 (.fldA 2 (.t 9)),
    o1 153 (.load (.t 152)),
    o1 154 (.idxA 1 (.t 151) (.t 153)),
    o1 155 (.load (.t 154)),
    o1 156 (.bsl [(.I 0)] 1 [(0, 1, (.t 155))]),
    o1 157 (.app 1 (.t 147) (.t 156)),
    o1 158 (.nilc (.t 144)),
    o0 (.store 1 (.t 158) (.t 157))]) (.keep [0, 10]))
  (.seq (.seq (.ops [o1 160 (.bin .eql (.t 26) (.c (.I 10))),
    o1 159 (.mv (.t 160))]) (.keep [0, 10, 159]))
  (.seq (.cond (.t 159)
  (.seq (.ops [o1 8 (.mv (.c (.I 4)))])
  (.ret))
  (.skip)) (.keep [0, 10])))) (.keep [0, 10])))) (.keep [0, 10])))) (.keep [0, 10])))) (.keep [0, 10])))) (.keep [0, 10])))) (.keep [0, 10])))) (.keep [0, 10])))) (.keep [0, 10])))) (.keep [0, 10])))) (.keep [0, 10])))
  (.seq (.seq (.ops [o1 161 (.mv (.t 0)),
    o1 162 (.mv (.t 10)),
    o1 163 (.nilc (.t 161)),
    o1 164 (.fldA 1 (.t 163)),
    o0 (.store 1 (.t 164) (.t 162))]) (.keep []))
  (.seq (.ops [o1 8 (.mv (.c (.I 1)))])
  (.ret)))))), [.t 8]⟩

/- loop.example/cothreads/laws.eqQuadS -/
def c_weqQuadS_l0 : AC := .seq (.seq (.seq (.seq (.ops [o1 11 (.mv (.t 5)),
    o1 12 (.mv (.t 0)),
    o1 13 (.len (.t 12)),
    o1 14 (.bin .lss (.t 11) (.t 13))]) (.keep [0, 1, 5, 14]))
  (.seq (.cond (.t 14)
  (.skip)
  (.exit 0)) (.keep [0, 1, 5])))
  (.seq (.seq (.block 1 (.seq (.seq (.ops [o1 17 (.mv (.t 0)),
    o1 18 (.mv (.t 5)),
    o1 19 (.idxA 5 (.t 17) (.t 18)),
    o1 20 (.loadN 5 (.t 19)),
    o1 21 (.mv (.t 1)),
    o1 22 (.mv (.t 5)),
    o1 23 (.idxA 5 (.t 21) (.t 22)),
    o1 24 (.loadN 5 (.t 23)),
    ⟨some 25, none, [], true, .call f_weqQuad [(.t 20), (.t 24)]⟩,
    o1 26 (.un .not (.t 25))]) (.keep [0, 1, 5, 26]))
  (.seq (.cond (.t 26)
  (.seq (.ops [o1 4 (.mv (.c (.b false)))])
  (.ret))
  (.skip)) (.keep [0, 1, 5])))) (.keep [0, 1, 5]))
  (.seq (.ops [o1 15 (.mv (.t 5)),
    o1 16 (.bin .add (.t 15) (.c (.I 1))),
    o1 5 (.mv (.t 16))]) (.keep [0, 1, 5])))) (.keep [0, 1, 5])
def c_weqQuadS : AFn := ⟨2, .seq (.seq (.ops [o1 4 (.mv (.c (.b false)))]) (.keep [0, 1]))
  (.seq (.seq (.seq (.ops [o1 6 (.mv (.t 0)),
    o1 7 (.len (.t 6)),
    o1 8 (.mv (.t 1)),
    o1 9 (.len (.t 8)),
    o1 10 (.bin .neq (.t 7) (.t 9))]) (.keep [0, 1, 10]))
  (.seq (.cond (.t 10)
  (.seq (.ops [o1 4 (.mv (.c (.b false)))])
  (.ret))
  (.skip)) (.keep [0, 1])))
  (.seq (.seq (.ops [o1 5 (.mv (.c (.I 0)))])
  (.seq (.block 0 (.seq (.keep [0, 1, 5]) (.loop c_weqQuadS_l0))) (.keep [])))
  (.seq (.ops [o1 4 (.mv (.c (.b true)))])
  (.ret)))), [.t 4]⟩

/- loop.example/cothreads/laws.eqThread -/
def c_weqThread : AFn := ⟨2, .seq (.seq (.ops [o1 2 (.box (.t 0)),
    o1 3 (.box (.t 1)),
    o1 4 (.mv (.c (.b false)))]) (.keep [2, 3]))
  (.seq (.seq (.seq (.ops [o1 5 (.fldA 0 (.t 2)),
    o1 6 (.load (.t 5)),
    o1 7 (.fldA 0 (.t 3)),
    o1 8 (.load (.t 7)),
    o1 9 (.call f_weqIntS [(.t 6), (.t 8)]),
    o1 10 (.un .not (.t 9))]) (.keep [2, 3, 10]))
  (.seq (.cond (.t 10)
  (.seq (.ops [o1 4 (.mv (.c (.b false)))])
  (.ret))
  (.skip)) (.keep [2, 3])))
  (.seq (.seq (.seq (.ops [o1 11 (.fldA 1 (.t 2)),
    o1 12 (.load (.t 11)),
    o1 13 (.fldA 1 (.t 3)),
    o1 14 (.load (.t 13)),
    o1 15 (.bin .neq (.t 12) (.t 14))]) (.keep [15]))
  (.seq (.cond (.t 15)
  (.seq (.ops [o1 4 (.mv (.c (.b false)))])
  (.ret))
  (.skip)) (.keep [])))
  (.seq (.ops [o1 4 (.mv (.c (.b true)))])
  (.ret)))), [.t 4]⟩

/- loop.example/cothreads/laws.markQuadS -/
def c_wmarkQuadS_l0 : AC := .seq (.seq (.seq (.seq (.ops [o1 6 (.mv (.t 5)),
    o1 7 (.mv (.t 0)),
    o1 8 (.len (.t 7)),
    o1 9 (.bin .lss (.t 6) (.t 8))]) (.keep [0, 1, 5, 9]))
  (.seq (.cond (.t 9)
  (.skip)
  (.exit 0)) (.keep [0, 1, 5])))
  (.seq (.seq (.block 1 (.seq (.seq (.ops [o1 12 (.mv (.t 0)),
    o1 13 (.mv (.t 5)),
    o1 14 (.mv (.t 1)),
    o1 15 (.idxA 5 (.t 12) (.t 13)),
    o1 16 (.fldA 0 (.t 15)),
    o0 (.store 1 (.t 16) (.t 14))]) (.keep [0, 1, 5]))
  (.seq (.seq (.ops [o1 17 (.mv (.t 1)),
    o1 18 (.bin .add (.t 17) (.c (.I 1))),
    o1 1 (.mv (.t 18))]) (.keep [0, 1, 5]))
  (.seq (.seq (.ops [o1 19 (.mv (.t 0)),
    o1 20 (.mv (.t 5)),
    o1 21 (.mv (.t 1)),
    o1 22 (.idxA 5 (.t 19) (.t 20)),
    o1 23 (.fldA 1 (.t 22)),
    o0 (.store 1 (.t 23) (.t 21))]) (.keep [0, 1, 5]))
  (.seq (.seq (.ops [o1 24 (.mv (.t 1)),
    o1 25 (.bin .add (.t 24) (.c (.I 1))),
    o1 1 (.mv (.t 25))]) (.keep [0, 1, 5]))
  (.seq (.seq (.ops [o1 26 (.mv (.t 0)),
    o1 27 (.mv (.t 5)),
    o1 28 (.mv (.t 1)),
    o1 29 (.idxA 5 (.t 26) (.t 27)),
    o1 30 (.fldA 2 (.t 29)),
    o0 (.store 1 (.t 30) (.t 28))]) (.keep [0, 1, 5]))
  (.seq (.seq (.ops [o1 31 (.mv (.t 1)),
    o1 32 (.bin .add (.t 31) (.c (.I 1))),
    o1 1 (.mv (.t 32))]) (.keep [0, 1, 5]))
  (.seq (.seq (.ops [o1 33 (.mv (.t 0)),
    o1 34 (.mv (.t 5)),
    o1 35 (.mv (.t 1)),
    o1 36 (.idxA 5 (.t 33) (.t 34)),
    o1 37 (.fldA 3 (.t 36)),
    o0 (.store 1 (.t 37) (.t 35))]) (.keep [0, 1, 5]))
  (.seq (.seq (.ops [o1 38 (.mv (.t 1)),
    o1 39 (.bin .add (.t 38) (.c (.I 1))),
    o1 1 (.mv (.t 39))]) (.keep [0, 1, 5]))
  (.seq (.seq (.ops [o1 40 (.mv (.t 0)),
    o1 41 (.mv (.t 5)),
    o1 42 (.mv (.t 1)),
    o1 43 (.idxA 5 (.t 40) (.t 41)),
    o1 44 (.fldA 4 (.t 43)),
    o0 (.store 1 (.t 44) (.t 42))]) (.keep [0, 1, 5]))
  (.seq (.ops [o1 45 (.mv (.t 1)),
    o1 46 (.bin .add (.t 45) (.c (.I 1))),
    o1 1 (.mv (.t 46))]) (.keep [0, 1, 5])))))))))))) (.keep [0, 1, 5]))
  (.seq (.ops [o1 10 (.mv (.t 5)),
    o1 11 (.bin .add (.t 10) (.c (.I 1))),
    o1 5 (.mv (.t 11))]) (.keep [0, 1, 5])))) (.keep [0, 1, 5])
def c_wmarkQuadS : AFn := ⟨2, .seq (.seq (.ops [o1 4 (.mv (.c (.I 0)))]) (.keep [0, 1]))
  (.seq (.seq (.ops [o1 5 (.mv (.c (.I 0)))])
  (.seq (.block 0 (.seq (.keep [0, 1, 5]) (.loop c_wmarkQuadS_l0))) (.keep [1])))
  (.seq (.seq (.ops [o1 47 (.mv (.t 1)),
    o1 4 (.mv (.t 47))]) (.keep [4]))
  (.ret))), [.t 4]⟩

/- loop.example/cothreads/laws.heldQuadS -/
def c_wheldQuadS_l0 : AC := .seq (.seq (.seq (.seq (.ops [o1 6 (.mv (.t 5)),
    o1 7 (.mv (.t 0)),
    o1 8 (.len (.t 7)),
    o1 9 (.bin .lss (.t 6) (.t 8))]) (.keep [0, 1, 5, 9]))
  (.seq (.cond (.t 9)
  (.skip)
  (.exit 0)) (.keep [0, 1, 5])))
  (.seq (.seq (.block 1 (.seq (.seq (.seq (.ops [o1 12 (.mv (.t 0)),
    o1 13 (.mv (.t 5)),
    o1 14 (.idxA 5 (.t 12) (.t 13)),
    o1 15 (.fldA 0 (.t 14)),
    o1 16 (.load (.t 15)),
    o1 17 (.mv (.t 1)),
    o1 18 (.bin .neq (.t 16) (.t 17))]) (.keep [0, 1, 5, 18]))
  (.seq (.cond (.t 18)
  (.seq (.ops [o1 4 (.mv (.c (.I (-1))))])
  (.ret))
  (.skip)) (.keep [0, 1, 5])))
  (.seq (.seq (.ops [o1 19 (.mv (.t 1)),
    o1 20 (.bin .add (.t 19) (.c (.I 1))),
    o1 1 (.mv (.t 20))]) (.keep [0, 1, 5]))
  (.seq (.seq (.seq (.ops [o1 21 (.mv (.t 0)),
    o1 22 (.mv (.t 5)),
    o1 23 (.idxA 5 (.t 21) (.t 22)),
    o1 24 (.fldA 1 (.t 23)),
    o1 25 (.load (.t 24)),
    o1 26 (.mv (.t 1)),
    o1 27 (.bin .neq (.t 25) (.t 26))]) (.keep [0, 1, 5, 27]))
  (.seq (.cond (.t 27)
  (.seq (.ops [o1 4 (.mv (.c (.I (-1))))])
  (.ret))
  (.skip)) (.keep [0, 1, 5])))
  (.seq (.seq (.ops [o1 28 (.mv (.t 1)),
    o1 29 (.bin .add (.t 28) (.c (.I 1))),
    o1 1 (.mv (.t 29))]) (.keep [0, 1, 5]))
  (.seq (.seq (.seq (.ops [o1 30 (.mv (.t 0)),
    o1 31 (.mv (.t 5)),
    o1 32 (.idxA 5 (.t 30) (.t 31)),
    o1 33 (.fldA 2 (.t 32)),
    o1 34 (.load (.t 33)),
    o1 35 (.mv (.t 1)),
    o1 36 (.bin .neq (.t 34) (.t 35))]) (.keep [0, 1, 5, 36]))
  (.seq (.cond (.t 36)
  (.seq (.ops [o1 4 (.mv (.c (.I (-1))))])
  (.ret))
  (.skip)) (.keep [0, 1, 5])))
  (.seq (.seq (.ops [o1 37 (.mv (.t 1)),
    o1 38 (.bin .add (.t 37) (.c (.I 1))),
    o1 1 (.mv (.t 38))]) (.keep [0, 1, 5]))
  (.seq (.seq (.seq (.ops [o1 39 (.mv (.t 0)),
    o1 40 (.mv (.t 5)),
    o1 41 (.idxA 5 (.t 39) (.t 40)),
    o1 42 (.fldA 3 (.t 41)),
    o1 43 (.load (.t 42)),
    o1 44 (.mv (.t 1)),
    o1 45 (.bin .neq (.t 43) (.t 44))]) (.keep [0, 1, 5, 45]))
  (.seq (.cond (.t 45)
  (.seq (.ops [o1 4 (.mv (.c (.I (-1))))])
  (.ret))
  (.skip)) (.keep [0, 1, 5])))
  (.seq (.seq (.ops [o1 46 (.mv (.t 1)),
    o1 47 (.bin .add (.t 46) (.c (.I 1))),
    o1 1 (.mv (.t 47))]) (.keep [0, 1, 5]))
  (.seq (.seq (.seq (.ops [o1 48 (.mv (.t 0)),
    o1 49 (.mv (.t 5)),
    o1 50 (.idxA 5 (.t 48) (.t 49)),
    o1 51 (.fldA 4 (.t 50)),
    o1 52 (.load (.t 51)),
    o1 53 (.mv (.t 1)),
    o1 54 (.bin .neq (.t 52) (.t 53))]) (.keep [0, 1, 5, 54]))
  (.seq (.cond (.t 54)
  (.seq (.ops [o1 4 (.mv (.c (.I (-1))))])
  (.ret))
  (.skip)) (.keep [0, 1, 5])))
  (.seq (.ops [o1 55 (.mv (.t 1)),
    o1 56 (.bin .add (.t 55) (.c (.I 1))),
    o1 1 (.mv (.t 56))]) (.keep [0, 1, 5])))))))))))) (.keep [0, 1, 5]))
  (.seq (.ops [o1 10 (.mv (.t 5)),
    o1 11 (.bin .add (.t 10) (.c (.I 1))),
    o1 5 (.mv (.t 11))]) (.keep [0, 1, 5])))) (.keep [0, 1, 5])
def c_wheldQuadS : AFn := ⟨2, .seq (.seq (.ops [o1 4 (.mv (.c (.I 0)))]) (.keep [0, 1]))
  (.seq (.seq (.ops [o1 5 (.mv (.c (.I 0)))])
  (.seq (.block 0 (.seq (.keep [0, 1, 5]) (.loop c_wheldQuadS_l0))) (.keep [1])))
  (.seq (.seq (.ops [o1 57 (.mv (.t 1)),
    o1 4 (.mv (.t 57))]) (.keep [4]))
  (.ret))), [.t 4]⟩

/- loop.example/cothreads/spec.l4Words -/
def c_sl4Words_l0 : AC := .seq (.seq (.seq (.seq (.ops [o1 10 (.mv (.t 5)),
    o1 11 (.mv (.t 0)),
    o1 12 (.len (.t 11)),
    o1 13 (.bin .lss (.t 10) (.t 12))]) (.keep [0, 5, 13]))
  (.seq (.cond (.t 13)
  (.skip)
  (.exit 0)) (.keep [0, 5])))
  (.seq (.seq (.block 1 (.seq (.seq (.ops [o1 16 (.mv (.t 0)),
    o1 17 (.mv (.t 5)),
    o1 18 (.idxA 1 (.t 16) (.t 17)),
    o1 19 (.load (.t 18)),
    o1 20 (.call f_sWordValid [(.t 19)]),
    o1 21 (.un .not (.t 20))]) (.keep [0, 5, 21]))
  (.seq (.cond (.t 21)
  (.seq (.ops [o1 4 (.mv (.c (.b false)))])
  (.ret))
  (.skip)) (.keep [0, 5])))) (.keep [0, 5]))
  (.seq (.ops [o1 14 (.mv (.t 5)),
    o1 15 (.bin .add (.t 14) (.c (.I 1))),
    o1 5 (.mv (.t 15))]) (.keep [0, 5])))) (.keep [0, 5])
def c_sl4Words : AFn := ⟨2, .seq (.seq (.ops [o1 4 (.mv (.c (.b false)))]) (.keep [0, 1]))
  (.seq (.seq (.seq (.ops [o1 6 (.mv (.t 0)),
    o1 7 (.len (.t 6)),
    o1 8 (.mv (.t 1)),
    o1 9 (.bin .neq (.t 7) (.t 8))]) (.keep [0, 9]))
  (.seq (.cond (.t 9)
  (.seq (.ops [o1 4 (.mv (.c (.b false)))])
  (.ret))
  (.skip)) (.keep [0])))
  (.seq (.seq (.ops [o1 5 (.mv (.c (.I 0)))])
  (.seq (.block 0 (.seq (.keep [0, 5]) (.loop c_sl4Words_l0))) (.keep [])))
  (.seq (.ops [o1 4 (.mv (.c (.b true)))])
  (.ret)))), [.t 4]⟩

/- loop.example/cothreads/spec.BoxValid -/
def c_sBoxValid : AFn := ⟨1, .seq (.seq (.ops [o1 1 (.box (.t 0)),
    o1 2 (.mv (.c (.b false)))]) (.keep [1]))
  (.seq (.seq (.ops [o1 3 (.fldA 0 (.t 1)),
    o1 4 (.load (.t 3)),
    o1 5 (.call f_sl6In [(.t 4), (.c (.I 1)), (.c (.I 4))]),
    o1 6 (.mv (.t 5)),
    ⟨some 7, (some (6, true)), [], false, .fldA 1 (.t 1)⟩,
    ⟨some 8, (some (6, true)), [], false, .load (.t 7)⟩,
    ⟨some 9, (some (6, true)), [], false, .len (.t 8)⟩,
    ⟨some 10, (some (6, true)), [], false, .fldA 0 (.t 1)⟩,
    ⟨some 11, (some (6, true)), [], false, .load (.t 10)⟩,
    ⟨some 12, (some (6, true)), [], false, .bin .leq (.t 9) (.t 11)⟩,
    o1 13 (.pick (.t 6) (.t 12) (.c (.b false))),
    o1 14 (.mv (.t 13)),
    ⟨some 15, (some (14, true)), [], false, .fldA 1 (.t 1)⟩,
    ⟨some 16, (some (14, true)), [], false, .load (.t 15)⟩,
    ⟨some 17, (some (14, true)), [], false, .fldA 1 (.t 1)⟩,
    ⟨some 18, (some (14, true)), [], false, .load (.t 17)⟩,
    ⟨some 19, (some (14, true)), [], false, .len (.t 18)⟩,
    ⟨some 20, (some (14, true)), [], false, .call f_sl4Words [(.t 16), (.t 19)]⟩,
    o1 21 (.pick (.t 14) (.t 20) (.c (.b false))),
    o1 2 (.mv (.t 21))]) (.keep [2]))
  (.ret)), [.t 2]⟩

/- loop.example/cothreads/spec.BoxPut -/
def c_sBoxPut : AFn := ⟨2, .seq (.seq (.ops [o1 2 (.box (.t 0)),
    o1 4 (.alloc [(.I 0), .nils]),
    o1 5 (.mv (.c (.b false)))]) (.keep [1, 2, 4]))
  (.seq (.seq (.seq (.ops [o1 6 (.loadN 2 (.t 2)),
    o1 7 (.call f_sBoxValid [(.t 6)]),
    o1 8 (.un .not (.t 7)),
    o1 9 (.mv (.t 8)),
    ⟨some 10, (some (9, false)), [], false, .mv (.t 1)⟩,
    ⟨some 11, (some (9, false)), [], false, .call f_sWordValid [(.t 10)]⟩,
    ⟨some 12, (some (9, false)), [], false, .un .not (.t 11)⟩,
    o1 13 (.pick (.t 9) (.c (.b true)) (.t 12)),
    o1 14 (.mv (.t 13)),
    ⟨some 15, (some (14, false)), [], false, .fldA 1 (.t 2)⟩,
    ⟨some 16, (some (14, false)), [], false, .load (.t 15)⟩,
    ⟨some 17, (some (14, false)), [], false, .len (.t 16)⟩,
    ⟨some 18, (some (14, false)), [], false, .fldA 0 (.t 2)⟩,
    ⟨some 19, (some (14, false)), [], false, .load (.t 18)⟩,
    ⟨some 20, (some (14, false)), [], false, .bin .geq (.t 17) (.t 19)⟩,
    o1 21 (.pick (.t 14) (.c (.b true)) (.t 20))]) (.keep [1, 2, 4, 21]))
  (.seq (.cond (.t 21)
  (.seq (.seq (.ops [o1 22 (.build [(.I 0), .nils] []),
    o0 (.store 2 (.t 4) (.t 22)),
    o1 5 (.mv (.c (.b false)))]) (.keep [4, 5]))
  (.ret))
  (.skip)) (.keep [1, 2, 4])))
  (.seq (.seq (.ops [o1 23 (.fldA 0 (.t 2)),
    o1 24 (.load (.t 23)),
    o1 25 (.bsl [] 0 []),
    o1 26 (.fldA 1 (.t 2)),
    o1 27 (.load (.t 26)),
    ⟨some 28, none, [], true, .app 1 (.t 25) (.t 27)⟩,
    o1 29 (.mv (.t 1)),
    o1 30 (.bsl [(.I 0)] 1 [(0, 1, (.t 29))]),
    ⟨some 31, none, [(.t 23)], false, .app 1 (.t 28) (.t 30)⟩,
    o1 32 (.build [(.I 0), .nils] [(0, 1, (.t 24)), (1, 1, (.t 31))]),
    o0 (.store 2 (.t 4) (.t 32)),
    o1 5 (.mv (.c (.b true)))]) (.keep [4, 5]))
  (.ret))), [.c 4 2, .t 5]⟩

/- loop.example/cothreads/spec.BoxTake -/
def c_sBoxTake : AFn := ⟨1, .seq (.seq (.ops [o1 1 (.box (.t 0)),
    o1 2 (.alloc [(.I 0), .nils]),
    o1 3 (.mv (.c (.I 0))),
    o1 4 (.mv (.c (.b false)))]) (.keep [1, 2]))
  (.seq (.seq (.seq (.ops [o1 5 (.loadN 2 (.t 1)),
    o1 6 (.call f_sBoxValid [(.t 5)]),
    o1 7 (.un .not (.t 6)),
    o1 8 (.mv (.t 7)),
    ⟨some 9, (some (8, false)), [], false, .fldA 1 (.t 1)⟩,
    ⟨some 10, (some (8, false)), [], false, .load (.t 9)⟩,
    ⟨some 11, (some (8, false)), [], false, .len (.t 10)⟩,
    ⟨some 12, (some (8, false)), [], false, .bin .eql (.t 11) (.c (.I 0))⟩,
    o1 13 (.pick (.t 8) (.c (.b true)) (.t 12))]) (.keep [1, 2, 13]))
  (.seq (.cond (.t 13)
  (.seq (.seq (.ops [o1 14 (.build [(.I 0), .nils] []),
    o0 (.store 2 (.t 2) (.t 14)),
    o1 3 (.mv (.c (.I 0))),
    o1 4 (.mv (.c (.b false)))]) (.keep [2, 3, 4]))
  (.ret))
  (.skip)) (.keep [1, 2])))
  (.seq (.seq (.ops [o1 15 (.fldA 0 (.t 1)),
    o1 16 (.load (.t 15)),
    o1 17 (.bsl [] 0 []),
    o1 18 (.fldA 1 (.t 1)),
    o1 19 (.load (.t 18)),
    o1 20 (.slice 1 (.t 19) (some (.c (.I 1))) none none),
    ⟨some 21, none, [], true, .app 1 (.t 17) (.t 20)⟩,
    o1 22 (.build [(.I 0), .nils] [(0, 1, (.t 16)), (1, 1, (.t 21))]),
    o1 23 (.fldA 1 (.t 1)),
    o1 24 (.load (.t 23)),
    o1 25 (.idxA 1 (.t 24) (.c (.I 0))),
    o1 26 (.load (.t 25)),
    ⟨none, none, [(.t 23), (.t 25)], false, .store 2 (.t 2) (.t 22)⟩,
    o1 3 (.mv (.t 26)),
    o1 4 (.mv (.c (.b true)))]) (.keep [2, 3, 4]))
  (.ret))), [.c 2 2, .t 3, .t 4]⟩

/- loop.example/cothreads/spec.Apply -/
def c_sApply : AFn := ⟨3, .seq (.seq (.ops [o1 6 (.mv (.c (.I 0))),
    o1 7 (.mv (.c (.b false)))]) (.keep [0, 1, 2]))
  (.seq (.seq (.seq (.ops [o1 8 (.mv (.t 0)),
    o1 9 (.call f_sOpValid [(.t 8)]),
    o1 10 (.un .not (.t 9)),
    o1 11 (.mv (.t 10)),
    ⟨some 12, (some (11, false)), [], false, .mv (.t 1)⟩,
    ⟨some 13, (some (11, false)), [], false, .call f_sWordValid [(.t 12)]⟩,
    ⟨some 14, (some (11, false)), [], false, .un .not (.t 13)⟩,
    o1 15 (.pick (.t 11) (.c (.b true)) (.t 14)),
    o1 16 (.mv (.t 15)),
    ⟨some 17, (some (16, false)), [], false, .mv (.t 2)⟩,
    ⟨some 18, (some (16, false)), [], false, .call f_sWordValid [(.t 17)]⟩,
    ⟨some 19, (some (16, false)), [], false, .un .not (.t 18)⟩,
    o1 20 (.pick (.t 16) (.c (.b true)) (.t 19))]) (.keep [0, 1, 2, 20]))
  (.seq (.cond (.t 20)
  (.seq (.ops [o1 6 (.mv (.c (.I 0))),
    o1 7 (.mv (.c (.b false)))])
  (.ret))
  (.skip)) (.keep [0, 1, 2])))
  (.seq (.seq (.ops [o1 21 (.mv (.t 0))])
  (.seq (.block 0 (.seq (.seq (.ops [o1 23 (.bin .eql (.t 21) (.c (.I 1))),
    o1 22 (.mv (.t 23))]) (.keep [1, 2, 21, 22]))
  (.seq (.cond (.t 22)
  (.seq (.seq (.ops [o1 24 (.mv (.t 1)),
    o1 25 (.mv (.t 2)),
    o1 26 (.bin .or (.t 24) (.t 25)),
    o1 6 (.mv (.t 26)),
    o1 7 (.mv (.c (.b true)))]) (.keep [6, 7]))
  (.ret))
  (.seq (.seq (.ops [o1 28 (.bin .eql (.t 21) (.c (.I 2))),
    o1 27 (.mv (.t 28))]) (.keep [1, 2, 21, 27]))
  (.seq (.cond (.t 27)
  (.seq (.seq (.ops [o1 29 (.mv (.t 1)),
    o1 30 (.mv (.t 2)),
    o1 31 (.bin .xor (.t 29) (.t 30)),
    o1 6 (.mv (.t 31)),
    o1 7 (.mv (.c (.b true)))]) (.keep [6, 7]))
  (.ret))
  (.seq (.seq (.ops [o1 33 (.bin .eql (.t 21) (.c (.I 3))),
    o1 32 (.mv (.t 33))]) (.keep [1, 2, 21, 32]))
  (.seq (.cond (.t 32)
  (.seq (.seq (.ops [o1 34 (.mv (.t 1)),
    o1 35 (.mv (.t 2)),
    o1 36 (.bin .and (.t 34) (.t 35)),
    o1 6 (.mv (.t 36)),
    o1 7 (.mv (.c (.b true)))]) (.keep [6, 7]))
  (.ret))
  (.seq (.seq (.ops [o1 38 (.bin .eql (.t 21) (.c (.I 4))),
    o1 37 (.mv (.t 38))]) (.keep [1, 2, 21, 37]))
  (.seq (.cond (.t 37)
  (.seq (.seq (.ops [o1 39 (.mv (.t 1)),
    o1 40 (.mv (.t 2)),
    o1 41 (.bin .eql (.t 39) (.t 40)),
    o1 42 (.call f_sl2Flag [(.t 41)]),
    o1 6 (.mv (.t 42)),
    o1 7 (.mv (.c (.b true)))]) (.keep [6, 7]))
  (.ret))
  (.seq (.seq (.ops [o1 44 (.bin .eql (.t 21) (.c (.I 5))),
    o1 43 (.mv (.t 44))]) (.keep [1, 2, 21, 43]))
  (.seq (.cond (.t 43)
  (.seq (.seq (.ops [o1 45 (.mv (.t 1)),
    o1 46 (.mv (.t 2)),
    o1 47 (.bin .lss (.t 45) (.t 46)),
    o1 48 (.call f_sl2Flag [(.t 47)]),
    o1 6 (.mv (.t 48)),
    o1 7 (.mv (.c (.b true)))]) (.keep [6, 7]))
  (.ret))
  (.seq (.seq (.ops [o1 50 (.bin .eql (.t 21) (.c (.I 6))),
    o1 49 (.mv (.t 50))]) (.keep [1, 2, 21, 49]))
  (.seq (.cond (.t 49)
  (.seq (.seq (.ops [o1 51 (.mv (.t 1)),
    o1 52 (.mv (.t 2)),
    o1 53 (.call f_sl2Shift [(.t 51), (.t 52), (.c (.b false))]),
    o1 6 (.mv (.t 53)),
    o1 7 (.mv (.c (.b true)))]) (.keep [6, 7]))
  (.ret))
  (.seq (.seq (.ops [o1 55 (.bin .eql (.t 21) (.c (.I 7))),
    o1 54 (.mv (.t 55))]) (.keep [1, 2, 21, 54]))
  (.seq (.cond (.t 54)
  (.seq (.seq (.ops [o1 56 (.mv (.t 1)),
    o1 57 (.mv (.t 2)),
    o1 58 (.call f_sl2Shift [(.t 56), (.t 57), (.c (.b true))]),
    o1 6 (.mv (.t 58)),
    o1 7 (.mv (.c (.b true)))]) (.keep [6, 7]))
  (.ret))
  (.seq (.seq (.ops [o1 60 (.bin .eql (.t 21) (.c (.I 8))),
    o1 59 (.mv (.t 60))]) (.keep [1, 2, 21, 59]))
  (.seq (.cond (.t 59)
  (.seq (.seq (.ops [o1 61 (.mv (.t 1)),
    o1 62 (.mv (.t 2)),
    o1 63 (.bin .add (.t 61) (.t 62)),
    o1 64 (.call f_sWrap [(.t 63)]),
    o1 6 (.mv (.t 64)),
    o1 7 (.mv (.c (.b true)))]) (.keep [6, 7]))
  (.ret))
  (.seq (.seq (.ops [o1 66 (.bin .eql (.t 21) (.c (.I 9))),
    o1 65 (.mv (.t 66))]) (.keep [1, 2, 21, 65]))
  (.seq (.cond (.t 65)
  (.seq (.seq (.ops [o1 67 (.mv (.t 1)),
    o1 68 (.mv (.t 2)),
    o1 69 (.bin .sub (.t 67) (.t 68)),
    o1 70 (.call f_sWrap [(.t 69)]),
    o1 6 (.mv (.t 70)),
    o1 7 (.mv (.c (.b true)))]) (.keep [6, 7]))
  (.ret))
  (.seq (.seq (.ops [o1 72 (.bin .eql (.t 21) (.c (.I 10))),
    o1 71 (.mv (.t 72))]) (.keep [1, 2, 21, 71]))
  (.seq (.cond (.t 71)
  (.seq (.seq (.ops [o1 73 (.mv (.t 1)),
    o1 74 (.mv (.t 2)),
    o1 75 (.bin .mul (.t 73) (.t 74)),
    o1 76 (.call f_sWrap [(.t 75)]),
    o1 6 (.mv (.t 76)),
    o1 7 (.mv (.c (.b true)))]) (.keep [6, 7]))
  (.ret))
  (.seq (.seq (.ops [o1 78 (.bin .eql (.t 21) (.c (.I 11))),
    o1 77 (.mv (.t 78))]) (.keep [1, 2, 77]))
  (.seq (.cond (.t 77)
  (.seq (.seq (.ops [o1 79 (.mv (.t 1)),
    o1 80 (.mv (.t 2)),
    o1 81 (.call f_sl2Divide [(.t 79), (.t 80)]),
    o1 6 (.mv (.t 81)),
    o1 7 (.mv (.c (.b true)))]) (.keep [6, 7]))
  (.ret))
  (.skip)) (.keep [1, 2])))) (.keep [1, 2])))) (.keep [1, 2])))) (.keep [1, 2])))) (.keep [1, 2])))) (.keep [1, 2])))) (.keep [1, 2])))) (.keep [1, 2])))) (.keep [1, 2])))) (.keep [1, 2])))) (.keep [1, 2])))) (.keep [1, 2])))
  (.seq (.seq (.ops [o1 82 (.mv (.t 1)),
    o1 83 (.mv (.t 2)),
    o1 84 (.call f_sl2Remain [(.t 82), (.t 83)]),
    o1 6 (.mv (.t 84)),
    o1 7 (.mv (.c (.b true)))]) (.keep [6, 7]))
  (.ret)))), [.t 6, .t 7]⟩

/- loop.example/cothreads/impl.BoxValid -/
def c_iBoxValid : AFn := ⟨1, .seq (.seq (.ops [o1 1 (.box (.t 0)),
    o1 2 (.mv (.c (.b false)))]) (.keep [1]))
  (.seq (.seq (.ops [o1 3 (.fldA 0 (.t 1)),
    o1 4 (.load (.t 3)),
    o1 5 (.bin .geq (.t 4) (.c (.I 1))),
    o1 6 (.mv (.t 5)),
    ⟨some 7, (some (6, true)), [], false, .fldA 0 (.t 1)⟩,
    ⟨some 8, (some (6, true)), [], false, .load (.t 7)⟩,
    ⟨some 9, (some (6, true)), [], false, .bin .leq (.t 8) (.c (.I 4))⟩,
    o1 10 (.pick (.t 6) (.t 9) (.c (.b false))),
    o1 11 (.mv (.t 10)),
    ⟨some 12, (some (11, true)), [], false, .fldA 1 (.t 1)⟩,
    ⟨some 13, (some (11, true)), [], false, .load (.t 12)⟩,
    ⟨some 14, (some (11, true)), [], false, .len (.t 13)⟩,
    ⟨some 15, (some (11, true)), [], false, .fldA 0 (.t 1)⟩,
    ⟨some 16, (some (11, true)), [], false, .load (.t 15)⟩,
    ⟨some 17, (some (11, true)), [], false, .bin .leq (.t 14) (.t 16)⟩,
    o1 18 (.pick (.t 11) (.t 17) (.c (.b false))),
    o1 19 (.mv (.t 18)),
    ⟨some 20, (some (19, true)), [], false, .fldA 1 (.t 1)⟩,
    ⟨some 21, (some (19, true)), [], false, .load (.t 20)⟩,
    ⟨some 22, (some (19, true)), [], false, .call f_iareWords [(.t 21)]⟩,
    o1 23 (.pick (.t 19) (.t 22) (.c (.b false))),
    o1 2 (.mv (.t 23))]) (.keep [2]))
  (.ret)), [.t 2]⟩

/- (*loop.example/cothreads/impl.Box).put -/
def c_iBox_put : AFn := ⟨2, .seq (.seq (.ops [o1 4 (.mv (.c (.b false)))]) (.keep [0, 1]))
  (.seq (.seq (.seq (.ops [o1 5 (.mv (.t 0)),
    o1 6 (.nilc (.t 5)),
    o1 7 (.fldA 1 (.t 6)),
    o1 8 (.load (.t 7)),
    o1 9 (.len (.t 8)),
    o1 10 (.mv (.t 0)),
    o1 11 (.nilc (.t 10)),
    o1 12 (.fldA 0 (.t 11)),
    o1 13 (.load (.t 12)),
    o1 14 (.bin .eql (.t 9) (.t 13))]) (.keep [0, 1, 14]))
  (.seq (.cond (.t 14)
  (.seq (.ops [o1 4 (.mv (.c (.b false)))])
  (.ret))
  (.skip)) (.keep [0, 1])))
  (.seq (.seq (.ops [o1 15 (.mv (.t 0)),
    o1 16 (.mv (.t 0)),
    o1 17 (.nilc (.t 16)),
    o1 18 (.fldA 1 (.t 17)),
    o1 19 (.load (.t 18)),
    o1 20 (.mv (.t 1)),
    o1 21 (.bsl [(.I 0)] 1 [(0, 1, (.t 20))]),
    o1 22 (.app 1 (.t 19) (.t 21)),
    o1 23 (.nilc (.t 15)),
    o1 24 (.fldA 1 (.t 23)),
    o0 (.store 1 (.t 24) (.t 22))]) (.keep []))
  (.seq (.ops [o1 4 (.mv (.c (.b true)))])
  (.ret)))), [.t 4]⟩

/- (*loop.example/cothreads/impl.Box).take -/
def c_iBox_take : AFn := ⟨1, .seq (.seq (.ops [o1 2 (.mv (.c (.I 0))),
    o1 3 (.mv (.c (.b false)))]) (.keep [0]))
  (.seq (.seq (.seq (.ops [o1 5 (.mv (.t 0)),
    o1 6 (.nilc (.t 5)),
    o1 7 (.fldA 1 (.t 6)),
    o1 8 (.load (.t 7)),
    o1 9 (.len (.t 8)),
    o1 10 (.bin .eql (.t 9) (.c (.I 0)))]) (.keep [0, 10]))
  (.seq (.cond (.t 10)
  (.seq (.ops [o1 2 (.mv (.c (.I 0))),
    o1 3 (.mv (.c (.b false)))])
  (.ret))
  (.skip)) (.keep [0])))
  (.seq (.seq (.ops [o1 11 (.mv (.t 0)),
    o1 12 (.nilc (.t 11)),
    o1 13 (.fldA 1 (.t 12)),
    o1 14 (.load (.t 13)),
    o1 15 (.idxA 1 (.t 14) (.c (.I 0))),
    o1 16 (.load (.t 15)),
    o1 4 (.mv (.t 16))]) (.keep [0, 4]))
  (.seq (.seq (.ops [o1 17 (.mv (.t 0)),
    o1 18 (.mv (.t 0)),
    o1 19 (.nilc (.t 18)),
    o1 20 (.fldA 1 (.t 19)),
    o1 21 (.load (.t 20)),
    o1 22 (.slice 1 (.t 21) none (some (.c (.I 0))) none),
    o1 23 (.mv (.t 0)),
    o1 24 (.nilc (.t 23)),
    o1 25 (.fldA 1 (.t 24)),
    o1 26 (.load (.t 25)),
    o1 27 (.slice 1 (.t 26) (some (.c (.I 1))) none none),
    o1 28 (.app 1 (.t 22) (.t 27)),
    o1 29 (.nilc (.t 17)),
    o1 30 (.fldA 1 (.t 29)),
    o0 (.store 1 (.t 30) (.t 28))]) (.keep [4]))
  (.seq (.seq (.ops [o1 31 (.mv (.t 4)),
    o1 2 (.mv (.t 31)),
    o1 3 (.mv (.c (.b true)))]) (.keep [2, 3]))
  (.ret))))), [.t 2, .t 3]⟩

/- loop.example/cothreads/spec.ThreadValid -/
def c_sThreadValid : AFn := ⟨2, .seq (.seq (.ops [o1 2 (.box (.t 0)),
    o1 4 (.mv (.c (.b false)))]) (.keep [1, 2]))
  (.seq (.seq (.ops [o1 5 (.mv (.t 1)),
    o1 6 (.call f_sCodeValid [(.t 5)]),
    o1 7 (.mv (.t 6)),
    ⟨some 8, (some (7, true)), [], false, .loadN 2 (.t 2)⟩,
    ⟨some 9, (some (7, true)), [], false, .mv (.t 1)⟩,
    ⟨some 10, (some (7, true)), [], false, .len (.t 9)⟩,
    ⟨some 11, (some (7, true)), [], false, .call f_sl23Fits [(.t 8), (.t 10)]⟩,
    o1 12 (.pick (.t 7) (.t 11) (.c (.b false))),
    o1 4 (.mv (.t 12))]) (.keep [4]))
  (.ret)), [.t 4]⟩

/- loop.example/cothreads/spec.l24Code -/
def c_sl24Code_l0 : AC := .seq (.seq (.seq (.seq (.ops [o1 6 (.mv (.t 5)),
    o1 7 (.mv (.t 0)),
    o1 8 (.len (.t 7)),
    o1 9 (.bin .lss (.t 6) (.t 8))]) (.keep [0, 1, 5, 9]))
  (.seq (.cond (.t 9)
  (.skip)
  (.exit 0)) (.keep [0, 1, 5])))
  (.seq (.seq (.block 1 (.seq (.seq (.ops [o1 12 (.mv (.t 0)),
    o1 13 (.mv (.t 5)),
    o1 14 (.idxA 5 (.t 12) (.t 13)),
    o1 15 (.loadN 5 (.t 14)),
    o1 16 (.mv (.t 1)),
    o1 17 (.call f_sl23Quad [(.t 15), (.t 16)]),
    o1 18 (.un .not (.t 17))]) (.keep [0, 1, 5, 18]))
  (.seq (.cond (.t 18)
  (.seq (.ops [o1 4 (.mv (.c (.b false)))])
  (.ret))
  (.skip)) (.keep [0, 1, 5])))) (.keep [0, 1, 5]))
  (.seq (.ops [o1 10 (.mv (.t 5)),
    o1 11 (.bin .add (.t 10) (.c (.I 1))),
    o1 5 (.mv (.t 11))]) (.keep [0, 1, 5])))) (.keep [0, 1, 5])
def c_sl24Code : AFn := ⟨2, .seq (.seq (.ops [o1 4 (.mv (.c (.b false)))]) (.keep [0, 1]))
  (.seq (.seq (.ops [o1 5 (.mv (.c (.I 0)))])
  (.seq (.block 0 (.seq (.keep [0, 1, 5]) (.loop c_sl24Code_l0))) (.keep [])))
  (.seq (.ops [o1 4 (.mv (.c (.b true)))])
  (.ret))), [.t 4]⟩

/- loop.example/cothreads/spec.l24Codes -/
def c_sl24Codes_l0 : AC := .seq (.seq (.seq (.seq (.ops [o1 6 (.mv (.t 4)),
    o1 7 (.mv (.t 0)),
    o1 8 (.len (.t 7)),
    o1 9 (.bin .lss (.t 6) (.t 8))]) (.keep [0, 3, 4, 9]))
  (.seq (.cond (.t 9)
  (.skip)
  (.exit 0)) (.keep [0, 3, 4])))
  (.seq (.seq (.block 1 (.seq (.ops [o1 12 (.mv (.t 3)),
    o1 13 (.bsl [] 0 []),
    o1 14 (.mv (.t 0)),
    o1 15 (.mv (.t 4)),
    o1 16 (.idxA 1 (.t 14) (.t 15)),
    o1 17 (.load (.t 16)),
    o1 18 (.app 5 (.t 13) (.t 17)),
    o1 19 (.bsl [.nils] 1 [(0, 1, (.t 18))]),
    o1 20 (.app 1 (.t 12) (.t 19)),
    o1 3 (.mv (.t 20))]) (.keep [0, 3, 4]))) (.keep [0, 3, 4]))
  (.seq (.ops [o1 10 (.mv (.t 4)),
    o1 11 (.bin .add (.t 10) (.c (.I 1))),
    o1 4 (.mv (.t 11))]) (.keep [0, 3, 4])))) (.keep [0, 3, 4])
def c_sl24Codes : AFn := ⟨1, .seq (.seq (.ops [o1 2 (.mv (.c .nils))]) (.keep [0]))
  (.seq (.seq (.ops [o1 5 (.bsl [] 0 []),
    o1 3 (.mv (.t 5))]) (.keep [0, 3]))
  (.seq (.seq (.ops [o1 4 (.mv (.c (.I 0)))])
  (.seq (.block 0 (.seq (.keep [0, 3, 4]) (.loop c_sl24Codes_l0))) (.keep [3])))
  (.seq (.seq (.ops [o1 21 (.mv (.t 3)),
    o1 2 (.mv (.t 21))]) (.keep [2]))
  (.ret)))), [.t 2]⟩

/- loop.example/cothreads/spec.l23Go -/
def c_sl23Go : AFn := ⟨2, .seq (.ops [o1 2 (.box (.t 0)),
    o1 4 (.alloc [.nils, (.I 0)])])
  (.seq (.seq (.ops [o1 5 (.bsl [] 0 []),
    o1 6 (.fldA 0 (.t 2)),
    o1 7 (.load (.t 6)),
    o1 8 (.app 1 (.t 5) (.t 7)),
    o1 9 (.mv (.t 1)),
    o1 10 (.build [.nils, (.I 0)] [(0, 1, (.t 8)), (1, 1, (.t 9))]),
    o0 (.store 2 (.t 4) (.t 10))]) (.keep [4]))
  (.ret)), [.c 4 2]⟩

/- loop.example/cothreads/spec.l23Step -/
def c_sl23Step : AFn := ⟨3, .seq (.seq (.ops [o1 3 (.box (.t 0)),
    o1 4 (.box (.t 1)),
    o1 6 (.alloc [.nils, (.I 0)]),
    o1 7 (.mv (.c .nils)),
    o1 8 (.mv (.c .nils)),
    o1 9 (.mv (.c (.I 0)))]) (.keep [2, 3, 4, 6]))
  (.seq (.seq (.seq (.ops [o1 13 (.fldA 0 (.t 3)),
    o1 14 (.load (.t 13))]) (.keep [2, 3, 4, 6, 14]))
  (.seq (.block 0 (.seq (.seq (.seq (.ops [o1 16 (.bin .eql (.t 14) (.c (.I 6))),
    o1 15 (.mv (.t 16))]) (.keep [2, 3, 4, 6, 14, 15]))
  (.seq (.cond (.t 15)
  (.skip)
  (.seq (.ops [o1 17 (.bin .eql (.t 14) (.c (.I 7))),
    o1 15 (.mv (.t 17))]) (.keep [2, 3, 4, 6, 14, 15]))) (.keep [2, 3, 4, 6, 14, 15])))
  (.seq (.cond (.t 15)
  (.seq (.seq (.ops [o1 19 (.loadN 5 (.t 3)),
    o1 20 (.loadN 2 (.t 4)),
    o1 21 (.mv (.t 2)),
    o1 22 (.call f_sl23Talk [(.t 19), (.t 20), (.t 21)]),
    o1 18 (.mv (.t 22)),
    o1 23 (.ext (.t 18) 0),
    o1 24 (.ext (.t 18) 1),
    o1 25 (.ext (.t 18) 2),
    o1 10 (.alloc [.nils, (.I 0)]),
    o0 (.store 2 (.t 10) (.t 23)),
    o1 11 (.mv (.t 24)),
    o1 12 (.mv (.t 25))]) (.keep [6, 10, 11, 12]))
  (.seq (.seq (.ops [o1 26 (.loadN 2 (.t 10)),
    o1 27 (.mv (.t 11)),
    o1 28 (.bsl [] 0 []),
    o1 29 (.mv (.t 12)),
    o0 (.store 2 (.t 6) (.t 26)),
    o1 7 (.mv (.t 27)),
    o1 8 (.mv (.t 28)),
    o1 9 (.mv (.t 29))]) (.keep [6, 7, 8, 9]))
  (.ret)))
  (.seq (.seq (.ops [o1 31 (.bin .eql (.t 14) (.c (.I 10))),
    o1 30 (.mv (.t 31))]) (.keep [2, 3, 4, 6, 14, 30]))
  (.seq (.cond (.t 30)
  (.seq (.seq (.ops [o1 32 (.loadN 2 (.t 4)),
    o1 33 (.fldA 1 (.t 4)),
    o1 34 (.load (.t 33)),
    o1 35 (.call f_sl23Go [(.t 32), (.t 34)]),
    o1 36 (.mv (.t 2)),
    o1 37 (.call f_sl15BoxesCopy [(.t 36)]),
    o1 38 (.bsl [] 0 []),
    o0 (.store 2 (.t 6) (.t 35)),
    o1 7 (.mv (.t 37)),
    o1 8 (.mv (.t 38)),
    o1 9 (.mv (.c (.I 4)))]) (.keep [6, 7, 8, 9]))
  (.ret))
  (.seq (.seq (.ops [o1 40 (.bin .eql (.t 14) (.c (.I 8))),
    o1 39 (.mv (.t 40))]) (.keep [2, 3, 4, 6, 14, 39]))
  (.seq (.cond (.t 39)
  (.seq (.seq (.ops [o1 41 (.loadN 2 (.t 4)),
    o1 42 (.fldA 1 (.t 4)),
    o1 43 (.load (.t 42)),
    o1 44 (.bin .add (.t 43) (.c (.I 1))),
    o1 45 (.call f_sl23Go [(.t 41), (.t 44)]),
    o1 46 (.mv (.t 2)),
    o1 47 (.call f_sl15BoxesCopy [(.t 46)]),
    o1 48 (.bsl [] 0 []),
    o0 (.store 2 (.t 6) (.t 45)),
    o1 7 (.mv (.t 47)),
    o1 8 (.mv (.t 48)),
    o1 9 (.mv (.c (.I 2)))]) (.keep [6, 7, 8, 9]))
  (.ret))
  (.seq (.seq (.ops [o1 50 (.bin .eql (.t 14) (.c (.I 9))),
    o1 49 (.mv (.t 50))]) (.keep [2, 3, 4, 6, 49]))
  (.seq (.cond (.t 49)
  (.seq (.seq (.ops [o1 51 (.loadN 2 (.t 4)),
    o1 52 (.fldA 1 (.t 4)),
    o1 53 (.load (.t 52)),
    o1 54 (.bin .add (.t 53) (.c (.I 1))),
    ⟨some 55, none, [], true, .call f_sl23Go [(.t 51), (.t 54)]⟩,
    o1 56 (.mv (.t 2)),
    ⟨some 57, none, [], true, .call f_sl15BoxesCopy [(.t 56)]⟩,
    o1 58 (.fldA 0 (.t 4)),
    o1 59 (.load (.t 58)),
    o1 60 (.fldA 2 (.t 3)),
    o1 61 (.load (.t 60)),
    o1 62 (.idxA 1 (.t 59) (.t 61)),
    o1 63 (.load (.t 62)),
    o1 64 (.bsl [(.I 0)] 1 [(0, 1, (.t 63))]),
    ⟨none, none, [(.t 58), (.t 60), (.t 62), (.t 64)], false, .store 2 (.t 6) (.t 55)⟩,
    o1 7 (.mv (.t 57)),
    o1 8 (.mv (.t 64)),
    o1 9 (.mv (.c (.I 1)))]) (.keep [6, 7, 8, 9]))
  (.ret))
  (.skip)) (.keep [2, 3, 4, 6])))) (.keep [2, 3, 4, 6])))) (.keep [2, 3, 4, 6])))) (.keep [2, 3, 4, 6])))) (.keep [2, 3, 4, 6])))
  (.seq (.seq (.ops [o1 65 (.loadN 5 (.t 3)),
    o1 66 (.loadN 2 (.t 4)),
    o1 67 (.call f_sl23Pure [(.t 65), (.t 66)]),
    o1 68 (.mv (.t 2)),
    o1 69 (.call f_sl15BoxesCopy [(.t 68)]),
    o1 70 (.bsl [] 0 []),
    o0 (.store 2 (.t 6) (.t 67)),
    o1 7 (.mv (.t 69)),
    o1 8 (.mv (.t 70)),
    o1 9 (.mv (.c (.I 1)))]) (.keep [6, 7, 8, 9]))
  (.ret))), [.c 6 2, .t 7, .t 8, .t 9]⟩

/- loop.example/cothreads/spec.NextTurn -/
def c_sNextTurn : AFn := ⟨4, .seq (.seq (.ops [o1 8 (.mv (.c (.I 0))),
    o1 9 (.mv (.c (.I 0))),
    o1 10 (.mv (.c (.b false)))]) (.keep [0, 1, 2, 3]))
  (.seq (.seq (.seq (.ops [o1 11 (.mv (.t 0)),
    o1 12 (.call f_sl6In [(.t 11), (.c (.I 1)), (.c (.I 3))]),
    o1 13 (.un .not (.t 12)),
    o1 14 (.mv (.t 13)),
    ⟨some 15, (some (14, false)), [], false, .mv (.t 1)⟩,
    ⟨some 16, (some (14, false)), [], false, .mv (.t 0)⟩,
    ⟨some 17, (some (14, false)), [], false, .bin .sub (.t 16) (.c (.I 1))⟩,
    ⟨some 18, (some (14, false)), [], false, .call f_sl6In [(.t 15), (.c (.I 0)), (.t 17)]⟩,
    ⟨some 19, (some (14, false)), [], false, .un .not (.t 18)⟩,
    o1 20 (.pick (.t 14) (.c (.b true)) (.t 19)),
    o1 21 (.mv (.t 20)),
    ⟨some 22, (some (21, false)), [], false, .mv (.t 2)⟩,
    ⟨some 23, (some (21, false)), [], false, .mv (.t 0)⟩,
    ⟨some 24, (some (21, false)), [], false, .bin .sub (.t 23) (.c (.I 1))⟩,
    ⟨some 25, (some (21, false)), [], false, .call f_sl6In [(.t 22), (.c (.I 0)), (.t 24)]⟩,
    ⟨some 26, (some (21, false)), [], false, .un .not (.t 25)⟩,
    o1 27 (.pick (.t 21) (.c (.b true)) (.t 26))]) (.keep [0, 1, 2, 3, 27]))
  (.seq (.cond (.t 27)
  (.seq (.ops [o1 8 (.mv (.c (.I 0))),
    o1 9 (.mv (.c (.I 0))),
    o1 10 (.mv (.c (.b false)))])
  (.ret))
  (.skip)) (.keep [0, 1, 2, 3])))
  (.seq (.seq (.ops [o1 28 (.mv (.t 3))])
  (.seq (.block 0 (.seq (.seq (.ops [o1 30 (.bin .eql (.t 28) (.c (.I 1))),
    o1 29 (.mv (.t 30))]) (.keep [0, 1, 2, 28, 29]))
  (.seq (.cond (.t 29)
  (.seq (.seq (.ops [o1 31 (.mv (.t 1)),
    o1 8 (.mv (.t 31)),
    o1 9 (.mv (.c (.I 0))),
    o1 10 (.mv (.c (.b true)))]) (.keep [8, 9, 10]))
  (.ret))
  (.seq (.seq (.ops [o1 33 (.bin .eql (.t 28) (.c (.I 2))),
    o1 32 (.mv (.t 33))]) (.keep [0, 1, 2, 28, 32]))
  (.seq (.cond (.t 32)
  (.seq (.seq (.ops [o1 34 (.mv (.t 1)),
    o1 35 (.bin .add (.t 34) (.c (.I 1))),
    o1 36 (.mv (.t 0)),
    o1 37 (.bin .rem (.t 35) (.t 36)),
    o1 8 (.mv (.t 37)),
    o1 9 (.mv (.c (.I 0))),
    o1 10 (.mv (.c (.b true)))]) (.keep [8, 9, 10]))
  (.ret))
  (.seq (.seq (.seq (.ops [o1 39 (.bin .eql (.t 28) (.c (.I 3))),
    o1 38 (.mv (.t 39))]) (.keep [0, 1, 2, 28, 38]))
  (.seq (.cond (.t 38)
  (.skip)
  (.seq (.ops [o1 40 (.bin .eql (.t 28) (.c (.I 4))),
    o1 38 (.mv (.t 40))]) (.keep [0, 1, 2, 38]))) (.keep [0, 1, 2, 38])))
  (.seq (.cond (.t 38)
  (.seq (.seq (.ops [o1 41 (.mv (.t 1)),
    o1 42 (.bin .add (.t 41) (.c (.I 1))),
    o1 43 (.mv (.t 0)),
    o1 44 (.bin .rem (.t 42) (.t 43)),
    o1 45 (.mv (.t 2)),
    o1 46 (.bin .add (.t 45) (.c (.I 1))),
    o1 8 (.mv (.t 44)),
    o1 9 (.mv (.t 46)),
    o1 10 (.mv (.c (.b true)))]) (.keep [8, 9, 10]))
  (.ret))
  (.skip)) (.keep [])))) (.keep [])))) (.keep [])))) (.keep [])))
  (.seq (.ops [o1 8 (.mv (.c (.I 0))),
    o1 9 (.mv (.c (.I 0))),
    o1 10 (.mv (.c (.b false)))])
  (.ret)))), [.t 8, .t 9, .t 10]⟩

/- loop.example/cothreads/laws.toQuad -/
def c_wtoQuad : AFn := ⟨1, .seq (.ops [o1 1 (.box (.t 0)),
    o1 2 (.alloc [(.I 0), (.I 0), (.I 0), (.I 0), (.I 0)])])
  (.seq (.ops [o1 3 (.alloc [(.I 0), (.I 0), (.I 0), (.I 0), (.I 0)])])
  (.seq (.seq (.ops [o1 4 (.fldA 0 (.t 1)),
    o1 5 (.load (.t 4)),
    o1 6 (.fldA 0 (.t 3)),
    o0 (.store 1 (.t 6) (.t 5))]) (.keep [1, 2, 3]))
  (.seq (.seq (.ops [o1 7 (.fldA 1 (.t 1)),
    o1 8 (.load (.t 7)),
    o1 9 (.fldA 1 (.t 3)),
    o0 (.store 1 (.t 9) (.t 8))]) (.keep [1, 2, 3]))
  (.seq (.seq (.ops [o1 10 (.fldA 2 (.t 1)),
    o1 11 (.load (.t 10)),
    o1 12 (.fldA 2 (.t 3)),
    o0 (.store 1 (.t 12) (.t 11))]) (.keep [1, 2, 3]))
  (.seq (.seq (.ops [o1 13 (.fldA 3 (.t 1)),
    o1 14 (.load (.t 13)),
    o1 15 (.fldA 3 (.t 3)),
    o0 (.store 1 (.t 15) (.t 14))]) (.keep [1, 2, 3]))
  (.seq (.seq (.ops [o1 16 (.fldA 4 (.t 1)),
    o1 17 (.load (.t 16)),
    o1 18 (.fldA 4 (.t 3)),
    o0 (.store 1 (.t 18) (.t 17))]) (.keep [2, 3]))
  (.seq (.seq (.ops [o1 19 (.loadN 5 (.t 3)),
    o0 (.store 5 (.t 2) (.t 19))]) (.keep [2]))
  (.ret)))))))), [.c 2 5]⟩

/- loop.example/cothreads/impl.turnsValid -/
def c_iturnsValid : AFn := ⟨4, .seq (.seq (.ops [o1 8 (.mv (.c (.b false)))]) (.keep [0, 1, 2, 3]))
  (.seq (.seq (.ops [o1 9 (.mv (.t 0)),
    o1 10 (.bin .geq (.t 9) (.c (.I 1))),
    o1 11 (.mv (.t 10)),
    ⟨some 12, (some (11, true)), [], false, .mv (.t 0)⟩,
    ⟨some 13, (some (11, true)), [], false, .bin .leq (.t 12) (.c (.I 3))⟩,
    o1 14 (.pick (.t 11) (.t 13) (.c (.b false))),
    o1 15 (.mv (.t 14)),
    ⟨some 16, (some (15, true)), [], false, .mv (.t 1)⟩,
    ⟨some 17, (some (15, true)), [], false, .bin .geq (.t 16) (.c (.I 0))⟩,
    o1 18 (.pick (.t 15) (.t 17) (.c (.b false))),
    o1 19 (.mv (.t 18)),
    ⟨some 20, (some (19, true)), [], false, .mv (.t 1)⟩,
    ⟨some 21, (some (19, true)), [], false, .mv (.t 0)⟩,
    ⟨some 22, (some (19, true)), [], false, .bin .lss (.t 20) (.t 21)⟩,
    o1 23 (.pick (.t 19) (.t 22) (.c (.b false))),
    o1 24 (.mv (.t 23)),
    ⟨some 25, (some (24, true)), [], false, .mv (.t 2)⟩,
    ⟨some 26, (some (24, true)), [], false, .bin .geq (.t 25) (.c (.I 0))⟩,
    o1 27 (.pick (.t 24) (.t 26) (.c (.b false))),
    o1 28 (.mv (.t 27)),
    ⟨some 29, (some (28, true)), [], false, .mv (.t 2)⟩,
    ⟨some 30, (some (28, true)), [], false, .mv (.t 0)⟩,
    ⟨some 31, (some (28, true)), [], false, .bin .leq (.t 29) (.t 30)⟩,
    o1 32 (.pick (.t 28) (.t 31) (.c (.b false))),
    o1 33 (.mv (.t 32)),
    ⟨some 34, (some (33, true)), [], false, .mv (.t 3)⟩,
    ⟨some 35, (some (33, true)), [], false, .call f_iareWords [(.t 34)]⟩,
    o1 36 (.pick (.t 33) (.t 35) (.c (.b false))),
    o1 8 (.mv (.t 36))]) (.keep [8]))
  (.ret)), [.t 8]⟩

/- loop.example/cothreads/impl.ThreadValid -/
def c_iThreadValid : AFn := ⟨2, .seq (.seq (.ops [o1 2 (.box (.t 0)),
    o1 4 (.mv (.c (.b false)))]) (.keep [1, 2]))
  (.seq (.seq (.ops [o1 5 (.mv (.t 1)),
    o1 6 (.call f_iCodeValid [(.t 5)]),
    o1 7 (.mv (.t 6)),
    ⟨some 8, (some (7, true)), [], false, .loadN 2 (.t 2)⟩,
    ⟨some 9, (some (7, true)), [], false, .mv (.t 1)⟩,
    ⟨some 10, (some (7, true)), [], false, .call f_ithreadFits [(.t 8), (.t 9)]⟩,
    o1 11 (.pick (.t 7) (.t 10) (.c (.b false))),
    o1 4 (.mv (.t 11))]) (.keep [4]))
  (.ret)), [.t 4]⟩

/- loop.example/cothreads/impl.boxThere -/
def c_iboxThere : AFn := ⟨2, .seq (.seq (.ops [o1 2 (.box (.t 0)),
    o1 4 (.mv (.c (.b false)))]) (.keep [1, 2]))
  (.seq (.seq (.ops [o1 5 (.fldA 0 (.t 2)),
    o1 6 (.load (.t 5)),
    o1 7 (.bin .neq (.t 6) (.c (.I 6))),
    o1 8 (.mv (.t 7)),
    ⟨some 9, (some (8, true)), [], false, .fldA 0 (.t 2)⟩,
    ⟨some 10, (some (8, true)), [], false, .load (.t 9)⟩,
    ⟨some 11, (some (8, true)), [], false, .bin .neq (.t 10) (.c (.I 7))⟩,
    o1 12 (.pick (.t 8) (.t 11) (.c (.b false))),
    o1 13 (.mv (.t 12)),
    ⟨some 14, (some (13, false)), [], false, .fldA 4 (.t 2)⟩,
    ⟨some 15, (some (13, false)), [], false, .load (.t 14)⟩,
    ⟨some 16, (some (13, false)), [], false, .mv (.t 1)⟩,
    ⟨some 17, (some (13, false)), [], false, .bin .lss (.t 15) (.t 16)⟩,
    o1 18 (.pick (.t 13) (.c (.b true)) (.t 17)),
    o1 4 (.mv (.t 18))]) (.keep [4]))
  (.ret)), [.t 4]⟩

/- slices.Clone[[]loop.example/cothreads/impl.Quad,loop.example/cothreads/impl.Quad] -/
def c_slices_Clone_iQuad_iQuad : AFn := ⟨1, .seq (.seq (.ops [o1 2 (.mv (.c .nils))]) (.keep [0]))
  (.seq (.seq (.seq (.ops [o1 3 (.mv (.t 0)),
    o1 4 (.eqN 0 false (.t 3) (.c .nils))]) (.keep [0, 4]))
  (.seq (.cond (.t 4)
  (.seq (.ops [o1 2 (.mv (.c .nils))])
  (.ret))
  (.skip)) (.keep [0])))
  (.seq (.seq (.ops [o1 5 (.bsl [] 0 []),
    o1 6 (.mv (.t 0)),
    o1 7 (.app 5 (.t 5) (.t 6)),
    o1 2 (.mv (.t 7))]) (.keep [2]))
  (.ret))), [.t 2]⟩

/- loop.example/cothreads/impl.NextTurn -/
def c_iNextTurn : AFn := ⟨4, .seq (.seq (.ops [o1 8 (.mv (.c (.I 0))),
    o1 9 (.mv (.c (.I 0))),
    o1 10 (.mv (.c (.b false)))]) (.keep [0, 1, 2, 3]))
  (.seq (.seq (.seq (.ops [o1 11 (.mv (.t 0)),
    o1 12 (.bin .lss (.t 11) (.c (.I 1))),
    o1 13 (.mv (.t 12)),
    ⟨some 14, (some (13, false)), [], false, .mv (.t 0)⟩,
    ⟨some 15, (some (13, false)), [], false, .bin .gtr (.t 14) (.c (.I 3))⟩,
    o1 16 (.pick (.t 13) (.c (.b true)) (.t 15)),
    o1 17 (.mv (.t 16)),
    ⟨some 18, (some (17, false)), [], false, .mv (.t 1)⟩,
    ⟨some 19, (some (17, false)), [], false, .bin .lss (.t 18) (.c (.I 0))⟩,
    o1 20 (.pick (.t 17) (.c (.b true)) (.t 19)),
    o1 21 (.mv (.t 20)),
    ⟨some 22, (some (21, false)), [], false, .mv (.t 1)⟩,
    ⟨some 23, (some (21, false)), [], false, .mv (.t 0)⟩,
    ⟨some 24, (some (21, false)), [], false, .bin .geq (.t 22) (.t 23)⟩,
    o1 25 (.pick (.t 21) (.c (.b true)) (.t 24)),
    o1 26 (.mv (.t 25)),
    ⟨some 27, (some (26, false)), [], false, .mv (.t 2)⟩,
    ⟨some 28, (some (26, false)), [], false, .bin .lss (.t 27) (.c (.I 0))⟩,
    o1 29 (.pick (.t 26) (.c (.b true)) (.t 28)),
    o1 30 (.mv (.t 29)),
    ⟨some 31, (some (30, false)), [], false, .mv (.t 2)⟩,
    ⟨some 32, (some (30, false)), [], false, .mv (.t 0)⟩,
    ⟨some 33, (some (30, false)), [], false, .bin .geq (.t 31) (.t 32)⟩,
    o1 34 (.pick (.t 30) (.c (.b true)) (.t 33))]) (.keep [0, 1, 2, 3, 34]))
  (.seq (.cond (.t 34)
  (.seq (.ops [o1 8 (.mv (.c (.I 0))),
    o1 9 (.mv (.c (.I 0))),
    o1 10 (.mv (.c (.b false)))])
  (.ret))
  (.skip)) (.keep [0, 1, 2, 3])))
  (.seq (.seq (.ops [o1 35 (.mv (.t 3))])
  (.seq (.block 0 (.seq (.seq (.ops [o1 37 (.bin .eql (.t 35) (.c (.I 1))),
    o1 36 (.mv (.t 37))]) (.keep [0, 1, 2, 35, 36]))
  (.seq (.cond (.t 36)
  (.seq (.seq (.ops [o1 38 (.mv (.t 1)),
    o1 8 (.mv (.t 38)),
    o1 9 (.mv (.c (.I 0))),
    o1 10 (.mv (.c (.b true)))]) (.keep [8, 9, 10]))
  (.ret))
  (.seq (.seq (.ops [o1 40 (.bin .eql (.t 35) (.c (.I 2))),
    o1 39 (.mv (.t 40))]) (.keep [0, 1, 2, 35, 39]))
  (.seq (.cond (.t 39)
  (.seq (.seq (.ops [o1 41 (.mv (.t 1)),
    o1 42 (.bin .add (.t 41) (.c (.I 1))),
    o1 43 (.mv (.t 0)),
    o1 44 (.bin .rem (.t 42) (.t 43)),
    o1 8 (.mv (.t 44)),
    o1 9 (.mv (.c (.I 0))),
    o1 10 (.mv (.c (.b true)))]) (.keep [8, 9, 10]))
  (.ret))
  (.seq (.seq (.seq (.ops [o1 46 (.bin .eql (.t 35) (.c (.I 3))),
    o1 45 (.mv (.t 46))]) (.keep [0, 1, 2, 35, 45]))
  (.seq (.cond (.t 45)
  (.skip)
  (.seq (.ops [o1 47 (.bin .eql (.t 35) (.c (.I 4))),
    o1 45 (.mv (.t 47))]) (.keep [0, 1, 2, 45]))) (.keep [0, 1, 2, 45])))
  (.seq (.cond (.t 45)
  (.seq (.seq (.ops [o1 48 (.mv (.t 1)),
    o1 49 (.bin .add (.t 48) (.c (.I 1))),
    o1 50 (.mv (.t 0)),
    o1 51 (.bin .rem (.t 49) (.t 50)),
    o1 52 (.mv (.t 2)),
    o1 53 (.bin .add (.t 52) (.c (.I 1))),
    o1 8 (.mv (.t 51)),
    o1 9 (.mv (.t 53)),
    o1 10 (.mv (.c (.b true)))]) (.keep [8, 9, 10]))
  (.ret))
  (.skip)) (.keep [])))) (.keep [])))) (.keep [])))) (.keep [])))
  (.seq (.ops [o1 8 (.mv (.c (.I 0))),
    o1 9 (.mv (.c (.I 0))),
    o1 10 (.mv (.c (.b false)))])
  (.ret)))), [.t 8, .t 9, .t 10]⟩

/- loop.example/cothreads/impl.apply -/
def c_iapply : AFn := ⟨3, .seq (.seq (.ops [o1 6 (.mv (.c (.I 0)))]) (.keep [0, 1, 2]))
  (.seq (.seq (.ops [o1 7 (.mv (.t 0))])
  (.seq (.block 0 (.seq (.seq (.ops [o1 9 (.bin .eql (.t 7) (.c (.I 1))),
    o1 8 (.mv (.t 9))]) (.keep [1, 2, 7, 8]))
  (.seq (.cond (.t 8)
  (.seq (.seq (.ops [o1 10 (.mv (.t 1)),
    o1 11 (.mv (.t 2)),
    o1 12 (.bin .or (.t 10) (.t 11)),
    o1 6 (.mv (.t 12))]) (.keep [6]))
  (.ret))
  (.seq (.seq (.ops [o1 14 (.bin .eql (.t 7) (.c (.I 2))),
    o1 13 (.mv (.t 14))]) (.keep [1, 2, 7, 13]))
  (.seq (.cond (.t 13)
  (.seq (.seq (.ops [o1 15 (.mv (.t 1)),
    o1 16 (.mv (.t 2)),
    o1 17 (.bin .xor (.t 15) (.t 16)),
    o1 6 (.mv (.t 17))]) (.keep [6]))
  (.ret))
  (.seq (.seq (.ops [o1 19 (.bin .eql (.t 7) (.c (.I 3))),
    o1 18 (.mv (.t 19))]) (.keep [1, 2, 7, 18]))
  (.seq (.cond (.t 18)
  (.seq (.seq (.ops [o1 20 (.mv (.t 1)),
    o1 21 (.mv (.t 2)),
    o1 22 (.bin .and (.t 20) (.t 21)),
    o1 6 (.mv (.t 22))]) (.keep [6]))
  (.ret))
  (.seq (.seq (.ops [o1 24 (.bin .eql (.t 7) (.c (.I 4))),
    o1 23 (.mv (.t 24))]) (.keep [1, 2, 7, 23]))
  (.seq (.cond (.t 23)
  (.seq (.seq (.ops [o1 25 (.mv (.t 1)),
    o1 26 (.mv (.t 2)),
    o1 27 (.bin .eql (.t 25) (.t 26)),
    o1 28 (.call f_itruth [(.t 27)]),
    o1 6 (.mv (.t 28))]) (.keep [6]))
  (.ret))
  (.seq (.seq (.ops [o1 30 (.bin .eql (.t 7) (.c (.I 5))),
    o1 29 (.mv (.t 30))]) (.keep [1, 2, 7, 29]))
  (.seq (.cond (.t 29)
  (.seq (.seq (.ops [o1 31 (.mv (.t 1)),
    o1 32 (.mv (.t 2)),
    o1 33 (.bin .lss (.t 31) (.t 32)),
    o1 34 (.call f_itruth [(.t 33)]),
    o1 6 (.mv (.t 34))]) (.keep [6]))
  (.ret))
  (.seq (.seq (.ops [o1 36 (.bin .eql (.t 7) (.c (.I 6))),
    o1 35 (.mv (.t 36))]) (.keep [1, 2, 7, 35]))
  (.seq (.cond (.t 35)
  (.seq (.seq (.ops [o1 37 (.mv (.t 1)),
    o1 38 (.mv (.t 2)),
    o1 39 (.bin .and (.t 38) (.c (.I 31))),
    o1 40 (.bin .shl (.t 37) (.t 39)),
    o1 41 (.call f_iWrap [(.t 40)]),
    o1 6 (.mv (.t 41))]) (.keep [6]))
  (.ret))
  (.seq (.seq (.ops [o1 43 (.bin .eql (.t 7) (.c (.I 7))),
    o1 42 (.mv (.t 43))]) (.keep [1, 2, 7, 42]))
  (.seq (.cond (.t 42)
  (.seq (.seq (.ops [o1 44 (.mv (.t 1)),
    o1 45 (.mv (.t 2)),
    o1 46 (.bin .and (.t 45) (.c (.I 31))),
    o1 47 (.bin .shr (.t 44) (.t 46)),
    o1 6 (.mv (.t 47))]) (.keep [6]))
  (.ret))
  (.seq (.seq (.ops [o1 49 (.bin .eql (.t 7) (.c (.I 8))),
    o1 48 (.mv (.t 49))]) (.keep [1, 2, 7, 48]))
  (.seq (.cond (.t 48)
  (.seq (.seq (.ops [o1 50 (.mv (.t 1)),
    o1 51 (.mv (.t 2)),
    o1 52 (.bin .add (.t 50) (.t 51)),
    o1 53 (.call f_iWrap [(.t 52)]),
    o1 6 (.mv (.t 53))]) (.keep [6]))
  (.ret))
  (.seq (.seq (.ops [o1 55 (.bin .eql (.t 7) (.c (.I 9))),
    o1 54 (.mv (.t 55))]) (.keep [1, 2, 7, 54]))
  (.seq (.cond (.t 54)
  (.seq (.seq (.ops [o1 56 (.mv (.t 1)),
    o1 57 (.mv (.t 2)),
    o1 58 (.bin .sub (.t 56) (.t 57)),
    o1 59 (.call f_iWrap [(.t 58)]),
    o1 6 (.mv (.t 59))]) (.keep [6]))
  (.ret))
  (.seq (.seq (.ops [o1 61 (.bin .eql (.t 7) (.c (.I 10))),
    o1 60 (.mv (.t 61))]) (.keep [1, 2, 7, 60]))
  (.seq (.cond (.t 60)
  (.seq (.seq (.ops [o1 62 (.mv (.t 1)),
    o1 63 (.mv (.t 2)),
    o1 64 (.bin .mul (.t 62) (.t 63)),
    o1 65 (.call f_iWrap [(.t 64)]),
    o1 6 (.mv (.t 65))]) (.keep [6]))
  (.ret))
  (.seq (.seq (.ops [o1 67 (.bin .eql (.t 7) (.c (.I 11))),
    o1 66 (.mv (.t 67))]) (.keep [1, 2, 66]))
  (.seq (.cond (.t 66)
  (.seq (.seq (.seq (.ops [o1 68 (.mv (.t 2)),
    o1 69 (.bin .eql (.t 68) (.c (.I 0)))]) (.keep [1, 2, 69]))
  (.seq (.cond (.t 69)
  (.seq (.ops [o1 6 (.mv (.c (.I (-1))))])
  (.ret))
  (.skip)) (.keep [1, 2])))
  (.seq (.seq (.ops [o1 70 (.mv (.t 1)),
    o1 71 (.mv (.t 2)),
    o1 72 (.bin .quo (.t 70) (.t 71)),
    o1 73 (.call f_iWrap [(.t 72)]),
    o1 6 (.mv (.t 73))]) (.keep [6]))
  (.ret)))
  (.skip)) (.keep [1, 2])))) (.keep [1, 2])))) (.keep [1, 2])))) (.keep [1, 2])))) (.keep [1, 2])))) (.keep [1, 2])))) (.keep [1, 2])))) (.keep [1, 2])))) (.keep [1, 2])))) (.keep [1, 2])))) (.keep [1, 2])))) (.keep [1, 2])))
  (.seq (.seq (.seq (.ops [o1 74 (.mv (.t 2)),
    o1 75 (.bin .eql (.t 74) (.c (.I 0)))]) (.keep [1, 2, 75]))
  (.seq (.cond (.t 75)
  (.seq (.seq (.ops [o1 76 (.mv (.t 1)),
    o1 6 (.mv (.t 76))]) (.keep [6]))
  (.ret))
  (.skip)) (.keep [1, 2])))
  (.seq (.seq (.ops [o1 77 (.mv (.t 1)),
    o1 78 (.mv (.t 2)),
    o1 79 (.bin .rem (.t 77) (.t 78)),
    o1 6 (.mv (.t 79))]) (.keep [6]))
  (.ret)))), [.t 6]⟩

/- loop.example/cothreads/laws.eqQuad -/
def c_weqQuad : AFn := ⟨2, .seq (.seq (.ops [o1 2 (.box (.t 0)),
    o1 3 (.box (.t 1)),
    o1 4 (.mv (.c (.b false)))]) (.keep [2, 3]))
  (.seq (.seq (.seq (.ops [o1 5 (.fldA 0 (.t 2)),
    o1 6 (.load (.t 5)),
    o1 7 (.fldA 0 (.t 3)),
    o1 8 (.load (.t 7)),
    o1 9 (.bin .neq (.t 6) (.t 8))]) (.keep [2, 3, 9]))
  (.seq (.cond (.t 9)
  (.seq (.ops [o1 4 (.mv (.c (.b false)))])
  (.ret))
  (.skip)) (.keep [2, 3])))
  (.seq (.seq (.seq (.ops [o1 10 (.fldA 1 (.t 2)),
    o1 11 (.load (.t 10)),
    o1 12 (.fldA 1 (.t 3)),
    o1 13 (.load (.t 12)),
    o1 14 (.bin .neq (.t 11) (.t 13))]) (.keep [2, 3, 14]))
  (.seq (.cond (.t 14)
  (.seq (.ops [o1 4 (.mv (.c (.b false)))])
  (.ret))
  (.skip)) (.keep [2, 3])))
  (.seq (.seq (.seq (.ops [o1 15 (.fldA 2 (.t 2)),
    o1 16 (.load (.t 15)),
    o1 17 (.fldA 2 (.t 3)),
    o1 18 (.load (.t 17)),
    o1 19 (.bin .neq (.t 16) (.t 18))]) (.keep [2, 3, 19]))
  (.seq (.cond (.t 19)
  (.seq (.ops [o1 4 (.mv (.c (.b false)))])
  (.ret))
  (.skip)) (.keep [2, 3])))
  (.seq (.seq (.seq (.ops [o1 20 (.fldA 3 (.t 2)),
    o1 21 (.load (.t 20)),
    o1 22 (.fldA 3 (.t 3)),
    o1 23 (.load (.t 22)),
    o1 24 (.bin .neq (.t 21) (.t 23))]) (.keep [2, 3, 24]))
  (.seq (.cond (.t 24)
  (.seq (.ops [o1 4 (.mv (.c (.b false)))])
  (.ret))
  (.skip)) (.keep [2, 3])))
  (.seq (.seq (.seq (.ops [o1 25 (.fldA 4 (.t 2)),
    o1 26 (.load (.t 25)),
    o1 27 (.fldA 4 (.t 3)),
    o1 28 (.load (.t 27)),
    o1 29 (.bin .neq (.t 26) (.t 28))]) (.keep [29]))
  (.seq (.cond (.t 29)
  (.seq (.ops [o1 4 (.mv (.c (.b false)))])
  (.ret))
  (.skip)) (.keep [])))
  (.seq (.ops [o1 4 (.mv (.c (.b true)))])
  (.ret))))))), [.t 4]⟩

/- loop.example/cothreads/spec.WordValid -/
def c_sWordValid : AFn := ⟨1, .seq (.seq (.ops [o1 2 (.mv (.c (.b false)))]) (.keep [0]))
  (.seq (.seq (.ops [o1 3 (.mv (.t 0)),
    o1 4 (.call f_sl6In [(.t 3), (.c (.I (-2147483648))), (.c (.I 2147483647))]),
    o1 2 (.mv (.t 4))]) (.keep [2]))
  (.ret)), [.t 2]⟩

/- loop.example/cothreads/spec.OpValid -/
def c_sOpValid : AFn := ⟨1, .seq (.seq (.ops [o1 2 (.mv (.c (.b false)))]) (.keep [0]))
  (.seq (.seq (.ops [o1 3 (.mv (.t 0)),
    o1 4 (.call f_sl6In [(.t 3), (.c (.I 1)), (.c (.I 12))]),
    o1 2 (.mv (.t 4))]) (.keep [2]))
  (.ret)), [.t 2]⟩

/- loop.example/cothreads/spec.l2Flag -/
def c_sl2Flag : AFn := ⟨1, .seq (.seq (.ops [o1 2 (.mv (.c (.I 0)))]) (.keep [0]))
  (.seq (.seq (.ops [o1 3 (.mv (.t 0))])
  (.seq (.cond (.t 3)
  (.seq (.ops [o1 2 (.mv (.c (.I 1)))])
  (.ret))
  (.skip)) (.keep [])))
  (.seq (.ops [o1 2 (.mv (.c (.I 0)))])
  (.ret))), [.t 2]⟩

/- loop.example/cothreads/spec.l2Shift -/
def c_sl2Shift : AFn := ⟨3, .seq (.seq (.ops [o1 6 (.mv (.c (.I 0)))]) (.keep [0, 1, 2]))
  (.seq (.seq (.ops [o1 7 (.mv (.t 2))])
  (.seq (.cond (.t 7)
  (.seq (.seq (.ops [o1 8 (.mv (.t 0)),
    o1 9 (.mv (.t 1)),
    o1 10 (.bin .and (.t 9) (.c (.I 31))),
    o1 11 (.bin .shr (.t 8) (.t 10)),
    o1 6 (.mv (.t 11))]) (.keep [6]))
  (.ret))
  (.skip)) (.keep [0, 1])))
  (.seq (.seq (.ops [o1 12 (.mv (.t 0)),
    o1 13 (.mv (.t 1)),
    o1 14 (.bin .and (.t 13) (.c (.I 31))),
    o1 15 (.bin .shl (.t 12) (.t 14)),
    o1 16 (.call f_sWrap [(.t 15)]),
    o1 6 (.mv (.t 16))]) (.keep [6]))
  (.ret))), [.t 6]⟩

/- loop.example/cothreads/spec.Wrap -/
def c_sWrap : AFn := ⟨1, .seq (.seq (.ops [o1 2 (.mv (.c (.I 0)))]) (.keep [0]))
  (.seq (.seq (.ops [o1 4 (.mv (.t 0)),
    o1 5 (.bin .rem (.t 4) (.c (.I 4294967296))),
    o1 3 (.mv (.t 5))]) (.keep [3]))
  (.seq (.seq (.seq (.ops [o1 6 (.mv (.t 3)),
    o1 7 (.bin .gtr (.t 6) (.c (.I 2147483647)))]) (.keep [3, 7]))
  (.seq (.cond (.t 7)
  (.seq (.seq (.ops [o1 8 (.mv (.t 3)),
    o1 9 (.bin .sub (.t 8) (.c (.I 4294967296))),
    o1 2 (.mv (.t 9))]) (.keep [2]))
  (.ret))
  (.skip)) (.keep [3])))
  (.seq (.seq (.seq (.ops [o1 10 (.mv (.t 3)),
    o1 11 (.bin .lss (.t 10) (.c (.I (-2147483648))))]) (.keep [3, 11]))
  (.seq (.cond (.t 11)
  (.seq (.seq (.ops [o1 12 (.mv (.t 3)),
    o1 13 (.bin .add (.t 12) (.c (.I 4294967296))),
    o1 2 (.mv (.t 13))]) (.keep [2]))
  (.ret))
  (.skip)) (.keep [3])))
  (.seq (.seq (.ops [o1 14 (.mv (.t 3)),
    o1 2 (.mv (.t 14))]) (.keep [2]))
  (.ret))))), [.t 2]⟩

/- loop.example/cothreads/spec.l2Divide -/
def c_sl2Divide : AFn := ⟨2, .seq (.seq (.ops [o1 4 (.mv (.c (.I 0)))]) (.keep [0, 1]))
  (.seq (.seq (.seq (.ops [o1 5 (.mv (.t 1)),
    o1 6 (.bin .eql (.t 5) (.c (.I 0)))]) (.keep [0, 1, 6]))
  (.seq (.cond (.t 6)
  (.seq (.ops [o1 4 (.mv (.c (.I (-1))))])
  (.ret))
  (.skip)) (.keep [0, 1])))
  (.seq (.seq (.ops [o1 7 (.mv (.t 0)),
    o1 8 (.mv (.t 1)),
    o1 9 (.bin .quo (.t 7) (.t 8)),
    o1 10 (.call f_sWrap [(.t 9)]),
    o1 4 (.mv (.t 10))]) (.keep [4]))
  (.ret))), [.t 4]⟩

/- loop.example/cothreads/spec.l2Remain -/
def c_sl2Remain : AFn := ⟨2, .seq (.seq (.ops [o1 4 (.mv (.c (.I 0)))]) (.keep [0, 1]))
  (.seq (.seq (.seq (.ops [o1 5 (.mv (.t 1)),
    o1 6 (.bin .eql (.t 5) (.c (.I 0)))]) (.keep [0, 1, 6]))
  (.seq (.cond (.t 6)
  (.seq (.seq (.ops [o1 7 (.mv (.t 0)),
    o1 4 (.mv (.t 7))]) (.keep [4]))
  (.ret))
  (.skip)) (.keep [0, 1])))
  (.seq (.seq (.ops [o1 8 (.mv (.t 0)),
    o1 9 (.mv (.t 1)),
    o1 10 (.bin .rem (.t 8) (.t 9)),
    o1 4 (.mv (.t 10))]) (.keep [4]))
  (.ret))), [.t 4]⟩

/- loop.example/cothreads/impl.areWords -/
def c_iareWords_l0 : AC := .seq (.seq (.ops [o1 8 (.bin .lss (.t 7) (.t 6))])
  (.seq (.seq (.cond (.t 8)
  (.skip)
  (.exit 0)) (.keep [5, 6, 7]))
  (.seq (.seq (.block 1 (.seq (.seq (.ops [o1 9 (.idxA 1 (.t 5) (.t 7)),
    o1 10 (.load (.t 9)),
    o1 4 (.mv (.t 10))]) (.keep [4, 5, 6, 7]))
  (.seq (.seq (.ops [o1 11 (.mv (.t 4)),
    o1 12 (.call f_iWordValid [(.t 11)]),
    o1 13 (.un .not (.t 12))]) (.keep [5, 6, 7, 13]))
  (.seq (.cond (.t 13)
  (.seq (.ops [o1 2 (.mv (.c (.b false)))])
  (.ret))
  (.skip)) (.keep [5, 6, 7]))))) (.keep [5, 6, 7]))
  (.seq (.ops [o1 14 (.bin .add (.t 7) (.c (.I 1))),
    o1 7 (.mv (.t 14))]) (.keep [5, 6, 7]))))) (.keep [5, 6, 7])
def c_iareWords : AFn := ⟨1, .seq (.seq (.ops [o1 2 (.mv (.c (.b false)))]) (.keep [0]))
  (.seq (.seq (.ops [o1 5 (.mv (.t 0)),
    o1 6 (.len (.t 5)),
    o1 7 (.mv (.c (.I 0)))])
  (.seq (.block 0 (.seq (.keep [5, 6, 7]) (.loop c_iareWords_l0))) (.keep [])))
  (.seq (.ops [o1 2 (.mv (.c (.b true)))])
  (.ret))), [.t 2]⟩

/- loop.example/cothreads/spec.CodeValid -/
def c_sCodeValid_l0 : AC := .seq (.seq (.seq (.seq (.ops [o1 10 (.mv (.t 4)),
    o1 11 (.mv (.t 3)),
    o1 12 (.bin .lss (.t 10) (.t 11))]) (.keep [0, 3, 4, 12]))
  (.seq (.cond (.t 12)
  (.skip)
  (.exit 0)) (.keep [0, 3, 4])))
  (.seq (.seq (.block 1 (.seq (.seq (.ops [o1 15 (.mv (.t 0)),
    o1 16 (.mv (.t 4)),
    o1 17 (.idxA 5 (.t 15) (.t 16)),
    o1 18 (.loadN 5 (.t 17)),
    o1 19 (.mv (.t 3)),
    o1 20 (.call f_sQuadValid [(.t 18), (.t 19)]),
    o1 21 (.un .not (.t 20))]) (.keep [0, 3, 4, 21]))
  (.seq (.cond (.t 21)
  (.seq (.ops [o1 2 (.mv (.c (.b false)))])
  (.ret))
  (.skip)) (.keep [0, 3, 4])))) (.keep [0, 3, 4]))
  (.seq (.ops [o1 13 (.mv (.t 4)),
    o1 14 (.bin .add (.t 13) (.c (.I 1))),
    o1 4 (.mv (.t 14))]) (.keep [0, 3, 4])))) (.keep [0, 3, 4])
def c_sCodeValid : AFn := ⟨1, .seq (.seq (.ops [o1 2 (.mv (.c (.b false)))]) (.keep [0]))
  (.seq (.seq (.ops [o1 5 (.mv (.t 0)),
    o1 6 (.len (.t 5)),
    o1 3 (.mv (.t 6))]) (.keep [0, 3]))
  (.seq (.seq (.seq (.ops [o1 7 (.mv (.t 3)),
    o1 8 (.call f_sl6In [(.t 7), (.c (.I 1)), (.c (.I 600))]),
    o1 9 (.un .not (.t 8))]) (.keep [0, 3, 9]))
  (.seq (.cond (.t 9)
  (.seq (.ops [o1 2 (.mv (.c (.b false)))])
  (.ret))
  (.skip)) (.keep [0, 3])))
  (.seq (.seq (.ops [o1 4 (.mv (.c (.I 0)))])
  (.seq (.block 0 (.seq (.keep [0, 3, 4]) (.loop c_sCodeValid_l0))) (.keep [0, 3])))
  (.seq (.seq (.ops [o1 22 (.mv (.t 0)),
    o1 23 (.mv (.t 3)),
    o1 24 (.bin .sub (.t 23) (.c (.I 1))),
    o1 25 (.idxA 5 (.t 22) (.t 24)),
    o1 26 (.fldA 0 (.t 25)),
    o1 27 (.load (.t 26)),
    o1 28 (.bin .eql (.t 27) (.c (.I 10))),
    o1 29 (.mv (.t 28)),
    ⟨some 30, (some (29, false)), [], false, .mv (.t 0)⟩,
    ⟨some 31, (some (29, false)), [], false, .mv (.t 3)⟩,
    ⟨some 32, (some (29, false)), [], false, .bin .sub (.t 31) (.c (.I 1))⟩,
    ⟨some 33, (some (29, false)), [], false, .idxA 5 (.t 30) (.t 32)⟩,
    ⟨some 34, (some (29, false)), [], false, .fldA 0 (.t 33)⟩,
    ⟨some 35, (some (29, false)), [], false, .load (.t 34)⟩,
    ⟨some 36, (some (29, false)), [], false, .bin .eql (.t 35) (.c (.I 4))⟩,
    o1 37 (.pick (.t 29) (.c (.b true)) (.t 36)),
    o1 2 (.mv (.t 37))]) (.keep [2]))
  (.ret))))), [.t 2]⟩

/- loop.example/cothreads/spec.l23Fits -/
def c_sl23Fits : AFn := ⟨2, .seq (.seq (.ops [o1 2 (.box (.t 0)),
    o1 4 (.mv (.c (.b false)))]) (.keep [1, 2]))
  (.seq (.seq (.ops [o1 5 (.fldA 0 (.t 2)),
    o1 6 (.load (.t 5)),
    o1 7 (.call f_sl4Words [(.t 6), (.c (.I 12))]),
    o1 8 (.mv (.t 7)),
    ⟨some 9, (some (8, true)), [], false, .fldA 1 (.t 2)⟩,
    ⟨some 10, (some (8, true)), [], false, .load (.t 9)⟩,
    ⟨some 11, (some (8, true)), [], false, .mv (.t 1)⟩,
    ⟨some 12, (some (8, true)), [], false, .bin .sub (.t 11) (.c (.I 1))⟩,
    ⟨some 13, (some (8, true)), [], false, .call f_sl6In [(.t 10), (.c (.I 0)), (.t 12)]⟩,
    o1 14 (.pick (.t 8) (.t 13) (.c (.b false))),
    o1 4 (.mv (.t 14))]) (.keep [4]))
  (.ret)), [.t 4]⟩

/- loop.example/cothreads/spec.l23Quad -/
def c_sl23Quad : AFn := ⟨2, .seq (.seq (.ops [o1 2 (.box (.t 0)),
    o1 4 (.mv (.c (.b false)))]) (.keep [1, 2]))
  (.seq (.seq (.ops [o1 5 (.fldA 0 (.t 2)),
    o1 6 (.load (.t 5)),
    o1 7 (.bin .neq (.t 6) (.c (.I 6))),
    o1 8 (.mv (.t 7)),
    ⟨some 9, (some (8, true)), [], false, .fldA 0 (.t 2)⟩,
    ⟨some 10, (some (8, true)), [], false, .load (.t 9)⟩,
    ⟨some 11, (some (8, true)), [], false, .bin .neq (.t 10) (.c (.I 7))⟩,
    o1 12 (.pick (.t 8) (.t 11) (.c (.b false))),
    o1 13 (.mv (.t 12)),
    ⟨some 14, (some (13, false)), [], false, .fldA 4 (.t 2)⟩,
    ⟨some 15, (some (13, false)), [], false, .load (.t 14)⟩,
    ⟨some 16, (some (13, false)), [], false, .mv (.t 1)⟩,
    ⟨some 17, (some (13, false)), [], false, .bin .lss (.t 15) (.t 16)⟩,
    o1 18 (.pick (.t 13) (.c (.b true)) (.t 17)),
    o1 4 (.mv (.t 18))]) (.keep [4]))
  (.ret)), [.t 4]⟩

/- loop.example/cothreads/spec.l23Talk -/
def c_sl23Talk : AFn := ⟨3, .seq (.seq (.ops [o1 3 (.box (.t 0)),
    o1 4 (.box (.t 1)),
    o1 6 (.alloc [.nils, (.I 0)]),
    o1 7 (.mv (.c .nils)),
    o1 8 (.mv (.c (.I 0)))]) (.keep [2, 3, 4, 6]))
  (.seq (.seq (.ops [o1 15 (.mv (.t 2)),
    o1 16 (.call f_sl15BoxesCopy [(.t 15)]),
    o1 9 (.mv (.t 16))]) (.keep [2, 3, 4, 6, 9]))
  (.seq (.seq (.seq (.ops [o1 17 (.fldA 0 (.t 3)),
    o1 18 (.load (.t 17)),
    o1 19 (.bin .eql (.t 18) (.c (.I 6)))]) (.keep [2, 3, 4, 6, 9, 19]))
  (.seq (.cond (.t 19)
  (.seq (.seq (.ops [o1 21 (.mv (.t 2)),
    o1 22 (.fldA 4 (.t 3)),
    o1 23 (.load (.t 22)),
    o1 24 (.idxA 2 (.t 21) (.t 23)),
    o1 25 (.loadN 2 (.t 24)),
    o1 26 (.fldA 0 (.t 4)),
    o1 27 (.load (.t 26)),
    o1 28 (.fldA 2 (.t 3)),
    o1 29 (.load (.t 28)),
    o1 30 (.idxA 1 (.t 27) (.t 29)),
    o1 31 (.load (.t 30)),
    ⟨some 32, none, [], true, .call f_sBoxPut [(.t 25), (.t 31)]⟩,
    o1 20 (.mv (.t 32)),
    o1 33 (.ext (.t 20) 0),
    o1 34 (.ext (.t 20) 1),
    o1 10 (.alloc [(.I 0), .nils]),
    o0 (.store 2 (.t 10) (.t 33)),
    o1 11 (.mv (.t 34))]) (.keep [3, 4, 6, 9, 10, 11]))
  (.seq (.seq (.seq (.ops [o1 35 (.mv (.t 11)),
    o1 36 (.un .not (.t 35))]) (.keep [3, 4, 6, 9, 10, 36]))
  (.seq (.cond (.t 36)
  (.seq (.seq (.ops [o1 37 (.loadN 2 (.t 4)),
    o1 38 (.fldA 1 (.t 4)),
    o1 39 (.load (.t 38)),
    o1 40 (.call f_sl23Go [(.t 37), (.t 39)]),
    o1 41 (.mv (.t 9)),
    o0 (.store 2 (.t 6) (.t 40)),
    o1 7 (.mv (.t 41)),
    o1 8 (.mv (.c (.I 3)))]) (.keep [6, 7, 8]))
  (.ret))
  (.skip)) (.keep [3, 4, 6, 9, 10])))
  (.seq (.seq (.ops [o1 42 (.mv (.t 9)),
    o1 43 (.fldA 4 (.t 3)),
    o1 44 (.load (.t 43)),
    o1 45 (.loadN 2 (.t 10)),
    o1 46 (.idxA 2 (.t 42) (.t 44)),
    o0 (.store 2 (.t 46) (.t 45))]) (.keep [4, 6, 9]))
  (.seq (.seq (.ops [o1 47 (.loadN 2 (.t 4)),
    o1 48 (.fldA 1 (.t 4)),
    o1 49 (.load (.t 48)),
    o1 50 (.bin .add (.t 49) (.c (.I 1))),
    o1 51 (.call f_sl23Go [(.t 47), (.t 50)]),
    o1 52 (.mv (.t 9)),
    o0 (.store 2 (.t 6) (.t 51)),
    o1 7 (.mv (.t 52)),
    o1 8 (.mv (.c (.I 1)))]) (.keep [6, 7, 8]))
  (.ret)))))
  (.skip)) (.keep [2, 3, 4, 6, 9])))
  (.seq (.seq (.ops [o1 54 (.mv (.t 2)),
    o1 55 (.fldA 4 (.t 3)),
    o1 56 (.load (.t 55)),
    o1 57 (.idxA 2 (.t 54) (.t 56)),
    o1 58 (.loadN 2 (.t 57)),
    o1 59 (.call f_sBoxTake [(.t 58)]),
    o1 53 (.mv (.t 59)),
    o1 60 (.ext (.t 53) 0),
    o1 61 (.ext (.t 53) 1),
    o1 62 (.ext (.t 53) 2),
    o1 12 (.alloc [(.I 0), .nils]),
    o0 (.store 2 (.t 12) (.t 60)),
    o1 13 (.mv (.t 61)),
    o1 14 (.mv (.t 62))]) (.keep [3, 4, 6, 9, 12, 13, 14]))
  (.seq (.seq (.seq (.ops [o1 63 (.mv (.t 14)),
    o1 64 (.un .not (.t 63))]) (.keep [3, 4, 6, 9, 12, 13, 64]))
  (.seq (.cond (.t 64)
  (.seq (.seq (.ops [o1 65 (.loadN 2 (.t 4)),
    o1 66 (.fldA 1 (.t 4)),
    o1 67 (.load (.t 66)),
    o1 68 (.call f_sl23Go [(.t 65), (.t 67)]),
    o1 69 (.mv (.t 9)),
    o0 (.store 2 (.t 6) (.t 68)),
    o1 7 (.mv (.t 69)),
    o1 8 (.mv (.c (.I 3)))]) (.keep [6, 7, 8]))
  (.ret))
  (.skip)) (.keep [3, 4, 6, 9, 12, 13])))
  (.seq (.seq (.ops [o1 70 (.mv (.t 9)),
    o1 71 (.fldA 4 (.t 3)),
    o1 72 (.load (.t 71)),
    o1 73 (.loadN 2 (.t 12)),
    o1 74 (.idxA 2 (.t 70) (.t 72)),
    o0 (.store 2 (.t 74) (.t 73))]) (.keep [3, 4, 6, 9, 13]))
  (.seq (.seq (.ops [o1 75 (.loadN 2 (.t 4)),
    o1 76 (.fldA 1 (.t 3)),
    o1 77 (.load (.t 76)),
    o1 78 (.mv (.t 13)),
    o1 79 (.fldA 1 (.t 4)),
    o1 80 (.load (.t 79)),
    o1 81 (.bin .add (.t 80) (.c (.I 1))),
    o1 82 (.call f_sl23Set [(.t 75), (.t 77), (.t 78), (.t 81)]),
    o1 83 (.mv (.t 9)),
    o0 (.store 2 (.t 6) (.t 82)),
    o1 7 (.mv (.t 83)),
    o1 8 (.mv (.c (.I 1)))]) (.keep [6, 7, 8]))
  (.ret))))))), [.c 6 2, .t 7, .t 8]⟩

/- loop.example/cothreads/spec.l23Pure -/
def c_sl23Pure : AFn := ⟨2, .seq (.ops [o1 2 (.box (.t 0)),
    o1 3 (.box (.t 1)),
    o1 4 (.alloc [.nils, (.I 0)])])
  (.seq (.seq (.seq (.ops [o1 7 (.fldA 0 (.t 2)),
    o1 8 (.load (.t 7))]) (.keep [2, 3, 4, 8]))
  (.seq (.block 0 (.seq (.seq (.ops [o1 10 (.bin .eql (.t 8) (.c (.I 1))),
    o1 9 (.mv (.t 10))]) (.keep [2, 3, 4, 8, 9]))
  (.seq (.cond (.t 9)
  (.seq (.seq (.ops [o1 11 (.loadN 2 (.t 3)),
    o1 12 (.fldA 1 (.t 2)),
    o1 13 (.load (.t 12)),
    o1 14 (.fldA 4 (.t 2)),
    o1 15 (.load (.t 14)),
    o1 16 (.fldA 1 (.t 3)),
    o1 17 (.load (.t 16)),
    o1 18 (.bin .add (.t 17) (.c (.I 1))),
    o1 19 (.call f_sl23Set [(.t 11), (.t 13), (.t 15), (.t 18)]),
    o0 (.store 2 (.t 4) (.t 19))]) (.keep [4]))
  (.ret))
  (.seq (.seq (.ops [o1 21 (.bin .eql (.t 8) (.c (.I 2))),
    o1 20 (.mv (.t 21))]) (.keep [2, 3, 4, 8, 20]))
  (.seq (.cond (.t 20)
  (.seq (.seq (.ops [o1 22 (.loadN 2 (.t 3)),
    o1 23 (.fldA 1 (.t 2)),
    o1 24 (.load (.t 23)),
    o1 25 (.fldA 0 (.t 3)),
    o1 26 (.load (.t 25)),
    o1 27 (.fldA 2 (.t 2)),
    o1 28 (.load (.t 27)),
    o1 29 (.idxA 1 (.t 26) (.t 28)),
    o1 30 (.load (.t 29)),
    o1 31 (.fldA 1 (.t 3)),
    o1 32 (.load (.t 31)),
    o1 33 (.bin .add (.t 32) (.c (.I 1))),
    ⟨some 34, none, [], true, .call f_sl23Set [(.t 22), (.t 24), (.t 30), (.t 33)]⟩,
    o0 (.store 2 (.t 4) (.t 34))]) (.keep [4]))
  (.ret))
  (.seq (.seq (.ops [o1 36 (.bin .eql (.t 8) (.c (.I 3))),
    o1 35 (.mv (.t 36))]) (.keep [2, 3, 4, 8, 35]))
  (.seq (.cond (.t 35)
  (.seq (.seq (.ops [o1 38 (.fldA 4 (.t 2)),
    o1 39 (.load (.t 38)),
    o1 40 (.fldA 0 (.t 3)),
    o1 41 (.load (.t 40)),
    o1 42 (.fldA 2 (.t 2)),
    o1 43 (.load (.t 42)),
    o1 44 (.idxA 1 (.t 41) (.t 43)),
    o1 45 (.load (.t 44)),
    o1 46 (.fldA 0 (.t 3)),
    o1 47 (.load (.t 46)),
    o1 48 (.fldA 3 (.t 2)),
    o1 49 (.load (.t 48)),
    o1 50 (.idxA 1 (.t 47) (.t 49)),
    o1 51 (.load (.t 50)),
    ⟨some 52, none, [], true, .call f_sApply [(.t 39), (.t 45), (.t 51)]⟩,
    o1 37 (.mv (.t 52)),
    o1 53 (.ext (.t 37) 0),
    o1 54 (.ext (.t 37) 1),
    o1 5 (.mv (.t 53)),
    o1 6 (.mv (.t 54))]) (.keep [2, 3, 4, 5]))
  (.seq (.seq (.ops [o1 55 (.loadN 2 (.t 3)),
    o1 56 (.fldA 1 (.t 2)),
    o1 57 (.load (.t 56)),
    o1 58 (.mv (.t 5)),
    o1 59 (.fldA 1 (.t 3)),
    o1 60 (.load (.t 59)),
    o1 61 (.bin .add (.t 60) (.c (.I 1))),
    o1 62 (.call f_sl23Set [(.t 55), (.t 57), (.t 58), (.t 61)]),
    o0 (.store 2 (.t 4) (.t 62))]) (.keep [4]))
  (.ret)))
  (.seq (.seq (.ops [o1 64 (.bin .eql (.t 8) (.c (.I 4))),
    o1 63 (.mv (.t 64))]) (.keep [2, 3, 4, 63]))
  (.seq (.cond (.t 63)
  (.seq (.seq (.ops [o1 65 (.loadN 2 (.t 3)),
    o1 66 (.fldA 4 (.t 2)),
    o1 67 (.load (.t 66)),
    o1 68 (.call f_sl23Go [(.t 65), (.t 67)]),
    o0 (.store 2 (.t 4) (.t 68))]) (.keep [4]))
  (.ret))
  (.skip)) (.keep [2, 3, 4])))) (.keep [2, 3, 4])))) (.keep [2, 3, 4])))) (.keep [2, 3, 4])))) (.keep [2, 3, 4])))
  (.seq (.seq (.seq (.ops [o1 69 (.fldA 0 (.t 2)),
    o1 70 (.load (.t 69)),
    o1 71 (.bin .eql (.t 70) (.c (.I 5))),
    o1 72 (.mv (.t 71)),
    ⟨some 73, (some (72, true)), [], false, .fldA 0 (.t 3)⟩,
    ⟨some 74, (some (72, true)), [], false, .load (.t 73)⟩,
    ⟨some 75, (some (72, true)), [], false, .fldA 2 (.t 2)⟩,
    ⟨some 76, (some (72, true)), [], false, .load (.t 75)⟩,
    ⟨some 77, (some (72, true)), [], false, .idxA 1 (.t 74) (.t 76)⟩,
    ⟨some 78, (some (72, true)), [], false, .load (.t 77)⟩,
    ⟨some 79, (some (72, true)), [], false, .bin .eql (.t 78) (.c (.I 0))⟩,
    o1 80 (.pick (.t 72) (.t 79) (.c (.b false)))]) (.keep [2, 3, 4, 80]))
  (.seq (.cond (.t 80)
  (.seq (.seq (.ops [o1 81 (.loadN 2 (.t 3)),
    o1 82 (.fldA 4 (.t 2)),
    o1 83 (.load (.t 82)),
    o1 84 (.call f_sl23Go [(.t 81), (.t 83)]),
    o0 (.store 2 (.t 4) (.t 84))]) (.keep [4]))
  (.ret))
  (.skip)) (.keep [3, 4])))
  (.seq (.seq (.ops [o1 85 (.loadN 2 (.t 3)),
    o1 86 (.fldA 1 (.t 3)),
    o1 87 (.load (.t 86)),
    o1 88 (.bin .add (.t 87) (.c (.I 1))),
    o1 89 (.call f_sl23Go [(.t 85), (.t 88)]),
    o0 (.store 2 (.t 4) (.t 89))]) (.keep [4]))
  (.ret)))), [.c 4 2]⟩

/- loop.example/cothreads/impl.CodeValid -/
def c_iCodeValid_l0 : AC := .seq (.seq (.ops [o1 17 (.bin .lss (.t 16) (.t 15))])
  (.seq (.seq (.cond (.t 17)
  (.skip)
  (.exit 0)) (.keep [0, 14, 15, 16]))
  (.seq (.seq (.block 1 (.seq (.seq (.ops [o1 18 (.idxA 5 (.t 14) (.t 16)),
    o1 19 (.loadN 5 (.t 18)),
    o1 4 (.alloc [(.I 0), (.I 0), (.I 0), (.I 0), (.I 0)]),
    o0 (.store 5 (.t 4) (.t 19))]) (.keep [0, 4, 14, 15, 16]))
  (.seq (.seq (.ops [o1 20 (.loadN 5 (.t 4)),
    o1 21 (.mv (.t 0)),
    o1 22 (.len (.t 21)),
    o1 23 (.call f_iQuadValid [(.t 20), (.t 22)]),
    o1 24 (.un .not (.t 23))]) (.keep [0, 14, 15, 16, 24]))
  (.seq (.cond (.t 24)
  (.seq (.ops [o1 2 (.mv (.c (.b false)))])
  (.ret))
  (.skip)) (.keep [0, 14, 15, 16]))))) (.keep [0, 14, 15, 16]))
  (.seq (.ops [o1 25 (.bin .add (.t 16) (.c (.I 1))),
    o1 16 (.mv (.t 25))]) (.keep [0, 14, 15, 16]))))) (.keep [0, 14, 15, 16])
def c_iCodeValid : AFn := ⟨1, .seq (.seq (.ops [o1 2 (.mv (.c (.b false)))]) (.keep [0]))
  (.seq (.seq (.seq (.ops [o1 6 (.mv (.t 0)),
    o1 7 (.len (.t 6)),
    o1 8 (.bin .lss (.t 7) (.c (.I 1))),
    o1 9 (.mv (.t 8)),
    ⟨some 10, (some (9, false)), [], false, .mv (.t 0)⟩,
    ⟨some 11, (some (9, false)), [], false, .len (.t 10)⟩,
    ⟨some 12, (some (9, false)), [], false, .bin .gtr (.t 11) (.c (.I 600))⟩,
    o1 13 (.pick (.t 9) (.c (.b true)) (.t 12))]) (.keep [0, 13]))
  (.seq (.cond (.t 13)
  (.seq (.ops [o1 2 (.mv (.c (.b false)))])
  (.ret))
  (.skip)) (.keep [0])))
  (.seq (.seq (.ops [o1 14 (.mv (.t 0)),
    o1 15 (.len (.t 14)),
    o1 16 (.mv (.c (.I 0)))])
  (.seq (.block 0 (.seq (.keep [0, 14, 15, 16]) (.loop c_iCodeValid_l0))) (.keep [0])))
  (.seq (.seq (.ops [o1 26 (.mv (.t 0)),
    o1 27 (.mv (.t 0)),
    o1 28 (.len (.t 27)),
    o1 29 (.bin .sub (.t 28) (.c (.I 1))),
    o1 30 (.idxA 5 (.t 26) (.t 29)),
    o1 31 (.fldA 0 (.t 30)),
    o1 32 (.load (.t 31)),
    o1 5 (.mv (.t 32))]) (.keep [5]))
  (.seq (.seq (.ops [o1 33 (.mv (.t 5)),
    o1 34 (.bin .eql (.t 33) (.c (.I 10))),
    o1 35 (.mv (.t 34)),
    ⟨some 36, (some (35, false)), [], false, .mv (.t 5)⟩,
    ⟨some 37, (some (35, false)), [], false, .bin .eql (.t 36) (.c (.I 4))⟩,
    o1 38 (.pick (.t 35) (.c (.b true)) (.t 37)),
    o1 2 (.mv (.t 38))]) (.keep [2]))
  (.ret))))), [.t 2]⟩

/- loop.example/cothreads/impl.threadFits -/
def c_ithreadFits : AFn := ⟨2, .seq (.seq (.ops [o1 2 (.box (.t 0)),
    o1 4 (.mv (.c (.b false)))]) (.keep [1, 2]))
  (.seq (.seq (.ops [o1 5 (.fldA 0 (.t 2)),
    o1 6 (.load (.t 5)),
    o1 7 (.len (.t 6)),
    o1 8 (.bin .eql (.t 7) (.c (.I 12))),
    o1 9 (.mv (.t 8)),
    ⟨some 10, (some (9, true)), [], false, .fldA 0 (.t 2)⟩,
    ⟨some 11, (some (9, true)), [], false, .load (.t 10)⟩,
    ⟨some 12, (some (9, true)), [], false, .call f_iareWords [(.t 11)]⟩,
    o1 13 (.pick (.t 9) (.t 12) (.c (.b false))),
    o1 14 (.mv (.t 13)),
    ⟨some 15, (some (14, true)), [], false, .fldA 1 (.t 2)⟩,
    ⟨some 16, (some (14, true)), [], false, .load (.t 15)⟩,
    ⟨some 17, (some (14, true)), [], false, .bin .geq (.t 16) (.c (.I 0))⟩,
    o1 18 (.pick (.t 14) (.t 17) (.c (.b false))),
    o1 19 (.mv (.t 18)),
    ⟨some 20, (some (19, true)), [], false, .fldA 1 (.t 2)⟩,
    ⟨some 21, (some (19, true)), [], false, .load (.t 20)⟩,
    ⟨some 22, (some (19, true)), [], false, .mv (.t 1)⟩,
    ⟨some 23, (some (19, true)), [], false, .len (.t 22)⟩,
    ⟨some 24, (some (19, true)), [], false, .bin .lss (.t 21) (.t 23)⟩,
    o1 25 (.pick (.t 19) (.t 24) (.c (.b false))),
    o1 4 (.mv (.t 25))]) (.keep [4]))
  (.ret)), [.t 4]⟩

/- loop.example/cothreads/impl.truth -/
def c_itruth : AFn := ⟨1, .seq (.seq (.ops [o1 2 (.mv (.c (.I 0)))]) (.keep [0]))
  (.seq (.seq (.ops [o1 3 (.mv (.t 0))])
  (.seq (.cond (.t 3)
  (.seq (.ops [o1 2 (.mv (.c (.I 1)))])
  (.ret))
  (.skip)) (.keep [])))
  (.seq (.ops [o1 2 (.mv (.c (.I 0)))])
  (.ret))), [.t 2]⟩

/- loop.example/cothreads/impl.Wrap -/
def c_iWrap : AFn := ⟨1, .seq (.seq (.ops [o1 2 (.mv (.c (.I 0)))]) (.keep [0]))
  (.seq (.seq (.ops [o1 3 (.mv (.t 0)),
    o1 4 (.conv .i32 (.t 3)),
    o1 5 (.conv .i64 (.t 4)),
    o1 2 (.mv (.t 5))]) (.keep [2]))
  (.ret)), [.t 2]⟩

/- loop.example/cothreads/impl.WordValid -/
def c_iWordValid : AFn := ⟨1, .seq (.seq (.ops [o1 2 (.mv (.c (.b false)))]) (.keep [0]))
  (.seq (.seq (.ops [o1 3 (.mv (.t 0)),
    o1 4 (.bin .geq (.t 3) (.c (.I (-2147483648)))),
    o1 5 (.mv (.t 4)),
    ⟨some 6, (some (5, true)), [], false, .mv (.t 0)⟩,
    ⟨some 7, (some (5, true)), [], false, .bin .leq (.t 6) (.c (.I 2147483647))⟩,
    o1 8 (.pick (.t 5) (.t 7) (.c (.b false))),
    o1 2 (.mv (.t 8))]) (.keep [2]))
  (.ret)), [.t 2]⟩

/- loop.example/cothreads/spec.QuadValid -/
def c_sQuadValid : AFn := ⟨2, .seq (.seq (.ops [o1 2 (.box (.t 0)),
    o1 4 (.mv (.c (.b false)))]) (.keep [1, 2]))
  (.seq (.seq (.seq (.ops [o1 5 (.fldA 0 (.t 2)),
    o1 6 (.load (.t 5))]) (.keep [1, 2, 6]))
  (.seq (.block 0 (.seq (.seq (.ops [o1 8 (.bin .eql (.t 6) (.c (.I 1))),
    o1 7 (.mv (.t 8))]) (.keep [1, 2, 6, 7]))
  (.seq (.cond (.t 7)
  (.seq (.seq (.ops [o1 9 (.loadN 5 (.t 2)),
    o1 10 (.call f_sl21Regs [(.t 9), (.c (.b true)), (.c (.b false)), (.c (.b false))]),
    o1 11 (.mv (.t 10)),
    ⟨some 12, (some (11, true)), [], false, .fldA 4 (.t 2)⟩,
    ⟨some 13, (some (11, true)), [], false, .load (.t 12)⟩,
    ⟨some 14, (some (11, true)), [], false, .call f_sWordValid [(.t 13)]⟩,
    o1 15 (.pick (.t 11) (.t 14) (.c (.b false))),
    o1 4 (.mv (.t 15))]) (.keep [4]))
  (.ret))
  (.seq (.seq (.ops [o1 17 (.bin .eql (.t 6) (.c (.I 2))),
    o1 16 (.mv (.t 17))]) (.keep [1, 2, 6, 16]))
  (.seq (.cond (.t 16)
  (.seq (.seq (.ops [o1 18 (.loadN 5 (.t 2)),
    o1 19 (.call f_sl21Regs [(.t 18), (.c (.b true)), (.c (.b true)), (.c (.b false))]),
    o1 20 (.mv (.t 19)),
    ⟨some 21, (some (20, true)), [], false, .fldA 4 (.t 2)⟩,
    ⟨some 22, (some (20, true)), [], false, .load (.t 21)⟩,
    ⟨some 23, (some (20, true)), [], false, .bin .eql (.t 22) (.c (.I 0))⟩,
    o1 24 (.pick (.t 20) (.t 23) (.c (.b false))),
    o1 4 (.mv (.t 24))]) (.keep [4]))
  (.ret))
  (.seq (.seq (.ops [o1 26 (.bin .eql (.t 6) (.c (.I 3))),
    o1 25 (.mv (.t 26))]) (.keep [1, 2, 6, 25]))
  (.seq (.cond (.t 25)
  (.seq (.seq (.ops [o1 27 (.loadN 5 (.t 2)),
    o1 28 (.call f_sl21Regs [(.t 27), (.c (.b true)), (.c (.b true)), (.c (.b true))]),
    o1 29 (.mv (.t 28)),
    ⟨some 30, (some (29, true)), [], false, .fldA 4 (.t 2)⟩,
    ⟨some 31, (some (29, true)), [], false, .load (.t 30)⟩,
    ⟨some 32, (some (29, true)), [], false, .call f_sOpValid [(.t 31)]⟩,
    o1 33 (.pick (.t 29) (.t 32) (.c (.b false))),
    o1 4 (.mv (.t 33))]) (.keep [4]))
  (.ret))
  (.seq (.seq (.ops [o1 35 (.bin .eql (.t 6) (.c (.I 4))),
    o1 34 (.mv (.t 35))]) (.keep [1, 2, 6, 34]))
  (.seq (.cond (.t 34)
  (.seq (.seq (.ops [o1 36 (.loadN 5 (.t 2)),
    o1 37 (.call f_sl21Regs [(.t 36), (.c (.b false)), (.c (.b false)), (.c (.b false))]),
    o1 38 (.mv (.t 37)),
    ⟨some 39, (some (38, true)), [], false, .fldA 4 (.t 2)⟩,
    ⟨some 40, (some (38, true)), [], false, .load (.t 39)⟩,
    ⟨some 41, (some (38, true)), [], false, .bin .geq (.t 40) (.c (.I 0))⟩,
    o1 42 (.pick (.t 38) (.t 41) (.c (.b false))),
    o1 43 (.mv (.t 42)),
    ⟨some 44, (some (43, true)), [], false, .fldA 4 (.t 2)⟩,
    ⟨some 45, (some (43, true)), [], false, .load (.t 44)⟩,
    ⟨some 46, (some (43, true)), [], false, .mv (.t 1)⟩,
    ⟨some 47, (some (43, true)), [], false, .bin .lss (.t 45) (.t 46)⟩,
    o1 48 (.pick (.t 43) (.t 47) (.c (.b false))),
    o1 4 (.mv (.t 48))]) (.keep [4]))
  (.ret))
  (.seq (.seq (.ops [o1 50 (.bin .eql (.t 6) (.c (.I 5))),
    o1 49 (.mv (.t 50))]) (.keep [1, 2, 6, 49]))
  (.seq (.cond (.t 49)
  (.seq (.seq (.ops [o1 51 (.loadN 5 (.t 2)),
    o1 52 (.call f_sl21Regs [(.t 51), (.c (.b false)), (.c (.b true)), (.c (.b false))]),
    o1 53 (.mv (.t 52)),
    ⟨some 54, (some (53, true)), [], false, .fldA 4 (.t 2)⟩,
    ⟨some 55, (some (53, true)), [], false, .load (.t 54)⟩,
    ⟨some 56, (some (53, true)), [], false, .bin .geq (.t 55) (.c (.I 0))⟩,
    o1 57 (.pick (.t 53) (.t 56) (.c (.b false))),
    o1 58 (.mv (.t 57)),
    ⟨some 59, (some (58, true)), [], false, .fldA 4 (.t 2)⟩,
    ⟨some 60, (some (58, true)), [], false, .load (.t 59)⟩,
    ⟨some 61, (some (58, true)), [], false, .mv (.t 1)⟩,
    ⟨some 62, (some (58, true)), [], false, .bin .lss (.t 60) (.t 61)⟩,
    o1 63 (.pick (.t 58) (.t 62) (.c (.b false))),
    o1 4 (.mv (.t 63))]) (.keep [4]))
  (.ret))
  (.seq (.seq (.ops [o1 65 (.bin .eql (.t 6) (.c (.I 6))),
    o1 64 (.mv (.t 65))]) (.keep [2, 6, 64]))
  (.seq (.cond (.t 64)
  (.seq (.seq (.ops [o1 66 (.loadN 5 (.t 2)),
    o1 67 (.call f_sl21Regs [(.t 66), (.c (.b false)), (.c (.b true)), (.c (.b false))]),
    o1 68 (.mv (.t 67)),
    ⟨some 69, (some (68, true)), [], false, .fldA 4 (.t 2)⟩,
    ⟨some 70, (some (68, true)), [], false, .load (.t 69)⟩,
    ⟨some 71, (some (68, true)), [], false, .call f_sl6In [(.t 70), (.c (.I 0)), (.c (.I 2))]⟩,
    o1 72 (.pick (.t 68) (.t 71) (.c (.b false))),
    o1 4 (.mv (.t 72))]) (.keep [4]))
  (.ret))
  (.seq (.seq (.ops [o1 74 (.bin .eql (.t 6) (.c (.I 7))),
    o1 73 (.mv (.t 74))]) (.keep [2, 6, 73]))
  (.seq (.cond (.t 73)
  (.seq (.seq (.ops [o1 75 (.loadN 5 (.t 2)),
    o1 76 (.call f_sl21Regs [(.t 75), (.c (.b true)), (.c (.b false)), (.c (.b false))]),
    o1 77 (.mv (.t 76)),
    ⟨some 78, (some (77, true)), [], false, .fldA 4 (.t 2)⟩,
    ⟨some 79, (some (77, true)), [], false, .load (.t 78)⟩,
    ⟨some 80, (some (77, true)), [], false, .call f_sl6In [(.t 79), (.c (.I 0)), (.c (.I 2))]⟩,
    o1 81 (.pick (.t 77) (.t 80) (.c (.b false))),
    o1 4 (.mv (.t 81))]) (.keep [4]))
  (.ret))
  (.seq (.seq (.ops [o1 83 (.bin .eql (.t 6) (.c (.I 9))),
    o1 82 (.mv (.t 83))]) (.keep [2, 6, 82]))
  (.seq (.cond (.t 82)
  (.seq (.seq (.ops [o1 84 (.loadN 5 (.t 2)),
    o1 85 (.call f_sl21Regs [(.t 84), (.c (.b false)), (.c (.b true)), (.c (.b false))]),
    o1 86 (.mv (.t 85)),
    ⟨some 87, (some (86, true)), [], false, .fldA 4 (.t 2)⟩,
    ⟨some 88, (some (86, true)), [], false, .load (.t 87)⟩,
    ⟨some 89, (some (86, true)), [], false, .bin .eql (.t 88) (.c (.I 0))⟩,
    o1 90 (.pick (.t 86) (.t 89) (.c (.b false))),
    o1 4 (.mv (.t 90))]) (.keep [4]))
  (.ret))
  (.seq (.seq (.seq (.ops [o1 92 (.bin .eql (.t 6) (.c (.I 8))),
    o1 91 (.mv (.t 92))]) (.keep [2, 6, 91]))
  (.seq (.cond (.t 91)
  (.skip)
  (.seq (.ops [o1 93 (.bin .eql (.t 6) (.c (.I 10))),
    o1 91 (.mv (.t 93))]) (.keep [2, 91]))) (.keep [2, 91])))
  (.seq (.cond (.t 91)
  (.seq (.seq (.ops [o1 94 (.loadN 5 (.t 2)),
    o1 95 (.call f_sl21Regs [(.t 94), (.c (.b false)), (.c (.b false)), (.c (.b false))]),
    o1 96 (.mv (.t 95)),
    ⟨some 97, (some (96, true)), [], false, .fldA 4 (.t 2)⟩,
    ⟨some 98, (some (96, true)), [], false, .load (.t 97)⟩,
    ⟨some 99, (some (96, true)), [], false, .bin .eql (.t 98) (.c (.I 0))⟩,
    o1 100 (.pick (.t 96) (.t 99) (.c (.b false))),
    o1 4 (.mv (.t 100))]) (.keep [4]))
  (.ret))
  (.skip)) (.keep [])))) (.keep [])))) (.keep [])))) (.keep [])))) (.keep [])))) (.keep [])))) (.keep [])))) (.keep [])))) (.keep [])))) (.keep [])))
  (.seq (.ops [o1 4 (.mv (.c (.b false)))])
  (.ret))), [.t 4]⟩

/- loop.example/cothreads/spec.l23Set -/
def c_sl23Set : AFn := ⟨4, .seq (.ops [o1 4 (.box (.t 0)),
    o1 8 (.alloc [.nils, (.I 0)])])
  (.seq (.seq (.ops [o1 10 (.bsl [] 0 []),
    o1 11 (.fldA 0 (.t 4)),
    o1 12 (.load (.t 11)),
    o1 13 (.app 1 (.t 10) (.t 12)),
    o1 14 (.mv (.t 3)),
    o1 15 (.build [.nils, (.I 0)] [(0, 1, (.t 13)), (1, 1, (.t 14))]),
    o1 9 (.alloc [.nils, (.I 0)]),
    o0 (.store 2 (.t 9) (.t 15))]) (.keep [1, 2, 8, 9]))
  (.seq (.seq (.ops [o1 16 (.fldA 0 (.t 9)),
    o1 17 (.load (.t 16)),
    o1 18 (.mv (.t 1)),
    o1 19 (.mv (.t 2)),
    o1 20 (.idxA 1 (.t 17) (.t 18)),
    o0 (.store 1 (.t 20) (.t 19))]) (.keep [8, 9]))
  (.seq (.seq (.ops [o1 21 (.loadN 2 (.t 9)),
    o0 (.store 2 (.t 8) (.t 21))]) (.keep [8]))
  (.ret)))), [.c 8 2]⟩

/- loop.example/cothreads/impl.QuadValid -/
def c_iQuadValid : AFn := ⟨2, .seq (.seq (.ops [o1 2 (.box (.t 0)),
    o1 4 (.mv (.c (.b false)))]) (.keep [1, 2]))
  (.seq (.seq (.ops [o1 9 (.fldA 1 (.t 2)),
    o1 10 (.load (.t 9)),
    ⟨some 11, none, [], true, .call f_iisReg [(.t 10)]⟩,
    o1 12 (.fldA 2 (.t 2)),
    o1 13 (.load (.t 12)),
    ⟨some 14, none, [], true, .call f_iisReg [(.t 13)]⟩,
    o1 15 (.fldA 3 (.t 2)),
    o1 16 (.load (.t 15)),
    ⟨some 17, none, [], true, .call f_iisReg [(.t 16)]⟩,
    o1 18 (.fldA 4 (.t 2)),
    o1 19 (.load (.t 18)),
    o1 5 (.mv (.t 11)),
    o1 6 (.mv (.t 14)),
    o1 7 (.mv (.t 17)),
    o1 8 (.mv (.t 19))]) (.keep [1, 2, 5, 6, 7, 8]))
  (.seq (.seq (.seq (.ops [o1 20 (.fldA 0 (.t 2)),
    o1 21 (.load (.t 20))]) (.keep [1, 2, 5, 6, 7, 8, 21]))
  (.seq (.block 0 (.seq (.seq (.ops [o1 23 (.bin .eql (.t 21) (.c (.I 1))),
    o1 22 (.mv (.t 23))]) (.keep [1, 2, 5, 6, 7, 8, 21, 22]))
  (.seq (.cond (.t 22)
  (.seq (.seq (.ops [o1 24 (.loadN 5 (.t 2)),
    o1 25 (.fldA 1 (.t 2)),
    o1 26 (.load (.t 25)),
    o1 27 (.mv (.t 8)),
    o1 28 (.build [(.I 0), (.I 0), (.I 0), (.I 0), (.I 0)] [(0, 1, (.c (.I 1))), (1, 1, (.t 26)), (4, 1, (.t 27))]),
    o1 29 (.eqA 5 false (.t 24) (.t 28)),
    o1 30 (.mv (.t 29)),
    ⟨some 31, (some (30, true)), [], false, .mv (.t 5)⟩,
    o1 32 (.pick (.t 30) (.t 31) (.c (.b false))),
    o1 33 (.mv (.t 32)),
    ⟨some 34, (some (33, true)), [], false, .mv (.t 8)⟩,
    ⟨some 35, (some (33, true)), [], false, .call f_iWordValid [(.t 34)]⟩,
    o1 36 (.pick (.t 33) (.t 35) (.c (.b false))),
    o1 4 (.mv (.t 36))]) (.keep [4]))
  (.ret))
  (.seq (.seq (.ops [o1 38 (.bin .eql (.t 21) (.c (.I 2))),
    o1 37 (.mv (.t 38))]) (.keep [1, 2, 5, 6, 7, 8, 21, 37]))
  (.seq (.cond (.t 37)
  (.seq (.seq (.ops [o1 39 (.loadN 5 (.t 2)),
    o1 40 (.fldA 1 (.t 2)),
    o1 41 (.load (.t 40)),
    o1 42 (.fldA 2 (.t 2)),
    o1 43 (.load (.t 42)),
    o1 44 (.build [(.I 0), (.I 0), (.I 0), (.I 0), (.I 0)] [(0, 1, (.c (.I 2))), (1, 1, (.t 41)), (2, 1, (.t 43))]),
    o1 45 (.eqA 5 false (.t 39) (.t 44)),
    o1 46 (.mv (.t 45)),
    ⟨some 47, (some (46, true)), [], false, .mv (.t 5)⟩,
    o1 48 (.pick (.t 46) (.t 47) (.c (.b false))),
    o1 49 (.mv (.t 48)),
    ⟨some 50, (some (49, true)), [], false, .mv (.t 6)⟩,
    o1 51 (.pick (.t 49) (.t 50) (.c (.b false))),
    o1 4 (.mv (.t 51))]) (.keep [4]))
  (.ret))
  (.seq (.seq (.ops [o1 53 (.bin .eql (.t 21) (.c (.I 3))),
    o1 52 (.mv (.t 53))]) (.keep [1, 2, 5, 6, 7, 8, 21, 52]))
  (.seq (.cond (.t 52)
  (.seq (.seq (.ops [o1 54 (.mv (.t 5)),
    o1 55 (.mv (.t 54)),
    ⟨some 56, (some (55, true)), [], false, .mv (.t 6)⟩,
    o1 57 (.pick (.t 55) (.t 56) (.c (.b false))),
    o1 58 (.mv (.t 57)),
    ⟨some 59, (some (58, true)), [], false, .mv (.t 7)⟩,
    o1 60 (.pick (.t 58) (.t 59) (.c (.b false))),
    o1 61 (.mv (.t 60)),
    ⟨some 62, (some (61, true)), [], false, .mv (.t 8)⟩,
    ⟨some 63, (some (61, true)), [], false, .call f_iOpValid [(.t 62)]⟩,
    o1 64 (.pick (.t 61) (.t 63) (.c (.b false))),
    o1 4 (.mv (.t 64))]) (.keep [4]))
  (.ret))
  (.seq (.seq (.ops [o1 66 (.bin .eql (.t 21) (.c (.I 4))),
    o1 65 (.mv (.t 66))]) (.keep [1, 2, 5, 6, 8, 21, 65]))
  (.seq (.cond (.t 65)
  (.seq (.seq (.ops [o1 67 (.loadN 5 (.t 2)),
    o1 68 (.mv (.t 8)),
    o1 69 (.build [(.I 0), (.I 0), (.I 0), (.I 0), (.I 0)] [(0, 1, (.c (.I 4))), (4, 1, (.t 68))]),
    o1 70 (.eqA 5 false (.t 67) (.t 69)),
    o1 71 (.mv (.t 70)),
    ⟨some 72, (some (71, true)), [], false, .mv (.t 8)⟩,
    ⟨some 73, (some (71, true)), [], false, .bin .geq (.t 72) (.c (.I 0))⟩,
    o1 74 (.pick (.t 71) (.t 73) (.c (.b false))),
    o1 75 (.mv (.t 74)),
    ⟨some 76, (some (75, true)), [], false, .mv (.t 8)⟩,
    ⟨some 77, (some (75, true)), [], false, .mv (.t 1)⟩,
    ⟨some 78, (some (75, true)), [], false, .bin .lss (.t 76) (.t 77)⟩,
    o1 79 (.pick (.t 75) (.t 78) (.c (.b false))),
    o1 4 (.mv (.t 79))]) (.keep [4]))
  (.ret))
  (.seq (.seq (.ops [o1 81 (.bin .eql (.t 21) (.c (.I 5))),
    o1 80 (.mv (.t 81))]) (.keep [1, 2, 5, 6, 8, 21, 80]))
  (.seq (.cond (.t 80)
  (.seq (.seq (.ops [o1 82 (.loadN 5 (.t 2)),
    o1 83 (.fldA 2 (.t 2)),
    o1 84 (.load (.t 83)),
    o1 85 (.mv (.t 8)),
    o1 86 (.build [(.I 0), (.I 0), (.I 0), (.I 0), (.I 0)] [(0, 1, (.c (.I 5))), (2, 1, (.t 84)), (4, 1, (.t 85))]),
    o1 87 (.eqA 5 false (.t 82) (.t 86)),
    o1 88 (.mv (.t 87)),
    ⟨some 89, (some (88, true)), [], false, .mv (.t 6)⟩,
    o1 90 (.pick (.t 88) (.t 89) (.c (.b false))),
    o1 91 (.mv (.t 90)),
    ⟨some 92, (some (91, true)), [], false, .mv (.t 8)⟩,
    ⟨some 93, (some (91, true)), [], false, .bin .geq (.t 92) (.c (.I 0))⟩,
    o1 94 (.pick (.t 91) (.t 93) (.c (.b false))),
    o1 95 (.mv (.t 94)),
    ⟨some 96, (some (95, true)), [], false, .mv (.t 8)⟩,
    ⟨some 97, (some (95, true)), [], false, .mv (.t 1)⟩,
    ⟨some 98, (some (95, true)), [], false, .bin .lss (.t 96) (.t 97)⟩,
    o1 99 (.pick (.t 95) (.t 98) (.c (.b false))),
    o1 4 (.mv (.t 99))]) (.keep [4]))
  (.ret))
  (.seq (.seq (.ops [o1 101 (.bin .eql (.t 21) (.c (.I 6))),
    o1 100 (.mv (.t 101))]) (.keep [2, 5, 6, 8, 21, 100]))
  (.seq (.cond (.t 100)
  (.seq (.seq (.ops [o1 102 (.loadN 5 (.t 2)),
    o1 103 (.fldA 2 (.t 2)),
    o1 104 (.load (.t 103)),
    o1 105 (.mv (.t 8)),
    o1 106 (.build [(.I 0), (.I 0), (.I 0), (.I 0), (.I 0)] [(0, 1, (.c (.I 6))), (2, 1, (.t 104)), (4, 1, (.t 105))]),
    o1 107 (.eqA 5 false (.t 102) (.t 106)),
    o1 108 (.mv (.t 107)),
    ⟨some 109, (some (108, true)), [], false, .mv (.t 6)⟩,
    o1 110 (.pick (.t 108) (.t 109) (.c (.b false))),
    o1 111 (.mv (.t 110)),
    ⟨some 112, (some (111, true)), [], false, .mv (.t 8)⟩,
    ⟨some 113, (some (111, true)), [], false, .bin .geq (.t 112) (.c (.I 0))⟩,
    o1 114 (.pick (.t 111) (.t 113) (.c (.b false))),
    o1 115 (.mv (.t 114)),
    ⟨some 116, (some (115, true)), [], false, .mv (.t 8)⟩,
    ⟨some 117, (some (115, true)), [], false, .bin .lss (.t 116) (.c (.I 3))⟩,
    o1 118 (.pick (.t 115) (.t 117) (.c (.b false))),
    o1 4 (.mv (.t 118))]) (.keep [4]))
  (.ret))
  (.seq (.seq (.ops [o1 120 (.bin .eql (.t 21) (.c (.I 7))),
    o1 119 (.mv (.t 120))]) (.keep [2, 5, 6, 8, 21, 119]))
  (.seq (.cond (.t 119)
  (.seq (.seq (.ops [o1 121 (.loadN 5 (.t 2)),
    o1 122 (.fldA 1 (.t 2)),
    o1 123 (.load (.t 122)),
    o1 124 (.mv (.t 8)),
    o1 125 (.build [(.I 0), (.I 0), (.I 0), (.I 0), (.I 0)] [(0, 1, (.c (.I 7))), (1, 1, (.t 123)), (4, 1, (.t 124))]),
    o1 126 (.eqA 5 false (.t 121) (.t 125)),
    o1 127 (.mv (.t 126)),
    ⟨some 128, (some (127, true)), [], false, .mv (.t 5)⟩,
    o1 129 (.pick (.t 127) (.t 128) (.c (.b false))),
    o1 130 (.mv (.t 129)),
    ⟨some 131, (some (130, true)), [], false, .mv (.t 8)⟩,
    ⟨some 132, (some (130, true)), [], false, .bin .geq (.t 131) (.c (.I 0))⟩,
    o1 133 (.pick (.t 130) (.t 132) (.c (.b false))),
    o1 134 (.mv (.t 133)),
    ⟨some 135, (some (134, true)), [], false, .mv (.t 8)⟩,
    ⟨some 136, (some (134, true)), [], false, .bin .lss (.t 135) (.c (.I 3))⟩,
    o1 137 (.pick (.t 134) (.t 136) (.c (.b false))),
    o1 4 (.mv (.t 137))]) (.keep [4]))
  (.ret))
  (.seq (.seq (.ops [o1 139 (.bin .eql (.t 21) (.c (.I 9))),
    o1 138 (.mv (.t 139))]) (.keep [2, 6, 21, 138]))
  (.seq (.cond (.t 138)
  (.seq (.seq (.ops [o1 140 (.loadN 5 (.t 2)),
    o1 141 (.fldA 2 (.t 2)),
    o1 142 (.load (.t 141)),
    o1 143 (.build [(.I 0), (.I 0), (.I 0), (.I 0), (.I 0)] [(0, 1, (.c (.I 9))), (2, 1, (.t 142))]),
    o1 144 (.eqA 5 false (.t 140) (.t 143)),
    o1 145 (.mv (.t 144)),
    ⟨some 146, (some (145, true)), [], false, .mv (.t 6)⟩,
    o1 147 (.pick (.t 145) (.t 146) (.c (.b false))),
    o1 4 (.mv (.t 147))]) (.keep [4]))
  (.ret))
  (.seq (.seq (.seq (.ops [o1 149 (.bin .eql (.t 21) (.c (.I 8))),
    o1 148 (.mv (.t 149))]) (.keep [2, 21, 148]))
  (.seq (.cond (.t 148)
  (.skip)
  (.seq (.ops [o1 150 (.bin .eql (.t 21) (.c (.I 10))),
    o1 148 (.mv (.t 150))]) (.keep [2, 148]))) (.keep [2, 148])))
  (.seq (.cond (.t 148)
  (.seq (.seq (.ops [o1 151 (.loadN 5 (.t 2)),
    o1 152 (.fldA 0 (.t 2)),
    o1 153 (.load (.t 152)),
    o1 154 (.build [(.I 0), (.I 0), (.I 0), (.I 0), (.I 0)] [(0, 1, (.t 153))]),
    o1 155 (.eqA 5 false (.t 151) (.t 154)),
    o1 4 (.mv (.t 155))]) (.keep [4]))
  (.ret))
  (.skip)) (.keep [])))) (.keep [])))) (.keep [])))) (.keep [])))) (.keep [])))) (.keep [])))) (.keep [])))) (.keep [])))) (.keep [])))) (.keep [])))
  (.seq (.ops [o1 4 (.mv (.c (.b false)))])
  (.ret)))), [.t 4]⟩

/- loop.example/cothreads/spec.l21Regs -/
def c_sl21Regs : AFn := ⟨4, .seq (.seq (.ops [o1 4 (.box (.t 0)),
    o1 8 (.mv (.c (.b false)))]) (.keep [1, 2, 3, 4]))
  (.seq (.seq (.ops [o1 9 (.fldA 1 (.t 4)),
    o1 10 (.load (.t 9)),
    o1 11 (.mv (.t 1)),
    o1 12 (.call f_sl21Reg [(.t 10), (.t 11)]),
    o1 13 (.mv (.t 12)),
    ⟨some 14, (some (13, true)), [], false, .fldA 2 (.t 4)⟩,
    ⟨some 15, (some (13, true)), [], false, .load (.t 14)⟩,
    ⟨some 16, (some (13, true)), [], false, .mv (.t 2)⟩,
    ⟨some 17, (some (13, true)), [], false, .call f_sl21Reg [(.t 15), (.t 16)]⟩,
    o1 18 (.pick (.t 13) (.t 17) (.c (.b false))),
    o1 19 (.mv (.t 18)),
    ⟨some 20, (some (19, true)), [], false, .fldA 3 (.t 4)⟩,
    ⟨some 21, (some (19, true)), [], false, .load (.t 20)⟩,
    ⟨some 22, (some (19, true)), [], false, .mv (.t 3)⟩,
    ⟨some 23, (some (19, true)), [], false, .call f_sl21Reg [(.t 21), (.t 22)]⟩,
    o1 24 (.pick (.t 19) (.t 23) (.c (.b false))),
    o1 8 (.mv (.t 24))]) (.keep [8]))
  (.ret)), [.t 8]⟩

/- loop.example/cothreads/impl.isReg -/
def c_iisReg : AFn := ⟨1, .seq (.seq (.ops [o1 2 (.mv (.c (.b false)))]) (.keep [0]))
  (.seq (.seq (.ops [o1 3 (.mv (.t 0)),
    o1 4 (.bin .geq (.t 3) (.c (.I 0))),
    o1 5 (.mv (.t 4)),
    ⟨some 6, (some (5, true)), [], false, .mv (.t 0)⟩,
    ⟨some 7, (some (5, true)), [], false, .bin .lss (.t 6) (.c (.I 12))⟩,
    o1 8 (.pick (.t 5) (.t 7) (.c (.b false))),
    o1 2 (.mv (.t 8))]) (.keep [2]))
  (.ret)), [.t 2]⟩

/- loop.example/cothreads/impl.OpValid -/
def c_iOpValid : AFn := ⟨1, .seq (.seq (.ops [o1 2 (.mv (.c (.b false)))]) (.keep [0]))
  (.seq (.seq (.ops [o1 3 (.mv (.t 0)),
    o1 4 (.bin .geq (.t 3) (.c (.I 1))),
    o1 5 (.mv (.t 4)),
    ⟨some 6, (some (5, true)), [], false, .mv (.t 0)⟩,
    ⟨some 7, (some (5, true)), [], false, .bin .leq (.t 6) (.c (.I 12))⟩,
    o1 8 (.pick (.t 5) (.t 7) (.c (.b false))),
    o1 2 (.mv (.t 8))]) (.keep [2]))
  (.ret)), [.t 2]⟩

/- loop.example/cothreads/spec.l21Reg -/
def c_sl21Reg : AFn := ⟨2, .seq (.seq (.ops [o1 4 (.mv (.c (.b false)))]) (.keep [0, 1]))
  (.seq (.seq (.ops [o1 5 (.mv (.t 1))])
  (.seq (.cond (.t 5)
  (.seq (.seq (.ops [o1 6 (.mv (.t 0)),
    o1 7 (.call f_sl6In [(.t 6), (.c (.I 0)), (.c (.I 11))]),
    o1 4 (.mv (.t 7))]) (.keep [4]))
  (.ret))
  (.skip)) (.keep [0])))
  (.seq (.seq (.ops [o1 8 (.mv (.t 0)),
    o1 9 (.bin .eql (.t 8) (.c (.I 0))),
    o1 4 (.mv (.t 9))]) (.keep [4]))
  (.ret))), [.t 4]⟩

end Go.Proofs.YtcibjklpaljadaaGreat.AM
