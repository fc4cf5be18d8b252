/-
  The twins, in the abstract machine, of the functions that this claim reaches; by program (part 1). No condition.
-/
import Derived.Test.YtmecbehegmgbhaaGreatYM2
import Derived.Test.YtmecbehegmgbhaaGreatProg
namespace Go.Proofs.YtmecbehegmgbhaaGreat.AM
set_option linter.unusedSimpArgs false
set_option linter.unusedVariables false
set_option maxRecDepth 100000
def f_wFnCrewBack : FuncId := 4
def f_iWorldNew : FuncId := 15
def f_wrestOf : FuncId := 18
def f_iCompileProgram : FuncId := 19
def f_wcrewOf : FuncId := 20
def f_sDrawCompileProgram : FuncId := 22
def f_sCompileProgram : FuncId := 23
def f_wsameCodes : FuncId := 24
def f_iCrewOutcome : FuncId := 25
def f_wsameOutcome : FuncId := 26
def f_iWordValid : FuncId := 31
def f_iWorldRun : FuncId := 32
def f_wsameInts : FuncId := 36
def f_sl92Wrong : FuncId := 38
def f_sl6Open : FuncId := 39
def f_iProgramValid : FuncId := 40
def f_iboxesNew : FuncId := 41
def f_iTaskNew : FuncId := 42
def f_sProgramValid : FuncId := 43
def f_iWorldOutcome : FuncId := 48
def f_icompileTask : FuncId := 49
def f_iCrewNew : FuncId := 50
def f_iCrewRun : FuncId := 51
def f_sCompileTask : FuncId := 52
def f_wsameCode : FuncId := 53
def f_iCrewValid : FuncId := 54
def f_ioutcomeOf : FuncId := 55
def f_wsameLists : FuncId := 56
def f_wsameFlags : FuncId := 57
def f_sl6Rd_pick : FuncId := 58
def f_iWorldValid : FuncId := 59
def f_irunWorld : FuncId := 60
def f_iWorldTrace_1 : FuncId := 61
def f_sl6In : FuncId := 63
def f_sl92Program : FuncId := 71
def f_sl91Leaf : FuncId := 72
def f_iroomsValid : FuncId := 73
def f_istmtsValid : FuncId := 74
def f_iStmtsValid : FuncId := 75
def f_istmtsCopy : FuncId := 76
def f_sl12Rooms : FuncId := 77
def f_sStmtsValid : FuncId := 78
def f_sl12Boxes : FuncId := 79
def f_icompileStmts : FuncId := 83
def f_icodesCopy : FuncId := 84
def f_iboxesCopy : FuncId := 85
def f_slices_Clone_int_int : FuncId := 86
def f_itakeTurns : FuncId := 87
def f_iCrewRun_1 : FuncId := 88
def f_iThread_step : FuncId := 89
def f_sl22List : FuncId := 90
def f_iturnsValid : FuncId := 91
def f_iboxesValid : FuncId := 92
def f_iThreadValid : FuncId := 93
def f_iboxThere : FuncId := 94
def f_itaskValid : FuncId := 95
def f_inewRunning : FuncId := 96
def f_irunWorld_1 : FuncId := 97
def f_irunning_step : FuncId := 98
def f_irunWorld_1_1 : FuncId := 99
def f_irunning_task : FuncId := 100
def f_sl92Rooms : FuncId := 109
def f_sl92Stmts : FuncId := 110
def f_sl92Endless : FuncId := 111
def f_sl4Leaf : FuncId := 112
def f_iblockValid : FuncId := 113
def f_iexprCopy : FuncId := 114
def f_sl11Blocks : FuncId := 115
def f_sl11Count : FuncId := 116
def f_icompileStmt : FuncId := 119
def f_slices_Clone_iQuad_iQuad : FuncId := 120
def f_iNextTurn : FuncId := 121
def f_iapply : FuncId := 122
def f_iBox_put : FuncId := 123
def f_iBox_take : FuncId := 124
def f_sl22Stmt : FuncId := 125
def f_iareWords : FuncId := 126
def f_iBoxValid : FuncId := 127
def f_iCodeValid : FuncId := 128
def f_ithreadFits : FuncId := 129
def f_iahead : FuncId := 130
def f_iexprEval : FuncId := 131
def f_sl92Block : FuncId := 139
def f_istmtValid : FuncId := 140
def f_sl11Ok : FuncId := 141
def f_sl4Both : FuncId := 142
def f_icompileExpr : FuncId := 143
def f_itruth : FuncId := 144
def f_iWrap : FuncId := 145
def f_sl22Expr : FuncId := 146
def f_sl22If : FuncId := 147
def f_sl22While : FuncId := 148
def f_iQuadValid : FuncId := 149
def f_sOpValid : FuncId := 153
def f_sl92Stmt : FuncId := 159
def f_istmtValid_1 : FuncId := 160
def f_iExprValid : FuncId := 161
def f_sl11Simple : FuncId := 162
def f_sl11Var : FuncId := 163
def f_sl11Box : FuncId := 164
def f_sExprValid : FuncId := 165
def f_iisReg : FuncId := 166
def f_iOpValid : FuncId := 167
def f_sl92Set : FuncId := 168
def f_sl92If : FuncId := 169
def f_sl92Loop : FuncId := 170
def f_sl92Talk : FuncId := 171
def f_sl91Expr : FuncId := 172
def f_iexprValid : FuncId := 173
def f_sl11Plain : FuncId := 174
def f_sl4Ok : FuncId := 175
def f_sl91Op : FuncId := 176
def c_wFnCrewBack : AFn := ⟨1, .seq (.seq (.ops [o1 2 (.mv (.c (.b false)))]) (.keep [0]))
  (.seq (.seq (.seq (.ops [o1 9 (.mv (.t 0)),
    o1 10 (.len (.t 9)),
    o1 11 (.bin .gtr (.t 10) (.c (.I 1048576)))]) (.keep [0, 11]))
  (.seq (.cond (.t 11)
  (.seq (.ops [o1 2 (.mv (.c (.b true)))])
  (.ret))
  (.skip)) (.keep [0])))
  (.seq (.seq (.ops [o1 12 (.mv (.t 0)),
    o1 13 (.call f_sDrawCompileProgram [(.t 12)]),
    o1 3 (.alloc [.nils, .nils]),
    o0 (.store 2 (.t 3) (.t 13))]) (.keep [3]))
  (.seq (.seq (.ops [o1 15 (.loadN 2 (.t 3)),
    o1 16 (.call f_iCompileProgram [(.t 15)]),
    o1 14 (.mv (.t 16)),
    o1 17 (.ext (.t 14) 0),
    o1 18 (.ext (.t 14) 1),
    o1 4 (.mv (.t 17)),
    o1 5 (.mv (.t 18))]) (.keep [3, 4, 5]))
  (.seq (.seq (.ops [o1 20 (.loadN 2 (.t 3)),
    o1 21 (.call f_sCompileProgram [(.t 20)]),
    o1 19 (.mv (.t 21)),
    o1 22 (.ext (.t 19) 0),
    o1 23 (.ext (.t 19) 1),
    o1 6 (.mv (.t 22)),
    o1 7 (.mv (.t 23))]) (.keep [3, 4, 5, 6, 7]))
  (.seq (.seq (.seq (.ops [o1 24 (.mv (.t 5)),
    o1 25 (.mv (.t 7)),
    o1 26 (.eqB true (.t 24) (.t 25)),
    o1 27 (.mv (.t 26)),
    ⟨some 28, (some (27, false)), [], false, .mv (.t 4)⟩,
    ⟨some 29, (some (27, false)), [], false, .mv (.t 6)⟩,
    ⟨some 30, (some (27, false)), [], false, .call f_wsameCodes [(.t 28), (.t 29)]⟩,
    ⟨some 31, (some (27, false)), [], false, .un .not (.t 30)⟩,
    o1 32 (.pick (.t 27) (.c (.b true)) (.t 31)),
    o1 33 (.mv (.t 32)),
    ⟨some 34, (some (33, false)), [], false, .mv (.t 5)⟩,
    ⟨some 35, (some (33, false)), [], false, .un .not (.t 34)⟩,
    o1 36 (.pick (.t 33) (.c (.b true)) (.t 35))]) (.keep [3, 4, 5, 6, 7, 36]))
  (.seq (.cond (.t 36)
  (.seq (.seq (.ops [o1 37 (.mv (.t 5)),
    o1 38 (.mv (.t 7)),
    o1 39 (.eqB false (.t 37) (.t 38)),
    o1 40 (.mv (.t 39)),
    ⟨some 41, (some (40, true)), [], false, .mv (.t 4)⟩,
    ⟨some 42, (some (40, true)), [], false, .mv (.t 6)⟩,
    ⟨some 43, (some (40, true)), [], false, .call f_wsameCodes [(.t 41), (.t 42)]⟩,
    o1 44 (.pick (.t 40) (.t 43) (.c (.b false))),
    o1 2 (.mv (.t 44))]) (.keep [2]))
  (.ret))
  (.skip)) (.keep [3, 4])))
  (.seq (.seq (.ops [o1 45 (.fldA 0 (.t 3)),
    o1 46 (.load (.t 45)),
    o1 47 (.mv (.t 4)),
    o1 48 (.call f_wcrewOf [(.t 46), (.t 47), (.c (.I 120))]),
    o1 49 (.call f_iCrewOutcome [(.t 48)]),
    o1 8 (.alloc [.nils, .nils, .nils, (.b false)]),
    o0 (.store 4 (.t 8) (.t 49))]) (.keep [3, 8]))
  (.seq (.seq (.seq (.ops [o1 50 (.fldA 3 (.t 8)),
    o1 51 (.load (.t 50)),
    o1 52 (.un .not (.t 51))]) (.keep [3, 8, 52]))
  (.seq (.cond (.t 52)
  (.seq (.seq (.ops [o1 53 (.fldA 2 (.t 8)),
    o1 54 (.load (.t 53)),
    o1 55 (.len (.t 54)),
    o1 56 (.fldA 1 (.t 3)),
    o1 57 (.load (.t 56)),
    o1 58 (.len (.t 57)),
    o1 59 (.bin .eql (.t 55) (.t 58)),
    o1 2 (.mv (.t 59))]) (.keep [2]))
  (.ret))
  (.skip)) (.keep [3, 8])))
  (.seq (.seq (.ops [o1 60 (.loadN 2 (.t 3)),
    ⟨some 61, none, [], true, .call f_wrestOf [(.t 60), (.c (.I 120))]⟩,
    o1 62 (.loadN 4 (.t 8)),
    ⟨some 63, none, [], true, .call f_wsameOutcome [(.t 61), (.t 62)]⟩,
    o1 2 (.mv (.t 63))]) (.keep [2]))
  (.ret))))))))), [.t 2]⟩

/- loop.example/cothreads/impl.WorldNew -/
def c_iWorldNew_l0 : AC := .seq (.seq (.ops [o1 21 (.bin .lss (.t 20) (.t 19))])
  (.seq (.seq (.cond (.t 21)
  (.skip)
  (.exit 0)) (.keep [2, 4, 18, 19, 20]))
  (.seq (.seq (.block 1 (.seq (.seq (.ops [o1 22 (.idxA 1 (.t 18) (.t 20)),
    o1 23 (.load (.t 22)),
    o1 6 (.mv (.t 23))]) (.keep [2, 4, 6, 18, 19, 20]))
  (.seq (.seq (.ops [o1 25 (.mv (.t 6)),
    o1 26 (.call f_iTaskNew [(.t 25)]),
    o1 24 (.mv (.t 26)),
    o1 27 (.ext (.t 24) 0),
    o1 28 (.ext (.t 24) 1),
    o1 7 (.alloc [.nils, .nils]),
    o0 (.store 2 (.t 7) (.t 27)),
    o1 8 (.mv (.t 28))]) (.keep [2, 4, 7, 18, 19, 20]))
  (.seq (.ops [o1 29 (.fldA 0 (.t 4)),
    o1 30 (.load (.t 29)),
    o1 31 (.loadN 2 (.t 7)),
    o1 32 (.bsl [.nils, .nils] 1 [(0, 2, (.t 31))]),
    o1 33 (.app 2 (.t 30) (.t 32)),
    o1 34 (.fldA 0 (.t 4)),
    o0 (.store 1 (.t 34) (.t 33))]) (.keep [2, 4, 18, 19, 20]))))) (.keep [2, 4, 18, 19, 20]))
  (.seq (.ops [o1 35 (.bin .add (.t 20) (.c (.I 1))),
    o1 20 (.mv (.t 35))]) (.keep [2, 4, 18, 19, 20]))))) (.keep [2, 4, 18, 19, 20])
def c_iWorldNew : AFn := ⟨1, .seq (.seq (.ops [o1 1 (.box (.t 0)),
    o1 2 (.alloc [.nils, .nils, (.I 0), (.I 0), .nils]),
    o1 3 (.mv (.c (.b false)))]) (.keep [1, 2]))
  (.seq (.seq (.seq (.ops [o1 9 (.loadN 2 (.t 1)),
    o1 10 (.call f_iProgramValid [(.t 9)]),
    o1 11 (.un .not (.t 10))]) (.keep [1, 2, 11]))
  (.seq (.cond (.t 11)
  (.seq (.seq (.ops [o1 12 (.build [.nils, .nils, (.I 0), (.I 0), .nils] []),
    o0 (.store 5 (.t 2) (.t 12)),
    o1 3 (.mv (.c (.b false)))]) (.keep [2, 3]))
  (.ret))
  (.skip)) (.keep [1, 2])))
  (.seq (.seq (.ops [o1 13 (.fldA 0 (.t 1)),
    o1 14 (.load (.t 13)),
    o1 15 (.call f_iboxesNew [(.t 14)]),
    o1 16 (.build [.nils, .nils, (.I 0), (.I 0), .nils] [(1, 1, (.t 15))]),
    o1 4 (.alloc [.nils, .nils, (.I 0), (.I 0), .nils]),
    o0 (.store 5 (.t 4) (.t 16))]) (.keep [1, 2, 4]))
  (.seq (.seq (.seq (.ops [o1 17 (.fldA 1 (.t 1)),
    o1 18 (.load (.t 17)),
    o1 19 (.len (.t 18)),
    o1 20 (.mv (.c (.I 0)))]) (.keep [2, 4, 18, 19, 20]))
  (.seq (.block 0 (.seq (.keep [2, 4, 18, 19, 20]) (.loop c_iWorldNew_l0))) (.keep [2, 4])))
  (.seq (.seq (.ops [o1 36 (.loadN 5 (.t 4)),
    o0 (.store 5 (.t 2) (.t 36)),
    o1 3 (.mv (.c (.b true)))]) (.keep [2, 3]))
  (.ret))))), [.c 2 5, .t 3]⟩

/- loop.example/cothreads/laws.restOf -/
def c_wrestOf : AFn := ⟨2, .seq (.ops [o1 2 (.box (.t 0)),
    o1 4 (.alloc [.nils, .nils, .nils, (.b false)])])
  (.seq (.seq (.ops [o1 10 (.loadN 2 (.t 2)),
    o1 11 (.call f_iWorldNew [(.t 10)]),
    o1 9 (.mv (.t 11)),
    o1 12 (.ext (.t 9) 0),
    o1 13 (.ext (.t 9) 1),
    o1 5 (.alloc [.nils, .nils, (.I 0), (.I 0), .nils]),
    o0 (.store 5 (.t 5) (.t 12)),
    o1 6 (.mv (.t 13))]) (.keep [1, 4, 5, 6]))
  (.seq (.seq (.ops [o1 15 (.loadN 5 (.t 5)),
    o1 16 (.mv (.t 1)),
    o1 17 (.call f_iWorldRun [(.t 15), (.t 16)]),
    o1 14 (.mv (.t 17)),
    o1 18 (.ext (.t 14) 0),
    o1 19 (.ext (.t 14) 1),
    o1 7 (.alloc [.nils, .nils, (.I 0), (.I 0), .nils]),
    o0 (.store 5 (.t 7) (.t 18)),
    o1 8 (.mv (.t 19))]) (.keep [4, 6, 7, 8]))
  (.seq (.seq (.seq (.ops [o1 20 (.mv (.t 6)),
    o1 21 (.un .not (.t 20)),
    o1 22 (.mv (.t 21)),
    ⟨some 23, (some (22, false)), [], false, .mv (.t 8)⟩,
    ⟨some 24, (some (22, false)), [], false, .un .not (.t 23)⟩,
    o1 25 (.pick (.t 22) (.c (.b true)) (.t 24))]) (.keep [4, 7, 25]))
  (.seq (.cond (.t 25)
  (.seq (.seq (.ops [o1 26 (.build [.nils, .nils, .nils, (.b false)] []),
    o0 (.store 4 (.t 4) (.t 26))]) (.keep [4]))
  (.ret))
  (.skip)) (.keep [4, 7])))
  (.seq (.seq (.ops [o1 27 (.loadN 5 (.t 7)),
    o1 28 (.call f_iWorldOutcome [(.t 27)]),
    o0 (.store 4 (.t 4) (.t 28))]) (.keep [4]))
  (.ret))))), [.c 4 4]⟩

/- loop.example/cothreads/impl.CompileProgram -/
def c_iCompileProgram_l0 : AC := .seq (.seq (.ops [o1 14 (.bin .lss (.t 13) (.t 12))])
  (.seq (.seq (.cond (.t 14)
  (.skip)
  (.exit 0)) (.keep [4, 11, 12, 13]))
  (.seq (.seq (.block 1 (.seq (.seq (.ops [o1 15 (.idxA 1 (.t 11) (.t 13)),
    o1 16 (.load (.t 15)),
    o1 6 (.mv (.t 16))]) (.keep [4, 6, 11, 12, 13]))
  (.seq (.ops [o1 17 (.mv (.t 4)),
    o1 18 (.mv (.t 6)),
    o1 19 (.call f_icompileTask [(.t 18)]),
    o1 20 (.bsl [.nils] 1 [(0, 1, (.t 19))]),
    o1 21 (.app 1 (.t 17) (.t 20)),
    o1 4 (.mv (.t 21))]) (.keep [4, 11, 12, 13])))) (.keep [4, 11, 12, 13]))
  (.seq (.ops [o1 22 (.bin .add (.t 13) (.c (.I 1))),
    o1 13 (.mv (.t 22))]) (.keep [4, 11, 12, 13]))))) (.keep [4, 11, 12, 13])
def c_iCompileProgram : AFn := ⟨1, .seq (.seq (.ops [o1 1 (.box (.t 0)),
    o1 2 (.mv (.c .nils)),
    o1 3 (.mv (.c (.b false)))]) (.keep [1]))
  (.seq (.seq (.seq (.ops [o1 7 (.loadN 2 (.t 1)),
    o1 8 (.call f_iProgramValid [(.t 7)]),
    o1 9 (.un .not (.t 8))]) (.keep [1, 9]))
  (.seq (.cond (.t 9)
  (.seq (.ops [o1 2 (.mv (.c .nils)),
    o1 3 (.mv (.c (.b false)))])
  (.ret))
  (.skip)) (.keep [1])))
  (.seq (.ops [o1 4 (.mv (.c .nils))])
  (.seq (.seq (.seq (.ops [o1 10 (.fldA 1 (.t 1)),
    o1 11 (.load (.t 10)),
    o1 12 (.len (.t 11)),
    o1 13 (.mv (.c (.I 0)))]) (.keep [4, 11, 12, 13]))
  (.seq (.block 0 (.seq (.keep [4, 11, 12, 13]) (.loop c_iCompileProgram_l0))) (.keep [4])))
  (.seq (.seq (.ops [o1 23 (.mv (.t 4)),
    o1 2 (.mv (.t 23)),
    o1 3 (.mv (.c (.b true)))]) (.keep [2, 3]))
  (.ret))))), [.t 2, .t 3]⟩

/- loop.example/cothreads/laws.crewOf -/
def c_wcrewOf : AFn := ⟨3, .seq (.ops [o1 6 (.alloc [.nils, .nils, .nils, (.I 0), (.I 0), .nils])])
  (.seq (.seq (.ops [o1 12 (.mv (.t 0)),
    o1 13 (.mv (.t 1)),
    o1 14 (.call f_iCrewNew [(.t 12), (.t 13)]),
    o1 11 (.mv (.t 14)),
    o1 15 (.ext (.t 11) 0),
    o1 16 (.ext (.t 11) 1),
    o1 7 (.alloc [.nils, .nils, .nils, (.I 0), (.I 0), .nils]),
    o0 (.store 6 (.t 7) (.t 15)),
    o1 8 (.mv (.t 16))]) (.keep [2, 6, 7, 8]))
  (.seq (.seq (.ops [o1 18 (.loadN 6 (.t 7)),
    o1 19 (.mv (.t 2)),
    o1 20 (.call f_iCrewRun [(.t 18), (.t 19)]),
    o1 17 (.mv (.t 20)),
    o1 21 (.ext (.t 17) 0),
    o1 22 (.ext (.t 17) 1),
    o1 9 (.alloc [.nils, .nils, .nils, (.I 0), (.I 0), .nils]),
    o0 (.store 6 (.t 9) (.t 21)),
    o1 10 (.mv (.t 22))]) (.keep [6, 8, 9, 10]))
  (.seq (.seq (.seq (.ops [o1 23 (.mv (.t 8)),
    o1 24 (.un .not (.t 23)),
    o1 25 (.mv (.t 24)),
    ⟨some 26, (some (25, false)), [], false, .mv (.t 10)⟩,
    ⟨some 27, (some (25, false)), [], false, .un .not (.t 26)⟩,
    o1 28 (.pick (.t 25) (.c (.b true)) (.t 27))]) (.keep [6, 9, 28]))
  (.seq (.cond (.t 28)
  (.seq (.seq (.ops [o1 29 (.build [.nils, .nils, .nils, (.I 0), (.I 0), .nils] []),
    o0 (.store 6 (.t 6) (.t 29))]) (.keep [6]))
  (.ret))
  (.skip)) (.keep [6, 9])))
  (.seq (.seq (.ops [o1 30 (.loadN 6 (.t 9)),
    o0 (.store 6 (.t 6) (.t 30))]) (.keep [6]))
  (.ret))))), [.c 6 6]⟩

/- loop.example/cothreads/spec.DrawCompileProgram -/
def c_sDrawCompileProgram : AFn := ⟨1, .seq (.ops [o1 2 (.alloc [.nils, .nils])])
  (.seq (.seq (.ops [o1 3 (.mv (.t 0)),
    o1 4 (.call f_sl6Open [(.t 3)]),
    o1 5 (.call f_sl92Wrong [(.t 4)]),
    o0 (.store 2 (.t 2) (.t 5))]) (.keep [2]))
  (.ret)), [.c 2 2]⟩

/- loop.example/cothreads/spec.CompileProgram -/
def c_sCompileProgram_l0 : AC := .seq (.seq (.seq (.seq (.ops [o1 13 (.mv (.t 5)),
    o1 14 (.fldA 1 (.t 1)),
    o1 15 (.load (.t 14)),
    o1 16 (.len (.t 15)),
    o1 17 (.bin .lss (.t 13) (.t 16))]) (.keep [1, 4, 5, 17]))
  (.seq (.cond (.t 17)
  (.skip)
  (.exit 0)) (.keep [1, 4, 5])))
  (.seq (.seq (.block 1 (.seq (.seq (.ops [o1 21 (.fldA 1 (.t 1)),
    o1 22 (.load (.t 21)),
    o1 23 (.mv (.t 5)),
    o1 24 (.idxA 1 (.t 22) (.t 23)),
    o1 25 (.load (.t 24)),
    o1 26 (.call f_sCompileTask [(.t 25)]),
    o1 20 (.mv (.t 26)),
    o1 27 (.ext (.t 20) 0),
    o1 28 (.ext (.t 20) 1),
    o1 6 (.mv (.t 27)),
    o1 7 (.mv (.t 28))]) (.keep [1, 4, 5, 6]))
  (.seq (.ops [o1 29 (.mv (.t 4)),
    o1 30 (.mv (.t 6)),
    o1 31 (.bsl [.nils] 1 [(0, 1, (.t 30))]),
    o1 32 (.app 1 (.t 29) (.t 31)),
    o1 4 (.mv (.t 32))]) (.keep [1, 4, 5])))) (.keep [1, 4, 5]))
  (.seq (.ops [o1 18 (.mv (.t 5)),
    o1 19 (.bin .add (.t 18) (.c (.I 1))),
    o1 5 (.mv (.t 19))]) (.keep [1, 4, 5])))) (.keep [1, 4, 5])
def c_sCompileProgram : AFn := ⟨1, .seq (.seq (.ops [o1 1 (.box (.t 0)),
    o1 2 (.mv (.c .nils)),
    o1 3 (.mv (.c (.b false)))]) (.keep [1]))
  (.seq (.seq (.ops [o1 8 (.bsl [] 0 []),
    o1 4 (.mv (.t 8))]) (.keep [1, 4]))
  (.seq (.seq (.seq (.ops [o1 9 (.loadN 2 (.t 1)),
    o1 10 (.call f_sProgramValid [(.t 9)]),
    o1 11 (.un .not (.t 10))]) (.keep [1, 4, 11]))
  (.seq (.cond (.t 11)
  (.seq (.seq (.ops [o1 12 (.mv (.t 4)),
    o1 2 (.mv (.t 12)),
    o1 3 (.mv (.c (.b false)))]) (.keep [2, 3]))
  (.ret))
  (.skip)) (.keep [1, 4])))
  (.seq (.seq (.ops [o1 5 (.mv (.c (.I 0)))])
  (.seq (.block 0 (.seq (.keep [1, 4, 5]) (.loop c_sCompileProgram_l0))) (.keep [4])))
  (.seq (.seq (.ops [o1 33 (.mv (.t 4)),
    o1 2 (.mv (.t 33)),
    o1 3 (.mv (.c (.b true)))]) (.keep [2, 3]))
  (.ret))))), [.t 2, .t 3]⟩

/- loop.example/cothreads/laws.sameCodes -/
def c_wsameCodes_l0 : AC := .seq (.seq (.seq (.seq (.ops [o1 11 (.mv (.t 5)),
    o1 12 (.mv (.t 0)),
    o1 13 (.len (.t 12)),
    o1 14 (.bin .lss (.t 11) (.t 13))]) (.keep [0, 1, 5, 14]))
  (.seq (.cond (.t 14)
  (.skip)
  (.exit 0)) (.keep [0, 1, 5])))
  (.seq (.seq (.block 1 (.seq (.seq (.ops [o1 17 (.mv (.t 0)),
    o1 18 (.mv (.t 5)),
    o1 19 (.idxA 1 (.t 17) (.t 18)),
    o1 20 (.load (.t 19)),
    o1 21 (.mv (.t 1)),
    o1 22 (.mv (.t 5)),
    o1 23 (.idxA 1 (.t 21) (.t 22)),
    o1 24 (.load (.t 23)),
    ⟨some 25, none, [], true, .call f_wsameCode [(.t 20), (.t 24)]⟩,
    o1 26 (.un .not (.t 25))]) (.keep [0, 1, 5, 26]))
  (.seq (.cond (.t 26)
  (.seq (.ops [o1 4 (.mv (.c (.b false)))])
  (.ret))
  (.skip)) (.keep [0, 1, 5])))) (.keep [0, 1, 5]))
  (.seq (.ops [o1 15 (.mv (.t 5)),
    o1 16 (.bin .add (.t 15) (.c (.I 1))),
    o1 5 (.mv (.t 16))]) (.keep [0, 1, 5])))) (.keep [0, 1, 5])
def c_wsameCodes : AFn := ⟨2, .seq (.seq (.ops [o1 4 (.mv (.c (.b false)))]) (.keep [0, 1]))
  (.seq (.seq (.seq (.ops [o1 6 (.mv (.t 0)),
    o1 7 (.len (.t 6)),
    o1 8 (.mv (.t 1)),
    o1 9 (.len (.t 8)),
    o1 10 (.bin .neq (.t 7) (.t 9))]) (.keep [0, 1, 10]))
  (.seq (.cond (.t 10)
  (.seq (.ops [o1 4 (.mv (.c (.b false)))])
  (.ret))
  (.skip)) (.keep [0, 1])))
  (.seq (.seq (.ops [o1 5 (.mv (.c (.I 0)))])
  (.seq (.block 0 (.seq (.keep [0, 1, 5]) (.loop c_wsameCodes_l0))) (.keep [])))
  (.seq (.ops [o1 4 (.mv (.c (.b true)))])
  (.ret)))), [.t 4]⟩

/- loop.example/cothreads/impl.CrewOutcome -/
def c_iCrewOutcome_l0 : AC := .seq (.seq (.ops [o1 25 (.bin .lss (.t 24) (.t 23))])
  (.seq (.seq (.cond (.t 25)
  (.skip)
  (.exit 0)) (.keep [1, 2, 3, 22, 23, 24]))
  (.seq (.seq (.block 1 (.seq (.seq (.ops [o1 26 (.mv (.t 24)),
    o1 27 (.idxA 2 (.t 22) (.t 24)),
    o1 28 (.loadN 2 (.t 27)),
    o1 5 (.alloc [.nils, (.I 0)]),
    o1 4 (.mv (.t 26)),
    o0 (.store 2 (.t 5) (.t 28))]) (.keep [1, 2, 3, 4, 5, 22, 23, 24]))
  (.seq (.ops [o1 29 (.fldA 2 (.t 3)),
    o1 30 (.load (.t 29)),
    o1 31 (.fldA 0 (.t 1)),
    o1 32 (.load (.t 31)),
    o1 33 (.mv (.t 4)),
    o1 34 (.idxA 1 (.t 32) (.t 33)),
    o1 35 (.load (.t 34)),
    o1 36 (.fldA 1 (.t 5)),
    o1 37 (.load (.t 36)),
    o1 38 (.idxA 5 (.t 35) (.t 37)),
    o1 39 (.fldA 0 (.t 38)),
    o1 40 (.load (.t 39)),
    o1 41 (.bin .eql (.t 40) (.c (.I 10))),
    o1 42 (.bsl [(.b false)] 1 [(0, 1, (.t 41))]),
    o1 43 (.app 1 (.t 30) (.t 42)),
    o1 44 (.fldA 2 (.t 3)),
    o0 (.store 1 (.t 44) (.t 43))]) (.keep [1, 2, 3, 22, 23, 24])))) (.keep [1, 2, 3, 22, 23, 24]))
  (.seq (.ops [o1 45 (.bin .add (.t 24) (.c (.I 1))),
    o1 24 (.mv (.t 45))]) (.keep [1, 2, 3, 22, 23, 24]))))) (.keep [1, 2, 3, 22, 23, 24])
def c_iCrewOutcome : AFn := ⟨1, .seq (.ops [o1 1 (.box (.t 0)),
    o1 2 (.alloc [.nils, .nils, .nils, (.b false)])])
  (.seq (.seq (.seq (.ops [o1 6 (.loadN 6 (.t 1)),
    o1 7 (.call f_iCrewValid [(.t 6)]),
    o1 8 (.un .not (.t 7))]) (.keep [1, 2, 8]))
  (.seq (.cond (.t 8)
  (.seq (.seq (.ops [o1 9 (.build [.nils, .nils, .nils, (.b false)] []),
    o0 (.store 4 (.t 2) (.t 9))]) (.keep [2]))
  (.ret))
  (.skip)) (.keep [1, 2])))
  (.seq (.seq (.ops [o1 10 (.fldA 5 (.t 1)),
    o1 11 (.load (.t 10)),
    o1 12 (.fldA 2 (.t 1)),
    o1 13 (.load (.t 12)),
    o1 14 (.fldA 4 (.t 1)),
    o1 15 (.load (.t 14)),
    o1 16 (.fldA 1 (.t 1)),
    o1 17 (.load (.t 16)),
    o1 18 (.len (.t 17)),
    o1 19 (.bin .eql (.t 15) (.t 18)),
    o1 20 (.call f_ioutcomeOf [(.t 11), (.t 13), (.t 19)]),
    o1 3 (.alloc [.nils, .nils, .nils, (.b false)]),
    o0 (.store 4 (.t 3) (.t 20))]) (.keep [1, 2, 3]))
  (.seq (.seq (.seq (.ops [o1 21 (.fldA 1 (.t 1)),
    o1 22 (.load (.t 21)),
    o1 23 (.len (.t 22)),
    o1 24 (.mv (.c (.I 0)))]) (.keep [1, 2, 3, 22, 23, 24]))
  (.seq (.block 0 (.seq (.keep [1, 2, 3, 22, 23, 24]) (.loop c_iCrewOutcome_l0))) (.keep [2, 3])))
  (.seq (.seq (.ops [o1 46 (.loadN 4 (.t 3)),
    o0 (.store 4 (.t 2) (.t 46))]) (.keep [2]))
  (.ret))))), [.c 2 4]⟩

/- loop.example/cothreads/laws.sameOutcome -/
def c_wsameOutcome : AFn := ⟨2, .seq (.seq (.ops [o1 2 (.box (.t 0)),
    o1 3 (.box (.t 1)),
    o1 4 (.mv (.c (.b false)))]) (.keep [2, 3]))
  (.seq (.seq (.ops [o1 5 (.fldA 0 (.t 2)),
    o1 6 (.load (.t 5)),
    o1 7 (.fldA 0 (.t 3)),
    o1 8 (.load (.t 7)),
    o1 9 (.call f_wsameInts [(.t 6), (.t 8)]),
    o1 10 (.mv (.t 9)),
    ⟨some 11, (some (10, true)), [], false, .fldA 1 (.t 2)⟩,
    ⟨some 12, (some (10, true)), [], false, .load (.t 11)⟩,
    ⟨some 13, (some (10, true)), [], false, .fldA 1 (.t 3)⟩,
    ⟨some 14, (some (10, true)), [], false, .load (.t 13)⟩,
    ⟨some 15, (some (10, true)), [], false, .call f_wsameLists [(.t 12), (.t 14)]⟩,
    o1 16 (.pick (.t 10) (.t 15) (.c (.b false))),
    o1 17 (.mv (.t 16)),
    ⟨some 18, (some (17, true)), [], false, .fldA 2 (.t 2)⟩,
    ⟨some 19, (some (17, true)), [], false, .load (.t 18)⟩,
    ⟨some 20, (some (17, true)), [], false, .fldA 2 (.t 3)⟩,
    ⟨some 21, (some (17, true)), [], false, .load (.t 20)⟩,
    ⟨some 22, (some (17, true)), [], false, .call f_wsameFlags [(.t 19), (.t 21)]⟩,
    o1 23 (.pick (.t 17) (.t 22) (.c (.b false))),
    o1 24 (.mv (.t 23)),
    ⟨some 25, (some (24, true)), [], false, .fldA 3 (.t 2)⟩,
    ⟨some 26, (some (24, true)), [], false, .load (.t 25)⟩,
    ⟨some 27, (some (24, true)), [], false, .fldA 3 (.t 3)⟩,
    ⟨some 28, (some (24, true)), [], false, .load (.t 27)⟩,
    ⟨some 29, (some (24, true)), [], false, .eqB false (.t 26) (.t 28)⟩,
    o1 30 (.pick (.t 24) (.t 29) (.c (.b false))),
    o1 4 (.mv (.t 30))]) (.keep [4]))
  (.ret)), [.t 4]⟩

/- loop.example/cothreads/impl.WordValid -/
def c_iWordValid : AFn := ⟨1, .seq (.seq (.ops [o1 2 (.mv (.c (.b false)))]) (.keep [0]))
  (.seq (.seq (.ops [o1 3 (.mv (.t 0)),
    o1 4 (.bin .geq (.t 3) (.c (.I (-2147483648)))),
    o1 5 (.mv (.t 4)),
    ⟨some 6, (some (5, true)), [], false, .mv (.t 0)⟩,
    ⟨some 7, (some (5, true)), [], false, .bin .leq (.t 6) (.c (.I 2147483647))⟩,
    o1 8 (.pick (.t 5) (.t 7) (.c (.b false))),
    o1 2 (.mv (.t 8))]) (.keep [2]))
  (.ret)), [.t 2]⟩

/- loop.example/cothreads/impl.WorldRun -/
def c_iWorldRun : AFn := ⟨2, .seq (.seq (.ops [o1 2 (.box (.t 0)),
    o1 4 (.alloc [.nils, .nils, (.I 0), (.I 0), .nils]),
    o1 5 (.mv (.c (.b false)))]) (.keep [1, 2, 4]))
  (.seq (.seq (.seq (.ops [o1 6 (.loadN 5 (.t 2)),
    o1 7 (.call f_iWorldValid [(.t 6)]),
    o1 8 (.un .not (.t 7)),
    o1 9 (.mv (.t 8)),
    ⟨some 10, (some (9, false)), [], false, .mv (.t 1)⟩,
    ⟨some 11, (some (9, false)), [], false, .bin .lss (.t 10) (.c (.I 0))⟩,
    o1 12 (.pick (.t 9) (.c (.b true)) (.t 11)),
    o1 13 (.mv (.t 12)),
    ⟨some 14, (some (13, false)), [], false, .mv (.t 1)⟩,
    ⟨some 15, (some (13, false)), [], false, .bin .gtr (.t 14) (.c (.I 100000))⟩,
    o1 16 (.pick (.t 13) (.c (.b true)) (.t 15))]) (.keep [1, 2, 4, 16]))
  (.seq (.cond (.t 16)
  (.seq (.seq (.ops [o1 17 (.build [.nils, .nils, (.I 0), (.I 0), .nils] []),
    o0 (.store 5 (.t 4) (.t 17)),
    o1 5 (.mv (.c (.b false)))]) (.keep [4, 5]))
  (.ret))
  (.skip)) (.keep [1, 2, 4])))
  (.seq (.seq (.ops [o1 18 (.loadN 5 (.t 2)),
    o1 19 (.mv (.t 1)),
    o1 20 (.call f_irunWorld [(.t 18), (.t 19), (.c .nilf)]),
    o0 (.store 5 (.t 4) (.t 20)),
    o1 5 (.mv (.c (.b true)))]) (.keep [4, 5]))
  (.ret))), [.c 4 5, .t 5]⟩

/- loop.example/cothreads/laws.sameInts -/
def c_wsameInts_l0 : AC := .seq (.seq (.seq (.seq (.ops [o1 11 (.mv (.t 5)),
    o1 12 (.mv (.t 0)),
    o1 13 (.len (.t 12)),
    o1 14 (.bin .lss (.t 11) (.t 13))]) (.keep [0, 1, 5, 14]))
  (.seq (.cond (.t 14)
  (.skip)
  (.exit 0)) (.keep [0, 1, 5])))
  (.seq (.seq (.block 1 (.seq (.seq (.ops [o1 17 (.mv (.t 0)),
    o1 18 (.mv (.t 5)),
    o1 19 (.idxA 1 (.t 17) (.t 18)),
    o1 20 (.load (.t 19)),
    o1 21 (.mv (.t 1)),
    o1 22 (.mv (.t 5)),
    o1 23 (.idxA 1 (.t 21) (.t 22)),
    o1 24 (.load (.t 23)),
    o1 25 (.bin .neq (.t 20) (.t 24))]) (.keep [0, 1, 5, 25]))
  (.seq (.cond (.t 25)
  (.seq (.ops [o1 4 (.mv (.c (.b false)))])
  (.ret))
  (.skip)) (.keep [0, 1, 5])))) (.keep [0, 1, 5]))
  (.seq (.ops [o1 15 (.mv (.t 5)),
    o1 16 (.bin .add (.t 15) (.c (.I 1))),
    o1 5 (.mv (.t 16))]) (.keep [0, 1, 5])))) (.keep [0, 1, 5])
def c_wsameInts : AFn := ⟨2, .seq (.seq (.ops [o1 4 (.mv (.c (.b false)))]) (.keep [0, 1]))
  (.seq (.seq (.seq (.ops [o1 6 (.mv (.t 0)),
    o1 7 (.len (.t 6)),
    o1 8 (.mv (.t 1)),
    o1 9 (.len (.t 8)),
    o1 10 (.bin .neq (.t 7) (.t 9))]) (.keep [0, 1, 10]))
  (.seq (.cond (.t 10)
  (.seq (.ops [o1 4 (.mv (.c (.b false)))])
  (.ret))
  (.skip)) (.keep [0, 1])))
  (.seq (.seq (.ops [o1 5 (.mv (.c (.I 0)))])
  (.seq (.block 0 (.seq (.keep [0, 1, 5]) (.loop c_wsameInts_l0))) (.keep [])))
  (.seq (.ops [o1 4 (.mv (.c (.b true)))])
  (.ret)))), [.t 4]⟩

/- loop.example/cothreads/spec.l92Wrong -/
def c_sl92Wrong : AFn := ⟨1, .seq (.ops [o1 2 (.alloc [.nils, .nils])])
  (.seq (.seq (.ops [o1 4 (.mv (.t 0)),
    o1 5 (.call f_sl92Program [(.t 4)]),
    o1 3 (.alloc [.nils, .nils]),
    o0 (.store 2 (.t 3) (.t 5))]) (.keep [0, 2, 3]))
  (.seq (.seq (.seq (.ops [o1 6 (.mv (.t 0)),
    o1 7 (.call f_sl6Rd_pick [(.t 6), (.c (.I 30))])]) (.keep [0, 2, 3, 7]))
  (.seq (.block 0 (.seq (.seq (.ops [o1 9 (.bin .eql (.t 7) (.c (.I 0))),
    o1 8 (.mv (.t 9))]) (.keep [0, 2, 3, 7, 8]))
  (.seq (.cond (.t 8)
  (.seq (.ops [o1 10 (.fldA 0 (.t 3)),
    o1 11 (.load (.t 10)),
    o1 12 (.bsl [(.I 0), (.I 0)] 2 [(0, 1, (.c (.I 0))), (1, 1, (.c (.I 5)))]),
    o1 13 (.mv (.t 0)),
    ⟨some 14, none, [(.t 10), (.t 12)], false, .call f_sl6Rd_pick [(.t 13), (.c (.I 2))]⟩,
    o1 15 (.idxA 1 (.t 12) (.t 14)),
    o1 16 (.load (.t 15)),
    o1 17 (.bsl [(.I 0)] 1 [(0, 1, (.t 16))]),
    o1 18 (.app 1 (.t 11) (.t 17)),
    o1 19 (.fldA 0 (.t 3)),
    o0 (.store 1 (.t 19) (.t 18))]) (.keep [2, 3]))
  (.seq (.seq (.ops [o1 21 (.bin .eql (.t 7) (.c (.I 1))),
    o1 20 (.mv (.t 21))]) (.keep [0, 2, 3, 7, 20]))
  (.seq (.cond (.t 20)
  (.seq (.ops [o1 22 (.fldA 1 (.t 3)),
    o1 23 (.load (.t 22)),
    o1 24 (.fldA 0 (.t 3)),
    o1 25 (.load (.t 24)),
    o1 26 (.len (.t 25)),
    o1 27 (.mv (.t 0)),
    ⟨some 28, none, [(.t 22), (.t 24)], false, .call f_sl91Leaf [(.t 27)]⟩,
    o1 29 (.build [(.I 0), (.I 0), (.I 0), (.I 0), (.I 0), .nils, .nils, .nils] [(0, 1, (.c (.I 4))), (2, 1, (.t 26)), (3, 3, (.t 28))]),
    o1 30 (.bsl [(.I 0), (.I 0), (.I 0), (.I 0), (.I 0), .nils, .nils, .nils] 1 [(0, 8, (.t 29))]),
    o1 31 (.bsl [.nils] 1 [(0, 1, (.t 30))]),
    o1 32 (.app 1 (.t 23) (.t 31)),
    o1 33 (.fldA 1 (.t 3)),
    o0 (.store 1 (.t 33) (.t 32))]) (.keep [2, 3]))
  (.seq (.seq (.ops [o1 35 (.bin .eql (.t 7) (.c (.I 2))),
    o1 34 (.mv (.t 35))]) (.keep [2, 3, 7, 34]))
  (.seq (.cond (.t 34)
  (.seq (.ops [o1 36 (.bsl [] 0 []),
    o1 37 (.fldA 1 (.t 3)),
    o0 (.store 1 (.t 37) (.t 36))]) (.keep [2, 3]))
  (.seq (.seq (.ops [o1 39 (.bin .eql (.t 7) (.c (.I 3))),
    o1 38 (.mv (.t 39))]) (.keep [2, 3, 7, 38]))
  (.seq (.cond (.t 38)
  (.seq (.ops [o1 40 (.fldA 1 (.t 3)),
    o1 41 (.load (.t 40)),
    o1 42 (.fldA 1 (.t 3)),
    o1 43 (.load (.t 42)),
    o1 44 (.idxA 1 (.t 43) (.c (.I 0))),
    o1 45 (.load (.t 44)),
    o1 46 (.fldA 1 (.t 3)),
    o1 47 (.load (.t 46)),
    o1 48 (.idxA 1 (.t 47) (.c (.I 0))),
    o1 49 (.load (.t 48)),
    o1 50 (.fldA 1 (.t 3)),
    o1 51 (.load (.t 50)),
    o1 52 (.idxA 1 (.t 51) (.c (.I 0))),
    o1 53 (.load (.t 52)),
    o1 54 (.bsl [.nils, .nils, .nils] 3 [(0, 1, (.t 45)), (1, 1, (.t 49)), (2, 1, (.t 53))]),
    o1 55 (.app 1 (.t 41) (.t 54)),
    o1 56 (.fldA 1 (.t 3)),
    o0 (.store 1 (.t 56) (.t 55))]) (.keep [2, 3]))
  (.seq (.seq (.ops [o1 58 (.bin .eql (.t 7) (.c (.I 4))),
    o1 57 (.mv (.t 58))]) (.keep [2, 3, 57]))
  (.seq (.cond (.t 57)
  (.seq (.alt 59 60
  (.seq (.seq (.seq (.seq (.ops [o1 61 (.fldA 1 (.t 3)),
    o1 62 (.load (.t 61)),
    o1 63 (.idxA 1 (.t 62) (.c (.I 0))),
    o1 64 (.load (.t 63)),
    o1 65 (.build [(.I 0), (.I 0), (.I 0), (.I 0), (.I 0), .nils, .nils, .nils] [(0, 1, (.c (.I 9)))]),
    o1 66 (.len (.t 64)),
    o1 67 (.bsl [(.I 0), (.I 0), (.I 0), (.I 0), (.I 0), .nils, .nils, .nils] 1 [(0, 8, (.c (.agg [(.I 0), (.I 0), (.I 0), (.I 0), (.I 0), .nils, .nils, .nils])))]),
    o1 68 (.app 8 (.t 64) (.t 67)),
    o1 69 (.idxA 1 (.t 62) (.c (.I 0))),
    o0 (.store 1 (.t 69) (.t 68))]) (.keep [2, 3, 65, 66, 67, 68]))
  (.seq (.ops [o1 70 (.idxA 8 (.t 68) (.t 66)),
    o0 (.store 8 (.t 70) (.t 65))]) (.keep [2, 3, 67]))) (.kill 67)) (.keep [2, 3]))
  (.seq (.seq (.seq (.ops [o1 71 (.fldA 1 (.t 3)),
    o1 72 (.load (.t 71)),
    o1 73 (.fldA 1 (.t 3)),
    o1 74 (.load (.t 73)),
    o1 75 (.idxA 1 (.t 74) (.c (.I 0))),
    o1 76 (.load (.t 75)),
    o1 77 (.build [(.I 0), (.I 0), (.I 0), (.I 0), (.I 0), .nils, .nils, .nils] [(0, 1, (.c (.I 9)))]),
    o1 78 (.bsl [(.I 0), (.I 0), (.I 0), (.I 0), (.I 0), .nils, .nils, .nils] 1 [(0, 8, (.t 77))]),
    ⟨some 79, none, [(.t 71)], false, .app 8 (.t 76) (.t 78)⟩,
    o1 80 (.idxA 1 (.t 72) (.c (.I 0))),
    o0 (.store 1 (.t 80) (.t 79))]) (.keep [2, 3, 78])) (.kill 78)) (.keep [2, 3]))) (.keep [2, 3]))
  (.skip)) (.keep [2, 3])))) (.keep [2, 3])))) (.keep [2, 3])))) (.keep [2, 3])))) (.keep [2, 3])))) (.keep [2, 3])))
  (.seq (.seq (.ops [o1 81 (.loadN 2 (.t 3)),
    o0 (.store 2 (.t 2) (.t 81))]) (.keep [2]))
  (.ret)))), [.c 2 2]⟩

/- loop.example/cothreads/spec.l6Open -/
def c_sl6Open : AFn := ⟨1, .seq (.seq (.ops [o1 2 (.mv (.c .nilp))]) (.keep [0]))
  (.seq (.seq (.seq (.ops [o1 3 (.mv (.t 0)),
    o1 4 (.len (.t 3)),
    o1 5 (.bin .gtr (.t 4) (.c (.I 2000)))]) (.keep [0, 5]))
  (.seq (.cond (.t 5)
  (.seq (.ops [o1 6 (.mv (.t 0)),
    o1 7 (.slice 1 (.t 6) none (some (.c (.I 2000))) none),
    o1 0 (.mv (.t 7))]) (.keep [0]))
  (.skip)) (.keep [0])))
  (.seq (.seq (.ops [o1 8 (.mv (.t 0)),
    o1 9 (.build [.nils, (.I 0)] [(0, 1, (.t 8))]),
    o1 10 (.box (.t 9)),
    o1 2 (.mv (.t 10))]) (.keep [2]))
  (.ret))), [.t 2]⟩

/- loop.example/cothreads/impl.ProgramValid -/
def c_iProgramValid_l0 : AC := .seq (.seq (.ops [o1 25 (.bin .lss (.t 24) (.t 23))])
  (.seq (.seq (.cond (.t 25)
  (.skip)
  (.exit 0)) (.keep [1, 22, 23, 24]))
  (.seq (.seq (.block 1 (.seq (.seq (.ops [o1 26 (.idxA 1 (.t 22) (.t 24)),
    o1 27 (.load (.t 26)),
    o1 4 (.mv (.t 27))]) (.keep [1, 4, 22, 23, 24]))
  (.seq (.seq (.ops [o1 28 (.mv (.t 4)),
    o1 29 (.fldA 0 (.t 1)),
    o1 30 (.load (.t 29)),
    o1 31 (.len (.t 30)),
    o1 32 (.call f_istmtsValid [(.t 28), (.t 31)]),
    o1 33 (.un .not (.t 32))]) (.keep [1, 22, 23, 24, 33]))
  (.seq (.cond (.t 33)
  (.seq (.ops [o1 2 (.mv (.c (.b false)))])
  (.ret))
  (.skip)) (.keep [1, 22, 23, 24]))))) (.keep [1, 22, 23, 24]))
  (.seq (.ops [o1 34 (.bin .add (.t 24) (.c (.I 1))),
    o1 24 (.mv (.t 34))]) (.keep [1, 22, 23, 24]))))) (.keep [1, 22, 23, 24])
def c_iProgramValid : AFn := ⟨1, .seq (.seq (.ops [o1 1 (.box (.t 0)),
    o1 2 (.mv (.c (.b false)))]) (.keep [1]))
  (.seq (.seq (.seq (.ops [o1 5 (.fldA 0 (.t 1)),
    o1 6 (.load (.t 5)),
    o1 7 (.call f_iroomsValid [(.t 6)]),
    o1 8 (.un .not (.t 7)),
    o1 9 (.mv (.t 8)),
    ⟨some 10, (some (9, false)), [], false, .fldA 1 (.t 1)⟩,
    ⟨some 11, (some (9, false)), [], false, .load (.t 10)⟩,
    ⟨some 12, (some (9, false)), [], false, .len (.t 11)⟩,
    ⟨some 13, (some (9, false)), [], false, .bin .lss (.t 12) (.c (.I 1))⟩,
    o1 14 (.pick (.t 9) (.c (.b true)) (.t 13)),
    o1 15 (.mv (.t 14)),
    ⟨some 16, (some (15, false)), [], false, .fldA 1 (.t 1)⟩,
    ⟨some 17, (some (15, false)), [], false, .load (.t 16)⟩,
    ⟨some 18, (some (15, false)), [], false, .len (.t 17)⟩,
    ⟨some 19, (some (15, false)), [], false, .bin .gtr (.t 18) (.c (.I 3))⟩,
    o1 20 (.pick (.t 15) (.c (.b true)) (.t 19))]) (.keep [1, 20]))
  (.seq (.cond (.t 20)
  (.seq (.ops [o1 2 (.mv (.c (.b false)))])
  (.ret))
  (.skip)) (.keep [1])))
  (.seq (.seq (.seq (.ops [o1 21 (.fldA 1 (.t 1)),
    o1 22 (.load (.t 21)),
    o1 23 (.len (.t 22)),
    o1 24 (.mv (.c (.I 0)))]) (.keep [1, 22, 23, 24]))
  (.seq (.block 0 (.seq (.keep [1, 22, 23, 24]) (.loop c_iProgramValid_l0))) (.keep [])))
  (.seq (.ops [o1 2 (.mv (.c (.b true)))])
  (.ret)))), [.t 2]⟩

/- loop.example/cothreads/impl.boxesNew -/
def c_iboxesNew_l0 : AC := .seq (.seq (.ops [o1 9 (.bin .lss (.t 8) (.t 7))])
  (.seq (.seq (.cond (.t 9)
  (.skip)
  (.exit 0)) (.keep [3, 6, 7, 8]))
  (.seq (.seq (.block 1 (.seq (.seq (.ops [o1 10 (.idxA 1 (.t 6) (.t 8)),
    o1 11 (.load (.t 10)),
    o1 5 (.mv (.t 11))]) (.keep [3, 5, 6, 7, 8]))
  (.seq (.ops [o1 12 (.mv (.t 3)),
    o1 13 (.mv (.t 5)),
    o1 14 (.build [(.I 0), .nils] [(0, 1, (.t 13))]),
    o1 15 (.bsl [(.I 0), .nils] 1 [(0, 2, (.t 14))]),
    o1 16 (.app 2 (.t 12) (.t 15)),
    o1 3 (.mv (.t 16))]) (.keep [3, 6, 7, 8])))) (.keep [3, 6, 7, 8]))
  (.seq (.ops [o1 17 (.bin .add (.t 8) (.c (.I 1))),
    o1 8 (.mv (.t 17))]) (.keep [3, 6, 7, 8]))))) (.keep [3, 6, 7, 8])
def c_iboxesNew : AFn := ⟨1, .seq (.seq (.ops [o1 2 (.mv (.c .nils))]) (.keep [0]))
  (.seq (.ops [o1 3 (.mv (.c .nils))])
  (.seq (.seq (.ops [o1 6 (.mv (.t 0)),
    o1 7 (.len (.t 6)),
    o1 8 (.mv (.c (.I 0)))])
  (.seq (.block 0 (.seq (.keep [3, 6, 7, 8]) (.loop c_iboxesNew_l0))) (.keep [3])))
  (.seq (.seq (.ops [o1 18 (.mv (.t 3)),
    o1 2 (.mv (.t 18))]) (.keep [2]))
  (.ret)))), [.t 2]⟩

/- loop.example/cothreads/impl.TaskNew -/
def c_iTaskNew : AFn := ⟨1, .seq (.seq (.ops [o1 2 (.alloc [.nils, .nils]),
    o1 3 (.mv (.c (.b false)))]) (.keep [0, 2]))
  (.seq (.seq (.seq (.ops [o1 4 (.mv (.t 0)),
    o1 5 (.call f_iStmtsValid [(.t 4)]),
    o1 6 (.un .not (.t 5))]) (.keep [0, 2, 6]))
  (.seq (.cond (.t 6)
  (.seq (.seq (.ops [o1 7 (.build [.nils, .nils] []),
    o0 (.store 2 (.t 2) (.t 7)),
    o1 3 (.mv (.c (.b false)))]) (.keep [2, 3]))
  (.ret))
  (.skip)) (.keep [0, 2])))
  (.seq (.seq (.ops [o1 8 (.mksl [(.I 0)] (.c (.I 4)) (.c (.I 4))),
    o1 9 (.mv (.t 0)),
    ⟨some 10, none, [], true, .call f_istmtsCopy [(.t 9)]⟩,
    o1 11 (.build [.nils, .nils] [(0, 1, (.t 8)), (1, 1, (.t 10))]),
    o0 (.store 2 (.t 2) (.t 11)),
    o1 3 (.mv (.c (.b true)))]) (.keep [2, 3]))
  (.ret))), [.c 2 2, .t 3]⟩

/- loop.example/cothreads/spec.ProgramValid -/
def c_sProgramValid_l0 : AC := .seq (.seq (.seq (.seq (.ops [o1 15 (.mv (.t 3)),
    o1 16 (.fldA 1 (.t 1)),
    o1 17 (.load (.t 16)),
    o1 18 (.len (.t 17)),
    o1 19 (.bin .lss (.t 15) (.t 18))]) (.keep [1, 3, 19]))
  (.seq (.cond (.t 19)
  (.skip)
  (.exit 0)) (.keep [1, 3])))
  (.seq (.seq (.block 1 (.seq (.seq (.ops [o1 22 (.fldA 1 (.t 1)),
    o1 23 (.load (.t 22)),
    o1 24 (.mv (.t 3)),
    o1 25 (.idxA 1 (.t 23) (.t 24)),
    o1 26 (.load (.t 25)),
    ⟨some 27, none, [], true, .call f_sStmtsValid [(.t 26)]⟩,
    o1 28 (.un .not (.t 27)),
    o1 29 (.mv (.t 28)),
    ⟨some 30, (some (29, false)), [], false, .fldA 1 (.t 1)⟩,
    ⟨some 31, (some (29, false)), [], false, .load (.t 30)⟩,
    ⟨some 32, (some (29, false)), [], false, .mv (.t 3)⟩,
    ⟨some 33, (some (29, false)), [], false, .idxA 1 (.t 31) (.t 32)⟩,
    ⟨some 34, (some (29, false)), [], false, .load (.t 33)⟩,
    ⟨some 35, (some (29, false)), [], false, .fldA 0 (.t 1)⟩,
    ⟨some 36, (some (29, false)), [], false, .load (.t 35)⟩,
    ⟨some 37, (some (29, false)), [], false, .len (.t 36)⟩,
    ⟨some 38, (some (29, false)), [], true, .call f_sl12Boxes [(.t 34), (.t 37)]⟩,
    ⟨some 39, (some (29, false)), [], false, .un .not (.t 38)⟩,
    o1 40 (.pick (.t 29) (.c (.b true)) (.t 39))]) (.keep [1, 3, 40]))
  (.seq (.cond (.t 40)
  (.seq (.ops [o1 2 (.mv (.c (.b false)))])
  (.ret))
  (.skip)) (.keep [1, 3])))) (.keep [1, 3]))
  (.seq (.ops [o1 20 (.mv (.t 3)),
    o1 21 (.bin .add (.t 20) (.c (.I 1))),
    o1 3 (.mv (.t 21))]) (.keep [1, 3])))) (.keep [1, 3])
def c_sProgramValid : AFn := ⟨1, .seq (.seq (.ops [o1 1 (.box (.t 0)),
    o1 2 (.mv (.c (.b false)))]) (.keep [1]))
  (.seq (.seq (.seq (.ops [o1 4 (.fldA 0 (.t 1)),
    o1 5 (.load (.t 4)),
    o1 6 (.call f_sl12Rooms [(.t 5)]),
    o1 7 (.un .not (.t 6)),
    o1 8 (.mv (.t 7)),
    ⟨some 9, (some (8, false)), [], false, .fldA 1 (.t 1)⟩,
    ⟨some 10, (some (8, false)), [], false, .load (.t 9)⟩,
    ⟨some 11, (some (8, false)), [], false, .len (.t 10)⟩,
    ⟨some 12, (some (8, false)), [], false, .call f_sl6In [(.t 11), (.c (.I 1)), (.c (.I 3))]⟩,
    ⟨some 13, (some (8, false)), [], false, .un .not (.t 12)⟩,
    o1 14 (.pick (.t 8) (.c (.b true)) (.t 13))]) (.keep [1, 14]))
  (.seq (.cond (.t 14)
  (.seq (.ops [o1 2 (.mv (.c (.b false)))])
  (.ret))
  (.skip)) (.keep [1])))
  (.seq (.seq (.ops [o1 3 (.mv (.c (.I 0)))])
  (.seq (.block 0 (.seq (.keep [1, 3]) (.loop c_sProgramValid_l0))) (.keep [])))
  (.seq (.ops [o1 2 (.mv (.c (.b true)))])
  (.ret)))), [.t 2]⟩

/- loop.example/cothreads/impl.WorldOutcome -/
def c_iWorldOutcome_l0 : AC := .seq (.seq (.ops [o1 25 (.bin .lss (.t 24) (.t 23))])
  (.seq (.seq (.cond (.t 25)
  (.skip)
  (.exit 0)) (.keep [2, 3, 22, 23, 24]))
  (.seq (.seq (.block 1 (.seq (.seq (.ops [o1 26 (.idxA 2 (.t 22) (.t 24)),
    o1 27 (.loadN 2 (.t 26)),
    o1 5 (.alloc [.nils, .nils]),
    o0 (.store 2 (.t 5) (.t 27))]) (.keep [2, 3, 5, 22, 23, 24]))
  (.seq (.ops [o1 28 (.fldA 2 (.t 3)),
    o1 29 (.load (.t 28)),
    o1 30 (.fldA 1 (.t 5)),
    o1 31 (.load (.t 30)),
    o1 32 (.len (.t 31)),
    o1 33 (.bin .eql (.t 32) (.c (.I 0))),
    o1 34 (.bsl [(.b false)] 1 [(0, 1, (.t 33))]),
    o1 35 (.app 1 (.t 29) (.t 34)),
    o1 36 (.fldA 2 (.t 3)),
    o0 (.store 1 (.t 36) (.t 35))]) (.keep [2, 3, 22, 23, 24])))) (.keep [2, 3, 22, 23, 24]))
  (.seq (.ops [o1 37 (.bin .add (.t 24) (.c (.I 1))),
    o1 24 (.mv (.t 37))]) (.keep [2, 3, 22, 23, 24]))))) (.keep [2, 3, 22, 23, 24])
def c_iWorldOutcome : AFn := ⟨1, .seq (.ops [o1 1 (.box (.t 0)),
    o1 2 (.alloc [.nils, .nils, .nils, (.b false)])])
  (.seq (.seq (.seq (.ops [o1 6 (.loadN 5 (.t 1)),
    o1 7 (.call f_iWorldValid [(.t 6)]),
    o1 8 (.un .not (.t 7))]) (.keep [1, 2, 8]))
  (.seq (.cond (.t 8)
  (.seq (.seq (.ops [o1 9 (.build [.nils, .nils, .nils, (.b false)] []),
    o0 (.store 4 (.t 2) (.t 9))]) (.keep [2]))
  (.ret))
  (.skip)) (.keep [1, 2])))
  (.seq (.seq (.ops [o1 10 (.fldA 4 (.t 1)),
    o1 11 (.load (.t 10)),
    o1 12 (.fldA 1 (.t 1)),
    o1 13 (.load (.t 12)),
    o1 14 (.fldA 3 (.t 1)),
    o1 15 (.load (.t 14)),
    o1 16 (.fldA 0 (.t 1)),
    o1 17 (.load (.t 16)),
    o1 18 (.len (.t 17)),
    o1 19 (.bin .eql (.t 15) (.t 18)),
    o1 20 (.call f_ioutcomeOf [(.t 11), (.t 13), (.t 19)]),
    o1 3 (.alloc [.nils, .nils, .nils, (.b false)]),
    o0 (.store 4 (.t 3) (.t 20))]) (.keep [1, 2, 3]))
  (.seq (.seq (.seq (.ops [o1 21 (.fldA 0 (.t 1)),
    o1 22 (.load (.t 21)),
    o1 23 (.len (.t 22)),
    o1 24 (.mv (.c (.I 0)))]) (.keep [2, 3, 22, 23, 24]))
  (.seq (.block 0 (.seq (.keep [2, 3, 22, 23, 24]) (.loop c_iWorldOutcome_l0))) (.keep [2, 3])))
  (.seq (.seq (.ops [o1 38 (.loadN 4 (.t 3)),
    o0 (.store 4 (.t 2) (.t 38))]) (.keep [2]))
  (.ret))))), [.c 2 4]⟩

/- loop.example/cothreads/impl.compileTask -/
def c_icompileTask : AFn := ⟨1, .seq (.seq (.ops [o1 2 (.mv (.c .nils))]) (.keep [0]))
  (.seq (.seq (.ops [o1 3 (.mv (.t 0)),
    o1 4 (.call f_icompileStmts [(.t 3), (.c .nils)]),
    o1 5 (.build [(.I 0), (.I 0), (.I 0), (.I 0), (.I 0)] [(0, 1, (.c (.I 10)))]),
    o1 6 (.bsl [(.I 0), (.I 0), (.I 0), (.I 0), (.I 0)] 1 [(0, 5, (.t 5))]),
    o1 7 (.app 5 (.t 4) (.t 6)),
    o1 2 (.mv (.t 7))]) (.keep [2]))
  (.ret)), [.t 2]⟩

/- loop.example/cothreads/impl.CrewNew -/
def c_iCrewNew_l0 : AC := .seq (.seq (.ops [o1 15 (.bin .lss (.t 14) (.t 13))])
  (.seq (.seq (.cond (.t 15)
  (.skip)
  (.exit 0)) (.keep [0, 4, 6, 13, 14]))
  (.seq (.seq (.block 1 (.seq (.ops [o1 16 (.fldA 1 (.t 6)),
    o1 17 (.load (.t 16)),
    o1 18 (.mksl [(.I 0)] (.c (.I 12)) (.c (.I 12))),
    o1 19 (.build [.nils, (.I 0)] [(0, 1, (.t 18))]),
    o1 20 (.bsl [.nils, (.I 0)] 1 [(0, 2, (.t 19))]),
    o1 21 (.app 2 (.t 17) (.t 20)),
    o1 22 (.fldA 1 (.t 6)),
    o0 (.store 1 (.t 22) (.t 21))]) (.keep [0, 4, 6, 13, 14]))) (.keep [0, 4, 6, 13, 14]))
  (.seq (.ops [o1 23 (.bin .add (.t 14) (.c (.I 1))),
    o1 14 (.mv (.t 23))]) (.keep [0, 4, 6, 13, 14]))))) (.keep [0, 4, 6, 13, 14])
def c_iCrewNew : AFn := ⟨2, .seq (.seq (.ops [o1 4 (.alloc [.nils, .nils, .nils, (.I 0), (.I 0), .nils]),
    o1 5 (.mv (.c (.b false)))]) (.keep [0, 1, 4]))
  (.seq (.seq (.ops [o1 7 (.mv (.t 1)),
    o1 8 (.call f_icodesCopy [(.t 7)]),
    o1 9 (.mv (.t 0)),
    o1 10 (.call f_iboxesNew [(.t 9)]),
    o1 11 (.build [.nils, .nils, .nils, (.I 0), (.I 0), .nils] [(0, 1, (.t 8)), (2, 1, (.t 10))]),
    o1 6 (.alloc [.nils, .nils, .nils, (.I 0), (.I 0), .nils]),
    o0 (.store 6 (.t 6) (.t 11))]) (.keep [0, 1, 4, 6]))
  (.seq (.seq (.seq (.ops [o1 12 (.mv (.t 1)),
    o1 13 (.len (.t 12)),
    o1 14 (.mv (.c (.I 0)))]) (.keep [0, 4, 6, 13, 14]))
  (.seq (.block 0 (.seq (.keep [0, 4, 6, 13, 14]) (.loop c_iCrewNew_l0))) (.keep [0, 4, 6])))
  (.seq (.seq (.seq (.ops [o1 24 (.mv (.t 0)),
    o1 25 (.call f_iroomsValid [(.t 24)]),
    o1 26 (.un .not (.t 25)),
    o1 27 (.mv (.t 26)),
    ⟨some 28, (some (27, false)), [], false, .loadN 6 (.t 6)⟩,
    ⟨some 29, (some (27, false)), [], false, .call f_iCrewValid [(.t 28)]⟩,
    ⟨some 30, (some (27, false)), [], false, .un .not (.t 29)⟩,
    o1 31 (.pick (.t 27) (.c (.b true)) (.t 30))]) (.keep [4, 6, 31]))
  (.seq (.cond (.t 31)
  (.seq (.seq (.ops [o1 32 (.build [.nils, .nils, .nils, (.I 0), (.I 0), .nils] []),
    o0 (.store 6 (.t 4) (.t 32)),
    o1 5 (.mv (.c (.b false)))]) (.keep [4, 5]))
  (.ret))
  (.skip)) (.keep [4, 6])))
  (.seq (.seq (.ops [o1 33 (.loadN 6 (.t 6)),
    o0 (.store 6 (.t 4) (.t 33)),
    o1 5 (.mv (.c (.b true)))]) (.keep [4, 5]))
  (.ret))))), [.c 4 6, .t 5]⟩

/- loop.example/cothreads/impl.CrewRun -/
def c_iCrewRun_l0 : AC := .seq (.seq (.ops [o1 35 (.bin .lss (.t 34) (.t 33))])
  (.seq (.seq (.cond (.t 35)
  (.skip)
  (.exit 0)) (.keep [1, 2, 4, 6, 32, 33, 34]))
  (.seq (.seq (.block 1 (.seq (.seq (.ops [o1 36 (.idxA 2 (.t 32) (.t 34)),
    o1 37 (.loadN 2 (.t 36)),
    o1 8 (.alloc [.nils, (.I 0)]),
    o0 (.store 2 (.t 8) (.t 37))]) (.keep [1, 2, 4, 6, 8, 32, 33, 34]))
  (.seq (.ops [o1 38 (.fldA 1 (.t 6)),
    o1 39 (.load (.t 38)),
    o1 40 (.fldA 0 (.t 8)),
    o1 41 (.load (.t 40)),
    ⟨some 42, none, [], true, .call f_slices_Clone_int_int [(.t 41)]⟩,
    o1 43 (.fldA 1 (.t 8)),
    o1 44 (.load (.t 43)),
    o1 45 (.build [.nils, (.I 0)] [(0, 1, (.t 42)), (1, 1, (.t 44))]),
    o1 46 (.bsl [.nils, (.I 0)] 1 [(0, 2, (.t 45))]),
    o1 47 (.app 2 (.t 39) (.t 46)),
    o1 48 (.fldA 1 (.t 6)),
    o0 (.store 1 (.t 48) (.t 47))]) (.keep [1, 2, 4, 6, 32, 33, 34])))) (.keep [1, 2, 4, 6, 32, 33, 34]))
  (.seq (.ops [o1 49 (.bin .add (.t 34) (.c (.I 1))),
    o1 34 (.mv (.t 49))]) (.keep [1, 2, 4, 6, 32, 33, 34]))))) (.keep [1, 2, 4, 6, 32, 33, 34])
def c_iCrewRun : AFn := ⟨2, .seq (.seq (.ops [o1 2 (.box (.t 0)),
    o1 4 (.alloc [.nils, .nils, .nils, (.I 0), (.I 0), .nils]),
    o1 5 (.mv (.c (.b false)))]) (.keep [1, 2, 4]))
  (.seq (.seq (.seq (.ops [o1 9 (.loadN 6 (.t 2)),
    o1 10 (.call f_iCrewValid [(.t 9)]),
    o1 11 (.un .not (.t 10)),
    o1 12 (.mv (.t 11)),
    ⟨some 13, (some (12, false)), [], false, .mv (.t 1)⟩,
    ⟨some 14, (some (12, false)), [], false, .bin .lss (.t 13) (.c (.I 0))⟩,
    o1 15 (.pick (.t 12) (.c (.b true)) (.t 14)),
    o1 16 (.mv (.t 15)),
    ⟨some 17, (some (16, false)), [], false, .mv (.t 1)⟩,
    ⟨some 18, (some (16, false)), [], false, .bin .gtr (.t 17) (.c (.I 100000))⟩,
    o1 19 (.pick (.t 16) (.c (.b true)) (.t 18))]) (.keep [1, 2, 4, 19]))
  (.seq (.cond (.t 19)
  (.seq (.seq (.ops [o1 20 (.build [.nils, .nils, .nils, (.I 0), (.I 0), .nils] []),
    o0 (.store 6 (.t 4) (.t 20)),
    o1 5 (.mv (.c (.b false)))]) (.keep [4, 5]))
  (.ret))
  (.skip)) (.keep [1, 2, 4])))
  (.seq (.seq (.ops [o1 21 (.fldA 0 (.t 2)),
    o1 22 (.load (.t 21)),
    ⟨some 23, none, [], true, .call f_icodesCopy [(.t 22)]⟩,
    o1 24 (.fldA 2 (.t 2)),
    o1 25 (.load (.t 24)),
    ⟨some 26, none, [], true, .call f_iboxesCopy [(.t 25)]⟩,
    o1 27 (.fldA 5 (.t 2)),
    o1 28 (.load (.t 27)),
    ⟨some 29, none, [], true, .call f_slices_Clone_int_int [(.t 28)]⟩,
    o1 30 (.build [.nils, .nils, .nils, (.I 0), (.I 0), .nils] [(0, 1, (.t 23)), (2, 1, (.t 26)), (5, 1, (.t 29))]),
    o1 6 (.alloc [.nils, .nils, .nils, (.I 0), (.I 0), .nils]),
    o0 (.store 6 (.t 6) (.t 30))]) (.keep [1, 2, 4, 6]))
  (.seq (.seq (.seq (.ops [o1 31 (.fldA 1 (.t 2)),
    o1 32 (.load (.t 31)),
    o1 33 (.len (.t 32)),
    o1 34 (.mv (.c (.I 0)))]) (.keep [1, 2, 4, 6, 32, 33, 34]))
  (.seq (.block 0 (.seq (.keep [1, 2, 4, 6, 32, 33, 34]) (.loop c_iCrewRun_l0))) (.keep [1, 2, 4, 6])))
  (.seq (.seq (.ops [o1 51 (.mv (.t 1)),
    o1 52 (.fldA 1 (.t 6)),
    o1 53 (.load (.t 52)),
    o1 54 (.len (.t 53)),
    o1 55 (.fldA 3 (.t 2)),
    o1 56 (.load (.t 55)),
    o1 57 (.fldA 4 (.t 2)),
    o1 58 (.load (.t 57)),
    o1 59 (.mkfn f_iCrewRun_1 [] [(.t 6)]),
    o1 60 (.call f_itakeTurns [(.t 51), (.t 54), (.t 56), (.t 58), (.t 59)]),
    o1 50 (.mv (.t 60)),
    o1 61 (.ext (.t 50) 0),
    o1 62 (.ext (.t 50) 1),
    o1 63 (.ext (.t 50) 2),
    o1 64 (.fldA 3 (.t 6)),
    o0 (.store 1 (.t 64) (.t 61)),
    o1 65 (.fldA 4 (.t 6)),
    o0 (.store 1 (.t 65) (.t 62))]) (.keep [4, 6]))
  (.seq (.seq (.ops [o1 66 (.loadN 6 (.t 6)),
    o0 (.store 6 (.t 4) (.t 66)),
    o1 5 (.mv (.c (.b true)))]) (.keep [4, 5]))
  (.ret)))))), [.c 4 6, .t 5]⟩

/- loop.example/cothreads/spec.CompileTask -/
def c_sCompileTask : AFn := ⟨1, .seq (.seq (.ops [o1 2 (.mv (.c .nils)),
    o1 3 (.mv (.c (.b false)))]) (.keep [0]))
  (.seq (.seq (.seq (.ops [o1 4 (.mv (.t 0)),
    o1 5 (.call f_sStmtsValid [(.t 4)]),
    o1 6 (.un .not (.t 5))]) (.keep [0, 6]))
  (.seq (.cond (.t 6)
  (.seq (.seq (.ops [o1 7 (.bsl [] 0 []),
    o1 2 (.mv (.t 7)),
    o1 3 (.mv (.c (.b false)))]) (.keep [2, 3]))
  (.ret))
  (.skip)) (.keep [0])))
  (.seq (.seq (.ops [o1 8 (.mv (.t 0)),
    o1 9 (.call f_sl22List [(.t 8), (.c (.I 0))]),
    o1 10 (.build [(.I 0), (.I 0), (.I 0), (.I 0), (.I 0)] [(0, 1, (.c (.I 10)))]),
    o1 11 (.bsl [(.I 0), (.I 0), (.I 0), (.I 0), (.I 0)] 1 [(0, 5, (.t 10))]),
    o1 12 (.app 5 (.t 9) (.t 11)),
    o1 2 (.mv (.t 12)),
    o1 3 (.mv (.c (.b true)))]) (.keep [2, 3]))
  (.ret))), [.t 2, .t 3]⟩

/- loop.example/cothreads/laws.sameCode -/
def c_wsameCode_l0 : AC := .seq (.seq (.seq (.seq (.ops [o1 11 (.mv (.t 5)),
    o1 12 (.mv (.t 0)),
    o1 13 (.len (.t 12)),
    o1 14 (.bin .lss (.t 11) (.t 13))]) (.keep [0, 1, 5, 14]))
  (.seq (.cond (.t 14)
  (.skip)
  (.exit 0)) (.keep [0, 1, 5])))
  (.seq (.seq (.block 1 (.seq (.seq (.ops [o1 17 (.mv (.t 0)),
    o1 18 (.mv (.t 5)),
    o1 19 (.idxA 5 (.t 17) (.t 18)),
    o1 20 (.loadN 5 (.t 19)),
    o1 21 (.mv (.t 1)),
    o1 22 (.mv (.t 5)),
    o1 23 (.idxA 5 (.t 21) (.t 22)),
    o1 24 (.loadN 5 (.t 23)),
    o1 25 (.eqA 5 true (.t 20) (.t 24))]) (.keep [0, 1, 5, 25]))
  (.seq (.cond (.t 25)
  (.seq (.ops [o1 4 (.mv (.c (.b false)))])
  (.ret))
  (.skip)) (.keep [0, 1, 5])))) (.keep [0, 1, 5]))
  (.seq (.ops [o1 15 (.mv (.t 5)),
    o1 16 (.bin .add (.t 15) (.c (.I 1))),
    o1 5 (.mv (.t 16))]) (.keep [0, 1, 5])))) (.keep [0, 1, 5])
def c_wsameCode : AFn := ⟨2, .seq (.seq (.ops [o1 4 (.mv (.c (.b false)))]) (.keep [0, 1]))
  (.seq (.seq (.seq (.ops [o1 6 (.mv (.t 0)),
    o1 7 (.len (.t 6)),
    o1 8 (.mv (.t 1)),
    o1 9 (.len (.t 8)),
    o1 10 (.bin .neq (.t 7) (.t 9))]) (.keep [0, 1, 10]))
  (.seq (.cond (.t 10)
  (.seq (.ops [o1 4 (.mv (.c (.b false)))])
  (.ret))
  (.skip)) (.keep [0, 1])))
  (.seq (.seq (.ops [o1 5 (.mv (.c (.I 0)))])
  (.seq (.block 0 (.seq (.keep [0, 1, 5]) (.loop c_wsameCode_l0))) (.keep [])))
  (.seq (.ops [o1 4 (.mv (.c (.b true)))])
  (.ret)))), [.t 4]⟩

/- loop.example/cothreads/impl.CrewValid -/
def c_iCrewValid_l1 : AC := .seq (.seq (.ops [o1 52 (.bin .lss (.t 51) (.t 50))])
  (.seq (.seq (.cond (.t 52)
  (.skip)
  (.exit 2)) (.keep [1, 34, 35, 36, 49, 50, 51]))
  (.seq (.seq (.block 3 (.seq (.seq (.ops [o1 53 (.idxA 5 (.t 49) (.t 51)),
    o1 54 (.loadN 5 (.t 53)),
    o1 6 (.alloc [(.I 0), (.I 0), (.I 0), (.I 0), (.I 0)]),
    o0 (.store 5 (.t 6) (.t 54))]) (.keep [1, 6, 34, 35, 36, 49, 50, 51]))
  (.seq (.seq (.ops [o1 55 (.loadN 5 (.t 6)),
    o1 56 (.fldA 2 (.t 1)),
    o1 57 (.load (.t 56)),
    o1 58 (.len (.t 57)),
    o1 59 (.call f_iboxThere [(.t 55), (.t 58)]),
    o1 60 (.un .not (.t 59))]) (.keep [1, 34, 35, 36, 49, 50, 51, 60]))
  (.seq (.cond (.t 60)
  (.seq (.ops [o1 2 (.mv (.c (.b false)))])
  (.ret))
  (.skip)) (.keep [1, 34, 35, 36, 49, 50, 51]))))) (.keep [1, 34, 35, 36, 49, 50, 51]))
  (.seq (.ops [o1 61 (.bin .add (.t 51) (.c (.I 1))),
    o1 51 (.mv (.t 61))]) (.keep [1, 34, 35, 36, 49, 50, 51]))))) (.keep [1, 34, 35, 36, 49, 50, 51])
def c_iCrewValid_l0 : AC := .seq (.seq (.ops [o1 37 (.bin .lss (.t 36) (.t 35))])
  (.seq (.seq (.cond (.t 37)
  (.skip)
  (.exit 0)) (.keep [1, 34, 35, 36]))
  (.seq (.seq (.block 1 (.seq (.seq (.ops [o1 38 (.mv (.t 36)),
    o1 39 (.idxA 1 (.t 34) (.t 36)),
    o1 40 (.load (.t 39)),
    o1 3 (.mv (.t 38)),
    o1 4 (.mv (.t 40))]) (.keep [1, 3, 4, 34, 35, 36]))
  (.seq (.seq (.seq (.ops [o1 41 (.fldA 1 (.t 1)),
    o1 42 (.load (.t 41)),
    o1 43 (.mv (.t 3)),
    o1 44 (.idxA 2 (.t 42) (.t 43)),
    o1 45 (.loadN 2 (.t 44)),
    o1 46 (.mv (.t 4)),
    o1 47 (.call f_iThreadValid [(.t 45), (.t 46)]),
    o1 48 (.un .not (.t 47))]) (.keep [1, 4, 34, 35, 36, 48]))
  (.seq (.cond (.t 48)
  (.seq (.ops [o1 2 (.mv (.c (.b false)))])
  (.ret))
  (.skip)) (.keep [1, 4, 34, 35, 36])))
  (.seq (.ops [o1 49 (.mv (.t 4)),
    o1 50 (.len (.t 49)),
    o1 51 (.mv (.c (.I 0)))])
  (.seq (.block 2 (.seq (.keep [1, 34, 35, 36, 49, 50, 51]) (.loop c_iCrewValid_l1))) (.keep [1, 34, 35, 36])))))) (.keep [1, 34, 35, 36]))
  (.seq (.ops [o1 62 (.bin .add (.t 36) (.c (.I 1))),
    o1 36 (.mv (.t 62))]) (.keep [1, 34, 35, 36]))))) (.keep [1, 34, 35, 36])
def c_iCrewValid : AFn := ⟨1, .seq (.seq (.ops [o1 1 (.box (.t 0)),
    o1 2 (.mv (.c (.b false)))]) (.keep [1]))
  (.seq (.seq (.seq (.ops [o1 7 (.fldA 0 (.t 1)),
    o1 8 (.load (.t 7)),
    o1 9 (.len (.t 8)),
    o1 10 (.fldA 3 (.t 1)),
    o1 11 (.load (.t 10)),
    o1 12 (.fldA 4 (.t 1)),
    o1 13 (.load (.t 12)),
    o1 14 (.fldA 5 (.t 1)),
    o1 15 (.load (.t 14)),
    o1 16 (.call f_iturnsValid [(.t 9), (.t 11), (.t 13), (.t 15)]),
    o1 17 (.un .not (.t 16)),
    o1 18 (.mv (.t 17)),
    ⟨some 19, (some (18, false)), [], false, .fldA 1 (.t 1)⟩,
    ⟨some 20, (some (18, false)), [], false, .load (.t 19)⟩,
    ⟨some 21, (some (18, false)), [], false, .len (.t 20)⟩,
    ⟨some 22, (some (18, false)), [], false, .fldA 0 (.t 1)⟩,
    ⟨some 23, (some (18, false)), [], false, .load (.t 22)⟩,
    ⟨some 24, (some (18, false)), [], false, .len (.t 23)⟩,
    ⟨some 25, (some (18, false)), [], false, .bin .neq (.t 21) (.t 24)⟩,
    o1 26 (.pick (.t 18) (.c (.b true)) (.t 25)),
    o1 27 (.mv (.t 26)),
    ⟨some 28, (some (27, false)), [], false, .fldA 2 (.t 1)⟩,
    ⟨some 29, (some (27, false)), [], false, .load (.t 28)⟩,
    ⟨some 30, (some (27, false)), [], false, .call f_iboxesValid [(.t 29)]⟩,
    ⟨some 31, (some (27, false)), [], false, .un .not (.t 30)⟩,
    o1 32 (.pick (.t 27) (.c (.b true)) (.t 31))]) (.keep [1, 32]))
  (.seq (.cond (.t 32)
  (.seq (.ops [o1 2 (.mv (.c (.b false)))])
  (.ret))
  (.skip)) (.keep [1])))
  (.seq (.seq (.seq (.ops [o1 33 (.fldA 0 (.t 1)),
    o1 34 (.load (.t 33)),
    o1 35 (.len (.t 34)),
    o1 36 (.mv (.c (.I 0)))]) (.keep [1, 34, 35, 36]))
  (.seq (.block 0 (.seq (.keep [1, 34, 35, 36]) (.loop c_iCrewValid_l0))) (.keep [])))
  (.seq (.ops [o1 2 (.mv (.c (.b true)))])
  (.ret)))), [.t 2]⟩

/- loop.example/cothreads/impl.outcomeOf -/
def c_ioutcomeOf_l0 : AC := .seq (.seq (.ops [o1 17 (.bin .lss (.t 16) (.t 15))])
  (.seq (.seq (.cond (.t 17)
  (.skip)
  (.exit 0)) (.keep [6, 7, 14, 15, 16]))
  (.seq (.seq (.block 1 (.seq (.seq (.ops [o1 18 (.idxA 2 (.t 14) (.t 16)),
    o1 19 (.loadN 2 (.t 18)),
    o1 9 (.alloc [(.I 0), .nils]),
    o0 (.store 2 (.t 9) (.t 19))]) (.keep [6, 7, 9, 14, 15, 16]))
  (.seq (.ops [o1 20 (.fldA 1 (.t 7)),
    o1 21 (.load (.t 20)),
    o1 22 (.fldA 1 (.t 9)),
    o1 23 (.load (.t 22)),
    ⟨some 24, none, [], true, .call f_slices_Clone_int_int [(.t 23)]⟩,
    o1 25 (.bsl [.nils] 1 [(0, 1, (.t 24))]),
    o1 26 (.app 1 (.t 21) (.t 25)),
    o1 27 (.fldA 1 (.t 7)),
    o0 (.store 1 (.t 27) (.t 26))]) (.keep [6, 7, 14, 15, 16])))) (.keep [6, 7, 14, 15, 16]))
  (.seq (.ops [o1 28 (.bin .add (.t 16) (.c (.I 1))),
    o1 16 (.mv (.t 28))]) (.keep [6, 7, 14, 15, 16]))))) (.keep [6, 7, 14, 15, 16])
def c_ioutcomeOf : AFn := ⟨3, .seq (.ops [o1 6 (.alloc [.nils, .nils, .nils, (.b false)])])
  (.seq (.seq (.ops [o1 10 (.mv (.t 0)),
    o1 11 (.call f_slices_Clone_int_int [(.t 10)]),
    o1 12 (.mv (.t 2)),
    o1 13 (.build [.nils, .nils, .nils, (.b false)] [(0, 1, (.t 11)), (3, 1, (.t 12))]),
    o1 7 (.alloc [.nils, .nils, .nils, (.b false)]),
    o0 (.store 4 (.t 7) (.t 13))]) (.keep [1, 6, 7]))
  (.seq (.seq (.ops [o1 14 (.mv (.t 1)),
    o1 15 (.len (.t 14)),
    o1 16 (.mv (.c (.I 0)))])
  (.seq (.block 0 (.seq (.keep [6, 7, 14, 15, 16]) (.loop c_ioutcomeOf_l0))) (.keep [6, 7])))
  (.seq (.seq (.ops [o1 29 (.loadN 4 (.t 7)),
    o0 (.store 4 (.t 6) (.t 29))]) (.keep [6]))
  (.ret)))), [.c 6 4]⟩

/- loop.example/cothreads/laws.sameLists -/
def c_wsameLists_l0 : AC := .seq (.seq (.seq (.seq (.ops [o1 11 (.mv (.t 5)),
    o1 12 (.mv (.t 0)),
    o1 13 (.len (.t 12)),
    o1 14 (.bin .lss (.t 11) (.t 13))]) (.keep [0, 1, 5, 14]))
  (.seq (.cond (.t 14)
  (.skip)
  (.exit 0)) (.keep [0, 1, 5])))
  (.seq (.seq (.block 1 (.seq (.seq (.ops [o1 17 (.mv (.t 0)),
    o1 18 (.mv (.t 5)),
    o1 19 (.idxA 1 (.t 17) (.t 18)),
    o1 20 (.load (.t 19)),
    o1 21 (.mv (.t 1)),
    o1 22 (.mv (.t 5)),
    o1 23 (.idxA 1 (.t 21) (.t 22)),
    o1 24 (.load (.t 23)),
    ⟨some 25, none, [], true, .call f_wsameInts [(.t 20), (.t 24)]⟩,
    o1 26 (.un .not (.t 25))]) (.keep [0, 1, 5, 26]))
  (.seq (.cond (.t 26)
  (.seq (.ops [o1 4 (.mv (.c (.b false)))])
  (.ret))
  (.skip)) (.keep [0, 1, 5])))) (.keep [0, 1, 5]))
  (.seq (.ops [o1 15 (.mv (.t 5)),
    o1 16 (.bin .add (.t 15) (.c (.I 1))),
    o1 5 (.mv (.t 16))]) (.keep [0, 1, 5])))) (.keep [0, 1, 5])
def c_wsameLists : AFn := ⟨2, .seq (.seq (.ops [o1 4 (.mv (.c (.b false)))]) (.keep [0, 1]))
  (.seq (.seq (.seq (.ops [o1 6 (.mv (.t 0)),
    o1 7 (.len (.t 6)),
    o1 8 (.mv (.t 1)),
    o1 9 (.len (.t 8)),
    o1 10 (.bin .neq (.t 7) (.t 9))]) (.keep [0, 1, 10]))
  (.seq (.cond (.t 10)
  (.seq (.ops [o1 4 (.mv (.c (.b false)))])
  (.ret))
  (.skip)) (.keep [0, 1])))
  (.seq (.seq (.ops [o1 5 (.mv (.c (.I 0)))])
  (.seq (.block 0 (.seq (.keep [0, 1, 5]) (.loop c_wsameLists_l0))) (.keep [])))
  (.seq (.ops [o1 4 (.mv (.c (.b true)))])
  (.ret)))), [.t 4]⟩

/- loop.example/cothreads/laws.sameFlags -/
def c_wsameFlags_l0 : AC := .seq (.seq (.seq (.seq (.ops [o1 11 (.mv (.t 5)),
    o1 12 (.mv (.t 0)),
    o1 13 (.len (.t 12)),
    o1 14 (.bin .lss (.t 11) (.t 13))]) (.keep [0, 1, 5, 14]))
  (.seq (.cond (.t 14)
  (.skip)
  (.exit 0)) (.keep [0, 1, 5])))
  (.seq (.seq (.block 1 (.seq (.seq (.ops [o1 17 (.mv (.t 0)),
    o1 18 (.mv (.t 5)),
    o1 19 (.idxA 1 (.t 17) (.t 18)),
    o1 20 (.load (.t 19)),
    o1 21 (.mv (.t 1)),
    o1 22 (.mv (.t 5)),
    o1 23 (.idxA 1 (.t 21) (.t 22)),
    o1 24 (.load (.t 23)),
    o1 25 (.eqB true (.t 20) (.t 24))]) (.keep [0, 1, 5, 25]))
  (.seq (.cond (.t 25)
  (.seq (.ops [o1 4 (.mv (.c (.b false)))])
  (.ret))
  (.skip)) (.keep [0, 1, 5])))) (.keep [0, 1, 5]))
  (.seq (.ops [o1 15 (.mv (.t 5)),
    o1 16 (.bin .add (.t 15) (.c (.I 1))),
    o1 5 (.mv (.t 16))]) (.keep [0, 1, 5])))) (.keep [0, 1, 5])
def c_wsameFlags : AFn := ⟨2, .seq (.seq (.ops [o1 4 (.mv (.c (.b false)))]) (.keep [0, 1]))
  (.seq (.seq (.seq (.ops [o1 6 (.mv (.t 0)),
    o1 7 (.len (.t 6)),
    o1 8 (.mv (.t 1)),
    o1 9 (.len (.t 8)),
    o1 10 (.bin .neq (.t 7) (.t 9))]) (.keep [0, 1, 10]))
  (.seq (.cond (.t 10)
  (.seq (.ops [o1 4 (.mv (.c (.b false)))])
  (.ret))
  (.skip)) (.keep [0, 1])))
  (.seq (.seq (.ops [o1 5 (.mv (.c (.I 0)))])
  (.seq (.block 0 (.seq (.keep [0, 1, 5]) (.loop c_wsameFlags_l0))) (.keep [])))
  (.seq (.ops [o1 4 (.mv (.c (.b true)))])
  (.ret)))), [.t 4]⟩

/- (*loop.example/cothreads/spec.l6Rd).pick -/
def c_sl6Rd_pick : AFn := ⟨2, .seq (.seq (.ops [o1 4 (.mv (.c (.I 0)))]) (.keep [0, 1]))
  (.seq (.seq (.ops [o1 7 (.mv (.t 0)),
    o1 8 (.mv (.t 0)),
    o1 9 (.nilc (.t 8)),
    o1 10 (.fldA 1 (.t 9)),
    o1 11 (.load (.t 10)),
    o1 12 (.bin .add (.t 11) (.c (.I 1))),
    o1 13 (.nilc (.t 7)),
    o1 14 (.fldA 1 (.t 13)),
    o0 (.store 1 (.t 14) (.t 12))]) (.keep [0, 1]))
  (.seq (.seq (.seq (.ops [o1 15 (.mv (.t 1)),
    o1 16 (.bin .lss (.t 15) (.c (.I 1))),
    o1 17 (.mv (.t 16)),
    ⟨some 18, (some (17, false)), [], false, .mv (.t 0)⟩,
    ⟨some 19, (some (17, false)), [], false, .nilc (.t 18)⟩,
    ⟨some 20, (some (17, false)), [], false, .fldA 0 (.t 19)⟩,
    ⟨some 21, (some (17, false)), [], false, .load (.t 20)⟩,
    ⟨some 22, (some (17, false)), [], false, .len (.t 21)⟩,
    ⟨some 23, (some (17, false)), [], false, .bin .eql (.t 22) (.c (.I 0))⟩,
    o1 24 (.pick (.t 17) (.c (.b true)) (.t 23))]) (.keep [0, 1, 24]))
  (.seq (.cond (.t 24)
  (.seq (.ops [o1 4 (.mv (.c (.I 0)))])
  (.ret))
  (.skip)) (.keep [0, 1])))
  (.seq (.seq (.ops [o1 25 (.mv (.t 0)),
    o1 26 (.nilc (.t 25)),
    o1 27 (.fldA 1 (.t 26)),
    o1 28 (.load (.t 27)),
    o1 29 (.bin .sub (.t 28) (.c (.I 1))),
    o1 5 (.mv (.t 29))]) (.keep [0, 1, 5]))
  (.seq (.seq (.seq (.ops [o1 30 (.mv (.t 5)),
    o1 31 (.mv (.t 0)),
    o1 32 (.nilc (.t 31)),
    o1 33 (.fldA 0 (.t 32)),
    o1 34 (.load (.t 33)),
    o1 35 (.len (.t 34)),
    o1 36 (.bin .lss (.t 30) (.t 35))]) (.keep [0, 1, 5, 36]))
  (.seq (.cond (.t 36)
  (.seq (.seq (.ops [o1 37 (.mv (.t 0)),
    o1 38 (.nilc (.t 37)),
    o1 39 (.fldA 0 (.t 38)),
    o1 40 (.load (.t 39)),
    o1 41 (.mv (.t 5)),
    o1 42 (.idxA 1 (.t 40) (.t 41)),
    o1 43 (.load (.t 42)),
    o1 44 (.conv .i64 (.t 43)),
    o1 45 (.mv (.t 1)),
    o1 46 (.bin .rem (.t 44) (.t 45)),
    o1 4 (.mv (.t 46))]) (.keep [4]))
  (.ret))
  (.skip)) (.keep [0, 1, 5])))
  (.seq (.seq (.ops [o1 47 (.mv (.t 0)),
    o1 48 (.nilc (.t 47)),
    o1 49 (.fldA 0 (.t 48)),
    o1 50 (.load (.t 49)),
    o1 51 (.mv (.t 5)),
    o1 52 (.mv (.t 0)),
    o1 53 (.nilc (.t 52)),
    o1 54 (.fldA 0 (.t 53)),
    o1 55 (.load (.t 54)),
    o1 56 (.len (.t 55)),
    o1 57 (.bin .rem (.t 51) (.t 56)),
    o1 58 (.idxA 1 (.t 50) (.t 57)),
    o1 59 (.load (.t 58)),
    o1 60 (.conv .i64 (.t 59)),
    o1 61 (.bin .mul (.t 60) (.c (.I 131))),
    o1 62 (.mv (.t 0)),
    o1 63 (.nilc (.t 62)),
    o1 64 (.fldA 0 (.t 63)),
    o1 65 (.load (.t 64)),
    o1 66 (.mv (.t 5)),
    o1 67 (.bin .mul (.t 66) (.c (.I 7))),
    o1 68 (.bin .add (.t 67) (.c (.I 3))),
    o1 69 (.mv (.t 0)),
    o1 70 (.nilc (.t 69)),
    o1 71 (.fldA 0 (.t 70)),
    o1 72 (.load (.t 71)),
    o1 73 (.len (.t 72)),
    o1 74 (.bin .rem (.t 68) (.t 73)),
    o1 75 (.idxA 1 (.t 65) (.t 74)),
    o1 76 (.load (.t 75)),
    o1 77 (.conv .i64 (.t 76)),
    o1 78 (.bin .mul (.t 77) (.c (.I 1117))),
    o1 79 (.bin .add (.t 61) (.t 78)),
    o1 80 (.mv (.t 5)),
    o1 81 (.bin .mul (.t 80) (.c (.I 29))),
    o1 82 (.bin .add (.t 79) (.t 81)),
    o1 83 (.mv (.t 5)),
    o1 84 (.mv (.t 0)),
    o1 85 (.nilc (.t 84)),
    o1 86 (.fldA 0 (.t 85)),
    o1 87 (.load (.t 86)),
    o1 88 (.len (.t 87)),
    o1 89 (.bin .quo (.t 83) (.t 88)),
    o1 90 (.bin .mul (.t 89) (.c (.I 53))),
    o1 91 (.bin .add (.t 82) (.t 90)),
    o1 6 (.mv (.t 91))]) (.keep [1, 6]))
  (.seq (.seq (.ops [o1 92 (.mv (.t 6)),
    o1 93 (.mv (.t 6)),
    o1 94 (.bin .quo (.t 93) (.c (.I 64))),
    o1 95 (.bin .xor (.t 92) (.t 94)),
    o1 6 (.mv (.t 95))]) (.keep [1, 6]))
  (.seq (.seq (.ops [o1 96 (.mv (.t 6)),
    o1 97 (.mv (.t 1)),
    o1 98 (.bin .rem (.t 96) (.t 97)),
    o1 4 (.mv (.t 98))]) (.keep [4]))
  (.ret)))))))), [.t 4]⟩

/- loop.example/cothreads/impl.WorldValid -/
def c_iWorldValid_l0 : AC := .seq (.seq (.ops [o1 26 (.bin .lss (.t 25) (.t 24))])
  (.seq (.seq (.cond (.t 26)
  (.skip)
  (.exit 0)) (.keep [1, 23, 24, 25]))
  (.seq (.seq (.block 1 (.seq (.seq (.ops [o1 27 (.idxA 2 (.t 23) (.t 25)),
    o1 28 (.loadN 2 (.t 27)),
    o1 4 (.alloc [.nils, .nils]),
    o0 (.store 2 (.t 4) (.t 28))]) (.keep [1, 4, 23, 24, 25]))
  (.seq (.seq (.ops [o1 29 (.loadN 2 (.t 4)),
    o1 30 (.fldA 1 (.t 1)),
    o1 31 (.load (.t 30)),
    o1 32 (.len (.t 31)),
    o1 33 (.call f_itaskValid [(.t 29), (.t 32)]),
    o1 34 (.un .not (.t 33))]) (.keep [1, 23, 24, 25, 34]))
  (.seq (.cond (.t 34)
  (.seq (.ops [o1 2 (.mv (.c (.b false)))])
  (.ret))
  (.skip)) (.keep [1, 23, 24, 25]))))) (.keep [1, 23, 24, 25]))
  (.seq (.ops [o1 35 (.bin .add (.t 25) (.c (.I 1))),
    o1 25 (.mv (.t 35))]) (.keep [1, 23, 24, 25]))))) (.keep [1, 23, 24, 25])
def c_iWorldValid : AFn := ⟨1, .seq (.seq (.ops [o1 1 (.box (.t 0)),
    o1 2 (.mv (.c (.b false)))]) (.keep [1]))
  (.seq (.seq (.seq (.ops [o1 5 (.fldA 0 (.t 1)),
    o1 6 (.load (.t 5)),
    o1 7 (.len (.t 6)),
    o1 8 (.fldA 2 (.t 1)),
    o1 9 (.load (.t 8)),
    o1 10 (.fldA 3 (.t 1)),
    o1 11 (.load (.t 10)),
    o1 12 (.fldA 4 (.t 1)),
    o1 13 (.load (.t 12)),
    o1 14 (.call f_iturnsValid [(.t 7), (.t 9), (.t 11), (.t 13)]),
    o1 15 (.un .not (.t 14)),
    o1 16 (.mv (.t 15)),
    ⟨some 17, (some (16, false)), [], false, .fldA 1 (.t 1)⟩,
    ⟨some 18, (some (16, false)), [], false, .load (.t 17)⟩,
    ⟨some 19, (some (16, false)), [], false, .call f_iboxesValid [(.t 18)]⟩,
    ⟨some 20, (some (16, false)), [], false, .un .not (.t 19)⟩,
    o1 21 (.pick (.t 16) (.c (.b true)) (.t 20))]) (.keep [1, 21]))
  (.seq (.cond (.t 21)
  (.seq (.ops [o1 2 (.mv (.c (.b false)))])
  (.ret))
  (.skip)) (.keep [1])))
  (.seq (.seq (.seq (.ops [o1 22 (.fldA 0 (.t 1)),
    o1 23 (.load (.t 22)),
    o1 24 (.len (.t 23)),
    o1 25 (.mv (.c (.I 0)))]) (.keep [1, 23, 24, 25]))
  (.seq (.block 0 (.seq (.keep [1, 23, 24, 25]) (.loop c_iWorldValid_l0))) (.keep [])))
  (.seq (.ops [o1 2 (.mv (.c (.b true)))])
  (.ret)))), [.t 2]⟩

/- loop.example/cothreads/impl.runWorld -/
def c_irunWorld_l0 : AC := .seq (.seq (.ops [o1 24 (.bin .lss (.t 23) (.t 22))])
  (.seq (.seq (.cond (.t 24)
  (.skip)
  (.exit 0)) (.keep [1, 3, 5, 6, 7, 8, 21, 22, 23]))
  (.seq (.seq (.block 1 (.seq (.seq (.ops [o1 25 (.idxA 2 (.t 21) (.t 23)),
    o1 26 (.loadN 2 (.t 25)),
    o1 10 (.alloc [.nils, .nils]),
    o0 (.store 2 (.t 10) (.t 26))]) (.keep [1, 3, 5, 6, 7, 8, 10, 21, 22, 23]))
  (.seq (.ops [o1 27 (.load (.t 8)),
    o1 28 (.loadN 2 (.t 10)),
    ⟨some 29, none, [], true, .call f_inewRunning [(.t 28)]⟩,
    o1 30 (.bsl [.nilp] 1 [(0, 1, (.t 29))]),
    o1 31 (.app 1 (.t 27) (.t 30)),
    o0 (.store 1 (.t 8) (.t 31))]) (.keep [1, 3, 5, 6, 7, 8, 21, 22, 23])))) (.keep [1, 3, 5, 6, 7, 8, 21, 22, 23]))
  (.seq (.ops [o1 32 (.bin .add (.t 23) (.c (.I 1))),
    o1 23 (.mv (.t 32))]) (.keep [1, 3, 5, 6, 7, 8, 21, 22, 23]))))) (.keep [1, 3, 5, 6, 7, 8, 21, 22, 23])
def c_irunWorld_l1 : AC := .seq (.seq (.ops [o1 51 (.bin .lss (.t 50) (.t 49))])
  (.seq (.seq (.cond (.t 51)
  (.skip)
  (.exit 2)) (.keep [6, 7, 48, 49, 50]))
  (.seq (.seq (.block 3 (.seq (.seq (.ops [o1 52 (.idxA 1 (.t 48) (.t 50)),
    o1 53 (.load (.t 52)),
    o1 12 (.mv (.t 53))]) (.keep [6, 7, 12, 48, 49, 50]))
  (.seq (.ops [o1 54 (.fldA 0 (.t 7)),
    o1 55 (.load (.t 54)),
    o1 56 (.mv (.t 12)),
    ⟨some 57, none, [], true, .call f_irunning_task [(.t 56)]⟩,
    o1 58 (.bsl [.nils, .nils] 1 [(0, 2, (.t 57))]),
    o1 59 (.app 2 (.t 55) (.t 58)),
    o1 60 (.fldA 0 (.t 7)),
    o0 (.store 1 (.t 60) (.t 59))]) (.keep [6, 7, 48, 49, 50])))) (.keep [6, 7, 48, 49, 50]))
  (.seq (.ops [o1 61 (.bin .add (.t 50) (.c (.I 1))),
    o1 50 (.mv (.t 61))]) (.keep [6, 7, 48, 49, 50]))))) (.keep [6, 7, 48, 49, 50])
def c_irunWorld : AFn := ⟨3, .seq (.ops [o1 3 (.box (.t 0)),
    o1 5 (.box (.t 2)),
    o1 6 (.alloc [.nils, .nils, (.I 0), (.I 0), .nils])])
  (.seq (.seq (.ops [o1 13 (.fldA 1 (.t 3)),
    o1 14 (.load (.t 13)),
    ⟨some 15, none, [], true, .call f_iboxesCopy [(.t 14)]⟩,
    o1 16 (.fldA 4 (.t 3)),
    o1 17 (.load (.t 16)),
    ⟨some 18, none, [], true, .call f_slices_Clone_int_int [(.t 17)]⟩,
    o1 19 (.build [.nils, .nils, (.I 0), (.I 0), .nils] [(1, 1, (.t 15)), (4, 1, (.t 18))]),
    o1 7 (.alloc [.nils, .nils, (.I 0), (.I 0), .nils]),
    o0 (.store 5 (.t 7) (.t 19))]) (.keep [1, 3, 5, 6, 7]))
  (.seq (.ops [o1 8 (.alloc [.nils])])
  (.seq (.seq (.seq (.ops [o1 20 (.fldA 0 (.t 3)),
    o1 21 (.load (.t 20)),
    o1 22 (.len (.t 21)),
    o1 23 (.mv (.c (.I 0)))]) (.keep [1, 3, 5, 6, 7, 8, 21, 22, 23]))
  (.seq (.block 0 (.seq (.keep [1, 3, 5, 6, 7, 8, 21, 22, 23]) (.loop c_irunWorld_l0))) (.keep [1, 3, 5, 6, 7, 8])))
  (.seq (.seq (.ops [o1 34 (.mv (.t 1)),
    o1 35 (.load (.t 8)),
    o1 36 (.len (.t 35)),
    o1 37 (.fldA 2 (.t 3)),
    o1 38 (.load (.t 37)),
    o1 39 (.fldA 3 (.t 3)),
    o1 40 (.load (.t 39)),
    o1 41 (.mkfn f_irunWorld_1 [] [(.t 8), (.t 7), (.t 5)]),
    o1 42 (.call f_itakeTurns [(.t 34), (.t 36), (.t 38), (.t 40), (.t 41)]),
    o1 33 (.mv (.t 42)),
    o1 43 (.ext (.t 33) 0),
    o1 44 (.ext (.t 33) 1),
    o1 45 (.ext (.t 33) 2),
    o1 46 (.fldA 2 (.t 7)),
    o0 (.store 1 (.t 46) (.t 43)),
    o1 47 (.fldA 3 (.t 7)),
    o0 (.store 1 (.t 47) (.t 44))]) (.keep [6, 7, 8]))
  (.seq (.seq (.ops [o1 48 (.load (.t 8)),
    o1 49 (.len (.t 48)),
    o1 50 (.mv (.c (.I 0)))])
  (.seq (.block 2 (.seq (.keep [6, 7, 48, 49, 50]) (.loop c_irunWorld_l1))) (.keep [6, 7])))
  (.seq (.seq (.ops [o1 62 (.loadN 5 (.t 7)),
    o0 (.store 5 (.t 6) (.t 62))]) (.keep [6]))
  (.ret))))))), [.c 6 5]⟩

/- loop.example/cothreads/impl.WorldTrace$1 -/
def c_iWorldTrace_1 : AFn := ⟨2, .seq (.ops [o1 2 (.box (.t 0))])
  (.seq (.ops [o1 3 (.load (.t 1)),
    o1 4 (.loadN 4 (.t 2)),
    o1 5 (.bsl [(.I 0), (.I 0), (.I 0), (.I 0)] 1 [(0, 4, (.t 4))]),
    o1 6 (.app 4 (.t 3) (.t 5)),
    o0 (.store 1 (.t 1) (.t 6))]) (.keep [])), []⟩

/- loop.example/cothreads/spec.l6In -/
def c_sl6In : AFn := ⟨3, .seq (.seq (.ops [o1 6 (.mv (.c (.b false)))]) (.keep [0, 1, 2]))
  (.seq (.seq (.ops [o1 7 (.mv (.t 0)),
    o1 8 (.mv (.t 1)),
    o1 9 (.bin .geq (.t 7) (.t 8)),
    o1 10 (.mv (.t 9)),
    ⟨some 11, (some (10, true)), [], false, .mv (.t 0)⟩,
    ⟨some 12, (some (10, true)), [], false, .mv (.t 2)⟩,
    ⟨some 13, (some (10, true)), [], false, .bin .leq (.t 11) (.t 12)⟩,
    o1 14 (.pick (.t 10) (.t 13) (.c (.b false))),
    o1 6 (.mv (.t 14))]) (.keep [6]))
  (.ret)), [.t 6]⟩

/- loop.example/cothreads/spec.l92Program -/
def c_sl92Program_l0 : AC := .seq (.seq (.seq (.seq (.ops [o1 13 (.mv (.t 5)),
    o1 14 (.mv (.t 4)),
    o1 15 (.bin .lss (.t 13) (.t 14))]) (.keep [0, 2, 3, 4, 5, 15]))
  (.seq (.cond (.t 15)
  (.skip)
  (.exit 0)) (.keep [0, 2, 3, 4, 5])))
  (.seq (.seq (.block 1 (.seq (.ops [o1 18 (.fldA 1 (.t 3)),
    o1 19 (.load (.t 18)),
    o1 20 (.mv (.t 0)),
    o1 21 (.fldA 0 (.t 3)),
    o1 22 (.load (.t 21)),
    o1 23 (.len (.t 22)),
    ⟨some 24, none, [(.t 18)], false, .call f_sl92Stmts [(.t 20), (.t 23)]⟩,
    o1 25 (.bsl [.nils] 1 [(0, 1, (.t 24))]),
    o1 26 (.app 1 (.t 19) (.t 25)),
    o1 27 (.fldA 1 (.t 3)),
    o0 (.store 1 (.t 27) (.t 26))]) (.keep [0, 2, 3, 4, 5]))) (.keep [0, 2, 3, 4, 5]))
  (.seq (.ops [o1 16 (.mv (.t 5)),
    o1 17 (.bin .add (.t 16) (.c (.I 1))),
    o1 5 (.mv (.t 17))]) (.keep [0, 2, 3, 4, 5])))) (.keep [0, 2, 3, 4, 5])
def c_sl92Program : AFn := ⟨1, .seq (.ops [o1 2 (.alloc [.nils, .nils])])
  (.seq (.seq (.ops [o1 6 (.mv (.t 0)),
    o1 7 (.call f_sl92Rooms [(.t 6)]),
    o1 8 (.bsl [] 0 []),
    o1 9 (.build [.nils, .nils] [(0, 1, (.t 7)), (1, 1, (.t 8))]),
    o1 3 (.alloc [.nils, .nils]),
    o0 (.store 2 (.t 3) (.t 9))]) (.keep [0, 2, 3]))
  (.seq (.seq (.ops [o1 10 (.mv (.t 0)),
    o1 11 (.call f_sl6Rd_pick [(.t 10), (.c (.I 3))]),
    o1 12 (.bin .add (.c (.I 1)) (.t 11)),
    o1 4 (.mv (.t 12))]) (.keep [0, 2, 3, 4]))
  (.seq (.seq (.ops [o1 5 (.mv (.c (.I 0)))])
  (.seq (.block 0 (.seq (.keep [0, 2, 3, 4, 5]) (.loop c_sl92Program_l0))) (.keep [0, 2, 3])))
  (.seq (.seq (.seq (.ops [o1 28 (.mv (.t 0)),
    o1 29 (.call f_sl6Rd_pick [(.t 28), (.c (.I 16))]),
    o1 30 (.bin .eql (.t 29) (.c (.I 0)))]) (.keep [0, 2, 3, 30]))
  (.seq (.cond (.t 30)
  (.seq (.ops [o1 31 (.fldA 1 (.t 3)),
    o1 32 (.load (.t 31)),
    o1 33 (.mv (.t 0)),
    ⟨some 34, none, [(.t 31)], false, .call f_sl92Endless [(.t 33)]⟩,
    o1 35 (.bsl [(.I 0), (.I 0), (.I 0), (.I 0), (.I 0), .nils, .nils, .nils] 1 [(0, 8, (.t 34))]),
    o1 36 (.idxA 1 (.t 32) (.c (.I 0))),
    o0 (.store 1 (.t 36) (.t 35))]) (.keep [2, 3]))
  (.skip)) (.keep [2, 3])))
  (.seq (.seq (.ops [o1 37 (.loadN 2 (.t 3)),
    o0 (.store 2 (.t 2) (.t 37))]) (.keep [2]))
  (.ret)))))), [.c 2 2]⟩

/- loop.example/cothreads/spec.l91Leaf -/
def c_sl91Leaf : AFn := ⟨1, .seq (.ops [o1 2 (.alloc [(.I 0), (.I 0), .nils])])
  (.seq (.seq (.seq (.ops [o1 3 (.mv (.t 0)),
    o1 4 (.call f_sl6Rd_pick [(.t 3), (.c (.I 4))])]) (.keep [0, 2, 4]))
  (.seq (.block 0 (.seq (.seq (.ops [o1 6 (.bin .eql (.t 4) (.c (.I 0))),
    o1 5 (.mv (.t 6))]) (.keep [0, 2, 4, 5]))
  (.seq (.cond (.t 5)
  (.seq (.seq (.ops [o1 7 (.mv (.t 0)),
    o1 8 (.call f_sl6Rd_pick [(.t 7), (.c (.I 4))]),
    o1 9 (.call f_sl4Leaf [(.c (.I 0)), (.t 8)]),
    o0 (.store 3 (.t 2) (.t 9))]) (.keep [2]))
  (.ret))
  (.seq (.seq (.ops [o1 11 (.bin .eql (.t 4) (.c (.I 1))),
    o1 10 (.mv (.t 11))]) (.keep [0, 2, 10]))
  (.seq (.cond (.t 10)
  (.seq (.seq (.ops [o1 12 (.bsl [(.I 0), (.I 0), (.I 0), (.I 0), (.I 0), (.I 0), (.I 0), (.I 0)] 8 [(0, 1, (.c (.I 5))), (1, 1, (.c (.I 31))), (2, 1, (.c (.I 32))), (3, 1, (.c (.I 100))), (4, 1, (.c (.I 2047))), (5, 1, (.c (.I 2048))), (6, 1, (.c (.I 65536))), (7, 1, (.c (.I 99999)))]),
    o1 13 (.mv (.t 0)),
    o1 14 (.call f_sl6Rd_pick [(.t 13), (.c (.I 8))]),
    o1 15 (.idxA 1 (.t 12) (.t 14)),
    o1 16 (.load (.t 15)),
    o1 17 (.call f_sl4Leaf [(.c (.I 0)), (.t 16)]),
    o0 (.store 3 (.t 2) (.t 17))]) (.keep [2]))
  (.ret))
  (.skip)) (.keep [0, 2])))) (.keep [0, 2])))) (.keep [0, 2])))
  (.seq (.seq (.ops [o1 18 (.mv (.t 0)),
    o1 19 (.call f_sl6Rd_pick [(.t 18), (.c (.I 4))]),
    o1 20 (.call f_sl4Leaf [(.c (.I 13)), (.t 19)]),
    o0 (.store 3 (.t 2) (.t 20))]) (.keep [2]))
  (.ret))), [.c 2 3]⟩

/- loop.example/cothreads/impl.roomsValid -/
def c_iroomsValid_l0 : AC := .seq (.seq (.ops [o1 8 (.bin .lss (.t 7) (.t 6))])
  (.seq (.seq (.cond (.t 8)
  (.skip)
  (.exit 0)) (.keep [0, 5, 6, 7]))
  (.seq (.seq (.block 1 (.seq (.seq (.ops [o1 9 (.idxA 1 (.t 5) (.t 7)),
    o1 10 (.load (.t 9)),
    o1 4 (.mv (.t 10))]) (.keep [0, 4, 5, 6, 7]))
  (.seq (.seq (.ops [o1 11 (.mv (.t 4)),
    o1 12 (.bin .lss (.t 11) (.c (.I 1))),
    o1 13 (.mv (.t 12)),
    ⟨some 14, (some (13, false)), [], false, .mv (.t 4)⟩,
    ⟨some 15, (some (13, false)), [], false, .bin .gtr (.t 14) (.c (.I 4))⟩,
    o1 16 (.pick (.t 13) (.c (.b true)) (.t 15))]) (.keep [0, 5, 6, 7, 16]))
  (.seq (.cond (.t 16)
  (.seq (.ops [o1 2 (.mv (.c (.b false)))])
  (.ret))
  (.skip)) (.keep [0, 5, 6, 7]))))) (.keep [0, 5, 6, 7]))
  (.seq (.ops [o1 17 (.bin .add (.t 7) (.c (.I 1))),
    o1 7 (.mv (.t 17))]) (.keep [0, 5, 6, 7]))))) (.keep [0, 5, 6, 7])
def c_iroomsValid : AFn := ⟨1, .seq (.seq (.ops [o1 2 (.mv (.c (.b false)))]) (.keep [0]))
  (.seq (.seq (.ops [o1 5 (.mv (.t 0)),
    o1 6 (.len (.t 5)),
    o1 7 (.mv (.c (.I 0)))])
  (.seq (.block 0 (.seq (.keep [0, 5, 6, 7]) (.loop c_iroomsValid_l0))) (.keep [0])))
  (.seq (.seq (.ops [o1 18 (.mv (.t 0)),
    o1 19 (.len (.t 18)),
    o1 20 (.bin .leq (.t 19) (.c (.I 3))),
    o1 2 (.mv (.t 20))]) (.keep [2]))
  (.ret))), [.t 2]⟩

/- loop.example/cothreads/impl.stmtsValid -/
def c_istmtsValid : AFn := ⟨2, .seq (.seq (.ops [o1 4 (.mv (.c (.b false)))]) (.keep [0, 1]))
  (.seq (.ops [o1 5 (.alloc [(.I 0)]),
    o0 (.store 1 (.t 5) (.c (.I 0)))])
  (.seq (.seq (.ops [o1 6 (.mv (.t 0)),
    o1 7 (.mv (.t 1)),
    o1 8 (.call f_iblockValid [(.t 6), (.t 7), (.c (.I 0)), (.t 5)]),
    o1 4 (.mv (.t 8))]) (.keep [4]))
  (.ret))), [.t 4]⟩

/- loop.example/cothreads/impl.StmtsValid -/
def c_iStmtsValid : AFn := ⟨1, .seq (.seq (.ops [o1 2 (.mv (.c (.b false)))]) (.keep [0]))
  (.seq (.seq (.ops [o1 3 (.mv (.t 0)),
    o1 4 (.call f_istmtsValid [(.t 3), (.c (.I 3))]),
    o1 2 (.mv (.t 4))]) (.keep [2]))
  (.ret)), [.t 2]⟩

/- loop.example/cothreads/impl.stmtsCopy -/
def c_istmtsCopy_l0 : AC := .seq (.seq (.ops [o1 9 (.bin .lss (.t 8) (.t 7))])
  (.seq (.seq (.cond (.t 9)
  (.skip)
  (.exit 0)) (.keep [3, 6, 7, 8]))
  (.seq (.seq (.block 1 (.seq (.seq (.ops [o1 10 (.idxA 8 (.t 6) (.t 8)),
    o1 11 (.loadN 8 (.t 10)),
    o1 5 (.alloc [(.I 0), (.I 0), (.I 0), (.I 0), (.I 0), .nils, .nils, .nils]),
    o0 (.store 8 (.t 5) (.t 11))]) (.keep [3, 5, 6, 7, 8]))
  (.seq (.seq (.ops [o1 12 (.fldA 6 (.t 5)),
    o1 13 (.load (.t 12)),
    ⟨some 14, none, [], true, .call f_istmtsCopy [(.t 13)]⟩,
    o1 15 (.fldA 7 (.t 5)),
    o1 16 (.load (.t 15)),
    ⟨some 17, none, [], true, .call f_istmtsCopy [(.t 16)]⟩,
    o1 18 (.fldA 3 (.t 5)),
    o1 19 (.loadN 3 (.t 18)),
    ⟨some 20, none, [], true, .call f_iexprCopy [(.t 19)]⟩,
    o1 21 (.fldA 6 (.t 5)),
    o0 (.store 1 (.t 21) (.t 14)),
    o1 22 (.fldA 7 (.t 5)),
    o0 (.store 1 (.t 22) (.t 17)),
    o1 23 (.fldA 3 (.t 5)),
    o0 (.store 3 (.t 23) (.t 20))]) (.keep [3, 5, 6, 7, 8]))
  (.seq (.ops [o1 24 (.mv (.t 3)),
    o1 25 (.loadN 8 (.t 5)),
    o1 26 (.bsl [(.I 0), (.I 0), (.I 0), (.I 0), (.I 0), .nils, .nils, .nils] 1 [(0, 8, (.t 25))]),
    o1 27 (.app 8 (.t 24) (.t 26)),
    o1 3 (.mv (.t 27))]) (.keep [3, 6, 7, 8]))))) (.keep [3, 6, 7, 8]))
  (.seq (.ops [o1 28 (.bin .add (.t 8) (.c (.I 1))),
    o1 8 (.mv (.t 28))]) (.keep [3, 6, 7, 8]))))) (.keep [3, 6, 7, 8])
def c_istmtsCopy : AFn := ⟨1, .seq (.seq (.ops [o1 2 (.mv (.c .nils))]) (.keep [0]))
  (.seq (.ops [o1 3 (.mv (.c .nils))])
  (.seq (.seq (.ops [o1 6 (.mv (.t 0)),
    o1 7 (.len (.t 6)),
    o1 8 (.mv (.c (.I 0)))])
  (.seq (.block 0 (.seq (.keep [3, 6, 7, 8]) (.loop c_istmtsCopy_l0))) (.keep [3])))
  (.seq (.seq (.ops [o1 29 (.mv (.t 3)),
    o1 2 (.mv (.t 29))]) (.keep [2]))
  (.ret)))), [.t 2]⟩

/- loop.example/cothreads/spec.l12Rooms -/
def c_sl12Rooms_l0 : AC := .seq (.seq (.seq (.seq (.ops [o1 4 (.mv (.t 3)),
    o1 5 (.mv (.t 0)),
    o1 6 (.len (.t 5)),
    o1 7 (.bin .lss (.t 4) (.t 6))]) (.keep [0, 3, 7]))
  (.seq (.cond (.t 7)
  (.skip)
  (.exit 0)) (.keep [0, 3])))
  (.seq (.seq (.block 1 (.seq (.seq (.ops [o1 10 (.mv (.t 0)),
    o1 11 (.mv (.t 3)),
    o1 12 (.idxA 1 (.t 10) (.t 11)),
    o1 13 (.load (.t 12)),
    o1 14 (.call f_sl6In [(.t 13), (.c (.I 1)), (.c (.I 4))]),
    o1 15 (.un .not (.t 14))]) (.keep [0, 3, 15]))
  (.seq (.cond (.t 15)
  (.seq (.ops [o1 2 (.mv (.c (.b false)))])
  (.ret))
  (.skip)) (.keep [0, 3])))) (.keep [0, 3]))
  (.seq (.ops [o1 8 (.mv (.t 3)),
    o1 9 (.bin .add (.t 8) (.c (.I 1))),
    o1 3 (.mv (.t 9))]) (.keep [0, 3])))) (.keep [0, 3])
def c_sl12Rooms : AFn := ⟨1, .seq (.seq (.ops [o1 2 (.mv (.c (.b false)))]) (.keep [0]))
  (.seq (.seq (.ops [o1 3 (.mv (.c (.I 0)))])
  (.seq (.block 0 (.seq (.keep [0, 3]) (.loop c_sl12Rooms_l0))) (.keep [0])))
  (.seq (.seq (.ops [o1 16 (.mv (.t 0)),
    o1 17 (.len (.t 16)),
    o1 18 (.bin .leq (.t 17) (.c (.I 3))),
    o1 2 (.mv (.t 18))]) (.keep [2]))
  (.ret))), [.t 2]⟩

/- loop.example/cothreads/spec.StmtsValid -/
def c_sStmtsValid : AFn := ⟨1, .seq (.seq (.ops [o1 2 (.mv (.c (.b false)))]) (.keep [0]))
  (.seq (.seq (.ops [o1 3 (.mv (.t 0)),
    o1 4 (.call f_sl11Blocks [(.t 3), (.c (.I 3))]),
    o1 5 (.mv (.t 4)),
    ⟨some 6, (some (5, true)), [], false, .mv (.t 0)⟩,
    ⟨some 7, (some (5, true)), [], false, .call f_sl11Count [(.t 6)]⟩,
    ⟨some 8, (some (5, true)), [], false, .bin .leq (.t 7) (.c (.I 16))⟩,
    o1 9 (.pick (.t 5) (.t 8) (.c (.b false))),
    o1 2 (.mv (.t 9))]) (.keep [2]))
  (.ret)), [.t 2]⟩

/- loop.example/cothreads/spec.l12Boxes -/
def c_sl12Boxes_l0 : AC := .seq (.seq (.seq (.seq (.ops [o1 7 (.mv (.t 5)),
    o1 8 (.mv (.t 0)),
    o1 9 (.len (.t 8)),
    o1 10 (.bin .lss (.t 7) (.t 9))]) (.keep [0, 1, 5, 10]))
  (.seq (.cond (.t 10)
  (.skip)
  (.exit 0)) (.keep [0, 1, 5])))
  (.seq (.seq (.block 1 (.seq (.seq (.ops [o1 13 (.mv (.t 0)),
    o1 14 (.mv (.t 5)),
    o1 15 (.idxA 8 (.t 13) (.t 14)),
    o1 16 (.loadN 8 (.t 15)),
    o1 6 (.alloc [(.I 0), (.I 0), (.I 0), (.I 0), (.I 0), .nils, .nils, .nils]),
    o0 (.store 8 (.t 6) (.t 16))]) (.keep [0, 1, 5, 6]))
  (.seq (.seq (.seq (.ops [o1 17 (.fldA 0 (.t 6)),
    o1 18 (.load (.t 17)),
    o1 19 (.bin .eql (.t 18) (.c (.I 4))),
    o1 20 (.mv (.t 19)),
    ⟨some 21, (some (20, false)), [], false, .fldA 0 (.t 6)⟩,
    ⟨some 22, (some (20, false)), [], false, .load (.t 21)⟩,
    ⟨some 23, (some (20, false)), [], false, .bin .eql (.t 22) (.c (.I 5))⟩,
    o1 24 (.pick (.t 20) (.c (.b true)) (.t 23)),
    o1 25 (.mv (.t 24)),
    ⟨some 26, (some (25, true)), [], false, .fldA 2 (.t 6)⟩,
    ⟨some 27, (some (25, true)), [], false, .load (.t 26)⟩,
    ⟨some 28, (some (25, true)), [], false, .mv (.t 1)⟩,
    ⟨some 29, (some (25, true)), [], false, .bin .geq (.t 27) (.t 28)⟩,
    o1 30 (.pick (.t 25) (.t 29) (.c (.b false)))]) (.keep [0, 1, 5, 6, 30]))
  (.seq (.cond (.t 30)
  (.seq (.ops [o1 4 (.mv (.c (.b false)))])
  (.ret))
  (.skip)) (.keep [0, 1, 5, 6])))
  (.seq (.seq (.ops [o1 31 (.fldA 6 (.t 6)),
    o1 32 (.load (.t 31)),
    o1 33 (.mv (.t 1)),
    o1 34 (.call f_sl12Boxes [(.t 32), (.t 33)]),
    o1 35 (.un .not (.t 34)),
    o1 36 (.mv (.t 35)),
    ⟨some 37, (some (36, false)), [], false, .fldA 7 (.t 6)⟩,
    ⟨some 38, (some (36, false)), [], false, .load (.t 37)⟩,
    ⟨some 39, (some (36, false)), [], false, .mv (.t 1)⟩,
    ⟨some 40, (some (36, false)), [], false, .call f_sl12Boxes [(.t 38), (.t 39)]⟩,
    ⟨some 41, (some (36, false)), [], false, .un .not (.t 40)⟩,
    o1 42 (.pick (.t 36) (.c (.b true)) (.t 41))]) (.keep [0, 1, 5, 42]))
  (.seq (.cond (.t 42)
  (.seq (.ops [o1 4 (.mv (.c (.b false)))])
  (.ret))
  (.skip)) (.keep [0, 1, 5])))))) (.keep [0, 1, 5]))
  (.seq (.ops [o1 11 (.mv (.t 5)),
    o1 12 (.bin .add (.t 11) (.c (.I 1))),
    o1 5 (.mv (.t 12))]) (.keep [0, 1, 5])))) (.keep [0, 1, 5])
def c_sl12Boxes : AFn := ⟨2, .seq (.seq (.ops [o1 4 (.mv (.c (.b false)))]) (.keep [0, 1]))
  (.seq (.seq (.ops [o1 5 (.mv (.c (.I 0)))])
  (.seq (.block 0 (.seq (.keep [0, 1, 5]) (.loop c_sl12Boxes_l0))) (.keep [])))
  (.seq (.ops [o1 4 (.mv (.c (.b true)))])
  (.ret))), [.t 4]⟩

/- loop.example/cothreads/impl.compileStmts -/
def c_icompileStmts_l0 : AC := .seq (.seq (.ops [o1 10 (.bin .lss (.t 9) (.t 8))])
  (.seq (.seq (.cond (.t 10)
  (.skip)
  (.exit 0)) (.keep [1, 7, 8, 9]))
  (.seq (.seq (.block 1 (.seq (.seq (.ops [o1 11 (.idxA 8 (.t 7) (.t 9)),
    o1 12 (.loadN 8 (.t 11)),
    o1 6 (.alloc [(.I 0), (.I 0), (.I 0), (.I 0), (.I 0), .nils, .nils, .nils]),
    o0 (.store 8 (.t 6) (.t 12))]) (.keep [1, 6, 7, 8, 9]))
  (.seq (.ops [o1 13 (.loadN 8 (.t 6)),
    o1 14 (.mv (.t 1)),
    o1 15 (.call f_icompileStmt [(.t 13), (.t 14)]),
    o1 1 (.mv (.t 15))]) (.keep [1, 7, 8, 9])))) (.keep [1, 7, 8, 9]))
  (.seq (.ops [o1 16 (.bin .add (.t 9) (.c (.I 1))),
    o1 9 (.mv (.t 16))]) (.keep [1, 7, 8, 9]))))) (.keep [1, 7, 8, 9])
def c_icompileStmts : AFn := ⟨2, .seq (.seq (.ops [o1 4 (.mv (.c .nils))]) (.keep [0, 1]))
  (.seq (.seq (.ops [o1 7 (.mv (.t 0)),
    o1 8 (.len (.t 7)),
    o1 9 (.mv (.c (.I 0)))])
  (.seq (.block 0 (.seq (.keep [1, 7, 8, 9]) (.loop c_icompileStmts_l0))) (.keep [1])))
  (.seq (.seq (.ops [o1 17 (.mv (.t 1)),
    o1 4 (.mv (.t 17))]) (.keep [4]))
  (.ret))), [.t 4]⟩

/- loop.example/cothreads/impl.codesCopy -/
def c_icodesCopy_l0 : AC := .seq (.seq (.ops [o1 9 (.bin .lss (.t 8) (.t 7))])
  (.seq (.seq (.cond (.t 9)
  (.skip)
  (.exit 0)) (.keep [3, 6, 7, 8]))
  (.seq (.seq (.block 1 (.seq (.seq (.ops [o1 10 (.idxA 1 (.t 6) (.t 8)),
    o1 11 (.load (.t 10)),
    o1 5 (.mv (.t 11))]) (.keep [3, 5, 6, 7, 8]))
  (.seq (.ops [o1 12 (.mv (.t 3)),
    o1 13 (.mv (.t 5)),
    o1 14 (.call f_slices_Clone_iQuad_iQuad [(.t 13)]),
    o1 15 (.bsl [.nils] 1 [(0, 1, (.t 14))]),
    o1 16 (.app 1 (.t 12) (.t 15)),
    o1 3 (.mv (.t 16))]) (.keep [3, 6, 7, 8])))) (.keep [3, 6, 7, 8]))
  (.seq (.ops [o1 17 (.bin .add (.t 8) (.c (.I 1))),
    o1 8 (.mv (.t 17))]) (.keep [3, 6, 7, 8]))))) (.keep [3, 6, 7, 8])
def c_icodesCopy : AFn := ⟨1, .seq (.seq (.ops [o1 2 (.mv (.c .nils))]) (.keep [0]))
  (.seq (.ops [o1 3 (.mv (.c .nils))])
  (.seq (.seq (.ops [o1 6 (.mv (.t 0)),
    o1 7 (.len (.t 6)),
    o1 8 (.mv (.c (.I 0)))])
  (.seq (.block 0 (.seq (.keep [3, 6, 7, 8]) (.loop c_icodesCopy_l0))) (.keep [3])))
  (.seq (.seq (.ops [o1 18 (.mv (.t 3)),
    o1 2 (.mv (.t 18))]) (.keep [2]))
  (.ret)))), [.t 2]⟩

/- loop.example/cothreads/impl.boxesCopy -/
def c_iboxesCopy_l0 : AC := .seq (.seq (.ops [o1 9 (.bin .lss (.t 8) (.t 7))])
  (.seq (.seq (.cond (.t 9)
  (.skip)
  (.exit 0)) (.keep [3, 6, 7, 8]))
  (.seq (.seq (.block 1 (.seq (.seq (.ops [o1 10 (.idxA 2 (.t 6) (.t 8)),
    o1 11 (.loadN 2 (.t 10)),
    o1 5 (.alloc [(.I 0), .nils]),
    o0 (.store 2 (.t 5) (.t 11))]) (.keep [3, 5, 6, 7, 8]))
  (.seq (.ops [o1 12 (.mv (.t 3)),
    o1 13 (.fldA 0 (.t 5)),
    o1 14 (.load (.t 13)),
    o1 15 (.fldA 1 (.t 5)),
    o1 16 (.load (.t 15)),
    ⟨some 17, none, [], true, .call f_slices_Clone_int_int [(.t 16)]⟩,
    o1 18 (.build [(.I 0), .nils] [(0, 1, (.t 14)), (1, 1, (.t 17))]),
    o1 19 (.bsl [(.I 0), .nils] 1 [(0, 2, (.t 18))]),
    o1 20 (.app 2 (.t 12) (.t 19)),
    o1 3 (.mv (.t 20))]) (.keep [3, 6, 7, 8])))) (.keep [3, 6, 7, 8]))
  (.seq (.ops [o1 21 (.bin .add (.t 8) (.c (.I 1))),
    o1 8 (.mv (.t 21))]) (.keep [3, 6, 7, 8]))))) (.keep [3, 6, 7, 8])
def c_iboxesCopy : AFn := ⟨1, .seq (.seq (.ops [o1 2 (.mv (.c .nils))]) (.keep [0]))
  (.seq (.ops [o1 3 (.mv (.c .nils))])
  (.seq (.seq (.ops [o1 6 (.mv (.t 0)),
    o1 7 (.len (.t 6)),
    o1 8 (.mv (.c (.I 0)))])
  (.seq (.block 0 (.seq (.keep [3, 6, 7, 8]) (.loop c_iboxesCopy_l0))) (.keep [3])))
  (.seq (.seq (.ops [o1 22 (.mv (.t 3)),
    o1 2 (.mv (.t 22))]) (.keep [2]))
  (.ret)))), [.t 2]⟩

/- slices.Clone[[]int,int] -/
def c_slices_Clone_int_int : AFn := ⟨1, .seq (.seq (.ops [o1 2 (.mv (.c .nils))]) (.keep [0]))
  (.seq (.seq (.seq (.ops [o1 3 (.mv (.t 0)),
    o1 4 (.eqN 0 false (.t 3) (.c .nils))]) (.keep [0, 4]))
  (.seq (.cond (.t 4)
  (.seq (.ops [o1 2 (.mv (.c .nils))])
  (.ret))
  (.skip)) (.keep [0])))
  (.seq (.seq (.ops [o1 5 (.bsl [] 0 []),
    o1 6 (.mv (.t 0)),
    o1 7 (.app 1 (.t 5) (.t 6)),
    o1 2 (.mv (.t 7))]) (.keep [2]))
  (.ret))), [.t 2]⟩

/- loop.example/cothreads/impl.takeTurns -/
def c_itakeTurns_l0 : AC := .seq (.seq (.seq (.seq (.ops [o1 16 (.mv (.t 0)),
    o1 17 (.bin .gtr (.t 16) (.c (.I 0))),
    o1 18 (.mv (.t 17)),
    ⟨some 19, (some (18, true)), [], false, .mv (.t 3)⟩,
    ⟨some 20, (some (18, true)), [], false, .mv (.t 1)⟩,
    ⟨some 21, (some (18, true)), [], false, .bin .lss (.t 19) (.t 20)⟩,
    o1 22 (.pick (.t 18) (.t 21) (.c (.b false)))]) (.keep [0, 1, 2, 3, 4, 22]))
  (.seq (.cond (.t 22)
  (.skip)
  (.exit 0)) (.keep [0, 1, 2, 3, 4])))
  (.seq (.seq (.block 1 (.seq (.seq (.ops [o1 26 (.mv (.t 1)),
    o1 27 (.mv (.t 2)),
    o1 28 (.mv (.t 3)),
    o1 29 (.mv (.t 4)),
    o1 30 (.mv (.t 2)),
    o1 31 (.callv (.t 29) [(.t 30)]),
    o1 32 (.call f_iNextTurn [(.t 26), (.t 27), (.t 28), (.t 31)]),
    o1 25 (.mv (.t 32)),
    o1 33 (.ext (.t 25) 0),
    o1 34 (.ext (.t 25) 1),
    o1 35 (.ext (.t 25) 2),
    o1 13 (.mv (.t 33)),
    o1 14 (.mv (.t 34)),
    o1 15 (.mv (.t 35))]) (.keep [0, 1, 4, 13, 14, 15]))
  (.seq (.seq (.seq (.ops [o1 36 (.mv (.t 15)),
    o1 37 (.un .not (.t 36))]) (.keep [0, 1, 4, 13, 14, 37]))
  (.seq (.cond (.t 37)
  (.seq (.ops [o1 10 (.mv (.c (.I 0))),
    o1 11 (.mv (.c (.I 0))),
    o1 12 (.mv (.c (.b false)))])
  (.ret))
  (.skip)) (.keep [0, 1, 4, 13, 14])))
  (.seq (.ops [o1 38 (.mv (.t 13)),
    o1 39 (.mv (.t 14)),
    o1 2 (.mv (.t 38)),
    o1 3 (.mv (.t 39))]) (.keep [0, 1, 2, 3, 4]))))) (.keep [0, 1, 2, 3, 4]))
  (.seq (.ops [o1 23 (.mv (.t 0)),
    o1 24 (.bin .sub (.t 23) (.c (.I 1))),
    o1 0 (.mv (.t 24))]) (.keep [0, 1, 2, 3, 4])))) (.keep [0, 1, 2, 3, 4])
def c_itakeTurns : AFn := ⟨5, .seq (.seq (.ops [o1 10 (.mv (.c (.I 0))),
    o1 11 (.mv (.c (.I 0))),
    o1 12 (.mv (.c (.b false)))]) (.keep [0, 1, 2, 3, 4]))
  (.seq (.seq (.block 0 (.seq (.keep [0, 1, 2, 3, 4]) (.loop c_itakeTurns_l0))) (.keep [2, 3]))
  (.seq (.seq (.ops [o1 40 (.mv (.t 2)),
    o1 41 (.mv (.t 3)),
    o1 10 (.mv (.t 40)),
    o1 11 (.mv (.t 41)),
    o1 12 (.mv (.c (.b true)))]) (.keep [10, 11, 12]))
  (.ret))), [.t 10, .t 11, .t 12]⟩

/- loop.example/cothreads/impl.CrewRun$1 -/
def c_iCrewRun_1 : AFn := ⟨2, .seq (.seq (.ops [o1 3 (.mv (.c (.I 0)))]) (.keep [0, 1]))
  (.seq (.seq (.ops [o1 4 (.fldA 1 (.t 1)),
    o1 5 (.load (.t 4)),
    o1 6 (.mv (.t 0)),
    o1 7 (.idxA 2 (.t 5) (.t 6)),
    o1 8 (.fldA 0 (.t 1)),
    o1 9 (.load (.t 8)),
    o1 10 (.mv (.t 0)),
    o1 11 (.idxA 1 (.t 9) (.t 10)),
    o1 12 (.load (.t 11)),
    o1 13 (.fldA 2 (.t 1)),
    o1 14 (.load (.t 13)),
    o1 15 (.fldA 5 (.t 1)),
    o1 16 (.call f_iThread_step [(.t 7), (.t 12), (.t 14), (.t 15)]),
    o1 3 (.mv (.t 16))]) (.keep [3]))
  (.ret)), [.t 3]⟩

/- (*loop.example/cothreads/impl.Thread).step -/
def c_iThread_step : AFn := ⟨4, .seq (.seq (.ops [o1 8 (.mv (.c (.I 0)))]) (.keep [0, 1, 2, 3]))
  (.seq (.seq (.ops [o1 13 (.mv (.t 1)),
    o1 14 (.mv (.t 0)),
    o1 15 (.nilc (.t 14)),
    o1 16 (.fldA 1 (.t 15)),
    o1 17 (.load (.t 16)),
    o1 18 (.idxA 5 (.t 13) (.t 17)),
    o1 19 (.loadN 5 (.t 18)),
    o1 9 (.alloc [(.I 0), (.I 0), (.I 0), (.I 0), (.I 0)]),
    o0 (.store 5 (.t 9) (.t 19))]) (.keep [0, 2, 3, 9]))
  (.seq (.seq (.ops [o1 20 (.mv (.t 0)),
    o1 21 (.nilc (.t 20)),
    o1 22 (.fldA 1 (.t 21)),
    o1 23 (.load (.t 22)),
    o1 24 (.bin .add (.t 23) (.c (.I 1))),
    o1 10 (.mv (.t 24))]) (.keep [0, 2, 3, 9, 10]))
  (.seq (.seq (.seq (.ops [o1 25 (.fldA 0 (.t 9)),
    o1 26 (.load (.t 25))]) (.keep [0, 2, 3, 9, 10, 26]))
  (.seq (.block 0 (.seq (.seq (.ops [o1 28 (.bin .eql (.t 26) (.c (.I 1))),
    o1 27 (.mv (.t 28))]) (.keep [0, 2, 3, 9, 10, 26, 27]))
  (.seq (.cond (.t 27)
  (.seq (.ops [o1 29 (.mv (.t 0)),
    o1 30 (.nilc (.t 29)),
    o1 31 (.fldA 0 (.t 30)),
    o1 32 (.load (.t 31)),
    o1 33 (.fldA 1 (.t 9)),
    o1 34 (.load (.t 33)),
    o1 35 (.fldA 4 (.t 9)),
    o1 36 (.load (.t 35)),
    o1 37 (.idxA 1 (.t 32) (.t 34)),
    o0 (.store 1 (.t 37) (.t 36))]) (.keep [0, 10]))
  (.seq (.seq (.ops [o1 39 (.bin .eql (.t 26) (.c (.I 2))),
    o1 38 (.mv (.t 39))]) (.keep [0, 2, 3, 9, 10, 26, 38]))
  (.seq (.cond (.t 38)
  (.seq (.ops [o1 40 (.mv (.t 0)),
    o1 41 (.nilc (.t 40)),
    o1 42 (.fldA 0 (.t 41)),
    o1 43 (.load (.t 42)),
    o1 44 (.fldA 1 (.t 9)),
    o1 45 (.load (.t 44)),
    o1 46 (.mv (.t 0)),
    o1 47 (.nilc (.t 46)),
    o1 48 (.fldA 0 (.t 47)),
    o1 49 (.load (.t 48)),
    o1 50 (.fldA 2 (.t 9)),
    o1 51 (.load (.t 50)),
    o1 52 (.idxA 1 (.t 49) (.t 51)),
    o1 53 (.load (.t 52)),
    o1 54 (.idxA 1 (.t 43) (.t 45)),
    o0 (.store 1 (.t 54) (.t 53))]) (.keep [0, 10]))
  (.seq (.seq (.ops [o1 56 (.bin .eql (.t 26) (.c (.I 3))),
    o1 55 (.mv (.t 56))]) (.keep [0, 2, 3, 9, 10, 26, 55]))
  (.seq (.cond (.t 55)
  (.seq (.ops [o1 57 (.mv (.t 0)),
    o1 58 (.nilc (.t 57)),
    o1 59 (.fldA 0 (.t 58)),
    o1 60 (.load (.t 59)),
    o1 61 (.fldA 1 (.t 9)),
    o1 62 (.load (.t 61)),
    o1 63 (.fldA 4 (.t 9)),
    o1 64 (.load (.t 63)),
    o1 65 (.mv (.t 0)),
    o1 66 (.nilc (.t 65)),
    o1 67 (.fldA 0 (.t 66)),
    o1 68 (.load (.t 67)),
    o1 69 (.fldA 2 (.t 9)),
    o1 70 (.load (.t 69)),
    o1 71 (.idxA 1 (.t 68) (.t 70)),
    o1 72 (.load (.t 71)),
    o1 73 (.mv (.t 0)),
    o1 74 (.nilc (.t 73)),
    o1 75 (.fldA 0 (.t 74)),
    o1 76 (.load (.t 75)),
    o1 77 (.fldA 3 (.t 9)),
    o1 78 (.load (.t 77)),
    o1 79 (.idxA 1 (.t 76) (.t 78)),
    o1 80 (.load (.t 79)),
    ⟨some 81, none, [], true, .call f_iapply [(.t 64), (.t 72), (.t 80)]⟩,
    o1 82 (.idxA 1 (.t 60) (.t 62)),
    o0 (.store 1 (.t 82) (.t 81))]) (.keep [0, 10]))
  (.seq (.seq (.ops [o1 84 (.bin .eql (.t 26) (.c (.I 4))),
    o1 83 (.mv (.t 84))]) (.keep [0, 2, 3, 9, 10, 26, 83]))
  (.seq (.cond (.t 83)
  (.seq (.ops [o1 85 (.fldA 4 (.t 9)),
    o1 86 (.load (.t 85)),
    o1 10 (.mv (.t 86))]) (.keep [0, 10]))
  (.seq (.seq (.ops [o1 88 (.bin .eql (.t 26) (.c (.I 5))),
    o1 87 (.mv (.t 88))]) (.keep [0, 2, 3, 9, 10, 26, 87]))
  (.seq (.cond (.t 87)
  (.seq (.seq (.ops [o1 89 (.mv (.t 0)),
    o1 90 (.nilc (.t 89)),
    o1 91 (.fldA 0 (.t 90)),
    o1 92 (.load (.t 91)),
    o1 93 (.fldA 2 (.t 9)),
    o1 94 (.load (.t 93)),
    o1 95 (.idxA 1 (.t 92) (.t 94)),
    o1 96 (.load (.t 95)),
    o1 97 (.bin .eql (.t 96) (.c (.I 0)))]) (.keep [0, 9, 10, 97]))
  (.seq (.cond (.t 97)
  (.seq (.ops [o1 98 (.fldA 4 (.t 9)),
    o1 99 (.load (.t 98)),
    o1 10 (.mv (.t 99))]) (.keep [0, 10]))
  (.skip)) (.keep [0, 10])))
  (.seq (.seq (.ops [o1 101 (.bin .eql (.t 26) (.c (.I 6))),
    o1 100 (.mv (.t 101))]) (.keep [0, 2, 3, 9, 10, 26, 100]))
  (.seq (.cond (.t 100)
  (.seq (.seq (.ops [o1 102 (.mv (.t 2)),
    o1 103 (.fldA 4 (.t 9)),
    o1 104 (.load (.t 103)),
    o1 105 (.idxA 2 (.t 102) (.t 104)),
    o1 106 (.mv (.t 0)),
    o1 107 (.nilc (.t 106)),
    o1 108 (.fldA 0 (.t 107)),
    o1 109 (.load (.t 108)),
    o1 110 (.fldA 2 (.t 9)),
    o1 111 (.load (.t 110)),
    o1 112 (.idxA 1 (.t 109) (.t 111)),
    o1 113 (.load (.t 112)),
    o1 114 (.call f_iBox_put [(.t 105), (.t 113)]),
    o1 115 (.un .not (.t 114))]) (.keep [0, 10, 115]))
  (.seq (.cond (.t 115)
  (.seq (.ops [o1 8 (.mv (.c (.I 3)))])
  (.ret))
  (.skip)) (.keep [0, 10])))
  (.seq (.seq (.ops [o1 117 (.bin .eql (.t 26) (.c (.I 7))),
    o1 116 (.mv (.t 117))]) (.keep [0, 2, 3, 9, 10, 26, 116]))
  (.seq (.cond (.t 116)
  (.seq (.seq (.ops [o1 119 (.mv (.t 2)),
    o1 120 (.fldA 4 (.t 9)),
    o1 121 (.load (.t 120)),
    o1 122 (.idxA 2 (.t 119) (.t 121)),
    o1 123 (.call f_iBox_take [(.t 122)]),
    o1 118 (.mv (.t 123)),
    o1 124 (.ext (.t 118) 0),
    o1 125 (.ext (.t 118) 1),
    o1 11 (.mv (.t 124)),
    o1 12 (.mv (.t 125))]) (.keep [0, 9, 10, 11, 12]))
  (.seq (.seq (.seq (.ops [o1 126 (.mv (.t 12)),
    o1 127 (.un .not (.t 126))]) (.keep [0, 9, 10, 11, 127]))
  (.seq (.cond (.t 127)
  (.seq (.ops [o1 8 (.mv (.c (.I 3)))])
  (.ret))
  (.skip)) (.keep [0, 9, 10, 11])))
  (.seq (.ops [o1 128 (.mv (.t 0)),
    o1 129 (.nilc (.t 128)),
    o1 130 (.fldA 0 (.t 129)),
    o1 131 (.load (.t 130)),
    o1 132 (.fldA 1 (.t 9)),
    o1 133 (.load (.t 132)),
    o1 134 (.mv (.t 11)),
    o1 135 (.idxA 1 (.t 131) (.t 133)),
    o0 (.store 1 (.t 135) (.t 134))]) (.keep [0, 10]))))
  (.seq (.seq (.ops [o1 137 (.bin .eql (.t 26) (.c (.I 8))),
    o1 136 (.mv (.t 137))]) (.keep [0, 3, 9, 10, 26, 136]))
  (.seq (.cond (.t 136)
  (.seq (.seq (.ops [o1 138 (.mv (.t 0)),
    o1 139 (.mv (.t 10)),
    o1 140 (.nilc (.t 138)),
    o1 141 (.fldA 1 (.t 140)),
    o0 (.store 1 (.t 141) (.t 139))]) (.keep []))
  (.seq (.ops [o1 8 (.mv (.c (.I 2)))])
  (.ret)))
  (.seq (.seq (.ops [o1 143 (.bin .eql (.t 26) (.c (.I 9))),
    o1 142 (.mv (.t 143))]) (.keep [0, 3, 9, 10, 26, 142]))
  (.seq (.cond (.t 142)
  (.seq (.ops [o1 144 (.mv (.t 3)),
    o1 145 (.mv (.t 3)),
    o1 146 (.nilc (.t 145)),
    o1 147 (.load (.t 146)),
    o1 148 (.mv (.t 0)),
    o1 149 (.nilc (.t 148)),
    o1 150 (.fldA 0 (.t 149)),
    o1 151 (.load (.t 150)),
    o1 152 (.fldA 2 (.t 9)),
    o1 153 (.load (.t 152)),
    o1 154 (.idxA 1 (.t 151) (.t 153)),
    o1 155 (.load (.t 154)),
    o1 156 (.bsl [(.I 0)] 1 [(0, 1, (.t 155))]),
    o1 157 (.app 1 (.t 147) (.t 156)),
    o1 158 (.nilc (.t 144)),
    o0 (.store 1 (.t 158) (.t 157))]) (.keep [0, 10]))
  (.seq (.seq (.ops [o1 160 (.bin .eql (.t 26) (.c (.I 10))),
    o1 159 (.mv (.t 160))]) (.keep [0, 10, 159]))
  (.seq (.cond (.t 159)
  (.seq (.ops [o1 8 (.mv (.c (.I 4)))])
  (.ret))
  (.skip)) (.keep [0, 10])))) (.keep [0, 10])))) (.keep [0, 10])))) (.keep [0, 10])))) (.keep [0, 10])))) (.keep [0, 10])))) (.keep [0, 10])))) (.keep [0, 10])))) (.keep [0, 10])))) (.keep [0, 10])))) (.keep [0, 10])))
  (.seq (.seq (.ops [o1 161 (.mv (.t 0)),
    o1 162 (.mv (.t 10)),
    o1 163 (.nilc (.t 161)),
    o1 164 (.fldA 1 (.t 163)),
    o0 (.store 1 (.t 164) (.t 162))]) (.keep []))
  (.seq (.ops [o1 8 (.mv (.c (.I 1)))])
  (.ret)))))), [.t 8]⟩

/- loop.example/cothreads/spec.l22List -/
def c_sl22List_l0 : AC := .seq (.seq (.seq (.seq (.ops [o1 8 (.mv (.t 6)),
    o1 9 (.mv (.t 0)),
    o1 10 (.len (.t 9)),
    o1 11 (.bin .lss (.t 8) (.t 10))]) (.keep [0, 1, 5, 6, 11]))
  (.seq (.cond (.t 11)
  (.skip)
  (.exit 0)) (.keep [0, 1, 5, 6])))
  (.seq (.seq (.block 1 (.seq (.ops [o1 14 (.mv (.t 5)),
    o1 15 (.mv (.t 0)),
    o1 16 (.mv (.t 6)),
    o1 17 (.idxA 8 (.t 15) (.t 16)),
    o1 18 (.loadN 8 (.t 17)),
    o1 19 (.mv (.t 1)),
    o1 20 (.mv (.t 5)),
    o1 21 (.len (.t 20)),
    o1 22 (.bin .add (.t 19) (.t 21)),
    o1 23 (.call f_sl22Stmt [(.t 18), (.t 22)]),
    o1 24 (.app 5 (.t 14) (.t 23)),
    o1 5 (.mv (.t 24))]) (.keep [0, 1, 5, 6]))) (.keep [0, 1, 5, 6]))
  (.seq (.ops [o1 12 (.mv (.t 6)),
    o1 13 (.bin .add (.t 12) (.c (.I 1))),
    o1 6 (.mv (.t 13))]) (.keep [0, 1, 5, 6])))) (.keep [0, 1, 5, 6])
def c_sl22List : AFn := ⟨2, .seq (.seq (.ops [o1 4 (.mv (.c .nils))]) (.keep [0, 1]))
  (.seq (.seq (.ops [o1 7 (.bsl [] 0 []),
    o1 5 (.mv (.t 7))]) (.keep [0, 1, 5]))
  (.seq (.seq (.ops [o1 6 (.mv (.c (.I 0)))])
  (.seq (.block 0 (.seq (.keep [0, 1, 5, 6]) (.loop c_sl22List_l0))) (.keep [5])))
  (.seq (.seq (.ops [o1 25 (.mv (.t 5)),
    o1 4 (.mv (.t 25))]) (.keep [4]))
  (.ret)))), [.t 4]⟩

/- loop.example/cothreads/impl.turnsValid -/
def c_iturnsValid : AFn := ⟨4, .seq (.seq (.ops [o1 8 (.mv (.c (.b false)))]) (.keep [0, 1, 2, 3]))
  (.seq (.seq (.ops [o1 9 (.mv (.t 0)),
    o1 10 (.bin .geq (.t 9) (.c (.I 1))),
    o1 11 (.mv (.t 10)),
    ⟨some 12, (some (11, true)), [], false, .mv (.t 0)⟩,
    ⟨some 13, (some (11, true)), [], false, .bin .leq (.t 12) (.c (.I 3))⟩,
    o1 14 (.pick (.t 11) (.t 13) (.c (.b false))),
    o1 15 (.mv (.t 14)),
    ⟨some 16, (some (15, true)), [], false, .mv (.t 1)⟩,
    ⟨some 17, (some (15, true)), [], false, .bin .geq (.t 16) (.c (.I 0))⟩,
    o1 18 (.pick (.t 15) (.t 17) (.c (.b false))),
    o1 19 (.mv (.t 18)),
    ⟨some 20, (some (19, true)), [], false, .mv (.t 1)⟩,
    ⟨some 21, (some (19, true)), [], false, .mv (.t 0)⟩,
    ⟨some 22, (some (19, true)), [], false, .bin .lss (.t 20) (.t 21)⟩,
    o1 23 (.pick (.t 19) (.t 22) (.c (.b false))),
    o1 24 (.mv (.t 23)),
    ⟨some 25, (some (24, true)), [], false, .mv (.t 2)⟩,
    ⟨some 26, (some (24, true)), [], false, .bin .geq (.t 25) (.c (.I 0))⟩,
    o1 27 (.pick (.t 24) (.t 26) (.c (.b false))),
    o1 28 (.mv (.t 27)),
    ⟨some 29, (some (28, true)), [], false, .mv (.t 2)⟩,
    ⟨some 30, (some (28, true)), [], false, .mv (.t 0)⟩,
    ⟨some 31, (some (28, true)), [], false, .bin .leq (.t 29) (.t 30)⟩,
    o1 32 (.pick (.t 28) (.t 31) (.c (.b false))),
    o1 33 (.mv (.t 32)),
    ⟨some 34, (some (33, true)), [], false, .mv (.t 3)⟩,
    ⟨some 35, (some (33, true)), [], false, .call f_iareWords [(.t 34)]⟩,
    o1 36 (.pick (.t 33) (.t 35) (.c (.b false))),
    o1 8 (.mv (.t 36))]) (.keep [8]))
  (.ret)), [.t 8]⟩

/- loop.example/cothreads/impl.boxesValid -/
def c_iboxesValid_l0 : AC := .seq (.seq (.ops [o1 8 (.bin .lss (.t 7) (.t 6))])
  (.seq (.seq (.cond (.t 8)
  (.skip)
  (.exit 0)) (.keep [0, 5, 6, 7]))
  (.seq (.seq (.block 1 (.seq (.seq (.ops [o1 9 (.idxA 2 (.t 5) (.t 7)),
    o1 10 (.loadN 2 (.t 9)),
    o1 4 (.alloc [(.I 0), .nils]),
    o0 (.store 2 (.t 4) (.t 10))]) (.keep [0, 4, 5, 6, 7]))
  (.seq (.seq (.ops [o1 11 (.loadN 2 (.t 4)),
    o1 12 (.call f_iBoxValid [(.t 11)]),
    o1 13 (.un .not (.t 12))]) (.keep [0, 5, 6, 7, 13]))
  (.seq (.cond (.t 13)
  (.seq (.ops [o1 2 (.mv (.c (.b false)))])
  (.ret))
  (.skip)) (.keep [0, 5, 6, 7]))))) (.keep [0, 5, 6, 7]))
  (.seq (.ops [o1 14 (.bin .add (.t 7) (.c (.I 1))),
    o1 7 (.mv (.t 14))]) (.keep [0, 5, 6, 7]))))) (.keep [0, 5, 6, 7])
def c_iboxesValid : AFn := ⟨1, .seq (.seq (.ops [o1 2 (.mv (.c (.b false)))]) (.keep [0]))
  (.seq (.seq (.ops [o1 5 (.mv (.t 0)),
    o1 6 (.len (.t 5)),
    o1 7 (.mv (.c (.I 0)))])
  (.seq (.block 0 (.seq (.keep [0, 5, 6, 7]) (.loop c_iboxesValid_l0))) (.keep [0])))
  (.seq (.seq (.ops [o1 15 (.mv (.t 0)),
    o1 16 (.len (.t 15)),
    o1 17 (.bin .leq (.t 16) (.c (.I 3))),
    o1 2 (.mv (.t 17))]) (.keep [2]))
  (.ret))), [.t 2]⟩

/- loop.example/cothreads/impl.ThreadValid -/
def c_iThreadValid : AFn := ⟨2, .seq (.seq (.ops [o1 2 (.box (.t 0)),
    o1 4 (.mv (.c (.b false)))]) (.keep [1, 2]))
  (.seq (.seq (.ops [o1 5 (.mv (.t 1)),
    o1 6 (.call f_iCodeValid [(.t 5)]),
    o1 7 (.mv (.t 6)),
    ⟨some 8, (some (7, true)), [], false, .loadN 2 (.t 2)⟩,
    ⟨some 9, (some (7, true)), [], false, .mv (.t 1)⟩,
    ⟨some 10, (some (7, true)), [], false, .call f_ithreadFits [(.t 8), (.t 9)]⟩,
    o1 11 (.pick (.t 7) (.t 10) (.c (.b false))),
    o1 4 (.mv (.t 11))]) (.keep [4]))
  (.ret)), [.t 4]⟩

/- loop.example/cothreads/impl.boxThere -/
def c_iboxThere : AFn := ⟨2, .seq (.seq (.ops [o1 2 (.box (.t 0)),
    o1 4 (.mv (.c (.b false)))]) (.keep [1, 2]))
  (.seq (.seq (.ops [o1 5 (.fldA 0 (.t 2)),
    o1 6 (.load (.t 5)),
    o1 7 (.bin .neq (.t 6) (.c (.I 6))),
    o1 8 (.mv (.t 7)),
    ⟨some 9, (some (8, true)), [], false, .fldA 0 (.t 2)⟩,
    ⟨some 10, (some (8, true)), [], false, .load (.t 9)⟩,
    ⟨some 11, (some (8, true)), [], false, .bin .neq (.t 10) (.c (.I 7))⟩,
    o1 12 (.pick (.t 8) (.t 11) (.c (.b false))),
    o1 13 (.mv (.t 12)),
    ⟨some 14, (some (13, false)), [], false, .fldA 4 (.t 2)⟩,
    ⟨some 15, (some (13, false)), [], false, .load (.t 14)⟩,
    ⟨some 16, (some (13, false)), [], false, .mv (.t 1)⟩,
    ⟨some 17, (some (13, false)), [], false, .bin .lss (.t 15) (.t 16)⟩,
    o1 18 (.pick (.t 13) (.c (.b true)) (.t 17)),
    o1 4 (.mv (.t 18))]) (.keep [4]))
  (.ret)), [.t 4]⟩

/- loop.example/cothreads/impl.taskValid -/
def c_itaskValid_l0 : AC := .seq (.seq (.ops [o1 20 (.bin .lss (.t 19) (.t 18))])
  (.seq (.seq (.cond (.t 20)
  (.skip)
  (.exit 0)) (.keep [1, 2, 18, 19]))
  (.seq (.seq (.block 1 (.seq (.seq (.ops [o1 21 (.mv (.t 19)),
    o1 5 (.mv (.t 21))]) (.keep [1, 2, 5, 18, 19]))
  (.seq (.seq (.ops [o1 22 (.fldA 1 (.t 2)),
    o1 23 (.load (.t 22)),
    o1 24 (.mv (.t 5)),
    o1 25 (.mv (.t 5)),
    o1 26 (.bin .add (.t 25) (.c (.I 1))),
    o1 27 (.slice 8 (.t 23) (some (.t 24)) (some (.t 26)) none),
    o1 28 (.mv (.t 1)),
    o1 29 (.call f_istmtsValid [(.t 27), (.t 28)]),
    o1 30 (.un .not (.t 29))]) (.keep [1, 2, 18, 19, 30]))
  (.seq (.cond (.t 30)
  (.seq (.ops [o1 4 (.mv (.c (.b false)))])
  (.ret))
  (.skip)) (.keep [1, 2, 18, 19]))))) (.keep [1, 2, 18, 19]))
  (.seq (.ops [o1 31 (.bin .add (.t 19) (.c (.I 1))),
    o1 19 (.mv (.t 31))]) (.keep [1, 2, 18, 19]))))) (.keep [1, 2, 18, 19])
def c_itaskValid : AFn := ⟨2, .seq (.seq (.ops [o1 2 (.box (.t 0)),
    o1 4 (.mv (.c (.b false)))]) (.keep [1, 2]))
  (.seq (.seq (.seq (.ops [o1 6 (.fldA 0 (.t 2)),
    o1 7 (.load (.t 6)),
    o1 8 (.len (.t 7)),
    o1 9 (.bin .neq (.t 8) (.c (.I 4))),
    o1 10 (.mv (.t 9)),
    ⟨some 11, (some (10, false)), [], false, .fldA 0 (.t 2)⟩,
    ⟨some 12, (some (10, false)), [], false, .load (.t 11)⟩,
    ⟨some 13, (some (10, false)), [], false, .call f_iareWords [(.t 12)]⟩,
    ⟨some 14, (some (10, false)), [], false, .un .not (.t 13)⟩,
    o1 15 (.pick (.t 10) (.c (.b true)) (.t 14))]) (.keep [1, 2, 15]))
  (.seq (.cond (.t 15)
  (.seq (.ops [o1 4 (.mv (.c (.b false)))])
  (.ret))
  (.skip)) (.keep [1, 2])))
  (.seq (.seq (.seq (.ops [o1 16 (.fldA 1 (.t 2)),
    o1 17 (.load (.t 16)),
    o1 18 (.len (.t 17)),
    o1 19 (.mv (.c (.I 0)))]) (.keep [1, 2, 18, 19]))
  (.seq (.block 0 (.seq (.keep [1, 2, 18, 19]) (.loop c_itaskValid_l0))) (.keep [])))
  (.seq (.ops [o1 4 (.mv (.c (.b true)))])
  (.ret)))), [.t 4]⟩

/- loop.example/cothreads/impl.newRunning -/
def c_inewRunning : AFn := ⟨1, .seq (.seq (.ops [o1 1 (.box (.t 0)),
    o1 2 (.mv (.c .nilp))]) (.keep [1]))
  (.seq (.seq (.ops [o1 3 (.fldA 0 (.t 1)),
    o1 4 (.load (.t 3)),
    ⟨some 5, none, [], true, .call f_slices_Clone_int_int [(.t 4)]⟩,
    o1 6 (.fldA 1 (.t 1)),
    o1 7 (.load (.t 6)),
    ⟨some 8, none, [], true, .call f_iahead [(.t 7), (.c .nilp)]⟩,
    o1 9 (.build [.nils, .nilp] [(0, 1, (.t 5)), (1, 1, (.t 8))]),
    o1 10 (.box (.t 9)),
    o1 2 (.mv (.t 10))]) (.keep [2]))
  (.ret)), [.t 2]⟩

/- loop.example/cothreads/impl.runWorld$1 -/
def c_irunWorld_1 : AFn := ⟨4, .seq (.seq (.ops [o1 4 (.box (.t 0)),
    o1 5 (.mv (.c (.I 0)))]) (.keep [1, 2, 3, 4]))
  (.seq (.seq (.ops [o1 6 (.load (.t 1)),
    o1 7 (.load (.t 4)),
    o1 8 (.idxA 1 (.t 6) (.t 7)),
    o1 9 (.load (.t 8)),
    o1 10 (.fldA 1 (.t 2)),
    o1 11 (.load (.t 10)),
    o1 12 (.mkfn f_irunWorld_1_1 [] [(.t 2), (.t 3), (.t 4)]),
    o1 13 (.call f_irunning_step [(.t 9), (.t 11), (.t 12)]),
    o1 5 (.mv (.t 13))]) (.keep [5]))
  (.ret)), [.t 5]⟩

/- (*loop.example/cothreads/impl.running).step -/
def c_irunning_step : AFn := ⟨3, .seq (.seq (.ops [o1 6 (.mv (.c (.I 0)))]) (.keep [0, 1, 2]))
  (.seq (.seq (.seq (.ops [o1 13 (.mv (.t 0)),
    o1 14 (.nilc (.t 13)),
    o1 15 (.fldA 1 (.t 14)),
    o1 16 (.load (.t 15)),
    o1 17 (.eqN 1 false (.t 16) (.c .nilp))]) (.keep [0, 1, 2, 17]))
  (.seq (.cond (.t 17)
  (.seq (.ops [o1 6 (.mv (.c (.I 4)))])
  (.ret))
  (.skip)) (.keep [0, 1, 2])))
  (.seq (.seq (.ops [o1 18 (.mv (.t 0)),
    o1 19 (.nilc (.t 18)),
    o1 20 (.fldA 1 (.t 19)),
    o1 21 (.load (.t 20)),
    o1 22 (.nilc (.t 21)),
    o1 23 (.fldA 0 (.t 22)),
    o1 24 (.load (.t 23)),
    o1 25 (.mv (.t 0)),
    o1 26 (.nilc (.t 25)),
    o1 27 (.fldA 1 (.t 26)),
    o1 28 (.load (.t 27)),
    o1 29 (.nilc (.t 28)),
    o1 30 (.fldA 1 (.t 29)),
    o1 31 (.load (.t 30)),
    o1 7 (.mv (.t 24)),
    o1 8 (.mv (.t 31))]) (.keep [0, 1, 2, 7, 8]))
  (.seq (.seq (.seq (.ops [o1 32 (.mv (.t 7)),
    o1 33 (.nilc (.t 32)),
    o1 34 (.fldA 0 (.t 33)),
    o1 35 (.load (.t 34))]) (.keep [0, 1, 2, 7, 8, 35]))
  (.seq (.block 0 (.seq (.seq (.ops [o1 37 (.bin .eql (.t 35) (.c (.I 1))),
    o1 36 (.mv (.t 37))]) (.keep [0, 1, 2, 7, 8, 35, 36]))
  (.seq (.cond (.t 36)
  (.seq (.ops [o1 38 (.mv (.t 0)),
    o1 39 (.nilc (.t 38)),
    o1 40 (.fldA 0 (.t 39)),
    o1 41 (.load (.t 40)),
    o1 42 (.mv (.t 7)),
    o1 43 (.nilc (.t 42)),
    o1 44 (.fldA 1 (.t 43)),
    o1 45 (.load (.t 44)),
    o1 46 (.mv (.t 7)),
    o1 47 (.nilc (.t 46)),
    o1 48 (.fldA 3 (.t 47)),
    o1 49 (.mv (.t 0)),
    o1 50 (.nilc (.t 49)),
    o1 51 (.fldA 0 (.t 50)),
    o1 52 (.load (.t 51)),
    ⟨some 53, none, [], true, .call f_iexprEval [(.t 48), (.t 52)]⟩,
    o1 54 (.idxA 1 (.t 41) (.t 45)),
    o0 (.store 1 (.t 54) (.t 53))]) (.keep [0, 8]))
  (.seq (.seq (.ops [o1 56 (.bin .eql (.t 35) (.c (.I 2))),
    o1 55 (.mv (.t 56))]) (.keep [0, 1, 2, 7, 8, 35, 55]))
  (.seq (.cond (.t 55)
  (.seq (.seq (.ops [o1 57 (.mv (.t 7)),
    o1 58 (.nilc (.t 57)),
    o1 59 (.fldA 7 (.t 58)),
    o1 60 (.load (.t 59)),
    o1 9 (.mv (.t 60))]) (.keep [0, 7, 8, 9]))
  (.seq (.seq (.seq (.ops [o1 61 (.mv (.t 7)),
    o1 62 (.nilc (.t 61)),
    o1 63 (.fldA 3 (.t 62)),
    o1 64 (.mv (.t 0)),
    o1 65 (.nilc (.t 64)),
    o1 66 (.fldA 0 (.t 65)),
    o1 67 (.load (.t 66)),
    ⟨some 68, none, [], true, .call f_iexprEval [(.t 63), (.t 67)]⟩,
    o1 69 (.bin .neq (.t 68) (.c (.I 0)))]) (.keep [0, 7, 8, 9, 69]))
  (.seq (.cond (.t 69)
  (.seq (.ops [o1 70 (.mv (.t 7)),
    o1 71 (.nilc (.t 70)),
    o1 72 (.fldA 6 (.t 71)),
    o1 73 (.load (.t 72)),
    o1 9 (.mv (.t 73))]) (.keep [0, 8, 9]))
  (.skip)) (.keep [0, 8, 9])))
  (.seq (.ops [o1 74 (.mv (.t 9)),
    o1 75 (.mv (.t 8)),
    o1 76 (.call f_iahead [(.t 74), (.t 75)]),
    o1 8 (.mv (.t 76))]) (.keep [0, 8]))))
  (.seq (.seq (.ops [o1 78 (.bin .eql (.t 35) (.c (.I 3))),
    o1 77 (.mv (.t 78))]) (.keep [0, 1, 2, 7, 8, 35, 77]))
  (.seq (.cond (.t 77)
  (.seq (.seq (.ops [o1 79 (.mv (.t 7)),
    o1 80 (.nilc (.t 79)),
    o1 81 (.fldA 3 (.t 80)),
    o1 82 (.mv (.t 0)),
    o1 83 (.nilc (.t 82)),
    o1 84 (.fldA 0 (.t 83)),
    o1 85 (.load (.t 84)),
    ⟨some 86, none, [], true, .call f_iexprEval [(.t 81), (.t 85)]⟩,
    o1 87 (.bin .neq (.t 86) (.c (.I 0)))]) (.keep [0, 7, 8, 87]))
  (.seq (.cond (.t 87)
  (.seq (.ops [o1 88 (.mv (.t 7)),
    o1 89 (.nilc (.t 88)),
    o1 90 (.fldA 6 (.t 89)),
    o1 91 (.load (.t 90)),
    o1 92 (.mv (.t 0)),
    o1 93 (.nilc (.t 92)),
    o1 94 (.fldA 1 (.t 93)),
    o1 95 (.load (.t 94)),
    ⟨some 96, none, [], true, .call f_iahead [(.t 91), (.t 95)]⟩,
    o1 8 (.mv (.t 96))]) (.keep [0, 8]))
  (.skip)) (.keep [0, 8])))
  (.seq (.seq (.ops [o1 98 (.bin .eql (.t 35) (.c (.I 4))),
    o1 97 (.mv (.t 98))]) (.keep [0, 1, 2, 7, 8, 35, 97]))
  (.seq (.cond (.t 97)
  (.seq (.seq (.ops [o1 99 (.mv (.t 7)),
    o1 100 (.nilc (.t 99)),
    o1 101 (.fldA 3 (.t 100)),
    o1 102 (.mv (.t 0)),
    o1 103 (.nilc (.t 102)),
    o1 104 (.fldA 0 (.t 103)),
    o1 105 (.load (.t 104)),
    ⟨some 106, none, [], true, .call f_iexprEval [(.t 101), (.t 105)]⟩,
    o1 10 (.mv (.t 106))]) (.keep [0, 1, 2, 7, 8, 10]))
  (.seq (.seq (.seq (.ops [o1 107 (.mv (.t 1)),
    o1 108 (.mv (.t 7)),
    o1 109 (.nilc (.t 108)),
    o1 110 (.fldA 2 (.t 109)),
    o1 111 (.load (.t 110)),
    o1 112 (.idxA 2 (.t 107) (.t 111)),
    o1 113 (.mv (.t 10)),
    o1 114 (.call f_iBox_put [(.t 112), (.t 113)]),
    o1 115 (.un .not (.t 114))]) (.keep [0, 2, 7, 8, 10, 115]))
  (.seq (.cond (.t 115)
  (.seq (.ops [o1 6 (.mv (.c (.I 3)))])
  (.ret))
  (.skip)) (.keep [0, 2, 7, 8, 10])))
  (.seq (.ops [o1 116 (.mv (.t 2)),
    o1 117 (.mv (.t 7)),
    o1 118 (.nilc (.t 117)),
    o1 119 (.fldA 2 (.t 118)),
    o1 120 (.load (.t 119)),
    o1 121 (.mv (.t 10)),
    o1 122 (.callv (.t 116) [(.c (.I 1)), (.t 120), (.t 121)])]) (.keep [0, 8]))))
  (.seq (.seq (.ops [o1 124 (.bin .eql (.t 35) (.c (.I 5))),
    o1 123 (.mv (.t 124))]) (.keep [0, 1, 2, 7, 8, 35, 123]))
  (.seq (.cond (.t 123)
  (.seq (.seq (.ops [o1 126 (.mv (.t 1)),
    o1 127 (.mv (.t 7)),
    o1 128 (.nilc (.t 127)),
    o1 129 (.fldA 2 (.t 128)),
    o1 130 (.load (.t 129)),
    o1 131 (.idxA 2 (.t 126) (.t 130)),
    o1 132 (.call f_iBox_take [(.t 131)]),
    o1 125 (.mv (.t 132)),
    o1 133 (.ext (.t 125) 0),
    o1 134 (.ext (.t 125) 1),
    o1 11 (.mv (.t 133)),
    o1 12 (.mv (.t 134))]) (.keep [0, 2, 7, 8, 11, 12]))
  (.seq (.seq (.seq (.ops [o1 135 (.mv (.t 12)),
    o1 136 (.un .not (.t 135))]) (.keep [0, 2, 7, 8, 11, 136]))
  (.seq (.cond (.t 136)
  (.seq (.ops [o1 6 (.mv (.c (.I 3)))])
  (.ret))
  (.skip)) (.keep [0, 2, 7, 8, 11])))
  (.seq (.seq (.ops [o1 137 (.mv (.t 0)),
    o1 138 (.nilc (.t 137)),
    o1 139 (.fldA 0 (.t 138)),
    o1 140 (.load (.t 139)),
    o1 141 (.mv (.t 7)),
    o1 142 (.nilc (.t 141)),
    o1 143 (.fldA 1 (.t 142)),
    o1 144 (.load (.t 143)),
    o1 145 (.mv (.t 11)),
    o1 146 (.idxA 1 (.t 140) (.t 144)),
    o0 (.store 1 (.t 146) (.t 145))]) (.keep [0, 2, 7, 8, 11]))
  (.seq (.ops [o1 147 (.mv (.t 2)),
    o1 148 (.mv (.t 7)),
    o1 149 (.nilc (.t 148)),
    o1 150 (.fldA 2 (.t 149)),
    o1 151 (.load (.t 150)),
    o1 152 (.mv (.t 11)),
    o1 153 (.callv (.t 147) [(.c (.I 2)), (.t 151), (.t 152)])]) (.keep [0, 8])))))
  (.seq (.seq (.ops [o1 155 (.bin .eql (.t 35) (.c (.I 6))),
    o1 154 (.mv (.t 155))]) (.keep [0, 2, 7, 8, 35, 154]))
  (.seq (.cond (.t 154)
  (.seq (.seq (.ops [o1 156 (.mv (.t 0)),
    o1 157 (.mv (.t 8)),
    o1 158 (.nilc (.t 156)),
    o1 159 (.fldA 1 (.t 158)),
    o0 (.store 1 (.t 159) (.t 157))]) (.keep []))
  (.seq (.ops [o1 6 (.mv (.c (.I 2)))])
  (.ret)))
  (.seq (.seq (.ops [o1 161 (.bin .eql (.t 35) (.c (.I 7))),
    o1 160 (.mv (.t 161))]) (.keep [0, 2, 7, 8, 160]))
  (.seq (.cond (.t 160)
  (.seq (.ops [o1 162 (.mv (.t 2)),
    o1 163 (.mv (.t 7)),
    o1 164 (.nilc (.t 163)),
    o1 165 (.fldA 3 (.t 164)),
    o1 166 (.mv (.t 0)),
    o1 167 (.nilc (.t 166)),
    o1 168 (.fldA 0 (.t 167)),
    o1 169 (.load (.t 168)),
    ⟨some 170, none, [], true, .call f_iexprEval [(.t 165), (.t 169)]⟩,
    o1 171 (.callv (.t 162) [(.c (.I 3)), (.c (.I 0)), (.t 170)])]) (.keep [0, 8]))
  (.skip)) (.keep [0, 8])))) (.keep [0, 8])))) (.keep [0, 8])))) (.keep [0, 8])))) (.keep [0, 8])))) (.keep [0, 8])))) (.keep [0, 8])))) (.keep [0, 8])))
  (.seq (.seq (.ops [o1 172 (.mv (.t 0)),
    o1 173 (.mv (.t 8)),
    o1 174 (.nilc (.t 172)),
    o1 175 (.fldA 1 (.t 174)),
    o0 (.store 1 (.t 175) (.t 173))]) (.keep []))
  (.seq (.ops [o1 6 (.mv (.c (.I 1)))])
  (.ret)))))), [.t 6]⟩

/- loop.example/cothreads/impl.runWorld$1$1 -/
def c_irunWorld_1_1 : AFn := ⟨6, .seq (.seq (.seq (.ops [o1 9 (.mv (.t 0)),
    o1 10 (.bin .eql (.t 9) (.c (.I 3)))]) (.keep [0, 1, 2, 3, 4, 5, 10]))
  (.seq (.cond (.t 10)
  (.seq (.ops [o1 11 (.fldA 4 (.t 3)),
    o1 12 (.load (.t 11)),
    o1 13 (.mv (.t 2)),
    o1 14 (.bsl [(.I 0)] 1 [(0, 1, (.t 13))]),
    o1 15 (.app 1 (.t 12) (.t 14)),
    o1 16 (.fldA 4 (.t 3)),
    o0 (.store 1 (.t 16) (.t 15))]) (.keep [0, 1, 2, 4, 5]))
  (.skip)) (.keep [0, 1, 2, 4, 5])))
  (.seq (.seq (.ops [o1 17 (.load (.t 4)),
    o1 18 (.eqN 2 true (.t 17) (.c .nilf))]) (.keep [0, 1, 2, 4, 5, 18]))
  (.seq (.cond (.t 18)
  (.seq (.ops [o1 19 (.load (.t 4)),
    o1 20 (.load (.t 5)),
    o1 21 (.mv (.t 0)),
    o1 22 (.mv (.t 1)),
    o1 23 (.mv (.t 2)),
    o1 24 (.build [(.I 0), (.I 0), (.I 0), (.I 0)] [(0, 1, (.t 20)), (1, 1, (.t 21)), (2, 1, (.t 22)), (3, 1, (.t 23))]),
    o1 25 (.callv (.t 19) [(.t 24)])]) (.keep []))
  (.skip)) (.keep []))), []⟩

/- (*loop.example/cothreads/impl.running).task -/
def c_irunning_task_l0 : AC := .seq (.seq (.seq (.seq (.ops [o1 15 (.mv (.t 4)),
    o1 16 (.eqN 1 true (.t 15) (.c .nilp))]) (.keep [2, 3, 4, 16]))
  (.seq (.cond (.t 16)
  (.skip)
  (.exit 0)) (.keep [2, 3, 4])))
  (.seq (.seq (.block 1 (.seq (.ops [o1 21 (.fldA 1 (.t 3)),
    o1 22 (.load (.t 21)),
    o1 23 (.mv (.t 4)),
    o1 24 (.nilc (.t 23)),
    o1 25 (.fldA 0 (.t 24)),
    o1 26 (.load (.t 25)),
    o1 27 (.nilc (.t 26)),
    o1 28 (.loadN 8 (.t 27)),
    o1 29 (.bsl [(.I 0), (.I 0), (.I 0), (.I 0), (.I 0), .nils, .nils, .nils] 1 [(0, 8, (.t 28))]),
    ⟨some 30, none, [], true, .call f_istmtsCopy [(.t 29)]⟩,
    o1 31 (.app 8 (.t 22) (.t 30)),
    o1 32 (.fldA 1 (.t 3)),
    o0 (.store 1 (.t 32) (.t 31))]) (.keep [2, 3, 4]))) (.keep [2, 3, 4]))
  (.seq (.ops [o1 17 (.mv (.t 4)),
    o1 18 (.nilc (.t 17)),
    o1 19 (.fldA 1 (.t 18)),
    o1 20 (.load (.t 19)),
    o1 4 (.mv (.t 20))]) (.keep [2, 3, 4])))) (.keep [2, 3, 4])
def c_irunning_task : AFn := ⟨1, .seq (.ops [o1 2 (.alloc [.nils, .nils])])
  (.seq (.seq (.ops [o1 5 (.mv (.t 0)),
    o1 6 (.nilc (.t 5)),
    o1 7 (.fldA 0 (.t 6)),
    o1 8 (.load (.t 7)),
    o1 9 (.call f_slices_Clone_int_int [(.t 8)]),
    o1 10 (.build [.nils, .nils] [(0, 1, (.t 9))]),
    o1 3 (.alloc [.nils, .nils]),
    o0 (.store 2 (.t 3) (.t 10))]) (.keep [0, 2, 3]))
  (.seq (.seq (.seq (.ops [o1 11 (.mv (.t 0)),
    o1 12 (.nilc (.t 11)),
    o1 13 (.fldA 1 (.t 12)),
    o1 14 (.load (.t 13)),
    o1 4 (.mv (.t 14))]) (.keep [2, 3, 4]))
  (.seq (.block 0 (.seq (.keep [2, 3, 4]) (.loop c_irunning_task_l0))) (.keep [2, 3])))
  (.seq (.seq (.ops [o1 33 (.loadN 2 (.t 3)),
    o0 (.store 2 (.t 2) (.t 33))]) (.keep [2]))
  (.ret)))), [.c 2 2]⟩

/- loop.example/cothreads/spec.l92Rooms -/
def c_sl92Rooms_l0 : AC := .seq (.seq (.seq (.seq (.ops [o1 12 (.mv (.t 5)),
    o1 13 (.mv (.t 4)),
    o1 14 (.bin .lss (.t 12) (.t 13))]) (.keep [0, 3, 4, 5, 14]))
  (.seq (.cond (.t 14)
  (.skip)
  (.exit 0)) (.keep [0, 3, 4, 5])))
  (.seq (.seq (.block 1 (.seq (.ops [o1 17 (.mv (.t 3)),
    o1 18 (.bsl [(.I 0), (.I 0), (.I 0), (.I 0), (.I 0)] 5 [(0, 1, (.c (.I 1))), (1, 1, (.c (.I 1))), (2, 1, (.c (.I 2))), (3, 1, (.c (.I 3))), (4, 1, (.c (.I 4)))]),
    o1 19 (.mv (.t 0)),
    o1 20 (.call f_sl6Rd_pick [(.t 19), (.c (.I 5))]),
    o1 21 (.idxA 1 (.t 18) (.t 20)),
    o1 22 (.load (.t 21)),
    o1 23 (.bsl [(.I 0)] 1 [(0, 1, (.t 22))]),
    o1 24 (.app 1 (.t 17) (.t 23)),
    o1 3 (.mv (.t 24))]) (.keep [0, 3, 4, 5]))) (.keep [0, 3, 4, 5]))
  (.seq (.ops [o1 15 (.mv (.t 5)),
    o1 16 (.bin .add (.t 15) (.c (.I 1))),
    o1 5 (.mv (.t 16))]) (.keep [0, 3, 4, 5])))) (.keep [0, 3, 4, 5])
def c_sl92Rooms : AFn := ⟨1, .seq (.seq (.ops [o1 2 (.mv (.c .nils))]) (.keep [0]))
  (.seq (.seq (.ops [o1 6 (.bsl [] 0 []),
    o1 3 (.mv (.t 6))]) (.keep [0, 3]))
  (.seq (.seq (.ops [o1 7 (.bsl [(.I 0), (.I 0), (.I 0), (.I 0), (.I 0), (.I 0)] 6 [(0, 1, (.c (.I 0))), (1, 1, (.c (.I 1))), (2, 1, (.c (.I 1))), (3, 1, (.c (.I 2))), (4, 1, (.c (.I 2))), (5, 1, (.c (.I 3)))]),
    o1 8 (.mv (.t 0)),
    o1 9 (.call f_sl6Rd_pick [(.t 8), (.c (.I 6))]),
    o1 10 (.idxA 1 (.t 7) (.t 9)),
    o1 11 (.load (.t 10)),
    o1 4 (.mv (.t 11))]) (.keep [0, 3, 4]))
  (.seq (.seq (.ops [o1 5 (.mv (.c (.I 0)))])
  (.seq (.block 0 (.seq (.keep [0, 3, 4, 5]) (.loop c_sl92Rooms_l0))) (.keep [3])))
  (.seq (.seq (.ops [o1 25 (.mv (.t 3)),
    o1 2 (.mv (.t 25))]) (.keep [2]))
  (.ret))))), [.t 2]⟩

/- loop.example/cothreads/spec.l92Stmts -/
def c_sl92Stmts_l0 : AC := .seq (.seq (.seq (.seq (.ops [o1 12 (.mv (.t 5)),
    o1 13 (.call f_sl11Count [(.t 12)]),
    o1 14 (.bin .gtr (.t 13) (.c (.I 16)))]) (.keep [5, 14]))
  (.seq (.cond (.t 14)
  (.skip)
  (.exit 0)) (.keep [5])))
  (.seq (.block 1 (.seq (.ops [o1 15 (.mv (.t 5)),
    o1 16 (.mv (.t 5)),
    o1 17 (.len (.t 16)),
    o1 18 (.bin .sub (.t 17) (.c (.I 1))),
    o1 19 (.slice 8 (.t 15) none (some (.t 18)) none),
    o1 5 (.mv (.t 19))]) (.keep [5]))) (.keep [5]))) (.keep [5])
def c_sl92Stmts : AFn := ⟨2, .seq (.seq (.ops [o1 4 (.mv (.c .nils))]) (.keep [0, 1]))
  (.seq (.seq (.ops [o1 6 (.mv (.t 0)),
    o1 7 (.mv (.t 1)),
    o1 8 (.mv (.t 0)),
    o1 9 (.call f_sl6Rd_pick [(.t 8), (.c (.I 6))]),
    o1 10 (.bin .add (.c (.I 1)) (.t 9)),
    o1 11 (.call f_sl92Block [(.t 6), (.t 7), (.c (.I 3)), (.t 10), (.c (.b true))]),
    o1 5 (.mv (.t 11))]) (.keep [5]))
  (.seq (.seq (.block 0 (.seq (.keep [5]) (.loop c_sl92Stmts_l0))) (.keep [5]))
  (.seq (.seq (.ops [o1 20 (.mv (.t 5)),
    o1 4 (.mv (.t 20))]) (.keep [4]))
  (.ret)))), [.t 4]⟩

/- loop.example/cothreads/spec.l92Endless -/
def c_sl92Endless : AFn := ⟨1, .seq (.ops [o1 2 (.alloc [(.I 0), (.I 0), (.I 0), (.I 0), (.I 0), .nils, .nils, .nils])])
  (.seq (.seq (.ops [o1 3 (.call f_sl4Leaf [(.c (.I 0)), (.c (.I 1))]),
    o1 4 (.mv (.t 0)),
    o1 5 (.mv (.t 0)),
    o1 6 (.call f_sl6Rd_pick [(.t 5), (.c (.I 2))]),
    o1 7 (.call f_sl92Block [(.t 4), (.c (.I 0)), (.c (.I 1)), (.t 6), (.c (.b false))]),
    o1 8 (.build [(.I 0), (.I 0), (.I 0), (.I 0), (.I 0), .nils, .nils, .nils] [(0, 1, (.c (.I 3))), (3, 3, (.t 3)), (6, 1, (.t 7))]),
    o0 (.store 8 (.t 2) (.t 8))]) (.keep [2]))
  (.ret)), [.c 2 8]⟩

/- loop.example/cothreads/spec.l4Leaf -/
def c_sl4Leaf : AFn := ⟨2, .seq (.ops [o1 4 (.alloc [(.I 0), (.I 0), .nils])])
  (.seq (.seq (.ops [o1 5 (.mv (.t 0)),
    o1 6 (.mv (.t 1)),
    o1 7 (.bsl [] 0 []),
    o1 8 (.build [(.I 0), (.I 0), .nils] [(0, 1, (.t 5)), (1, 1, (.t 6)), (2, 1, (.t 7))]),
    o0 (.store 3 (.t 4) (.t 8))]) (.keep [4]))
  (.ret)), [.c 4 3]⟩

/- loop.example/cothreads/impl.blockValid -/
def c_iblockValid_l0 : AC := .seq (.seq (.ops [o1 25 (.bin .lss (.t 24) (.t 23))])
  (.seq (.seq (.cond (.t 25)
  (.skip)
  (.exit 0)) (.keep [0, 1, 2, 3, 23, 24]))
  (.seq (.seq (.block 1 (.seq (.seq (.ops [o1 26 (.mv (.t 24)),
    o1 9 (.mv (.t 26))]) (.keep [0, 1, 2, 3, 9, 23, 24]))
  (.seq (.seq (.ops [o1 27 (.mv (.t 0)),
    o1 28 (.mv (.t 9)),
    o1 29 (.idxA 8 (.t 27) (.t 28)),
    o1 10 (.mv (.t 29))]) (.keep [0, 1, 2, 3, 10, 23, 24]))
  (.seq (.seq (.seq (.ops [o1 30 (.mv (.t 10)),
    o1 31 (.mv (.t 1)),
    o1 32 (.call f_istmtValid [(.t 30), (.t 31)]),
    o1 33 (.un .not (.t 32)),
    o1 34 (.mv (.t 33)),
    ⟨some 35, (some (34, false)), [], false, .mv (.t 2)⟩,
    ⟨some 36, (some (34, false)), [], false, .bin .gtr (.t 35) (.c (.I 3))⟩,
    o1 37 (.pick (.t 34) (.c (.b true)) (.t 36))]) (.keep [0, 1, 2, 3, 10, 23, 24, 37]))
  (.seq (.cond (.t 37)
  (.seq (.ops [o1 8 (.mv (.c (.b false)))])
  (.ret))
  (.skip)) (.keep [0, 1, 2, 3, 10, 23, 24])))
  (.seq (.seq (.seq (.ops [o1 38 (.mv (.t 10)),
    o1 39 (.nilc (.t 38)),
    o1 40 (.fldA 0 (.t 39)),
    o1 41 (.load (.t 40)),
    o1 42 (.bin .neq (.t 41) (.c (.I 2))),
    o1 43 (.mv (.t 42)),
    ⟨some 44, (some (43, true)), [], false, .mv (.t 10)⟩,
    ⟨some 45, (some (43, true)), [], false, .nilc (.t 44)⟩,
    ⟨some 46, (some (43, true)), [], false, .fldA 0 (.t 45)⟩,
    ⟨some 47, (some (43, true)), [], false, .load (.t 46)⟩,
    ⟨some 48, (some (43, true)), [], false, .bin .neq (.t 47) (.c (.I 3))⟩,
    o1 49 (.pick (.t 43) (.t 48) (.c (.b false)))]) (.keep [0, 1, 2, 3, 10, 23, 24, 49]))
  (.seq (.cond (.t 49)
  (.exit 1)
  (.skip)) (.keep [0, 1, 2, 3, 10, 23, 24])))
  (.seq (.seq (.ops [o1 50 (.mv (.t 2)),
    o1 51 (.bin .geq (.t 50) (.c (.I 3))),
    o1 52 (.mv (.t 51)),
    ⟨some 53, (some (52, false)), [], false, .mv (.t 10)⟩,
    ⟨some 54, (some (52, false)), [], false, .nilc (.t 53)⟩,
    ⟨some 55, (some (52, false)), [], false, .fldA 6 (.t 54)⟩,
    ⟨some 56, (some (52, false)), [], false, .load (.t 55)⟩,
    ⟨some 57, (some (52, false)), [], false, .mv (.t 1)⟩,
    ⟨some 58, (some (52, false)), [], false, .mv (.t 2)⟩,
    ⟨some 59, (some (52, false)), [], false, .bin .add (.t 58) (.c (.I 1))⟩,
    ⟨some 60, (some (52, false)), [], false, .mv (.t 3)⟩,
    ⟨some 61, (some (52, false)), [], false, .call f_iblockValid [(.t 56), (.t 57), (.t 59), (.t 60)]⟩,
    ⟨some 62, (some (52, false)), [], false, .un .not (.t 61)⟩,
    o1 63 (.pick (.t 52) (.c (.b true)) (.t 62)),
    o1 64 (.mv (.t 63)),
    ⟨some 65, (some (64, false)), [], false, .mv (.t 10)⟩,
    ⟨some 66, (some (64, false)), [], false, .nilc (.t 65)⟩,
    ⟨some 67, (some (64, false)), [], false, .fldA 7 (.t 66)⟩,
    ⟨some 68, (some (64, false)), [], false, .load (.t 67)⟩,
    ⟨some 69, (some (64, false)), [], false, .mv (.t 1)⟩,
    ⟨some 70, (some (64, false)), [], false, .mv (.t 2)⟩,
    ⟨some 71, (some (64, false)), [], false, .bin .add (.t 70) (.c (.I 1))⟩,
    ⟨some 72, (some (64, false)), [], false, .mv (.t 3)⟩,
    ⟨some 73, (some (64, false)), [], false, .call f_iblockValid [(.t 68), (.t 69), (.t 71), (.t 72)]⟩,
    ⟨some 74, (some (64, false)), [], false, .un .not (.t 73)⟩,
    o1 75 (.pick (.t 64) (.c (.b true)) (.t 74))]) (.keep [0, 1, 2, 3, 23, 24, 75]))
  (.seq (.cond (.t 75)
  (.seq (.ops [o1 8 (.mv (.c (.b false)))])
  (.ret))
  (.skip)) (.keep [0, 1, 2, 3, 23, 24])))))))) (.keep [0, 1, 2, 3, 23, 24]))
  (.seq (.ops [o1 76 (.bin .add (.t 24) (.c (.I 1))),
    o1 24 (.mv (.t 76))]) (.keep [0, 1, 2, 3, 23, 24]))))) (.keep [0, 1, 2, 3, 23, 24])
def c_iblockValid : AFn := ⟨4, .seq (.seq (.ops [o1 8 (.mv (.c (.b false)))]) (.keep [0, 1, 2, 3]))
  (.seq (.seq (.ops [o1 11 (.mv (.t 3)),
    o1 12 (.nilc (.t 11)),
    o1 13 (.load (.t 12)),
    o1 14 (.mv (.t 0)),
    o1 15 (.len (.t 14)),
    o1 16 (.bin .add (.t 13) (.t 15)),
    o1 17 (.nilc (.t 11)),
    o0 (.store 1 (.t 17) (.t 16))]) (.keep [0, 1, 2, 3]))
  (.seq (.seq (.seq (.ops [o1 18 (.mv (.t 3)),
    o1 19 (.nilc (.t 18)),
    o1 20 (.load (.t 19)),
    o1 21 (.bin .gtr (.t 20) (.c (.I 16)))]) (.keep [0, 1, 2, 3, 21]))
  (.seq (.cond (.t 21)
  (.seq (.ops [o1 8 (.mv (.c (.b false)))])
  (.ret))
  (.skip)) (.keep [0, 1, 2, 3])))
  (.seq (.seq (.seq (.ops [o1 22 (.mv (.t 0)),
    o1 23 (.len (.t 22)),
    o1 24 (.mv (.c (.I 0)))]) (.keep [0, 1, 2, 3, 23, 24]))
  (.seq (.block 0 (.seq (.keep [0, 1, 2, 3, 23, 24]) (.loop c_iblockValid_l0))) (.keep [])))
  (.seq (.ops [o1 8 (.mv (.c (.b true)))])
  (.ret))))), [.t 8]⟩

/- loop.example/cothreads/impl.exprCopy -/
def c_iexprCopy_l0 : AC := .seq (.seq (.ops [o1 15 (.bin .lss (.t 14) (.t 13))])
  (.seq (.seq (.cond (.t 15)
  (.skip)
  (.exit 0)) (.keep [2, 3, 12, 13, 14]))
  (.seq (.seq (.block 1 (.seq (.seq (.ops [o1 16 (.idxA 3 (.t 12) (.t 14)),
    o1 17 (.loadN 3 (.t 16)),
    o1 5 (.alloc [(.I 0), (.I 0), .nils]),
    o0 (.store 3 (.t 5) (.t 17))]) (.keep [2, 3, 5, 12, 13, 14]))
  (.seq (.ops [o1 18 (.fldA 2 (.t 3)),
    o1 19 (.load (.t 18)),
    o1 20 (.loadN 3 (.t 5)),
    ⟨some 21, none, [], true, .call f_iexprCopy [(.t 20)]⟩,
    o1 22 (.bsl [(.I 0), (.I 0), .nils] 1 [(0, 3, (.t 21))]),
    o1 23 (.app 3 (.t 19) (.t 22)),
    o1 24 (.fldA 2 (.t 3)),
    o0 (.store 1 (.t 24) (.t 23))]) (.keep [2, 3, 12, 13, 14])))) (.keep [2, 3, 12, 13, 14]))
  (.seq (.ops [o1 25 (.bin .add (.t 14) (.c (.I 1))),
    o1 14 (.mv (.t 25))]) (.keep [2, 3, 12, 13, 14]))))) (.keep [2, 3, 12, 13, 14])
def c_iexprCopy : AFn := ⟨1, .seq (.ops [o1 1 (.box (.t 0)),
    o1 2 (.alloc [(.I 0), (.I 0), .nils])])
  (.seq (.seq (.ops [o1 6 (.fldA 0 (.t 1)),
    o1 7 (.load (.t 6)),
    o1 8 (.fldA 1 (.t 1)),
    o1 9 (.load (.t 8)),
    o1 10 (.build [(.I 0), (.I 0), .nils] [(0, 1, (.t 7)), (1, 1, (.t 9))]),
    o1 3 (.alloc [(.I 0), (.I 0), .nils]),
    o0 (.store 3 (.t 3) (.t 10))]) (.keep [1, 2, 3]))
  (.seq (.seq (.seq (.ops [o1 11 (.fldA 2 (.t 1)),
    o1 12 (.load (.t 11)),
    o1 13 (.len (.t 12)),
    o1 14 (.mv (.c (.I 0)))]) (.keep [2, 3, 12, 13, 14]))
  (.seq (.block 0 (.seq (.keep [2, 3, 12, 13, 14]) (.loop c_iexprCopy_l0))) (.keep [2, 3])))
  (.seq (.seq (.ops [o1 26 (.loadN 3 (.t 3)),
    o0 (.store 3 (.t 2) (.t 26))]) (.keep [2]))
  (.ret)))), [.c 2 3]⟩

/- loop.example/cothreads/spec.l11Blocks -/
def c_sl11Blocks_l0 : AC := .seq (.seq (.seq (.seq (.ops [o1 6 (.mv (.t 5)),
    o1 7 (.mv (.t 0)),
    o1 8 (.len (.t 7)),
    o1 9 (.bin .lss (.t 6) (.t 8))]) (.keep [0, 1, 5, 9]))
  (.seq (.cond (.t 9)
  (.skip)
  (.exit 0)) (.keep [0, 1, 5])))
  (.seq (.seq (.block 1 (.seq (.seq (.ops [o1 12 (.mv (.t 0)),
    o1 13 (.mv (.t 5)),
    o1 14 (.idxA 8 (.t 12) (.t 13)),
    o1 15 (.loadN 8 (.t 14)),
    o1 16 (.mv (.t 1)),
    o1 17 (.call f_sl11Ok [(.t 15), (.t 16)]),
    o1 18 (.un .not (.t 17))]) (.keep [0, 1, 5, 18]))
  (.seq (.cond (.t 18)
  (.seq (.ops [o1 4 (.mv (.c (.b false)))])
  (.ret))
  (.skip)) (.keep [0, 1, 5])))) (.keep [0, 1, 5]))
  (.seq (.ops [o1 10 (.mv (.t 5)),
    o1 11 (.bin .add (.t 10) (.c (.I 1))),
    o1 5 (.mv (.t 11))]) (.keep [0, 1, 5])))) (.keep [0, 1, 5])
def c_sl11Blocks : AFn := ⟨2, .seq (.seq (.ops [o1 4 (.mv (.c (.b false)))]) (.keep [0, 1]))
  (.seq (.seq (.ops [o1 5 (.mv (.c (.I 0)))])
  (.seq (.block 0 (.seq (.keep [0, 1, 5]) (.loop c_sl11Blocks_l0))) (.keep [])))
  (.seq (.ops [o1 4 (.mv (.c (.b true)))])
  (.ret))), [.t 4]⟩

/- loop.example/cothreads/spec.l11Count -/
def c_sl11Count_l0 : AC := .seq (.seq (.seq (.seq (.ops [o1 5 (.mv (.t 4)),
    o1 6 (.mv (.t 0)),
    o1 7 (.len (.t 6)),
    o1 8 (.bin .lss (.t 5) (.t 7))]) (.keep [0, 3, 4, 8]))
  (.seq (.cond (.t 8)
  (.skip)
  (.exit 0)) (.keep [0, 3, 4])))
  (.seq (.seq (.block 1 (.seq (.ops [o1 11 (.mv (.t 3)),
    o1 12 (.bin .add (.t 11) (.c (.I 1))),
    o1 13 (.mv (.t 0)),
    o1 14 (.mv (.t 4)),
    o1 15 (.idxA 8 (.t 13) (.t 14)),
    o1 16 (.fldA 6 (.t 15)),
    o1 17 (.load (.t 16)),
    ⟨some 18, none, [], true, .call f_sl11Count [(.t 17)]⟩,
    o1 19 (.bin .add (.t 12) (.t 18)),
    o1 20 (.mv (.t 0)),
    o1 21 (.mv (.t 4)),
    o1 22 (.idxA 8 (.t 20) (.t 21)),
    o1 23 (.fldA 7 (.t 22)),
    o1 24 (.load (.t 23)),
    ⟨some 25, none, [], true, .call f_sl11Count [(.t 24)]⟩,
    o1 26 (.bin .add (.t 19) (.t 25)),
    o1 3 (.mv (.t 26))]) (.keep [0, 3, 4]))) (.keep [0, 3, 4]))
  (.seq (.ops [o1 9 (.mv (.t 4)),
    o1 10 (.bin .add (.t 9) (.c (.I 1))),
    o1 4 (.mv (.t 10))]) (.keep [0, 3, 4])))) (.keep [0, 3, 4])
def c_sl11Count : AFn := ⟨1, .seq (.seq (.ops [o1 2 (.mv (.c (.I 0)))]) (.keep [0]))
  (.seq (.ops [o1 3 (.mv (.c (.I 0)))])
  (.seq (.seq (.ops [o1 4 (.mv (.c (.I 0)))])
  (.seq (.block 0 (.seq (.keep [0, 3, 4]) (.loop c_sl11Count_l0))) (.keep [3])))
  (.seq (.seq (.ops [o1 27 (.mv (.t 3)),
    o1 2 (.mv (.t 27))]) (.keep [2]))
  (.ret)))), [.t 2]⟩

/- loop.example/cothreads/impl.compileStmt -/
def c_icompileStmt : AFn := ⟨2, .seq (.seq (.ops [o1 2 (.box (.t 0)),
    o1 4 (.mv (.c .nils))]) (.keep [1, 2]))
  (.seq (.seq (.ops [o1 8 (.mv (.t 1)),
    o1 9 (.len (.t 8)),
    o1 5 (.mv (.t 9))]) (.keep [1, 2, 5]))
  (.seq (.seq (.seq (.ops [o1 10 (.fldA 0 (.t 2)),
    o1 11 (.load (.t 10)),
    o1 12 (.bin .neq (.t 11) (.c (.I 5))),
    o1 13 (.mv (.t 12)),
    ⟨some 14, (some (13, true)), [], false, .fldA 0 (.t 2)⟩,
    ⟨some 15, (some (13, true)), [], false, .load (.t 14)⟩,
    ⟨some 16, (some (13, true)), [], false, .bin .neq (.t 15) (.c (.I 6))⟩,
    o1 17 (.pick (.t 13) (.t 16) (.c (.b false)))]) (.keep [1, 2, 5, 17]))
  (.seq (.cond (.t 17)
  (.seq (.ops [o1 18 (.fldA 3 (.t 2)),
    o1 19 (.loadN 3 (.t 18)),
    o1 20 (.mv (.t 1)),
    o1 21 (.call f_icompileExpr [(.t 19), (.c (.I 4)), (.t 20)]),
    o1 1 (.mv (.t 21))]) (.keep [1, 2, 5]))
  (.skip)) (.keep [1, 2, 5])))
  (.seq (.seq (.seq (.ops [o1 22 (.fldA 0 (.t 2)),
    o1 23 (.load (.t 22))]) (.keep [1, 2, 5, 23]))
  (.seq (.block 0 (.seq (.seq (.ops [o1 25 (.bin .eql (.t 23) (.c (.I 1))),
    o1 24 (.mv (.t 25))]) (.keep [1, 2, 5, 23, 24]))
  (.seq (.cond (.t 24)
  (.seq (.seq (.ops [o1 26 (.mv (.t 1)),
    o1 27 (.fldA 1 (.t 2)),
    o1 28 (.load (.t 27)),
    o1 29 (.build [(.I 0), (.I 0), (.I 0), (.I 0), (.I 0)] [(0, 1, (.c (.I 2))), (1, 1, (.t 28)), (2, 1, (.c (.I 4)))]),
    o1 30 (.bsl [(.I 0), (.I 0), (.I 0), (.I 0), (.I 0)] 1 [(0, 5, (.t 29))]),
    o1 31 (.app 5 (.t 26) (.t 30)),
    o1 4 (.mv (.t 31))]) (.keep [4]))
  (.ret))
  (.seq (.seq (.ops [o1 33 (.bin .eql (.t 23) (.c (.I 4))),
    o1 32 (.mv (.t 33))]) (.keep [1, 2, 5, 23, 32]))
  (.seq (.cond (.t 32)
  (.seq (.seq (.ops [o1 34 (.mv (.t 1)),
    o1 35 (.fldA 2 (.t 2)),
    o1 36 (.load (.t 35)),
    o1 37 (.build [(.I 0), (.I 0), (.I 0), (.I 0), (.I 0)] [(0, 1, (.c (.I 6))), (2, 1, (.c (.I 4))), (4, 1, (.t 36))]),
    o1 38 (.bsl [(.I 0), (.I 0), (.I 0), (.I 0), (.I 0)] 1 [(0, 5, (.t 37))]),
    o1 39 (.app 5 (.t 34) (.t 38)),
    o1 4 (.mv (.t 39))]) (.keep [4]))
  (.ret))
  (.seq (.seq (.ops [o1 41 (.bin .eql (.t 23) (.c (.I 5))),
    o1 40 (.mv (.t 41))]) (.keep [1, 2, 5, 23, 40]))
  (.seq (.cond (.t 40)
  (.seq (.seq (.ops [o1 42 (.mv (.t 1)),
    o1 43 (.fldA 1 (.t 2)),
    o1 44 (.load (.t 43)),
    o1 45 (.fldA 2 (.t 2)),
    o1 46 (.load (.t 45)),
    o1 47 (.build [(.I 0), (.I 0), (.I 0), (.I 0), (.I 0)] [(0, 1, (.c (.I 7))), (1, 1, (.t 44)), (4, 1, (.t 46))]),
    o1 48 (.bsl [(.I 0), (.I 0), (.I 0), (.I 0), (.I 0)] 1 [(0, 5, (.t 47))]),
    o1 49 (.app 5 (.t 42) (.t 48)),
    o1 4 (.mv (.t 49))]) (.keep [4]))
  (.ret))
  (.seq (.seq (.ops [o1 51 (.bin .eql (.t 23) (.c (.I 6))),
    o1 50 (.mv (.t 51))]) (.keep [1, 2, 5, 23, 50]))
  (.seq (.cond (.t 50)
  (.seq (.seq (.ops [o1 52 (.mv (.t 1)),
    o1 53 (.build [(.I 0), (.I 0), (.I 0), (.I 0), (.I 0)] [(0, 1, (.c (.I 8)))]),
    o1 54 (.bsl [(.I 0), (.I 0), (.I 0), (.I 0), (.I 0)] 1 [(0, 5, (.t 53))]),
    o1 55 (.app 5 (.t 52) (.t 54)),
    o1 4 (.mv (.t 55))]) (.keep [4]))
  (.ret))
  (.seq (.seq (.ops [o1 57 (.bin .eql (.t 23) (.c (.I 7))),
    o1 56 (.mv (.t 57))]) (.keep [1, 2, 5, 56]))
  (.seq (.cond (.t 56)
  (.seq (.seq (.ops [o1 58 (.mv (.t 1)),
    o1 59 (.build [(.I 0), (.I 0), (.I 0), (.I 0), (.I 0)] [(0, 1, (.c (.I 9))), (2, 1, (.c (.I 4)))]),
    o1 60 (.bsl [(.I 0), (.I 0), (.I 0), (.I 0), (.I 0)] 1 [(0, 5, (.t 59))]),
    o1 61 (.app 5 (.t 58) (.t 60)),
    o1 4 (.mv (.t 61))]) (.keep [4]))
  (.ret))
  (.skip)) (.keep [1, 2, 5])))) (.keep [1, 2, 5])))) (.keep [1, 2, 5])))) (.keep [1, 2, 5])))) (.keep [1, 2, 5])))) (.keep [1, 2, 5])))
  (.seq (.seq (.ops [o1 62 (.mv (.t 1)),
    o1 63 (.len (.t 62)),
    o1 6 (.mv (.t 63))]) (.keep [1, 2, 5, 6]))
  (.seq (.seq (.ops [o1 64 (.fldA 6 (.t 2)),
    o1 65 (.load (.t 64)),
    o1 66 (.mv (.t 1)),
    o1 67 (.build [(.I 0), (.I 0), (.I 0), (.I 0), (.I 0)] [(0, 1, (.c (.I 5))), (2, 1, (.c (.I 4)))]),
    o1 68 (.bsl [(.I 0), (.I 0), (.I 0), (.I 0), (.I 0)] 1 [(0, 5, (.t 67))]),
    ⟨some 69, none, [(.t 64)], false, .app 5 (.t 66) (.t 68)⟩,
    o1 70 (.call f_icompileStmts [(.t 65), (.t 69)]),
    o1 1 (.mv (.t 70))]) (.keep [1, 2, 5, 6]))
  (.seq (.seq (.seq (.ops [o1 71 (.fldA 0 (.t 2)),
    o1 72 (.load (.t 71)),
    o1 73 (.bin .eql (.t 72) (.c (.I 3)))]) (.keep [1, 2, 5, 6, 73]))
  (.seq (.cond (.t 73)
  (.seq (.ops [o1 74 (.mv (.t 1)),
    o1 75 (.mv (.t 5)),
    o1 76 (.build [(.I 0), (.I 0), (.I 0), (.I 0), (.I 0)] [(0, 1, (.c (.I 4))), (4, 1, (.t 75))]),
    o1 77 (.bsl [(.I 0), (.I 0), (.I 0), (.I 0), (.I 0)] 1 [(0, 5, (.t 76))]),
    o1 78 (.app 5 (.t 74) (.t 77)),
    o1 1 (.mv (.t 78))]) (.keep [1, 2, 6]))
  (.skip)) (.keep [1, 2, 6])))
  (.seq (.seq (.ops [o1 79 (.mv (.t 1)),
    o1 80 (.len (.t 79)),
    o1 7 (.mv (.t 80))]) (.keep [1, 2, 6, 7]))
  (.seq (.seq (.seq (.ops [o1 81 (.fldA 7 (.t 2)),
    o1 82 (.load (.t 81)),
    o1 83 (.len (.t 82)),
    o1 84 (.bin .gtr (.t 83) (.c (.I 0)))]) (.keep [1, 2, 6, 7, 84]))
  (.seq (.cond (.t 84)
  (.seq (.ops [o1 85 (.mv (.t 1)),
    o1 86 (.build [(.I 0), (.I 0), (.I 0), (.I 0), (.I 0)] [(0, 1, (.c (.I 4)))]),
    o1 87 (.bsl [(.I 0), (.I 0), (.I 0), (.I 0), (.I 0)] 1 [(0, 5, (.t 86))]),
    o1 88 (.app 5 (.t 85) (.t 87)),
    o1 1 (.mv (.t 88))]) (.keep [1, 2, 6, 7]))
  (.skip)) (.keep [1, 2, 6, 7])))
  (.seq (.seq (.ops [o1 89 (.mv (.t 1)),
    o1 90 (.mv (.t 6)),
    o1 91 (.mv (.t 1)),
    o1 92 (.len (.t 91)),
    o1 93 (.idxA 5 (.t 89) (.t 90)),
    o1 94 (.fldA 4 (.t 93)),
    o0 (.store 1 (.t 94) (.t 92))]) (.keep [1, 2, 7]))
  (.seq (.seq (.seq (.ops [o1 95 (.fldA 7 (.t 2)),
    o1 96 (.load (.t 95)),
    o1 97 (.len (.t 96)),
    o1 98 (.bin .gtr (.t 97) (.c (.I 0)))]) (.keep [1, 2, 7, 98]))
  (.seq (.cond (.t 98)
  (.seq (.seq (.ops [o1 99 (.fldA 7 (.t 2)),
    o1 100 (.load (.t 99)),
    o1 101 (.mv (.t 1)),
    o1 102 (.call f_icompileStmts [(.t 100), (.t 101)]),
    o1 1 (.mv (.t 102))]) (.keep [1, 7]))
  (.seq (.ops [o1 103 (.mv (.t 1)),
    o1 104 (.mv (.t 7)),
    o1 105 (.mv (.t 1)),
    o1 106 (.len (.t 105)),
    o1 107 (.idxA 5 (.t 103) (.t 104)),
    o1 108 (.fldA 4 (.t 107)),
    o0 (.store 1 (.t 108) (.t 106))]) (.keep [1])))
  (.skip)) (.keep [1])))
  (.seq (.seq (.ops [o1 109 (.mv (.t 1)),
    o1 4 (.mv (.t 109))]) (.keep [4]))
  (.ret)))))))))))), [.t 4]⟩

/- slices.Clone[[]loop.example/cothreads/impl.Quad,loop.example/cothreads/impl.Quad] -/
def c_slices_Clone_iQuad_iQuad : AFn := ⟨1, .seq (.seq (.ops [o1 2 (.mv (.c .nils))]) (.keep [0]))
  (.seq (.seq (.seq (.ops [o1 3 (.mv (.t 0)),
    o1 4 (.eqN 0 false (.t 3) (.c .nils))]) (.keep [0, 4]))
  (.seq (.cond (.t 4)
  (.seq (.ops [o1 2 (.mv (.c .nils))])
  (.ret))
  (.skip)) (.keep [0])))
  (.seq (.seq (.ops [o1 5 (.bsl [] 0 []),
    o1 6 (.mv (.t 0)),
    o1 7 (.app 5 (.t 5) (.t 6)),
    o1 2 (.mv (.t 7))]) (.keep [2]))
  (.ret))), [.t 2]⟩

/- loop.example/cothreads/impl.NextTurn -/
def c_iNextTurn : AFn := ⟨4, .seq (.seq (.ops [o1 8 (.mv (.c (.I 0))),
    o1 9 (.mv (.c (.I 0))),
    o1 10 (.mv (.c (.b false)))]) (.keep [0, 1, 2, 3]))
  (.seq (.seq (.seq (.ops [o1 11 (.mv (.t 0)),
    o1 12 (.bin .lss (.t 11) (.c (.I 1))),
    o1 13 (.mv (.t 12)),
    ⟨some 14, (some (13, false)), [], false, .mv (.t 0)⟩,
    ⟨some 15, (some (13, false)), [], false, .bin .gtr (.t 14) (.c (.I 3))⟩,
    o1 16 (.pick (.t 13) (.c (.b true)) (.t 15)),
    o1 17 (.mv (.t 16)),
    ⟨some 18, (some (17, false)), [], false, .mv (.t 1)⟩,
    ⟨some 19, (some (17, false)), [], false, .bin .lss (.t 18) (.c (.I 0))⟩,
    o1 20 (.pick (.t 17) (.c (.b true)) (.t 19)),
    o1 21 (.mv (.t 20)),
    ⟨some 22, (some (21, false)), [], false, .mv (.t 1)⟩,
    ⟨some 23, (some (21, false)), [], false, .mv (.t 0)⟩,
    ⟨some 24, (some (21, false)), [], false, .bin .geq (.t 22) (.t 23)⟩,
    o1 25 (.pick (.t 21) (.c (.b true)) (.t 24)),
    o1 26 (.mv (.t 25)),
    ⟨some 27, (some (26, false)), [], false, .mv (.t 2)⟩,
    ⟨some 28, (some (26, false)), [], false, .bin .lss (.t 27) (.c (.I 0))⟩,
    o1 29 (.pick (.t 26) (.c (.b true)) (.t 28)),
    o1 30 (.mv (.t 29)),
    ⟨some 31, (some (30, false)), [], false, .mv (.t 2)⟩,
    ⟨some 32, (some (30, false)), [], false, .mv (.t 0)⟩,
    ⟨some 33, (some (30, false)), [], false, .bin .geq (.t 31) (.t 32)⟩,
    o1 34 (.pick (.t 30) (.c (.b true)) (.t 33))]) (.keep [0, 1, 2, 3, 34]))
  (.seq (.cond (.t 34)
  (.seq (.ops [o1 8 (.mv (.c (.I 0))),
    o1 9 (.mv (.c (.I 0))),
    o1 10 (.mv (.c (.b false)))])
  (.ret))
  (.skip)) (.keep [0, 1, 2, 3])))
  (.seq (.seq (.ops [o1 35 (.mv (.t 3))])
  (.seq (.block 0 (.seq (.seq (.ops [o1 37 (.bin .eql (.t 35) (.c (.I 1))),
    o1 36 (.mv (.t 37))]) (.keep [0, 1, 2, 35, 36]))
  (.seq (.cond (.t 36)
  (.seq (.seq (.ops [o1 38 (.mv (.t 1)),
    o1 8 (.mv (.t 38)),
    o1 9 (.mv (.c (.I 0))),
    o1 10 (.mv (.c (.b true)))]) (.keep [8, 9, 10]))
  (.ret))
  (.seq (.seq (.ops [o1 40 (.bin .eql (.t 35) (.c (.I 2))),
    o1 39 (.mv (.t 40))]) (.keep [0, 1, 2, 35, 39]))
  (.seq (.cond (.t 39)
  (.seq (.seq (.ops [o1 41 (.mv (.t 1)),
    o1 42 (.bin .add (.t 41) (.c (.I 1))),
    o1 43 (.mv (.t 0)),
    o1 44 (.bin .rem (.t 42) (.t 43)),
    o1 8 (.mv (.t 44)),
    o1 9 (.mv (.c (.I 0))),
    o1 10 (.mv (.c (.b true)))]) (.keep [8, 9, 10]))
  (.ret))
  (.seq (.seq (.seq (.ops [o1 46 (.bin .eql (.t 35) (.c (.I 3))),
    o1 45 (.mv (.t 46))]) (.keep [0, 1, 2, 35, 45]))
  (.seq (.cond (.t 45)
  (.skip)
  (.seq (.ops [o1 47 (.bin .eql (.t 35) (.c (.I 4))),
    o1 45 (.mv (.t 47))]) (.keep [0, 1, 2, 45]))) (.keep [0, 1, 2, 45])))
  (.seq (.cond (.t 45)
  (.seq (.seq (.ops [o1 48 (.mv (.t 1)),
    o1 49 (.bin .add (.t 48) (.c (.I 1))),
    o1 50 (.mv (.t 0)),
    o1 51 (.bin .rem (.t 49) (.t 50)),
    o1 52 (.mv (.t 2)),
    o1 53 (.bin .add (.t 52) (.c (.I 1))),
    o1 8 (.mv (.t 51)),
    o1 9 (.mv (.t 53)),
    o1 10 (.mv (.c (.b true)))]) (.keep [8, 9, 10]))
  (.ret))
  (.skip)) (.keep [])))) (.keep [])))) (.keep [])))) (.keep [])))
  (.seq (.ops [o1 8 (.mv (.c (.I 0))),
    o1 9 (.mv (.c (.I 0))),
    o1 10 (.mv (.c (.b false)))])
  (.ret)))), [.t 8, .t 9, .t 10]⟩

/- loop.example/cothreads/impl.apply -/
def c_iapply : AFn := ⟨3, .seq (.seq (.ops [o1 6 (.mv (.c (.I 0)))]) (.keep [0, 1, 2]))
  (.seq (.seq (.ops [o1 7 (.mv (.t 0))])
  (.seq (.block 0 (.seq (.seq (.ops [o1 9 (.bin .eql (.t 7) (.c (.I 1))),
    o1 8 (.mv (.t 9))]) (.keep [1, 2, 7, 8]))
  (.seq (.cond (.t 8)
  (.seq (.seq (.ops [o1 10 (.mv (.t 1)),
    o1 11 (.mv (.t 2)),
    o1 12 (.bin .or (.t 10) (.t 11)),
    o1 6 (.mv (.t 12))]) (.keep [6]))
  (.ret))
  (.seq (.seq (.ops [o1 14 (.bin .eql (.t 7) (.c (.I 2))),
    o1 13 (.mv (.t 14))]) (.keep [1, 2, 7, 13]))
  (.seq (.cond (.t 13)
  (.seq (.seq (.ops [o1 15 (.mv (.t 1)),
    o1 16 (.mv (.t 2)),
    o1 17 (.bin .xor (.t 15) (.t 16)),
    o1 6 (.mv (.t 17))]) (.keep [6]))
  (.ret))
  (.seq (.seq (.ops [o1 19 (.bin .eql (.t 7) (.c (.I 3))),
    o1 18 (.mv (.t 19))]) (.keep [1, 2, 7, 18]))
  (.seq (.cond (.t 18)
  (.seq (.seq (.ops [o1 20 (.mv (.t 1)),
    o1 21 (.mv (.t 2)),
    o1 22 (.bin .and (.t 20) (.t 21)),
    o1 6 (.mv (.t 22))]) (.keep [6]))
  (.ret))
  (.seq (.seq (.ops [o1 24 (.bin .eql (.t 7) (.c (.I 4))),
    o1 23 (.mv (.t 24))]) (.keep [1, 2, 7, 23]))
  (.seq (.cond (.t 23)
  (.seq (.seq (.ops [o1 25 (.mv (.t 1)),
    o1 26 (.mv (.t 2)),
    o1 27 (.bin .eql (.t 25) (.t 26)),
    o1 28 (.call f_itruth [(.t 27)]),
    o1 6 (.mv (.t 28))]) (.keep [6]))
  (.ret))
  (.seq (.seq (.ops [o1 30 (.bin .eql (.t 7) (.c (.I 5))),
    o1 29 (.mv (.t 30))]) (.keep [1, 2, 7, 29]))
  (.seq (.cond (.t 29)
  (.seq (.seq (.ops [o1 31 (.mv (.t 1)),
    o1 32 (.mv (.t 2)),
    o1 33 (.bin .lss (.t 31) (.t 32)),
    o1 34 (.call f_itruth [(.t 33)]),
    o1 6 (.mv (.t 34))]) (.keep [6]))
  (.ret))
  (.seq (.seq (.ops [o1 36 (.bin .eql (.t 7) (.c (.I 6))),
    o1 35 (.mv (.t 36))]) (.keep [1, 2, 7, 35]))
  (.seq (.cond (.t 35)
  (.seq (.seq (.ops [o1 37 (.mv (.t 1)),
    o1 38 (.mv (.t 2)),
    o1 39 (.bin .and (.t 38) (.c (.I 31))),
    o1 40 (.bin .shl (.t 37) (.t 39)),
    o1 41 (.call f_iWrap [(.t 40)]),
    o1 6 (.mv (.t 41))]) (.keep [6]))
  (.ret))
  (.seq (.seq (.ops [o1 43 (.bin .eql (.t 7) (.c (.I 7))),
    o1 42 (.mv (.t 43))]) (.keep [1, 2, 7, 42]))
  (.seq (.cond (.t 42)
  (.seq (.seq (.ops [o1 44 (.mv (.t 1)),
    o1 45 (.mv (.t 2)),
    o1 46 (.bin .and (.t 45) (.c (.I 31))),
    o1 47 (.bin .shr (.t 44) (.t 46)),
    o1 6 (.mv (.t 47))]) (.keep [6]))
  (.ret))
  (.seq (.seq (.ops [o1 49 (.bin .eql (.t 7) (.c (.I 8))),
    o1 48 (.mv (.t 49))]) (.keep [1, 2, 7, 48]))
  (.seq (.cond (.t 48)
  (.seq (.seq (.ops [o1 50 (.mv (.t 1)),
    o1 51 (.mv (.t 2)),
    o1 52 (.bin .add (.t 50) (.t 51)),
    o1 53 (.call f_iWrap [(.t 52)]),
    o1 6 (.mv (.t 53))]) (.keep [6]))
  (.ret))
  (.seq (.seq (.ops [o1 55 (.bin .eql (.t 7) (.c (.I 9))),
    o1 54 (.mv (.t 55))]) (.keep [1, 2, 7, 54]))
  (.seq (.cond (.t 54)
  (.seq (.seq (.ops [o1 56 (.mv (.t 1)),
    o1 57 (.mv (.t 2)),
    o1 58 (.bin .sub (.t 56) (.t 57)),
    o1 59 (.call f_iWrap [(.t 58)]),
    o1 6 (.mv (.t 59))]) (.keep [6]))
  (.ret))
  (.seq (.seq (.ops [o1 61 (.bin .eql (.t 7) (.c (.I 10))),
    o1 60 (.mv (.t 61))]) (.keep [1, 2, 7, 60]))
  (.seq (.cond (.t 60)
  (.seq (.seq (.ops [o1 62 (.mv (.t 1)),
    o1 63 (.mv (.t 2)),
    o1 64 (.bin .mul (.t 62) (.t 63)),
    o1 65 (.call f_iWrap [(.t 64)]),
    o1 6 (.mv (.t 65))]) (.keep [6]))
  (.ret))
  (.seq (.seq (.ops [o1 67 (.bin .eql (.t 7) (.c (.I 11))),
    o1 66 (.mv (.t 67))]) (.keep [1, 2, 66]))
  (.seq (.cond (.t 66)
  (.seq (.seq (.seq (.ops [o1 68 (.mv (.t 2)),
    o1 69 (.bin .eql (.t 68) (.c (.I 0)))]) (.keep [1, 2, 69]))
  (.seq (.cond (.t 69)
  (.seq (.ops [o1 6 (.mv (.c (.I (-1))))])
  (.ret))
  (.skip)) (.keep [1, 2])))
  (.seq (.seq (.ops [o1 70 (.mv (.t 1)),
    o1 71 (.mv (.t 2)),
    o1 72 (.bin .quo (.t 70) (.t 71)),
    o1 73 (.call f_iWrap [(.t 72)]),
    o1 6 (.mv (.t 73))]) (.keep [6]))
  (.ret)))
  (.skip)) (.keep [1, 2])))) (.keep [1, 2])))) (.keep [1, 2])))) (.keep [1, 2])))) (.keep [1, 2])))) (.keep [1, 2])))) (.keep [1, 2])))) (.keep [1, 2])))) (.keep [1, 2])))) (.keep [1, 2])))) (.keep [1, 2])))) (.keep [1, 2])))
  (.seq (.seq (.seq (.ops [o1 74 (.mv (.t 2)),
    o1 75 (.bin .eql (.t 74) (.c (.I 0)))]) (.keep [1, 2, 75]))
  (.seq (.cond (.t 75)
  (.seq (.seq (.ops [o1 76 (.mv (.t 1)),
    o1 6 (.mv (.t 76))]) (.keep [6]))
  (.ret))
  (.skip)) (.keep [1, 2])))
  (.seq (.seq (.ops [o1 77 (.mv (.t 1)),
    o1 78 (.mv (.t 2)),
    o1 79 (.bin .rem (.t 77) (.t 78)),
    o1 6 (.mv (.t 79))]) (.keep [6]))
  (.ret)))), [.t 6]⟩

/- (*loop.example/cothreads/impl.Box).put -/
def c_iBox_put : AFn := ⟨2, .seq (.seq (.ops [o1 4 (.mv (.c (.b false)))]) (.keep [0, 1]))
  (.seq (.seq (.seq (.ops [o1 5 (.mv (.t 0)),
    o1 6 (.nilc (.t 5)),
    o1 7 (.fldA 1 (.t 6)),
    o1 8 (.load (.t 7)),
    o1 9 (.len (.t 8)),
    o1 10 (.mv (.t 0)),
    o1 11 (.nilc (.t 10)),
    o1 12 (.fldA 0 (.t 11)),
    o1 13 (.load (.t 12)),
    o1 14 (.bin .eql (.t 9) (.t 13))]) (.keep [0, 1, 14]))
  (.seq (.cond (.t 14)
  (.seq (.ops [o1 4 (.mv (.c (.b false)))])
  (.ret))
  (.skip)) (.keep [0, 1])))
  (.seq (.seq (.ops [o1 15 (.mv (.t 0)),
    o1 16 (.mv (.t 0)),
    o1 17 (.nilc (.t 16)),
    o1 18 (.fldA 1 (.t 17)),
    o1 19 (.load (.t 18)),
    o1 20 (.mv (.t 1)),
    o1 21 (.bsl [(.I 0)] 1 [(0, 1, (.t 20))]),
    o1 22 (.app 1 (.t 19) (.t 21)),
    o1 23 (.nilc (.t 15)),
    o1 24 (.fldA 1 (.t 23)),
    o0 (.store 1 (.t 24) (.t 22))]) (.keep []))
  (.seq (.ops [o1 4 (.mv (.c (.b true)))])
  (.ret)))), [.t 4]⟩

/- (*loop.example/cothreads/impl.Box).take -/
def c_iBox_take : AFn := ⟨1, .seq (.seq (.ops [o1 2 (.mv (.c (.I 0))),
    o1 3 (.mv (.c (.b false)))]) (.keep [0]))
  (.seq (.seq (.seq (.ops [o1 5 (.mv (.t 0)),
    o1 6 (.nilc (.t 5)),
    o1 7 (.fldA 1 (.t 6)),
    o1 8 (.load (.t 7)),
    o1 9 (.len (.t 8)),
    o1 10 (.bin .eql (.t 9) (.c (.I 0)))]) (.keep [0, 10]))
  (.seq (.cond (.t 10)
  (.seq (.ops [o1 2 (.mv (.c (.I 0))),
    o1 3 (.mv (.c (.b false)))])
  (.ret))
  (.skip)) (.keep [0])))
  (.seq (.seq (.ops [o1 11 (.mv (.t 0)),
    o1 12 (.nilc (.t 11)),
    o1 13 (.fldA 1 (.t 12)),
    o1 14 (.load (.t 13)),
    o1 15 (.idxA 1 (.t 14) (.c (.I 0))),
    o1 16 (.load (.t 15)),
    o1 4 (.mv (.t 16))]) (.keep [0, 4]))
  (.seq (.seq (.ops [o1 17 (.mv (.t 0)),
    o1 18 (.mv (.t 0)),
    o1 19 (.nilc (.t 18)),
    o1 20 (.fldA 1 (.t 19)),
    o1 21 (.load (.t 20)),
    o1 22 (.slice 1 (.t 21) none (some (.c (.I 0))) none),
    o1 23 (.mv (.t 0)),
    o1 24 (.nilc (.t 23)),
    o1 25 (.fldA 1 (.t 24)),
    o1 26 (.load (.t 25)),
    o1 27 (.slice 1 (.t 26) (some (.c (.I 1))) none none),
    o1 28 (.app 1 (.t 22) (.t 27)),
    o1 29 (.nilc (.t 17)),
    o1 30 (.fldA 1 (.t 29)),
    o0 (.store 1 (.t 30) (.t 28))]) (.keep [4]))
  (.seq (.seq (.ops [o1 31 (.mv (.t 4)),
    o1 2 (.mv (.t 31)),
    o1 3 (.mv (.c (.b true)))]) (.keep [2, 3]))
  (.ret))))), [.t 2, .t 3]⟩

/- loop.example/cothreads/spec.l22Stmt -/
def c_sl22Stmt : AFn := ⟨2, .seq (.seq (.ops [o1 2 (.box (.t 0)),
    o1 4 (.mv (.c .nils))]) (.keep [1, 2]))
  (.seq (.seq (.ops [o1 6 (.fldA 3 (.t 2)),
    o1 7 (.loadN 3 (.t 6)),
    o1 8 (.call f_sl22Expr [(.t 7), (.c (.I 4))]),
    o1 5 (.mv (.t 8))]) (.keep [1, 2, 5]))
  (.seq (.seq (.seq (.ops [o1 9 (.fldA 0 (.t 2)),
    o1 10 (.load (.t 9))]) (.keep [1, 2, 5, 10]))
  (.seq (.block 0 (.seq (.seq (.ops [o1 12 (.bin .eql (.t 10) (.c (.I 2))),
    o1 11 (.mv (.t 12))]) (.keep [1, 2, 5, 10, 11]))
  (.seq (.cond (.t 11)
  (.seq (.seq (.ops [o1 13 (.loadN 8 (.t 2)),
    o1 14 (.mv (.t 1)),
    o1 15 (.call f_sl22If [(.t 13), (.t 14)]),
    o1 4 (.mv (.t 15))]) (.keep [4]))
  (.ret))
  (.seq (.seq (.ops [o1 17 (.bin .eql (.t 10) (.c (.I 3))),
    o1 16 (.mv (.t 17))]) (.keep [1, 2, 5, 10, 16]))
  (.seq (.cond (.t 16)
  (.seq (.seq (.ops [o1 18 (.loadN 8 (.t 2)),
    o1 19 (.mv (.t 1)),
    o1 20 (.call f_sl22While [(.t 18), (.t 19)]),
    o1 4 (.mv (.t 20))]) (.keep [4]))
  (.ret))
  (.seq (.seq (.ops [o1 22 (.bin .eql (.t 10) (.c (.I 1))),
    o1 21 (.mv (.t 22))]) (.keep [2, 5, 10, 21]))
  (.seq (.cond (.t 21)
  (.seq (.seq (.ops [o1 23 (.mv (.t 5)),
    o1 24 (.fldA 1 (.t 2)),
    o1 25 (.load (.t 24)),
    o1 26 (.build [(.I 0), (.I 0), (.I 0), (.I 0), (.I 0)] [(0, 1, (.c (.I 2))), (1, 1, (.t 25)), (2, 1, (.c (.I 4)))]),
    o1 27 (.bsl [(.I 0), (.I 0), (.I 0), (.I 0), (.I 0)] 1 [(0, 5, (.t 26))]),
    o1 28 (.app 5 (.t 23) (.t 27)),
    o1 4 (.mv (.t 28))]) (.keep [4]))
  (.ret))
  (.seq (.seq (.ops [o1 30 (.bin .eql (.t 10) (.c (.I 4))),
    o1 29 (.mv (.t 30))]) (.keep [2, 5, 10, 29]))
  (.seq (.cond (.t 29)
  (.seq (.seq (.ops [o1 31 (.mv (.t 5)),
    o1 32 (.fldA 2 (.t 2)),
    o1 33 (.load (.t 32)),
    o1 34 (.build [(.I 0), (.I 0), (.I 0), (.I 0), (.I 0)] [(0, 1, (.c (.I 6))), (2, 1, (.c (.I 4))), (4, 1, (.t 33))]),
    o1 35 (.bsl [(.I 0), (.I 0), (.I 0), (.I 0), (.I 0)] 1 [(0, 5, (.t 34))]),
    o1 36 (.app 5 (.t 31) (.t 35)),
    o1 4 (.mv (.t 36))]) (.keep [4]))
  (.ret))
  (.seq (.seq (.ops [o1 38 (.bin .eql (.t 10) (.c (.I 7))),
    o1 37 (.mv (.t 38))]) (.keep [2, 5, 10, 37]))
  (.seq (.cond (.t 37)
  (.seq (.seq (.ops [o1 39 (.mv (.t 5)),
    o1 40 (.build [(.I 0), (.I 0), (.I 0), (.I 0), (.I 0)] [(0, 1, (.c (.I 9))), (2, 1, (.c (.I 4)))]),
    o1 41 (.bsl [(.I 0), (.I 0), (.I 0), (.I 0), (.I 0)] 1 [(0, 5, (.t 40))]),
    o1 42 (.app 5 (.t 39) (.t 41)),
    o1 4 (.mv (.t 42))]) (.keep [4]))
  (.ret))
  (.seq (.seq (.ops [o1 44 (.bin .eql (.t 10) (.c (.I 5))),
    o1 43 (.mv (.t 44))]) (.keep [2, 43]))
  (.seq (.cond (.t 43)
  (.seq (.seq (.ops [o1 45 (.fldA 1 (.t 2)),
    o1 46 (.load (.t 45)),
    o1 47 (.fldA 2 (.t 2)),
    o1 48 (.load (.t 47)),
    o1 49 (.build [(.I 0), (.I 0), (.I 0), (.I 0), (.I 0)] [(0, 1, (.c (.I 7))), (1, 1, (.t 46)), (4, 1, (.t 48))]),
    o1 50 (.bsl [(.I 0), (.I 0), (.I 0), (.I 0), (.I 0)] 1 [(0, 5, (.t 49))]),
    o1 4 (.mv (.t 50))]) (.keep [4]))
  (.ret))
  (.skip)) (.keep [])))) (.keep [])))) (.keep [])))) (.keep [])))) (.keep [])))) (.keep [])))) (.keep [])))
  (.seq (.seq (.ops [o1 51 (.build [(.I 0), (.I 0), (.I 0), (.I 0), (.I 0)] [(0, 1, (.c (.I 8)))]),
    o1 52 (.bsl [(.I 0), (.I 0), (.I 0), (.I 0), (.I 0)] 1 [(0, 5, (.t 51))]),
    o1 4 (.mv (.t 52))]) (.keep [4]))
  (.ret)))), [.t 4]⟩

/- loop.example/cothreads/impl.areWords -/
def c_iareWords_l0 : AC := .seq (.seq (.ops [o1 8 (.bin .lss (.t 7) (.t 6))])
  (.seq (.seq (.cond (.t 8)
  (.skip)
  (.exit 0)) (.keep [5, 6, 7]))
  (.seq (.seq (.block 1 (.seq (.seq (.ops [o1 9 (.idxA 1 (.t 5) (.t 7)),
    o1 10 (.load (.t 9)),
    o1 4 (.mv (.t 10))]) (.keep [4, 5, 6, 7]))
  (.seq (.seq (.ops [o1 11 (.mv (.t 4)),
    o1 12 (.call f_iWordValid [(.t 11)]),
    o1 13 (.un .not (.t 12))]) (.keep [5, 6, 7, 13]))
  (.seq (.cond (.t 13)
  (.seq (.ops [o1 2 (.mv (.c (.b false)))])
  (.ret))
  (.skip)) (.keep [5, 6, 7]))))) (.keep [5, 6, 7]))
  (.seq (.ops [o1 14 (.bin .add (.t 7) (.c (.I 1))),
    o1 7 (.mv (.t 14))]) (.keep [5, 6, 7]))))) (.keep [5, 6, 7])
def c_iareWords : AFn := ⟨1, .seq (.seq (.ops [o1 2 (.mv (.c (.b false)))]) (.keep [0]))
  (.seq (.seq (.ops [o1 5 (.mv (.t 0)),
    o1 6 (.len (.t 5)),
    o1 7 (.mv (.c (.I 0)))])
  (.seq (.block 0 (.seq (.keep [5, 6, 7]) (.loop c_iareWords_l0))) (.keep [])))
  (.seq (.ops [o1 2 (.mv (.c (.b true)))])
  (.ret))), [.t 2]⟩

/- loop.example/cothreads/impl.BoxValid -/
def c_iBoxValid : AFn := ⟨1, .seq (.seq (.ops [o1 1 (.box (.t 0)),
    o1 2 (.mv (.c (.b false)))]) (.keep [1]))
  (.seq (.seq (.ops [o1 3 (.fldA 0 (.t 1)),
    o1 4 (.load (.t 3)),
    o1 5 (.bin .geq (.t 4) (.c (.I 1))),
    o1 6 (.mv (.t 5)),
    ⟨some 7, (some (6, true)), [], false, .fldA 0 (.t 1)⟩,
    ⟨some 8, (some (6, true)), [], false, .load (.t 7)⟩,
    ⟨some 9, (some (6, true)), [], false, .bin .leq (.t 8) (.c (.I 4))⟩,
    o1 10 (.pick (.t 6) (.t 9) (.c (.b false))),
    o1 11 (.mv (.t 10)),
    ⟨some 12, (some (11, true)), [], false, .fldA 1 (.t 1)⟩,
    ⟨some 13, (some (11, true)), [], false, .load (.t 12)⟩,
    ⟨some 14, (some (11, true)), [], false, .len (.t 13)⟩,
    ⟨some 15, (some (11, true)), [], false, .fldA 0 (.t 1)⟩,
    ⟨some 16, (some (11, true)), [], false, .load (.t 15)⟩,
    ⟨some 17, (some (11, true)), [], false, .bin .leq (.t 14) (.t 16)⟩,
    o1 18 (.pick (.t 11) (.t 17) (.c (.b false))),
    o1 19 (.mv (.t 18)),
    ⟨some 20, (some (19, true)), [], false, .fldA 1 (.t 1)⟩,
    ⟨some 21, (some (19, true)), [], false, .load (.t 20)⟩,
    ⟨some 22, (some (19, true)), [], false, .call f_iareWords [(.t 21)]⟩,
    o1 23 (.pick (.t 19) (.t 22) (.c (.b false))),
    o1 2 (.mv (.t 23))]) (.keep [2]))
  (.ret)), [.t 2]⟩

/- loop.example/cothreads/impl.CodeValid -/
def c_iCodeValid_l0 : AC := .seq (.seq (.ops [o1 17 (.bin .lss (.t 16) (.t 15))])
  (.seq (.seq (.cond (.t 17)
  (.skip)
  (.exit 0)) (.keep [0, 14, 15, 16]))
  (.seq (.seq (.block 1 (.seq (.seq (.ops [o1 18 (.idxA 5 (.t 14) (.t 16)),
    o1 19 (.loadN 5 (.t 18)),
    o1 4 (.alloc [(.I 0), (.I 0), (.I 0), (.I 0), (.I 0)]),
    o0 (.store 5 (.t 4) (.t 19))]) (.keep [0, 4, 14, 15, 16]))
  (.seq (.seq (.ops [o1 20 (.loadN 5 (.t 4)),
    o1 21 (.mv (.t 0)),
    o1 22 (.len (.t 21)),
    o1 23 (.call f_iQuadValid [(.t 20), (.t 22)]),
    o1 24 (.un .not (.t 23))]) (.keep [0, 14, 15, 16, 24]))
  (.seq (.cond (.t 24)
  (.seq (.ops [o1 2 (.mv (.c (.b false)))])
  (.ret))
  (.skip)) (.keep [0, 14, 15, 16]))))) (.keep [0, 14, 15, 16]))
  (.seq (.ops [o1 25 (.bin .add (.t 16) (.c (.I 1))),
    o1 16 (.mv (.t 25))]) (.keep [0, 14, 15, 16]))))) (.keep [0, 14, 15, 16])
def c_iCodeValid : AFn := ⟨1, .seq (.seq (.ops [o1 2 (.mv (.c (.b false)))]) (.keep [0]))
  (.seq (.seq (.seq (.ops [o1 6 (.mv (.t 0)),
    o1 7 (.len (.t 6)),
    o1 8 (.bin .lss (.t 7) (.c (.I 1))),
    o1 9 (.mv (.t 8)),
    ⟨some 10, (some (9, false)), [], false, .mv (.t 0)⟩,
    ⟨some 11, (some (9, false)), [], false, .len (.t 10)⟩,
    ⟨some 12, (some (9, false)), [], false, .bin .gtr (.t 11) (.c (.I 600))⟩,
    o1 13 (.pick (.t 9) (.c (.b true)) (.t 12))]) (.keep [0, 13]))
  (.seq (.cond (.t 13)
  (.seq (.ops [o1 2 (.mv (.c (.b false)))])
  (.ret))
  (.skip)) (.keep [0])))
  (.seq (.seq (.ops [o1 14 (.mv (.t 0)),
    o1 15 (.len (.t 14)),
    o1 16 (.mv (.c (.I 0)))])
  (.seq (.block 0 (.seq (.keep [0, 14, 15, 16]) (.loop c_iCodeValid_l0))) (.keep [0])))
  (.seq (.seq (.ops [o1 26 (.mv (.t 0)),
    o1 27 (.mv (.t 0)),
    o1 28 (.len (.t 27)),
    o1 29 (.bin .sub (.t 28) (.c (.I 1))),
    o1 30 (.idxA 5 (.t 26) (.t 29)),
    o1 31 (.fldA 0 (.t 30)),
    o1 32 (.load (.t 31)),
    o1 5 (.mv (.t 32))]) (.keep [5]))
  (.seq (.seq (.ops [o1 33 (.mv (.t 5)),
    o1 34 (.bin .eql (.t 33) (.c (.I 10))),
    o1 35 (.mv (.t 34)),
    ⟨some 36, (some (35, false)), [], false, .mv (.t 5)⟩,
    ⟨some 37, (some (35, false)), [], false, .bin .eql (.t 36) (.c (.I 4))⟩,
    o1 38 (.pick (.t 35) (.c (.b true)) (.t 37)),
    o1 2 (.mv (.t 38))]) (.keep [2]))
  (.ret))))), [.t 2]⟩

/- loop.example/cothreads/impl.threadFits -/
def c_ithreadFits : AFn := ⟨2, .seq (.seq (.ops [o1 2 (.box (.t 0)),
    o1 4 (.mv (.c (.b false)))]) (.keep [1, 2]))
  (.seq (.seq (.ops [o1 5 (.fldA 0 (.t 2)),
    o1 6 (.load (.t 5)),
    o1 7 (.len (.t 6)),
    o1 8 (.bin .eql (.t 7) (.c (.I 12))),
    o1 9 (.mv (.t 8)),
    ⟨some 10, (some (9, true)), [], false, .fldA 0 (.t 2)⟩,
    ⟨some 11, (some (9, true)), [], false, .load (.t 10)⟩,
    ⟨some 12, (some (9, true)), [], false, .call f_iareWords [(.t 11)]⟩,
    o1 13 (.pick (.t 9) (.t 12) (.c (.b false))),
    o1 14 (.mv (.t 13)),
    ⟨some 15, (some (14, true)), [], false, .fldA 1 (.t 2)⟩,
    ⟨some 16, (some (14, true)), [], false, .load (.t 15)⟩,
    ⟨some 17, (some (14, true)), [], false, .bin .geq (.t 16) (.c (.I 0))⟩,
    o1 18 (.pick (.t 14) (.t 17) (.c (.b false))),
    o1 19 (.mv (.t 18)),
    ⟨some 20, (some (19, true)), [], false, .fldA 1 (.t 2)⟩,
    ⟨some 21, (some (19, true)), [], false, .load (.t 20)⟩,
    ⟨some 22, (some (19, true)), [], false, .mv (.t 1)⟩,
    ⟨some 23, (some (19, true)), [], false, .len (.t 22)⟩,
    ⟨some 24, (some (19, true)), [], false, .bin .lss (.t 21) (.t 23)⟩,
    o1 25 (.pick (.t 19) (.t 24) (.c (.b false))),
    o1 4 (.mv (.t 25))]) (.keep [4]))
  (.ret)), [.t 4]⟩

/- loop.example/cothreads/impl.ahead -/
def c_iahead_l0 : AC := .seq (.seq (.seq (.seq (.ops [o1 9 (.mv (.t 5)),
    o1 10 (.bin .geq (.t 9) (.c (.I 0)))]) (.keep [0, 1, 5, 10]))
  (.seq (.cond (.t 10)
  (.skip)
  (.exit 0)) (.keep [0, 1, 5])))
  (.seq (.seq (.block 1 (.seq (.ops [o1 13 (.mv (.t 0)),
    o1 14 (.mv (.t 5)),
    o1 15 (.idxA 8 (.t 13) (.t 14)),
    o1 16 (.mv (.t 1)),
    o1 17 (.build [.nilp, .nilp] [(0, 1, (.t 15)), (1, 1, (.t 16))]),
    o1 18 (.box (.t 17)),
    o1 1 (.mv (.t 18))]) (.keep [0, 1, 5]))) (.keep [0, 1, 5]))
  (.seq (.ops [o1 11 (.mv (.t 5)),
    o1 12 (.bin .sub (.t 11) (.c (.I 1))),
    o1 5 (.mv (.t 12))]) (.keep [0, 1, 5])))) (.keep [0, 1, 5])
def c_iahead : AFn := ⟨2, .seq (.seq (.ops [o1 4 (.mv (.c .nilp))]) (.keep [0, 1]))
  (.seq (.seq (.seq (.ops [o1 6 (.mv (.t 0)),
    o1 7 (.len (.t 6)),
    o1 8 (.bin .sub (.t 7) (.c (.I 1))),
    o1 5 (.mv (.t 8))]) (.keep [0, 1, 5]))
  (.seq (.block 0 (.seq (.keep [0, 1, 5]) (.loop c_iahead_l0))) (.keep [1])))
  (.seq (.seq (.ops [o1 19 (.mv (.t 1)),
    o1 4 (.mv (.t 19))]) (.keep [4]))
  (.ret))), [.t 4]⟩

/- loop.example/cothreads/impl.exprEval -/
def c_iexprEval : AFn := ⟨2, .seq (.seq (.ops [o1 4 (.mv (.c (.I 0)))]) (.keep [0, 1]))
  (.seq (.seq (.seq (.ops [o1 5 (.mv (.t 0)),
    o1 6 (.nilc (.t 5)),
    o1 7 (.fldA 0 (.t 6)),
    o1 8 (.load (.t 7))]) (.keep [0, 1, 8]))
  (.seq (.block 0 (.seq (.seq (.ops [o1 10 (.bin .eql (.t 8) (.c (.I 0))),
    o1 9 (.mv (.t 10))]) (.keep [0, 1, 8, 9]))
  (.seq (.cond (.t 9)
  (.seq (.seq (.ops [o1 11 (.mv (.t 0)),
    o1 12 (.nilc (.t 11)),
    o1 13 (.fldA 1 (.t 12)),
    o1 14 (.load (.t 13)),
    o1 4 (.mv (.t 14))]) (.keep [4]))
  (.ret))
  (.seq (.seq (.ops [o1 16 (.bin .eql (.t 8) (.c (.I 13))),
    o1 15 (.mv (.t 16))]) (.keep [0, 1, 15]))
  (.seq (.cond (.t 15)
  (.seq (.seq (.ops [o1 17 (.mv (.t 1)),
    o1 18 (.mv (.t 0)),
    o1 19 (.nilc (.t 18)),
    o1 20 (.fldA 1 (.t 19)),
    o1 21 (.load (.t 20)),
    o1 22 (.idxA 1 (.t 17) (.t 21)),
    o1 23 (.load (.t 22)),
    o1 4 (.mv (.t 23))]) (.keep [4]))
  (.ret))
  (.skip)) (.keep [0, 1])))) (.keep [0, 1])))) (.keep [0, 1])))
  (.seq (.seq (.ops [o1 24 (.mv (.t 0)),
    o1 25 (.nilc (.t 24)),
    o1 26 (.fldA 0 (.t 25)),
    o1 27 (.load (.t 26)),
    o1 28 (.mv (.t 0)),
    o1 29 (.nilc (.t 28)),
    o1 30 (.fldA 2 (.t 29)),
    o1 31 (.load (.t 30)),
    o1 32 (.idxA 3 (.t 31) (.c (.I 0))),
    o1 33 (.mv (.t 1)),
    ⟨some 34, none, [], true, .call f_iexprEval [(.t 32), (.t 33)]⟩,
    o1 35 (.mv (.t 0)),
    o1 36 (.nilc (.t 35)),
    o1 37 (.fldA 2 (.t 36)),
    o1 38 (.load (.t 37)),
    o1 39 (.idxA 3 (.t 38) (.c (.I 1))),
    o1 40 (.mv (.t 1)),
    ⟨some 41, none, [], true, .call f_iexprEval [(.t 39), (.t 40)]⟩,
    ⟨some 42, none, [], true, .call f_iapply [(.t 27), (.t 34), (.t 41)]⟩,
    o1 4 (.mv (.t 42))]) (.keep [4]))
  (.ret))), [.t 4]⟩

/- loop.example/cothreads/spec.l92Block -/
def c_sl92Block_l0 : AC := .seq (.seq (.seq (.seq (.ops [o1 14 (.mv (.t 12)),
    o1 15 (.mv (.t 3)),
    o1 16 (.bin .lss (.t 14) (.t 15))]) (.keep [0, 1, 2, 3, 4, 11, 12, 16]))
  (.seq (.cond (.t 16)
  (.skip)
  (.exit 0)) (.keep [0, 1, 2, 3, 4, 11, 12])))
  (.seq (.seq (.block 1 (.seq (.ops [o1 19 (.mv (.t 11)),
    o1 20 (.mv (.t 0)),
    o1 21 (.mv (.t 1)),
    o1 22 (.mv (.t 2)),
    o1 23 (.mv (.t 4)),
    o1 24 (.call f_sl92Stmt [(.t 20), (.t 21), (.t 22), (.t 23)]),
    o1 25 (.app 8 (.t 19) (.t 24)),
    o1 11 (.mv (.t 25))]) (.keep [0, 1, 2, 3, 4, 11, 12]))) (.keep [0, 1, 2, 3, 4, 11, 12]))
  (.seq (.ops [o1 17 (.mv (.t 12)),
    o1 18 (.bin .add (.t 17) (.c (.I 1))),
    o1 12 (.mv (.t 18))]) (.keep [0, 1, 2, 3, 4, 11, 12])))) (.keep [0, 1, 2, 3, 4, 11, 12])
def c_sl92Block : AFn := ⟨5, .seq (.seq (.ops [o1 10 (.mv (.c .nils))]) (.keep [0, 1, 2, 3, 4]))
  (.seq (.seq (.ops [o1 13 (.bsl [] 0 []),
    o1 11 (.mv (.t 13))]) (.keep [0, 1, 2, 3, 4, 11]))
  (.seq (.seq (.ops [o1 12 (.mv (.c (.I 0)))])
  (.seq (.block 0 (.seq (.keep [0, 1, 2, 3, 4, 11, 12]) (.loop c_sl92Block_l0))) (.keep [11])))
  (.seq (.seq (.ops [o1 26 (.mv (.t 11)),
    o1 10 (.mv (.t 26))]) (.keep [10]))
  (.ret)))), [.t 10]⟩

/- loop.example/cothreads/impl.stmtValid -/
def c_istmtValid : AFn := ⟨2, .seq (.seq (.ops [o1 4 (.mv (.c (.b false)))]) (.keep [0, 1]))
  (.seq (.ops [o1 5 (.alloc [(.b false), (.b false), (.b false), (.b false), (.b false)])])
  (.seq (.seq (.seq (.ops [o1 7 (.mv (.t 0)),
    o1 8 (.nilc (.t 7)),
    o1 9 (.fldA 0 (.t 8)),
    o1 10 (.load (.t 9))]) (.keep [0, 1, 5, 10]))
  (.seq (.block 0 (.seq (.seq (.ops [o1 12 (.bin .eql (.t 10) (.c (.I 1))),
    o1 11 (.mv (.t 12))]) (.keep [0, 1, 5, 10, 11]))
  (.seq (.cond (.t 11)
  (.seq (.ops [o1 13 (.fldA 0 (.t 5)),
    o0 (.store 1 (.t 13) (.c (.b true))),
    o1 14 (.fldA 2 (.t 5)),
    o0 (.store 1 (.t 14) (.c (.b true)))]) (.keep [0, 1, 5]))
  (.seq (.seq (.ops [o1 16 (.bin .eql (.t 10) (.c (.I 2))),
    o1 15 (.mv (.t 16))]) (.keep [0, 1, 5, 10, 15]))
  (.seq (.cond (.t 15)
  (.seq (.ops [o1 17 (.fldA 2 (.t 5)),
    o0 (.store 1 (.t 17) (.c (.b true))),
    o1 18 (.fldA 3 (.t 5)),
    o0 (.store 1 (.t 18) (.c (.b true))),
    o1 19 (.fldA 4 (.t 5)),
    o0 (.store 1 (.t 19) (.c (.b true)))]) (.keep [0, 1, 5]))
  (.seq (.seq (.ops [o1 21 (.bin .eql (.t 10) (.c (.I 3))),
    o1 20 (.mv (.t 21))]) (.keep [0, 1, 5, 10, 20]))
  (.seq (.cond (.t 20)
  (.seq (.ops [o1 22 (.fldA 2 (.t 5)),
    o0 (.store 1 (.t 22) (.c (.b true))),
    o1 23 (.fldA 3 (.t 5)),
    o0 (.store 1 (.t 23) (.c (.b true)))]) (.keep [0, 1, 5]))
  (.seq (.seq (.ops [o1 25 (.bin .eql (.t 10) (.c (.I 4))),
    o1 24 (.mv (.t 25))]) (.keep [0, 1, 5, 10, 24]))
  (.seq (.cond (.t 24)
  (.seq (.ops [o1 26 (.fldA 1 (.t 5)),
    o0 (.store 1 (.t 26) (.c (.b true))),
    o1 27 (.fldA 2 (.t 5)),
    o0 (.store 1 (.t 27) (.c (.b true)))]) (.keep [0, 1, 5]))
  (.seq (.seq (.ops [o1 29 (.bin .eql (.t 10) (.c (.I 5))),
    o1 28 (.mv (.t 29))]) (.keep [0, 1, 5, 10, 28]))
  (.seq (.cond (.t 28)
  (.seq (.ops [o1 30 (.fldA 1 (.t 5)),
    o0 (.store 1 (.t 30) (.c (.b true))),
    o1 31 (.fldA 0 (.t 5)),
    o0 (.store 1 (.t 31) (.c (.b true)))]) (.keep [0, 1, 5]))
  (.seq (.seq (.ops [o1 33 (.bin .eql (.t 10) (.c (.I 7))),
    o1 32 (.mv (.t 33))]) (.keep [0, 1, 5, 10, 32]))
  (.seq (.cond (.t 32)
  (.seq (.ops [o1 34 (.fldA 2 (.t 5)),
    o0 (.store 1 (.t 34) (.c (.b true)))]) (.keep [0, 1, 5]))
  (.seq (.seq (.ops [o1 36 (.bin .eql (.t 10) (.c (.I 6))),
    o1 35 (.mv (.t 36))]) (.keep [0, 1, 5, 35]))
  (.seq (.cond (.t 35)
  (.skip)
  (.seq (.ops [o1 4 (.mv (.c (.b false)))])
  (.ret))) (.keep [0, 1, 5])))) (.keep [0, 1, 5])))) (.keep [0, 1, 5])))) (.keep [0, 1, 5])))) (.keep [0, 1, 5])))) (.keep [0, 1, 5])))) (.keep [0, 1, 5])))) (.keep [0, 1, 5])))
  (.seq (.ops [o1 6 (.mv (.c (.fn f_istmtValid_1 [] [])))])
  (.seq (.seq (.seq (.ops [o1 37 (.mv (.t 6)),
    o1 38 (.mv (.t 0)),
    o1 39 (.nilc (.t 38)),
    o1 40 (.fldA 1 (.t 39)),
    o1 41 (.load (.t 40)),
    o1 42 (.fldA 0 (.t 5)),
    o1 43 (.load (.t 42)),
    ⟨some 44, none, [], true, .callv (.t 37) [(.t 41), (.c (.I 4)), (.t 43)]⟩,
    o1 45 (.un .not (.t 44)),
    o1 46 (.mv (.t 45)),
    ⟨some 47, (some (46, false)), [], false, .mv (.t 6)⟩,
    ⟨some 48, (some (46, false)), [], false, .mv (.t 0)⟩,
    ⟨some 49, (some (46, false)), [], false, .nilc (.t 48)⟩,
    ⟨some 50, (some (46, false)), [], false, .fldA 2 (.t 49)⟩,
    ⟨some 51, (some (46, false)), [], false, .load (.t 50)⟩,
    ⟨some 52, (some (46, false)), [], false, .mv (.t 1)⟩,
    ⟨some 53, (some (46, false)), [], false, .fldA 1 (.t 5)⟩,
    ⟨some 54, (some (46, false)), [], false, .load (.t 53)⟩,
    ⟨some 55, (some (46, false)), [], true, .callv (.t 47) [(.t 51), (.t 52), (.t 54)]⟩,
    ⟨some 56, (some (46, false)), [], false, .un .not (.t 55)⟩,
    o1 57 (.pick (.t 46) (.c (.b true)) (.t 56)),
    o1 58 (.mv (.t 57)),
    ⟨some 59, (some (58, false)), [], false, .fldA 1 (.t 5)⟩,
    ⟨some 60, (some (58, false)), [], false, .load (.t 59)⟩,
    ⟨some 61, (some (58, false)), [], false, .mv (.t 60)⟩,
    ⟨some 62, (some (61, true)), [], false, .mv (.t 0)⟩,
    ⟨some 63, (some (61, true)), [], false, .nilc (.t 62)⟩,
    ⟨some 64, (some (61, true)), [], false, .fldA 2 (.t 63)⟩,
    ⟨some 65, (some (61, true)), [], false, .load (.t 64)⟩,
    ⟨some 66, (some (61, true)), [], false, .mv (.t 1)⟩,
    ⟨some 67, (some (61, true)), [], false, .bin .geq (.t 65) (.t 66)⟩,
    ⟨some 68, (some (58, false)), [], false, .pick (.t 61) (.t 67) (.c (.b false))⟩,
    o1 69 (.pick (.t 58) (.c (.b true)) (.t 68))]) (.keep [0, 5, 69]))
  (.seq (.cond (.t 69)
  (.seq (.ops [o1 4 (.mv (.c (.b false)))])
  (.ret))
  (.skip)) (.keep [0, 5])))
  (.seq (.seq (.seq (.ops [o1 70 (.fldA 2 (.t 5)),
    o1 71 (.load (.t 70)),
    o1 72 (.mv (.t 71)),
    ⟨some 73, (some (72, true)), [], false, .mv (.t 0)⟩,
    ⟨some 74, (some (72, true)), [], false, .nilc (.t 73)⟩,
    ⟨some 75, (some (72, true)), [], false, .fldA 3 (.t 74)⟩,
    ⟨some 76, (some (72, true)), [], false, .loadN 3 (.t 75)⟩,
    ⟨some 77, (some (72, true)), [], false, .call f_iExprValid [(.t 76)]⟩,
    ⟨some 78, (some (72, true)), [], false, .un .not (.t 77)⟩,
    o1 79 (.pick (.t 72) (.t 78) (.c (.b false))),
    o1 80 (.mv (.t 79)),
    ⟨some 81, (some (80, false)), [], false, .fldA 2 (.t 5)⟩,
    ⟨some 82, (some (80, false)), [], false, .load (.t 81)⟩,
    ⟨some 83, (some (80, false)), [], false, .un .not (.t 82)⟩,
    ⟨some 84, (some (80, false)), [], false, .mv (.t 83)⟩,
    ⟨some 85, (some (84, true)), [], false, .mv (.t 0)⟩,
    ⟨some 86, (some (84, true)), [], false, .nilc (.t 85)⟩,
    ⟨some 87, (some (84, true)), [], false, .fldA 3 (.t 86)⟩,
    ⟨some 88, (some (84, true)), [], false, .fldA 0 (.t 87)⟩,
    ⟨some 89, (some (84, true)), [], false, .load (.t 88)⟩,
    ⟨some 90, (some (84, true)), [], false, .bin .neq (.t 89) (.c (.I 0))⟩,
    ⟨some 91, (some (84, true)), [], false, .mv (.t 90)⟩,
    ⟨some 92, (some (91, false)), [], false, .mv (.t 0)⟩,
    ⟨some 93, (some (91, false)), [], false, .nilc (.t 92)⟩,
    ⟨some 94, (some (91, false)), [], false, .fldA 3 (.t 93)⟩,
    ⟨some 95, (some (91, false)), [], false, .fldA 1 (.t 94)⟩,
    ⟨some 96, (some (91, false)), [], false, .load (.t 95)⟩,
    ⟨some 97, (some (91, false)), [], false, .bin .neq (.t 96) (.c (.I 0))⟩,
    ⟨some 98, (some (84, true)), [], false, .pick (.t 91) (.c (.b true)) (.t 97)⟩,
    ⟨some 99, (some (84, true)), [], false, .mv (.t 98)⟩,
    ⟨some 100, (some (99, false)), [], false, .mv (.t 0)⟩,
    ⟨some 101, (some (99, false)), [], false, .nilc (.t 100)⟩,
    ⟨some 102, (some (99, false)), [], false, .fldA 3 (.t 101)⟩,
    ⟨some 103, (some (99, false)), [], false, .fldA 2 (.t 102)⟩,
    ⟨some 104, (some (99, false)), [], false, .load (.t 103)⟩,
    ⟨some 105, (some (99, false)), [], false, .len (.t 104)⟩,
    ⟨some 106, (some (99, false)), [], false, .bin .gtr (.t 105) (.c (.I 0))⟩,
    ⟨some 107, (some (84, true)), [], false, .pick (.t 99) (.c (.b true)) (.t 106)⟩,
    ⟨some 108, (some (80, false)), [], false, .pick (.t 84) (.t 107) (.c (.b false))⟩,
    o1 109 (.pick (.t 80) (.c (.b true)) (.t 108))]) (.keep [0, 5, 109]))
  (.seq (.cond (.t 109)
  (.seq (.ops [o1 4 (.mv (.c (.b false)))])
  (.ret))
  (.skip)) (.keep [0, 5])))
  (.seq (.seq (.ops [o1 110 (.fldA 3 (.t 5)),
    o1 111 (.load (.t 110)),
    o1 112 (.mv (.t 111)),
    ⟨some 113, (some (112, false)), [], false, .mv (.t 0)⟩,
    ⟨some 114, (some (112, false)), [], false, .nilc (.t 113)⟩,
    ⟨some 115, (some (112, false)), [], false, .fldA 6 (.t 114)⟩,
    ⟨some 116, (some (112, false)), [], false, .load (.t 115)⟩,
    ⟨some 117, (some (112, false)), [], false, .len (.t 116)⟩,
    ⟨some 118, (some (112, false)), [], false, .bin .eql (.t 117) (.c (.I 0))⟩,
    o1 119 (.pick (.t 112) (.c (.b true)) (.t 118)),
    o1 120 (.mv (.t 119)),
    ⟨some 121, (some (120, true)), [], false, .fldA 4 (.t 5)⟩,
    ⟨some 122, (some (120, true)), [], false, .load (.t 121)⟩,
    ⟨some 123, (some (120, true)), [], false, .mv (.t 122)⟩,
    ⟨some 124, (some (123, false)), [], false, .mv (.t 0)⟩,
    ⟨some 125, (some (123, false)), [], false, .nilc (.t 124)⟩,
    ⟨some 126, (some (123, false)), [], false, .fldA 7 (.t 125)⟩,
    ⟨some 127, (some (123, false)), [], false, .load (.t 126)⟩,
    ⟨some 128, (some (123, false)), [], false, .len (.t 127)⟩,
    ⟨some 129, (some (123, false)), [], false, .bin .eql (.t 128) (.c (.I 0))⟩,
    ⟨some 130, (some (120, true)), [], false, .pick (.t 123) (.c (.b true)) (.t 129)⟩,
    o1 131 (.pick (.t 120) (.t 130) (.c (.b false))),
    o1 4 (.mv (.t 131))]) (.keep [4]))
  (.ret))))))), [.t 4]⟩

/- loop.example/cothreads/spec.l11Ok -/
def c_sl11Ok : AFn := ⟨2, .seq (.seq (.ops [o1 2 (.box (.t 0)),
    o1 4 (.mv (.c (.b false)))]) (.keep [1, 2]))
  (.seq (.seq (.seq (.ops [o1 5 (.fldA 0 (.t 2)),
    o1 6 (.load (.t 5)),
    o1 7 (.bin .neq (.t 6) (.c (.I 2))),
    o1 8 (.mv (.t 7)),
    ⟨some 9, (some (8, true)), [], false, .fldA 0 (.t 2)⟩,
    ⟨some 10, (some (8, true)), [], false, .load (.t 9)⟩,
    ⟨some 11, (some (8, true)), [], false, .bin .neq (.t 10) (.c (.I 3))⟩,
    o1 12 (.pick (.t 8) (.t 11) (.c (.b false)))]) (.keep [1, 2, 12]))
  (.seq (.cond (.t 12)
  (.seq (.seq (.ops [o1 13 (.loadN 8 (.t 2)),
    o1 14 (.call f_sl11Simple [(.t 13)]),
    o1 4 (.mv (.t 14))]) (.keep [4]))
  (.ret))
  (.skip)) (.keep [1, 2])))
  (.seq (.seq (.seq (.ops [o1 15 (.mv (.t 1)),
    o1 16 (.bin .lss (.t 15) (.c (.I 1))),
    o1 17 (.mv (.t 16)),
    ⟨some 18, (some (17, false)), [], false, .fldA 0 (.t 2)⟩,
    ⟨some 19, (some (17, false)), [], false, .load (.t 18)⟩,
    ⟨some 20, (some (17, false)), [], false, .bin .eql (.t 19) (.c (.I 3))⟩,
    ⟨some 21, (some (17, false)), [], false, .mv (.t 20)⟩,
    ⟨some 22, (some (21, true)), [], false, .fldA 7 (.t 2)⟩,
    ⟨some 23, (some (21, true)), [], false, .load (.t 22)⟩,
    ⟨some 24, (some (21, true)), [], false, .len (.t 23)⟩,
    ⟨some 25, (some (21, true)), [], false, .bin .gtr (.t 24) (.c (.I 0))⟩,
    ⟨some 26, (some (17, false)), [], false, .pick (.t 21) (.t 25) (.c (.b false))⟩,
    o1 27 (.pick (.t 17) (.c (.b true)) (.t 26))]) (.keep [1, 2, 27]))
  (.seq (.cond (.t 27)
  (.seq (.ops [o1 4 (.mv (.c (.b false)))])
  (.ret))
  (.skip)) (.keep [1, 2])))
  (.seq (.seq (.ops [o1 28 (.loadN 8 (.t 2)),
    o1 29 (.call f_sl11Var [(.t 28), (.c (.b false))]),
    o1 30 (.mv (.t 29)),
    ⟨some 31, (some (30, true)), [], false, .loadN 8 (.t 2)⟩,
    ⟨some 32, (some (30, true)), [], false, .call f_sl11Box [(.t 31), (.c (.b false))]⟩,
    o1 33 (.pick (.t 30) (.t 32) (.c (.b false))),
    o1 34 (.mv (.t 33)),
    ⟨some 35, (some (34, true)), [], false, .fldA 3 (.t 2)⟩,
    ⟨some 36, (some (34, true)), [], false, .loadN 3 (.t 35)⟩,
    ⟨some 37, (some (34, true)), [], false, .call f_sExprValid [(.t 36)]⟩,
    o1 38 (.pick (.t 34) (.t 37) (.c (.b false))),
    o1 39 (.mv (.t 38)),
    ⟨some 40, (some (39, true)), [], false, .fldA 6 (.t 2)⟩,
    ⟨some 41, (some (39, true)), [], false, .load (.t 40)⟩,
    ⟨some 42, (some (39, true)), [], false, .mv (.t 1)⟩,
    ⟨some 43, (some (39, true)), [], false, .bin .sub (.t 42) (.c (.I 1))⟩,
    ⟨some 44, (some (39, true)), [], false, .call f_sl11Blocks [(.t 41), (.t 43)]⟩,
    o1 45 (.pick (.t 39) (.t 44) (.c (.b false))),
    o1 46 (.mv (.t 45)),
    ⟨some 47, (some (46, true)), [], false, .fldA 7 (.t 2)⟩,
    ⟨some 48, (some (46, true)), [], false, .load (.t 47)⟩,
    ⟨some 49, (some (46, true)), [], false, .mv (.t 1)⟩,
    ⟨some 50, (some (46, true)), [], false, .bin .sub (.t 49) (.c (.I 1))⟩,
    ⟨some 51, (some (46, true)), [], false, .call f_sl11Blocks [(.t 48), (.t 50)]⟩,
    o1 52 (.pick (.t 46) (.t 51) (.c (.b false))),
    o1 4 (.mv (.t 52))]) (.keep [4]))
  (.ret)))), [.t 4]⟩

/- loop.example/cothreads/spec.l4Both -/
def c_sl4Both : AFn := ⟨3, .seq (.ops [o1 4 (.box (.t 1)),
    o1 5 (.box (.t 2)),
    o1 6 (.alloc [(.I 0), (.I 0), .nils])])
  (.seq (.seq (.ops [o1 7 (.mv (.t 0)),
    o1 8 (.loadN 3 (.t 4)),
    o1 9 (.loadN 3 (.t 5)),
    o1 10 (.bsl [(.I 0), (.I 0), .nils, (.I 0), (.I 0), .nils] 2 [(0, 3, (.t 8)), (3, 3, (.t 9))]),
    o1 11 (.build [(.I 0), (.I 0), .nils] [(0, 1, (.t 7)), (2, 1, (.t 10))]),
    o0 (.store 3 (.t 6) (.t 11))]) (.keep [6]))
  (.ret)), [.c 6 3]⟩

/- loop.example/cothreads/impl.compileExpr -/
def c_icompileExpr : AFn := ⟨3, .seq (.seq (.ops [o1 3 (.box (.t 0)),
    o1 6 (.mv (.c .nils))]) (.keep [1, 2, 3]))
  (.seq (.seq (.seq (.ops [o1 7 (.fldA 0 (.t 3)),
    o1 8 (.load (.t 7))]) (.keep [1, 2, 3, 8]))
  (.seq (.block 0 (.seq (.seq (.ops [o1 10 (.bin .eql (.t 8) (.c (.I 0))),
    o1 9 (.mv (.t 10))]) (.keep [1, 2, 3, 8, 9]))
  (.seq (.cond (.t 9)
  (.seq (.seq (.ops [o1 11 (.mv (.t 2)),
    o1 12 (.mv (.t 1)),
    o1 13 (.fldA 1 (.t 3)),
    o1 14 (.load (.t 13)),
    o1 15 (.build [(.I 0), (.I 0), (.I 0), (.I 0), (.I 0)] [(0, 1, (.c (.I 1))), (1, 1, (.t 12)), (4, 1, (.t 14))]),
    o1 16 (.bsl [(.I 0), (.I 0), (.I 0), (.I 0), (.I 0)] 1 [(0, 5, (.t 15))]),
    o1 17 (.app 5 (.t 11) (.t 16)),
    o1 6 (.mv (.t 17))]) (.keep [6]))
  (.ret))
  (.seq (.seq (.ops [o1 19 (.bin .eql (.t 8) (.c (.I 13))),
    o1 18 (.mv (.t 19))]) (.keep [1, 2, 3, 18]))
  (.seq (.cond (.t 18)
  (.seq (.seq (.ops [o1 20 (.mv (.t 2)),
    o1 21 (.mv (.t 1)),
    o1 22 (.fldA 1 (.t 3)),
    o1 23 (.load (.t 22)),
    o1 24 (.build [(.I 0), (.I 0), (.I 0), (.I 0), (.I 0)] [(0, 1, (.c (.I 2))), (1, 1, (.t 21)), (2, 1, (.t 23))]),
    o1 25 (.bsl [(.I 0), (.I 0), (.I 0), (.I 0), (.I 0)] 1 [(0, 5, (.t 24))]),
    o1 26 (.app 5 (.t 20) (.t 25)),
    o1 6 (.mv (.t 26))]) (.keep [6]))
  (.ret))
  (.skip)) (.keep [1, 2, 3])))) (.keep [1, 2, 3])))) (.keep [1, 2, 3])))
  (.seq (.seq (.ops [o1 27 (.fldA 2 (.t 3)),
    o1 28 (.load (.t 27)),
    o1 29 (.idxA 3 (.t 28) (.c (.I 0))),
    o1 30 (.loadN 3 (.t 29)),
    o1 31 (.mv (.t 1)),
    o1 32 (.mv (.t 2)),
    o1 33 (.call f_icompileExpr [(.t 30), (.t 31), (.t 32)]),
    o1 2 (.mv (.t 33))]) (.keep [1, 2, 3]))
  (.seq (.seq (.ops [o1 34 (.fldA 2 (.t 3)),
    o1 35 (.load (.t 34)),
    o1 36 (.idxA 3 (.t 35) (.c (.I 1))),
    o1 37 (.loadN 3 (.t 36)),
    o1 38 (.mv (.t 1)),
    o1 39 (.bin .add (.t 38) (.c (.I 1))),
    o1 40 (.mv (.t 2)),
    o1 41 (.call f_icompileExpr [(.t 37), (.t 39), (.t 40)]),
    o1 2 (.mv (.t 41))]) (.keep [1, 2, 3]))
  (.seq (.seq (.ops [o1 42 (.mv (.t 2)),
    o1 43 (.mv (.t 1)),
    o1 44 (.mv (.t 1)),
    o1 45 (.mv (.t 1)),
    o1 46 (.bin .add (.t 45) (.c (.I 1))),
    o1 47 (.fldA 0 (.t 3)),
    o1 48 (.load (.t 47)),
    o1 49 (.build [(.I 0), (.I 0), (.I 0), (.I 0), (.I 0)] [(0, 1, (.c (.I 3))), (1, 1, (.t 43)), (2, 1, (.t 44)), (3, 1, (.t 46)), (4, 1, (.t 48))]),
    o1 50 (.bsl [(.I 0), (.I 0), (.I 0), (.I 0), (.I 0)] 1 [(0, 5, (.t 49))]),
    o1 51 (.app 5 (.t 42) (.t 50)),
    o1 6 (.mv (.t 51))]) (.keep [6]))
  (.ret))))), [.t 6]⟩

/- loop.example/cothreads/impl.truth -/
def c_itruth : AFn := ⟨1, .seq (.seq (.ops [o1 2 (.mv (.c (.I 0)))]) (.keep [0]))
  (.seq (.seq (.ops [o1 3 (.mv (.t 0))])
  (.seq (.cond (.t 3)
  (.seq (.ops [o1 2 (.mv (.c (.I 1)))])
  (.ret))
  (.skip)) (.keep [])))
  (.seq (.ops [o1 2 (.mv (.c (.I 0)))])
  (.ret))), [.t 2]⟩

/- loop.example/cothreads/impl.Wrap -/
def c_iWrap : AFn := ⟨1, .seq (.seq (.ops [o1 2 (.mv (.c (.I 0)))]) (.keep [0]))
  (.seq (.seq (.ops [o1 3 (.mv (.t 0)),
    o1 4 (.conv .i32 (.t 3)),
    o1 5 (.conv .i64 (.t 4)),
    o1 2 (.mv (.t 5))]) (.keep [2]))
  (.ret)), [.t 2]⟩

/- loop.example/cothreads/spec.l22Expr -/
def c_sl22Expr : AFn := ⟨2, .seq (.seq (.ops [o1 2 (.box (.t 0)),
    o1 4 (.mv (.c .nils))]) (.keep [1, 2]))
  (.seq (.seq (.seq (.ops [o1 6 (.fldA 0 (.t 2)),
    o1 7 (.load (.t 6)),
    o1 8 (.bin .eql (.t 7) (.c (.I 0)))]) (.keep [1, 2, 8]))
  (.seq (.cond (.t 8)
  (.seq (.seq (.ops [o1 9 (.mv (.t 1)),
    o1 10 (.fldA 1 (.t 2)),
    o1 11 (.load (.t 10)),
    o1 12 (.build [(.I 0), (.I 0), (.I 0), (.I 0), (.I 0)] [(0, 1, (.c (.I 1))), (1, 1, (.t 9)), (4, 1, (.t 11))]),
    o1 13 (.bsl [(.I 0), (.I 0), (.I 0), (.I 0), (.I 0)] 1 [(0, 5, (.t 12))]),
    o1 4 (.mv (.t 13))]) (.keep [4]))
  (.ret))
  (.skip)) (.keep [1, 2])))
  (.seq (.seq (.seq (.ops [o1 14 (.fldA 0 (.t 2)),
    o1 15 (.load (.t 14)),
    o1 16 (.bin .eql (.t 15) (.c (.I 13)))]) (.keep [1, 2, 16]))
  (.seq (.cond (.t 16)
  (.seq (.seq (.ops [o1 17 (.mv (.t 1)),
    o1 18 (.fldA 1 (.t 2)),
    o1 19 (.load (.t 18)),
    o1 20 (.build [(.I 0), (.I 0), (.I 0), (.I 0), (.I 0)] [(0, 1, (.c (.I 2))), (1, 1, (.t 17)), (2, 1, (.t 19))]),
    o1 21 (.bsl [(.I 0), (.I 0), (.I 0), (.I 0), (.I 0)] 1 [(0, 5, (.t 20))]),
    o1 4 (.mv (.t 21))]) (.keep [4]))
  (.ret))
  (.skip)) (.keep [1, 2])))
  (.seq (.seq (.ops [o1 22 (.fldA 2 (.t 2)),
    o1 23 (.load (.t 22)),
    o1 24 (.idxA 3 (.t 23) (.c (.I 0))),
    o1 25 (.loadN 3 (.t 24)),
    o1 26 (.mv (.t 1)),
    ⟨some 27, none, [], true, .call f_sl22Expr [(.t 25), (.t 26)]⟩,
    o1 28 (.fldA 2 (.t 2)),
    o1 29 (.load (.t 28)),
    o1 30 (.idxA 3 (.t 29) (.c (.I 1))),
    o1 31 (.loadN 3 (.t 30)),
    o1 32 (.mv (.t 1)),
    o1 33 (.bin .add (.t 32) (.c (.I 1))),
    ⟨some 34, none, [], true, .call f_sl22Expr [(.t 31), (.t 33)]⟩,
    o1 35 (.app 5 (.t 27) (.t 34)),
    o1 5 (.mv (.t 35))]) (.keep [1, 2, 5]))
  (.seq (.seq (.ops [o1 36 (.mv (.t 5)),
    o1 37 (.mv (.t 1)),
    o1 38 (.mv (.t 1)),
    o1 39 (.mv (.t 1)),
    o1 40 (.bin .add (.t 39) (.c (.I 1))),
    o1 41 (.fldA 0 (.t 2)),
    o1 42 (.load (.t 41)),
    o1 43 (.build [(.I 0), (.I 0), (.I 0), (.I 0), (.I 0)] [(0, 1, (.c (.I 3))), (1, 1, (.t 37)), (2, 1, (.t 38)), (3, 1, (.t 40)), (4, 1, (.t 42))]),
    o1 44 (.bsl [(.I 0), (.I 0), (.I 0), (.I 0), (.I 0)] 1 [(0, 5, (.t 43))]),
    o1 45 (.app 5 (.t 36) (.t 44)),
    o1 4 (.mv (.t 45))]) (.keep [4]))
  (.ret))))), [.t 4]⟩

/- loop.example/cothreads/spec.l22If -/
def c_sl22If : AFn := ⟨2, .seq (.seq (.ops [o1 2 (.box (.t 0)),
    o1 4 (.mv (.c .nils))]) (.keep [1, 2]))
  (.seq (.seq (.ops [o1 9 (.fldA 3 (.t 2)),
    o1 10 (.loadN 3 (.t 9)),
    o1 11 (.call f_sl22Expr [(.t 10), (.c (.I 4))]),
    o1 5 (.mv (.t 11))]) (.keep [1, 2, 5]))
  (.seq (.seq (.ops [o1 12 (.fldA 6 (.t 2)),
    o1 13 (.load (.t 12)),
    o1 14 (.mv (.t 1)),
    o1 15 (.mv (.t 5)),
    o1 16 (.len (.t 15)),
    o1 17 (.bin .add (.t 14) (.t 16)),
    o1 18 (.bin .add (.t 17) (.c (.I 1))),
    o1 19 (.call f_sl22List [(.t 13), (.t 18)]),
    o1 6 (.mv (.t 19))]) (.keep [1, 2, 5, 6]))
  (.seq (.seq (.ops [o1 20 (.mv (.t 1)),
    o1 21 (.mv (.t 5)),
    o1 22 (.len (.t 21)),
    o1 23 (.bin .add (.t 20) (.t 22)),
    o1 24 (.bin .add (.t 23) (.c (.I 1))),
    o1 25 (.mv (.t 6)),
    o1 26 (.len (.t 25)),
    o1 27 (.bin .add (.t 24) (.t 26)),
    o1 7 (.mv (.t 27))]) (.keep [2, 5, 6, 7]))
  (.seq (.seq (.seq (.ops [o1 28 (.fldA 7 (.t 2)),
    o1 29 (.load (.t 28)),
    o1 30 (.len (.t 29)),
    o1 31 (.bin .eql (.t 30) (.c (.I 0)))]) (.keep [2, 5, 6, 7, 31]))
  (.seq (.cond (.t 31)
  (.seq (.seq (.ops [o1 32 (.mv (.t 5)),
    o1 33 (.mv (.t 7)),
    o1 34 (.build [(.I 0), (.I 0), (.I 0), (.I 0), (.I 0)] [(0, 1, (.c (.I 5))), (2, 1, (.c (.I 4))), (4, 1, (.t 33))]),
    o1 35 (.bsl [(.I 0), (.I 0), (.I 0), (.I 0), (.I 0)] 1 [(0, 5, (.t 34))]),
    o1 36 (.app 5 (.t 32) (.t 35)),
    o1 5 (.mv (.t 36))]) (.keep [5, 6]))
  (.seq (.seq (.ops [o1 37 (.mv (.t 5)),
    o1 38 (.mv (.t 6)),
    o1 39 (.app 5 (.t 37) (.t 38)),
    o1 4 (.mv (.t 39))]) (.keep [4]))
  (.ret)))
  (.skip)) (.keep [2, 5, 6, 7])))
  (.seq (.seq (.ops [o1 40 (.fldA 7 (.t 2)),
    o1 41 (.load (.t 40)),
    o1 42 (.mv (.t 7)),
    o1 43 (.bin .add (.t 42) (.c (.I 1))),
    o1 44 (.call f_sl22List [(.t 41), (.t 43)]),
    o1 8 (.mv (.t 44))]) (.keep [5, 6, 7, 8]))
  (.seq (.seq (.ops [o1 45 (.mv (.t 5)),
    o1 46 (.mv (.t 7)),
    o1 47 (.bin .add (.t 46) (.c (.I 1))),
    o1 48 (.build [(.I 0), (.I 0), (.I 0), (.I 0), (.I 0)] [(0, 1, (.c (.I 5))), (2, 1, (.c (.I 4))), (4, 1, (.t 47))]),
    o1 49 (.bsl [(.I 0), (.I 0), (.I 0), (.I 0), (.I 0)] 1 [(0, 5, (.t 48))]),
    o1 50 (.app 5 (.t 45) (.t 49)),
    o1 5 (.mv (.t 50))]) (.keep [5, 6, 7, 8]))
  (.seq (.seq (.ops [o1 51 (.mv (.t 5)),
    o1 52 (.mv (.t 6)),
    o1 53 (.app 5 (.t 51) (.t 52)),
    o1 5 (.mv (.t 53))]) (.keep [5, 7, 8]))
  (.seq (.seq (.ops [o1 54 (.mv (.t 5)),
    o1 55 (.mv (.t 7)),
    o1 56 (.bin .add (.t 55) (.c (.I 1))),
    o1 57 (.mv (.t 8)),
    o1 58 (.len (.t 57)),
    o1 59 (.bin .add (.t 56) (.t 58)),
    o1 60 (.build [(.I 0), (.I 0), (.I 0), (.I 0), (.I 0)] [(0, 1, (.c (.I 4))), (4, 1, (.t 59))]),
    o1 61 (.bsl [(.I 0), (.I 0), (.I 0), (.I 0), (.I 0)] 1 [(0, 5, (.t 60))]),
    o1 62 (.app 5 (.t 54) (.t 61)),
    o1 5 (.mv (.t 62))]) (.keep [5, 8]))
  (.seq (.seq (.ops [o1 63 (.mv (.t 5)),
    o1 64 (.mv (.t 8)),
    o1 65 (.app 5 (.t 63) (.t 64)),
    o1 4 (.mv (.t 65))]) (.keep [4]))
  (.ret)))))))))), [.t 4]⟩

/- loop.example/cothreads/spec.l22While -/
def c_sl22While : AFn := ⟨2, .seq (.seq (.ops [o1 2 (.box (.t 0)),
    o1 4 (.mv (.c .nils))]) (.keep [1, 2]))
  (.seq (.seq (.ops [o1 7 (.fldA 3 (.t 2)),
    o1 8 (.loadN 3 (.t 7)),
    o1 9 (.call f_sl22Expr [(.t 8), (.c (.I 4))]),
    o1 5 (.mv (.t 9))]) (.keep [1, 2, 5]))
  (.seq (.seq (.ops [o1 10 (.fldA 6 (.t 2)),
    o1 11 (.load (.t 10)),
    o1 12 (.mv (.t 1)),
    o1 13 (.mv (.t 5)),
    o1 14 (.len (.t 13)),
    o1 15 (.bin .add (.t 12) (.t 14)),
    o1 16 (.bin .add (.t 15) (.c (.I 1))),
    o1 17 (.call f_sl22List [(.t 11), (.t 16)]),
    o1 6 (.mv (.t 17))]) (.keep [1, 5, 6]))
  (.seq (.seq (.ops [o1 18 (.mv (.t 5)),
    o1 19 (.mv (.t 1)),
    o1 20 (.mv (.t 5)),
    o1 21 (.len (.t 20)),
    o1 22 (.bin .add (.t 19) (.t 21)),
    o1 23 (.bin .add (.t 22) (.c (.I 1))),
    o1 24 (.mv (.t 6)),
    o1 25 (.len (.t 24)),
    o1 26 (.bin .add (.t 23) (.t 25)),
    o1 27 (.bin .add (.t 26) (.c (.I 1))),
    o1 28 (.build [(.I 0), (.I 0), (.I 0), (.I 0), (.I 0)] [(0, 1, (.c (.I 5))), (2, 1, (.c (.I 4))), (4, 1, (.t 27))]),
    o1 29 (.bsl [(.I 0), (.I 0), (.I 0), (.I 0), (.I 0)] 1 [(0, 5, (.t 28))]),
    o1 30 (.app 5 (.t 18) (.t 29)),
    o1 5 (.mv (.t 30))]) (.keep [1, 5, 6]))
  (.seq (.seq (.ops [o1 31 (.mv (.t 5)),
    o1 32 (.mv (.t 6)),
    o1 33 (.app 5 (.t 31) (.t 32)),
    o1 5 (.mv (.t 33))]) (.keep [1, 5]))
  (.seq (.seq (.ops [o1 34 (.mv (.t 5)),
    o1 35 (.mv (.t 1)),
    o1 36 (.build [(.I 0), (.I 0), (.I 0), (.I 0), (.I 0)] [(0, 1, (.c (.I 4))), (4, 1, (.t 35))]),
    o1 37 (.bsl [(.I 0), (.I 0), (.I 0), (.I 0), (.I 0)] 1 [(0, 5, (.t 36))]),
    o1 38 (.app 5 (.t 34) (.t 37)),
    o1 4 (.mv (.t 38))]) (.keep [4]))
  (.ret)))))), [.t 4]⟩

/- loop.example/cothreads/impl.QuadValid -/
def c_iQuadValid : AFn := ⟨2, .seq (.seq (.ops [o1 2 (.box (.t 0)),
    o1 4 (.mv (.c (.b false)))]) (.keep [1, 2]))
  (.seq (.seq (.ops [o1 9 (.fldA 1 (.t 2)),
    o1 10 (.load (.t 9)),
    ⟨some 11, none, [], true, .call f_iisReg [(.t 10)]⟩,
    o1 12 (.fldA 2 (.t 2)),
    o1 13 (.load (.t 12)),
    ⟨some 14, none, [], true, .call f_iisReg [(.t 13)]⟩,
    o1 15 (.fldA 3 (.t 2)),
    o1 16 (.load (.t 15)),
    ⟨some 17, none, [], true, .call f_iisReg [(.t 16)]⟩,
    o1 18 (.fldA 4 (.t 2)),
    o1 19 (.load (.t 18)),
    o1 5 (.mv (.t 11)),
    o1 6 (.mv (.t 14)),
    o1 7 (.mv (.t 17)),
    o1 8 (.mv (.t 19))]) (.keep [1, 2, 5, 6, 7, 8]))
  (.seq (.seq (.seq (.ops [o1 20 (.fldA 0 (.t 2)),
    o1 21 (.load (.t 20))]) (.keep [1, 2, 5, 6, 7, 8, 21]))
  (.seq (.block 0 (.seq (.seq (.ops [o1 23 (.bin .eql (.t 21) (.c (.I 1))),
    o1 22 (.mv (.t 23))]) (.keep [1, 2, 5, 6, 7, 8, 21, 22]))
  (.seq (.cond (.t 22)
  (.seq (.seq (.ops [o1 24 (.loadN 5 (.t 2)),
    o1 25 (.fldA 1 (.t 2)),
    o1 26 (.load (.t 25)),
    o1 27 (.mv (.t 8)),
    o1 28 (.build [(.I 0), (.I 0), (.I 0), (.I 0), (.I 0)] [(0, 1, (.c (.I 1))), (1, 1, (.t 26)), (4, 1, (.t 27))]),
    o1 29 (.eqA 5 false (.t 24) (.t 28)),
    o1 30 (.mv (.t 29)),
    ⟨some 31, (some (30, true)), [], false, .mv (.t 5)⟩,
    o1 32 (.pick (.t 30) (.t 31) (.c (.b false))),
    o1 33 (.mv (.t 32)),
    ⟨some 34, (some (33, true)), [], false, .mv (.t 8)⟩,
    ⟨some 35, (some (33, true)), [], false, .call f_iWordValid [(.t 34)]⟩,
    o1 36 (.pick (.t 33) (.t 35) (.c (.b false))),
    o1 4 (.mv (.t 36))]) (.keep [4]))
  (.ret))
  (.seq (.seq (.ops [o1 38 (.bin .eql (.t 21) (.c (.I 2))),
    o1 37 (.mv (.t 38))]) (.keep [1, 2, 5, 6, 7, 8, 21, 37]))
  (.seq (.cond (.t 37)
  (.seq (.seq (.ops [o1 39 (.loadN 5 (.t 2)),
    o1 40 (.fldA 1 (.t 2)),
    o1 41 (.load (.t 40)),
    o1 42 (.fldA 2 (.t 2)),
    o1 43 (.load (.t 42)),
    o1 44 (.build [(.I 0), (.I 0), (.I 0), (.I 0), (.I 0)] [(0, 1, (.c (.I 2))), (1, 1, (.t 41)), (2, 1, (.t 43))]),
    o1 45 (.eqA 5 false (.t 39) (.t 44)),
    o1 46 (.mv (.t 45)),
    ⟨some 47, (some (46, true)), [], false, .mv (.t 5)⟩,
    o1 48 (.pick (.t 46) (.t 47) (.c (.b false))),
    o1 49 (.mv (.t 48)),
    ⟨some 50, (some (49, true)), [], false, .mv (.t 6)⟩,
    o1 51 (.pick (.t 49) (.t 50) (.c (.b false))),
    o1 4 (.mv (.t 51))]) (.keep [4]))
  (.ret))
  (.seq (.seq (.ops [o1 53 (.bin .eql (.t 21) (.c (.I 3))),
    o1 52 (.mv (.t 53))]) (.keep [1, 2, 5, 6, 7, 8, 21, 52]))
  (.seq (.cond (.t 52)
  (.seq (.seq (.ops [o1 54 (.mv (.t 5)),
    o1 55 (.mv (.t 54)),
    ⟨some 56, (some (55, true)), [], false, .mv (.t 6)⟩,
    o1 57 (.pick (.t 55) (.t 56) (.c (.b false))),
    o1 58 (.mv (.t 57)),
    ⟨some 59, (some (58, true)), [], false, .mv (.t 7)⟩,
    o1 60 (.pick (.t 58) (.t 59) (.c (.b false))),
    o1 61 (.mv (.t 60)),
    ⟨some 62, (some (61, true)), [], false, .mv (.t 8)⟩,
    ⟨some 63, (some (61, true)), [], false, .call f_iOpValid [(.t 62)]⟩,
    o1 64 (.pick (.t 61) (.t 63) (.c (.b false))),
    o1 4 (.mv (.t 64))]) (.keep [4]))
  (.ret))
  (.seq (.seq (.ops [o1 66 (.bin .eql (.t 21) (.c (.I 4))),
    o1 65 (.mv (.t 66))]) (.keep [1, 2, 5, 6, 8, 21, 65]))
  (.seq (.cond (.t 65)
  (.seq (.seq (.ops [o1 67 (.loadN 5 (.t 2)),
    o1 68 (.mv (.t 8)),
    o1 69 (.build [(.I 0), (.I 0), (.I 0), (.I 0), (.I 0)] [(0, 1, (.c (.I 4))), (4, 1, (.t 68))]),
    o1 70 (.eqA 5 false (.t 67) (.t 69)),
    o1 71 (.mv (.t 70)),
    ⟨some 72, (some (71, true)), [], false, .mv (.t 8)⟩,
    ⟨some 73, (some (71, true)), [], false, .bin .geq (.t 72) (.c (.I 0))⟩,
    o1 74 (.pick (.t 71) (.t 73) (.c (.b false))),
    o1 75 (.mv (.t 74)),
    ⟨some 76, (some (75, true)), [], false, .mv (.t 8)⟩,
    ⟨some 77, (some (75, true)), [], false, .mv (.t 1)⟩,
    ⟨some 78, (some (75, true)), [], false, .bin .lss (.t 76) (.t 77)⟩,
    o1 79 (.pick (.t 75) (.t 78) (.c (.b false))),
    o1 4 (.mv (.t 79))]) (.keep [4]))
  (.ret))
  (.seq (.seq (.ops [o1 81 (.bin .eql (.t 21) (.c (.I 5))),
    o1 80 (.mv (.t 81))]) (.keep [1, 2, 5, 6, 8, 21, 80]))
  (.seq (.cond (.t 80)
  (.seq (.seq (.ops [o1 82 (.loadN 5 (.t 2)),
    o1 83 (.fldA 2 (.t 2)),
    o1 84 (.load (.t 83)),
    o1 85 (.mv (.t 8)),
    o1 86 (.build [(.I 0), (.I 0), (.I 0), (.I 0), (.I 0)] [(0, 1, (.c (.I 5))), (2, 1, (.t 84)), (4, 1, (.t 85))]),
    o1 87 (.eqA 5 false (.t 82) (.t 86)),
    o1 88 (.mv (.t 87)),
    ⟨some 89, (some (88, true)), [], false, .mv (.t 6)⟩,
    o1 90 (.pick (.t 88) (.t 89) (.c (.b false))),
    o1 91 (.mv (.t 90)),
    ⟨some 92, (some (91, true)), [], false, .mv (.t 8)⟩,
    ⟨some 93, (some (91, true)), [], false, .bin .geq (.t 92) (.c (.I 0))⟩,
    o1 94 (.pick (.t 91) (.t 93) (.c (.b false))),
    o1 95 (.mv (.t 94)),
    ⟨some 96, (some (95, true)), [], false, .mv (.t 8)⟩,
    ⟨some 97, (some (95, true)), [], false, .mv (.t 1)⟩,
    ⟨some 98, (some (95, true)), [], false, .bin .lss (.t 96) (.t 97)⟩,
    o1 99 (.pick (.t 95) (.t 98) (.c (.b false))),
    o1 4 (.mv (.t 99))]) (.keep [4]))
  (.ret))
  (.seq (.seq (.ops [o1 101 (.bin .eql (.t 21) (.c (.I 6))),
    o1 100 (.mv (.t 101))]) (.keep [2, 5, 6, 8, 21, 100]))
  (.seq (.cond (.t 100)
  (.seq (.seq (.ops [o1 102 (.loadN 5 (.t 2)),
    o1 103 (.fldA 2 (.t 2)),
    o1 104 (.load (.t 103)),
    o1 105 (.mv (.t 8)),
    o1 106 (.build [(.I 0), (.I 0), (.I 0), (.I 0), (.I 0)] [(0, 1, (.c (.I 6))), (2, 1, (.t 104)), (4, 1, (.t 105))]),
    o1 107 (.eqA 5 false (.t 102) (.t 106)),
    o1 108 (.mv (.t 107)),
    ⟨some 109, (some (108, true)), [], false, .mv (.t 6)⟩,
    o1 110 (.pick (.t 108) (.t 109) (.c (.b false))),
    o1 111 (.mv (.t 110)),
    ⟨some 112, (some (111, true)), [], false, .mv (.t 8)⟩,
    ⟨some 113, (some (111, true)), [], false, .bin .geq (.t 112) (.c (.I 0))⟩,
    o1 114 (.pick (.t 111) (.t 113) (.c (.b false))),
    o1 115 (.mv (.t 114)),
    ⟨some 116, (some (115, true)), [], false, .mv (.t 8)⟩,
    ⟨some 117, (some (115, true)), [], false, .bin .lss (.t 116) (.c (.I 3))⟩,
    o1 118 (.pick (.t 115) (.t 117) (.c (.b false))),
    o1 4 (.mv (.t 118))]) (.keep [4]))
  (.ret))
  (.seq (.seq (.ops [o1 120 (.bin .eql (.t 21) (.c (.I 7))),
    o1 119 (.mv (.t 120))]) (.keep [2, 5, 6, 8, 21, 119]))
  (.seq (.cond (.t 119)
  (.seq (.seq (.ops [o1 121 (.loadN 5 (.t 2)),
    o1 122 (.fldA 1 (.t 2)),
    o1 123 (.load (.t 122)),
    o1 124 (.mv (.t 8)),
    o1 125 (.build [(.I 0), (.I 0), (.I 0), (.I 0), (.I 0)] [(0, 1, (.c (.I 7))), (1, 1, (.t 123)), (4, 1, (.t 124))]),
    o1 126 (.eqA 5 false (.t 121) (.t 125)),
    o1 127 (.mv (.t 126)),
    ⟨some 128, (some (127, true)), [], false, .mv (.t 5)⟩,
    o1 129 (.pick (.t 127) (.t 128) (.c (.b false))),
    o1 130 (.mv (.t 129)),
    ⟨some 131, (some (130, true)), [], false, .mv (.t 8)⟩,
    ⟨some 132, (some (130, true)), [], false, .bin .geq (.t 131) (.c (.I 0))⟩,
    o1 133 (.pick (.t 130) (.t 132) (.c (.b false))),
    o1 134 (.mv (.t 133)),
    ⟨some 135, (some (134, true)), [], false, .mv (.t 8)⟩,
    ⟨some 136, (some (134, true)), [], false, .bin .lss (.t 135) (.c (.I 3))⟩,
    o1 137 (.pick (.t 134) (.t 136) (.c (.b false))),
    o1 4 (.mv (.t 137))]) (.keep [4]))
  (.ret))
  (.seq (.seq (.ops [o1 139 (.bin .eql (.t 21) (.c (.I 9))),
    o1 138 (.mv (.t 139))]) (.keep [2, 6, 21, 138]))
  (.seq (.cond (.t 138)
  (.seq (.seq (.ops [o1 140 (.loadN 5 (.t 2)),
    o1 141 (.fldA 2 (.t 2)),
    o1 142 (.load (.t 141)),
    o1 143 (.build [(.I 0), (.I 0), (.I 0), (.I 0), (.I 0)] [(0, 1, (.c (.I 9))), (2, 1, (.t 142))]),
    o1 144 (.eqA 5 false (.t 140) (.t 143)),
    o1 145 (.mv (.t 144)),
    ⟨some 146, (some (145, true)), [], false, .mv (.t 6)⟩,
    o1 147 (.pick (.t 145) (.t 146) (.c (.b false))),
    o1 4 (.mv (.t 147))]) (.keep [4]))
  (.ret))
  (.seq (.seq (.seq (.ops [o1 149 (.bin .eql (.t 21) (.c (.I 8))),
    o1 148 (.mv (.t 149))]) (.keep [2, 21, 148]))
  (.seq (.cond (.t 148)
  (.skip)
  (.seq (.ops [o1 150 (.bin .eql (.t 21) (.c (.I 10))),
    o1 148 (.mv (.t 150))]) (.keep [2, 148]))) (.keep [2, 148])))
  (.seq (.cond (.t 148)
  (.seq (.seq (.ops [o1 151 (.loadN 5 (.t 2)),
    o1 152 (.fldA 0 (.t 2)),
    o1 153 (.load (.t 152)),
    o1 154 (.build [(.I 0), (.I 0), (.I 0), (.I 0), (.I 0)] [(0, 1, (.t 153))]),
    o1 155 (.eqA 5 false (.t 151) (.t 154)),
    o1 4 (.mv (.t 155))]) (.keep [4]))
  (.ret))
  (.skip)) (.keep [])))) (.keep [])))) (.keep [])))) (.keep [])))) (.keep [])))) (.keep [])))) (.keep [])))) (.keep [])))) (.keep [])))) (.keep [])))
  (.seq (.ops [o1 4 (.mv (.c (.b false)))])
  (.ret)))), [.t 4]⟩

/- loop.example/cothreads/spec.OpValid -/
def c_sOpValid : AFn := ⟨1, .seq (.seq (.ops [o1 2 (.mv (.c (.b false)))]) (.keep [0]))
  (.seq (.seq (.ops [o1 3 (.mv (.t 0)),
    o1 4 (.call f_sl6In [(.t 3), (.c (.I 1)), (.c (.I 12))]),
    o1 2 (.mv (.t 4))]) (.keep [2]))
  (.ret)), [.t 2]⟩

/- loop.example/cothreads/spec.l92Stmt -/
def c_sl92Stmt : AFn := ⟨4, .seq (.seq (.ops [o1 8 (.mv (.c .nils))]) (.keep [0, 1, 2, 3]))
  (.seq (.seq (.seq (.ops [o1 9 (.mv (.t 0)),
    o1 10 (.call f_sl6Rd_pick [(.t 9), (.c (.I 10))])]) (.keep [0, 1, 2, 3, 10]))
  (.seq (.block 0 (.seq (.seq (.seq (.ops [o1 12 (.bin .eql (.t 10) (.c (.I 0))),
    o1 11 (.mv (.t 12))]) (.keep [0, 1, 2, 3, 10, 11]))
  (.seq (.cond (.t 11)
  (.skip)
  (.seq (.ops [o1 13 (.bin .eql (.t 10) (.c (.I 1))),
    o1 11 (.mv (.t 13))]) (.keep [0, 1, 2, 3, 10, 11]))) (.keep [0, 1, 2, 3, 10, 11])))
  (.seq (.cond (.t 11)
  (.seq (.seq (.ops [o1 14 (.mv (.t 0)),
    o1 15 (.call f_sl92Set [(.t 14)]),
    o1 16 (.bsl [(.I 0), (.I 0), (.I 0), (.I 0), (.I 0), .nils, .nils, .nils] 1 [(0, 8, (.t 15))]),
    o1 8 (.mv (.t 16))]) (.keep [8]))
  (.ret))
  (.seq (.seq (.ops [o1 18 (.bin .eql (.t 10) (.c (.I 2))),
    o1 17 (.mv (.t 18))]) (.keep [0, 1, 2, 3, 10, 17]))
  (.seq (.cond (.t 17)
  (.seq (.seq (.ops [o1 19 (.mv (.t 2)),
    o1 20 (.bin .gtr (.t 19) (.c (.I 0)))]) (.keep [0, 1, 2, 3, 20]))
  (.seq (.cond (.t 20)
  (.seq (.seq (.ops [o1 21 (.mv (.t 0)),
    o1 22 (.mv (.t 1)),
    o1 23 (.mv (.t 2)),
    o1 24 (.mv (.t 3)),
    o1 25 (.call f_sl92If [(.t 21), (.t 22), (.t 23), (.t 24)]),
    o1 26 (.bsl [(.I 0), (.I 0), (.I 0), (.I 0), (.I 0), .nils, .nils, .nils] 1 [(0, 8, (.t 25))]),
    o1 8 (.mv (.t 26))]) (.keep [8]))
  (.ret))
  (.skip)) (.keep [0])))
  (.seq (.seq (.ops [o1 28 (.bin .eql (.t 10) (.c (.I 3))),
    o1 27 (.mv (.t 28))]) (.keep [0, 1, 2, 3, 10, 27]))
  (.seq (.cond (.t 27)
  (.seq (.seq (.ops [o1 29 (.mv (.t 2)),
    o1 30 (.bin .gtr (.t 29) (.c (.I 0))),
    o1 31 (.mv (.t 30)),
    ⟨some 32, (some (31, true)), [], false, .mv (.t 3)⟩,
    o1 33 (.pick (.t 31) (.t 32) (.c (.b false)))]) (.keep [0, 1, 2, 33]))
  (.seq (.cond (.t 33)
  (.seq (.seq (.ops [o1 34 (.mv (.t 0)),
    o1 35 (.mv (.t 1)),
    o1 36 (.mv (.t 2)),
    o1 37 (.call f_sl92Loop [(.t 34), (.t 35), (.t 36)]),
    o1 8 (.mv (.t 37))]) (.keep [8]))
  (.ret))
  (.skip)) (.keep [0])))
  (.seq (.seq (.seq (.ops [o1 39 (.bin .eql (.t 10) (.c (.I 4))),
    o1 38 (.mv (.t 39))]) (.keep [0, 1, 10, 38]))
  (.seq (.cond (.t 38)
  (.skip)
  (.seq (.seq (.ops [o1 40 (.bin .eql (.t 10) (.c (.I 5))),
    o1 38 (.mv (.t 40))]) (.keep [0, 1, 10, 38]))
  (.seq (.cond (.t 38)
  (.skip)
  (.seq (.ops [o1 41 (.bin .eql (.t 10) (.c (.I 6))),
    o1 38 (.mv (.t 41))]) (.keep [0, 1, 10, 38]))) (.keep [0, 1, 10, 38])))) (.keep [0, 1, 10, 38])))
  (.seq (.cond (.t 38)
  (.seq (.seq (.ops [o1 42 (.mv (.t 0)),
    o1 43 (.mv (.t 1)),
    o1 44 (.call f_sl92Talk [(.t 42), (.t 43)]),
    o1 45 (.bsl [(.I 0), (.I 0), (.I 0), (.I 0), (.I 0), .nils, .nils, .nils] 1 [(0, 8, (.t 44))]),
    o1 8 (.mv (.t 45))]) (.keep [8]))
  (.ret))
  (.seq (.seq (.ops [o1 47 (.bin .eql (.t 10) (.c (.I 7))),
    o1 46 (.mv (.t 47))]) (.keep [0, 46]))
  (.seq (.cond (.t 46)
  (.seq (.seq (.ops [o1 48 (.build [(.I 0), (.I 0), (.I 0), (.I 0), (.I 0), .nils, .nils, .nils] [(0, 1, (.c (.I 6)))]),
    o1 49 (.bsl [(.I 0), (.I 0), (.I 0), (.I 0), (.I 0), .nils, .nils, .nils] 1 [(0, 8, (.t 48))]),
    o1 8 (.mv (.t 49))]) (.keep [8]))
  (.ret))
  (.skip)) (.keep [0])))) (.keep [0])))) (.keep [0])))) (.keep [0])))) (.keep [0])))) (.keep [0])))
  (.seq (.seq (.ops [o1 50 (.mv (.t 0)),
    o1 51 (.mv (.t 0)),
    o1 52 (.call f_sl6Rd_pick [(.t 51), (.c (.I 3))]),
    o1 53 (.bin .add (.c (.I 1)) (.t 52)),
    o1 54 (.call f_sl91Expr [(.t 50), (.t 53)]),
    o1 55 (.build [(.I 0), (.I 0), (.I 0), (.I 0), (.I 0), .nils, .nils, .nils] [(0, 1, (.c (.I 7))), (3, 3, (.t 54))]),
    o1 56 (.bsl [(.I 0), (.I 0), (.I 0), (.I 0), (.I 0), .nils, .nils, .nils] 1 [(0, 8, (.t 55))]),
    o1 8 (.mv (.t 56))]) (.keep [8]))
  (.ret))), [.t 8]⟩

/- loop.example/cothreads/impl.stmtValid$1 -/
def c_istmtValid_1 : AFn := ⟨3, .seq (.seq (.ops [o1 6 (.mv (.c (.b false)))]) (.keep [0, 1, 2]))
  (.seq (.seq (.ops [o1 7 (.mv (.t 0)),
    o1 8 (.bin .eql (.t 7) (.c (.I 0))),
    o1 9 (.mv (.t 8)),
    ⟨some 10, (some (9, false)), [], false, .mv (.t 2)⟩,
    ⟨some 11, (some (9, false)), [], false, .mv (.t 10)⟩,
    ⟨some 12, (some (11, true)), [], false, .mv (.t 0)⟩,
    ⟨some 13, (some (11, true)), [], false, .bin .gtr (.t 12) (.c (.I 0))⟩,
    ⟨some 14, (some (9, false)), [], false, .pick (.t 11) (.t 13) (.c (.b false))⟩,
    ⟨some 15, (some (9, false)), [], false, .mv (.t 14)⟩,
    ⟨some 16, (some (15, true)), [], false, .mv (.t 0)⟩,
    ⟨some 17, (some (15, true)), [], false, .mv (.t 1)⟩,
    ⟨some 18, (some (15, true)), [], false, .bin .lss (.t 16) (.t 17)⟩,
    ⟨some 19, (some (9, false)), [], false, .pick (.t 15) (.t 18) (.c (.b false))⟩,
    o1 20 (.pick (.t 9) (.c (.b true)) (.t 19)),
    o1 6 (.mv (.t 20))]) (.keep [6]))
  (.ret)), [.t 6]⟩

/- loop.example/cothreads/impl.ExprValid -/
def c_iExprValid : AFn := ⟨1, .seq (.seq (.ops [o1 1 (.box (.t 0)),
    o1 2 (.mv (.c (.b false)))]) (.keep [1]))
  (.seq (.seq (.ops [o1 3 (.loadN 3 (.t 1)),
    o1 4 (.call f_iexprValid [(.t 3), (.c (.I 5))]),
    o1 2 (.mv (.t 4))]) (.keep [2]))
  (.ret)), [.t 2]⟩

/- loop.example/cothreads/spec.l11Simple -/
def c_sl11Simple : AFn := ⟨1, .seq (.seq (.ops [o1 1 (.box (.t 0)),
    o1 2 (.mv (.c (.b false)))]) (.keep [1]))
  (.seq (.seq (.seq (.ops [o1 3 (.fldA 6 (.t 1)),
    o1 4 (.load (.t 3)),
    o1 5 (.len (.t 4)),
    o1 6 (.bin .gtr (.t 5) (.c (.I 0))),
    o1 7 (.mv (.t 6)),
    ⟨some 8, (some (7, false)), [], false, .fldA 7 (.t 1)⟩,
    ⟨some 9, (some (7, false)), [], false, .load (.t 8)⟩,
    ⟨some 10, (some (7, false)), [], false, .len (.t 9)⟩,
    ⟨some 11, (some (7, false)), [], false, .bin .gtr (.t 10) (.c (.I 0))⟩,
    o1 12 (.pick (.t 7) (.c (.b true)) (.t 11))]) (.keep [1, 12]))
  (.seq (.cond (.t 12)
  (.seq (.ops [o1 2 (.mv (.c (.b false)))])
  (.ret))
  (.skip)) (.keep [1])))
  (.seq (.seq (.seq (.ops [o1 13 (.fldA 0 (.t 1)),
    o1 14 (.load (.t 13))]) (.keep [1, 14]))
  (.seq (.block 0 (.seq (.seq (.ops [o1 16 (.bin .eql (.t 14) (.c (.I 1))),
    o1 15 (.mv (.t 16))]) (.keep [1, 14, 15]))
  (.seq (.cond (.t 15)
  (.seq (.seq (.ops [o1 17 (.loadN 8 (.t 1)),
    o1 18 (.call f_sl11Var [(.t 17), (.c (.b true))]),
    o1 19 (.mv (.t 18)),
    ⟨some 20, (some (19, true)), [], false, .loadN 8 (.t 1)⟩,
    ⟨some 21, (some (19, true)), [], false, .call f_sl11Box [(.t 20), (.c (.b false))]⟩,
    o1 22 (.pick (.t 19) (.t 21) (.c (.b false))),
    o1 23 (.mv (.t 22)),
    ⟨some 24, (some (23, true)), [], false, .fldA 3 (.t 1)⟩,
    ⟨some 25, (some (23, true)), [], false, .loadN 3 (.t 24)⟩,
    ⟨some 26, (some (23, true)), [], false, .call f_sExprValid [(.t 25)]⟩,
    o1 27 (.pick (.t 23) (.t 26) (.c (.b false))),
    o1 2 (.mv (.t 27))]) (.keep [2]))
  (.ret))
  (.seq (.seq (.ops [o1 29 (.bin .eql (.t 14) (.c (.I 4))),
    o1 28 (.mv (.t 29))]) (.keep [1, 14, 28]))
  (.seq (.cond (.t 28)
  (.seq (.seq (.ops [o1 30 (.loadN 8 (.t 1)),
    o1 31 (.call f_sl11Var [(.t 30), (.c (.b false))]),
    o1 32 (.mv (.t 31)),
    ⟨some 33, (some (32, true)), [], false, .loadN 8 (.t 1)⟩,
    ⟨some 34, (some (32, true)), [], false, .call f_sl11Box [(.t 33), (.c (.b true))]⟩,
    o1 35 (.pick (.t 32) (.t 34) (.c (.b false))),
    o1 36 (.mv (.t 35)),
    ⟨some 37, (some (36, true)), [], false, .fldA 3 (.t 1)⟩,
    ⟨some 38, (some (36, true)), [], false, .loadN 3 (.t 37)⟩,
    ⟨some 39, (some (36, true)), [], false, .call f_sExprValid [(.t 38)]⟩,
    o1 40 (.pick (.t 36) (.t 39) (.c (.b false))),
    o1 2 (.mv (.t 40))]) (.keep [2]))
  (.ret))
  (.seq (.seq (.ops [o1 42 (.bin .eql (.t 14) (.c (.I 5))),
    o1 41 (.mv (.t 42))]) (.keep [1, 14, 41]))
  (.seq (.cond (.t 41)
  (.seq (.seq (.ops [o1 43 (.loadN 8 (.t 1)),
    o1 44 (.call f_sl11Var [(.t 43), (.c (.b true))]),
    o1 45 (.mv (.t 44)),
    ⟨some 46, (some (45, true)), [], false, .loadN 8 (.t 1)⟩,
    ⟨some 47, (some (45, true)), [], false, .call f_sl11Box [(.t 46), (.c (.b true))]⟩,
    o1 48 (.pick (.t 45) (.t 47) (.c (.b false))),
    o1 49 (.mv (.t 48)),
    ⟨some 50, (some (49, true)), [], false, .fldA 3 (.t 1)⟩,
    ⟨some 51, (some (49, true)), [], false, .loadN 3 (.t 50)⟩,
    ⟨some 52, (some (49, true)), [], false, .call f_sl11Plain [(.t 51)]⟩,
    o1 53 (.pick (.t 49) (.t 52) (.c (.b false))),
    o1 2 (.mv (.t 53))]) (.keep [2]))
  (.ret))
  (.seq (.seq (.ops [o1 55 (.bin .eql (.t 14) (.c (.I 6))),
    o1 54 (.mv (.t 55))]) (.keep [1, 14, 54]))
  (.seq (.cond (.t 54)
  (.seq (.seq (.ops [o1 56 (.loadN 8 (.t 1)),
    o1 57 (.call f_sl11Var [(.t 56), (.c (.b false))]),
    o1 58 (.mv (.t 57)),
    ⟨some 59, (some (58, true)), [], false, .loadN 8 (.t 1)⟩,
    ⟨some 60, (some (58, true)), [], false, .call f_sl11Box [(.t 59), (.c (.b false))]⟩,
    o1 61 (.pick (.t 58) (.t 60) (.c (.b false))),
    o1 62 (.mv (.t 61)),
    ⟨some 63, (some (62, true)), [], false, .fldA 3 (.t 1)⟩,
    ⟨some 64, (some (62, true)), [], false, .loadN 3 (.t 63)⟩,
    ⟨some 65, (some (62, true)), [], false, .call f_sl11Plain [(.t 64)]⟩,
    o1 66 (.pick (.t 62) (.t 65) (.c (.b false))),
    o1 2 (.mv (.t 66))]) (.keep [2]))
  (.ret))
  (.seq (.seq (.ops [o1 68 (.bin .eql (.t 14) (.c (.I 7))),
    o1 67 (.mv (.t 68))]) (.keep [1, 67]))
  (.seq (.cond (.t 67)
  (.seq (.seq (.ops [o1 69 (.loadN 8 (.t 1)),
    o1 70 (.call f_sl11Var [(.t 69), (.c (.b false))]),
    o1 71 (.mv (.t 70)),
    ⟨some 72, (some (71, true)), [], false, .loadN 8 (.t 1)⟩,
    ⟨some 73, (some (71, true)), [], false, .call f_sl11Box [(.t 72), (.c (.b false))]⟩,
    o1 74 (.pick (.t 71) (.t 73) (.c (.b false))),
    o1 75 (.mv (.t 74)),
    ⟨some 76, (some (75, true)), [], false, .fldA 3 (.t 1)⟩,
    ⟨some 77, (some (75, true)), [], false, .loadN 3 (.t 76)⟩,
    ⟨some 78, (some (75, true)), [], false, .call f_sExprValid [(.t 77)]⟩,
    o1 79 (.pick (.t 75) (.t 78) (.c (.b false))),
    o1 2 (.mv (.t 79))]) (.keep [2]))
  (.ret))
  (.skip)) (.keep [])))) (.keep [])))) (.keep [])))) (.keep [])))) (.keep [])))) (.keep [])))
  (.seq (.ops [o1 2 (.mv (.c (.b false)))])
  (.ret)))), [.t 2]⟩

/- loop.example/cothreads/spec.l11Var -/
def c_sl11Var : AFn := ⟨2, .seq (.seq (.ops [o1 2 (.box (.t 0)),
    o1 4 (.mv (.c (.b false)))]) (.keep [1, 2]))
  (.seq (.seq (.ops [o1 5 (.mv (.t 1))])
  (.seq (.cond (.t 5)
  (.seq (.seq (.ops [o1 6 (.fldA 1 (.t 2)),
    o1 7 (.load (.t 6)),
    o1 8 (.call f_sl6In [(.t 7), (.c (.I 0)), (.c (.I 3))]),
    o1 4 (.mv (.t 8))]) (.keep [4]))
  (.ret))
  (.skip)) (.keep [2])))
  (.seq (.seq (.ops [o1 9 (.fldA 1 (.t 2)),
    o1 10 (.load (.t 9)),
    o1 11 (.bin .eql (.t 10) (.c (.I 0))),
    o1 4 (.mv (.t 11))]) (.keep [4]))
  (.ret))), [.t 4]⟩

/- loop.example/cothreads/spec.l11Box -/
def c_sl11Box : AFn := ⟨2, .seq (.seq (.ops [o1 2 (.box (.t 0)),
    o1 4 (.mv (.c (.b false)))]) (.keep [1, 2]))
  (.seq (.seq (.ops [o1 5 (.mv (.t 1))])
  (.seq (.cond (.t 5)
  (.seq (.seq (.ops [o1 6 (.fldA 2 (.t 2)),
    o1 7 (.load (.t 6)),
    o1 8 (.call f_sl6In [(.t 7), (.c (.I 0)), (.c (.I 2))]),
    o1 4 (.mv (.t 8))]) (.keep [4]))
  (.ret))
  (.skip)) (.keep [2])))
  (.seq (.seq (.ops [o1 9 (.fldA 2 (.t 2)),
    o1 10 (.load (.t 9)),
    o1 11 (.bin .eql (.t 10) (.c (.I 0))),
    o1 4 (.mv (.t 11))]) (.keep [4]))
  (.ret))), [.t 4]⟩

/- loop.example/cothreads/spec.ExprValid -/
def c_sExprValid : AFn := ⟨1, .seq (.seq (.ops [o1 1 (.box (.t 0)),
    o1 2 (.mv (.c (.b false)))]) (.keep [1]))
  (.seq (.seq (.ops [o1 3 (.loadN 3 (.t 1)),
    o1 4 (.call f_sl4Ok [(.t 3), (.c (.I 5))]),
    o1 2 (.mv (.t 4))]) (.keep [2]))
  (.ret)), [.t 2]⟩

/- loop.example/cothreads/impl.isReg -/
def c_iisReg : AFn := ⟨1, .seq (.seq (.ops [o1 2 (.mv (.c (.b false)))]) (.keep [0]))
  (.seq (.seq (.ops [o1 3 (.mv (.t 0)),
    o1 4 (.bin .geq (.t 3) (.c (.I 0))),
    o1 5 (.mv (.t 4)),
    ⟨some 6, (some (5, true)), [], false, .mv (.t 0)⟩,
    ⟨some 7, (some (5, true)), [], false, .bin .lss (.t 6) (.c (.I 12))⟩,
    o1 8 (.pick (.t 5) (.t 7) (.c (.b false))),
    o1 2 (.mv (.t 8))]) (.keep [2]))
  (.ret)), [.t 2]⟩

/- loop.example/cothreads/impl.OpValid -/
def c_iOpValid : AFn := ⟨1, .seq (.seq (.ops [o1 2 (.mv (.c (.b false)))]) (.keep [0]))
  (.seq (.seq (.ops [o1 3 (.mv (.t 0)),
    o1 4 (.bin .geq (.t 3) (.c (.I 1))),
    o1 5 (.mv (.t 4)),
    ⟨some 6, (some (5, true)), [], false, .mv (.t 0)⟩,
    ⟨some 7, (some (5, true)), [], false, .bin .leq (.t 6) (.c (.I 12))⟩,
    o1 8 (.pick (.t 5) (.t 7) (.c (.b false))),
    o1 2 (.mv (.t 8))]) (.keep [2]))
  (.ret)), [.t 2]⟩

/- loop.example/cothreads/spec.l92Set -/
def c_sl92Set : AFn := ⟨1, .seq (.ops [o1 2 (.alloc [(.I 0), (.I 0), (.I 0), (.I 0), (.I 0), .nils, .nils, .nils])])
  (.seq (.seq (.ops [o1 4 (.mv (.t 0)),
    o1 5 (.call f_sl6Rd_pick [(.t 4), (.c (.I 3))]),
    o1 3 (.mv (.t 5))]) (.keep [0, 2, 3]))
  (.seq (.seq (.ops [o1 6 (.mv (.t 3)),
    o1 7 (.mv (.t 0)),
    o1 8 (.mv (.t 0)),
    o1 9 (.call f_sl6Rd_pick [(.t 8), (.c (.I 3))]),
    o1 10 (.bin .add (.c (.I 1)) (.t 9)),
    o1 11 (.call f_sl91Expr [(.t 7), (.t 10)]),
    o1 12 (.build [(.I 0), (.I 0), (.I 0), (.I 0), (.I 0), .nils, .nils, .nils] [(0, 1, (.c (.I 1))), (1, 1, (.t 6)), (3, 3, (.t 11))]),
    o0 (.store 8 (.t 2) (.t 12))]) (.keep [2]))
  (.ret))), [.c 2 8]⟩

/- loop.example/cothreads/spec.l92If -/
def c_sl92If : AFn := ⟨4, .seq (.ops [o1 8 (.alloc [(.I 0), (.I 0), (.I 0), (.I 0), (.I 0), .nils, .nils, .nils])])
  (.seq (.seq (.ops [o1 11 (.mv (.t 0)),
    o1 12 (.mv (.t 0)),
    o1 13 (.call f_sl6Rd_pick [(.t 12), (.c (.I 2))]),
    o1 14 (.bin .add (.c (.I 1)) (.t 13)),
    o1 15 (.call f_sl91Expr [(.t 11), (.t 14)]),
    o1 9 (.alloc [(.I 0), (.I 0), .nils]),
    o0 (.store 3 (.t 9) (.t 15))]) (.keep [0, 1, 2, 3, 8, 9]))
  (.seq (.seq (.ops [o1 16 (.mv (.t 0)),
    o1 17 (.mv (.t 1)),
    o1 18 (.mv (.t 2)),
    o1 19 (.bin .sub (.t 18) (.c (.I 1))),
    o1 20 (.mv (.t 0)),
    o1 21 (.call f_sl6Rd_pick [(.t 20), (.c (.I 3))]),
    o1 22 (.mv (.t 3)),
    o1 23 (.call f_sl92Block [(.t 16), (.t 17), (.t 19), (.t 21), (.t 22)]),
    o1 10 (.mv (.t 23))]) (.keep [0, 1, 2, 3, 8, 9, 10]))
  (.seq (.seq (.ops [o1 24 (.loadN 3 (.t 9)),
    o1 25 (.mv (.t 10)),
    o1 26 (.mv (.t 0)),
    o1 27 (.mv (.t 1)),
    o1 28 (.mv (.t 2)),
    o1 29 (.bin .sub (.t 28) (.c (.I 1))),
    o1 30 (.mv (.t 0)),
    ⟨some 31, none, [(.t 9)], false, .call f_sl6Rd_pick [(.t 30), (.c (.I 3))]⟩,
    o1 32 (.mv (.t 3)),
    ⟨some 33, none, [(.t 9)], false, .call f_sl92Block [(.t 26), (.t 27), (.t 29), (.t 31), (.t 32)]⟩,
    o1 34 (.build [(.I 0), (.I 0), (.I 0), (.I 0), (.I 0), .nils, .nils, .nils] [(0, 1, (.c (.I 2))), (3, 3, (.t 24)), (6, 1, (.t 25)), (7, 1, (.t 33))]),
    o0 (.store 8 (.t 8) (.t 34))]) (.keep [8]))
  (.ret)))), [.c 8 8]⟩

/- loop.example/cothreads/spec.l92Loop -/
def c_sl92Loop : AFn := ⟨3, .seq (.seq (.ops [o1 6 (.mv (.c .nils))]) (.keep [0, 1, 2]))
  (.seq (.ops [o1 7 (.mv (.c (.I 3)))])
  (.seq (.seq (.ops [o1 11 (.mv (.t 0)),
    o1 12 (.mv (.t 1)),
    o1 13 (.mv (.t 2)),
    o1 14 (.bin .sub (.t 13) (.c (.I 1))),
    o1 15 (.mv (.t 0)),
    o1 16 (.call f_sl6Rd_pick [(.t 15), (.c (.I 3))]),
    o1 17 (.call f_sl92Block [(.t 11), (.t 12), (.t 14), (.t 16), (.c (.b false))]),
    o1 8 (.mv (.t 17))]) (.keep [0, 7, 8]))
  (.seq (.seq (.ops [o1 18 (.mv (.t 7)),
    o1 19 (.mv (.t 7)),
    o1 20 (.call f_sl4Leaf [(.c (.I 13)), (.t 19)]),
    o1 21 (.call f_sl4Leaf [(.c (.I 0)), (.c (.I 1))]),
    o1 22 (.call f_sl4Both [(.c (.I 8)), (.t 20), (.t 21)]),
    o1 23 (.build [(.I 0), (.I 0), (.I 0), (.I 0), (.I 0), .nils, .nils, .nils] [(0, 1, (.c (.I 1))), (1, 1, (.t 18)), (3, 3, (.t 22))]),
    o1 9 (.alloc [(.I 0), (.I 0), (.I 0), (.I 0), (.I 0), .nils, .nils, .nils]),
    o0 (.store 8 (.t 9) (.t 23))]) (.keep [0, 7, 8, 9]))
  (.seq (.seq (.ops [o1 24 (.mv (.t 7)),
    ⟨some 25, none, [], true, .call f_sl4Leaf [(.c (.I 13)), (.t 24)]⟩,
    o1 26 (.mv (.t 0)),
    ⟨some 27, none, [(.t 9)], false, .call f_sl6Rd_pick [(.t 26), (.c (.I 3))]⟩,
    o1 28 (.bin .add (.c (.I 1)) (.t 27)),
    ⟨some 29, none, [], true, .call f_sl4Leaf [(.c (.I 0)), (.t 28)]⟩,
    ⟨some 30, none, [], true, .call f_sl4Both [(.c (.I 5)), (.t 25), (.t 29)]⟩,
    o1 31 (.mv (.t 8)),
    o1 32 (.loadN 8 (.t 9)),
    o1 33 (.bsl [(.I 0), (.I 0), (.I 0), (.I 0), (.I 0), .nils, .nils, .nils] 1 [(0, 8, (.t 32))]),
    o1 34 (.app 8 (.t 31) (.t 33)),
    o1 35 (.build [(.I 0), (.I 0), (.I 0), (.I 0), (.I 0), .nils, .nils, .nils] [(0, 1, (.c (.I 3))), (3, 3, (.t 30)), (6, 1, (.t 34))]),
    o1 10 (.alloc [(.I 0), (.I 0), (.I 0), (.I 0), (.I 0), .nils, .nils, .nils]),
    o0 (.store 8 (.t 10) (.t 35))]) (.keep [7, 10]))
  (.seq (.seq (.ops [o1 36 (.mv (.t 7)),
    ⟨some 37, none, [], true, .call f_sl4Leaf [(.c (.I 0)), (.c (.I 0))]⟩,
    o1 38 (.build [(.I 0), (.I 0), (.I 0), (.I 0), (.I 0), .nils, .nils, .nils] [(0, 1, (.c (.I 1))), (1, 1, (.t 36)), (3, 3, (.t 37))]),
    o1 39 (.loadN 8 (.t 10)),
    o1 40 (.bsl [(.I 0), (.I 0), (.I 0), (.I 0), (.I 0), .nils, .nils, .nils, (.I 0), (.I 0), (.I 0), (.I 0), (.I 0), .nils, .nils, .nils] 2 [(0, 8, (.t 38)), (8, 8, (.t 39))]),
    o1 6 (.mv (.t 40))]) (.keep [6]))
  (.ret)))))), [.t 6]⟩

/- loop.example/cothreads/spec.l92Talk -/
def c_sl92Talk : AFn := ⟨2, .seq (.ops [o1 4 (.alloc [(.I 0), (.I 0), (.I 0), (.I 0), (.I 0), .nils, .nils, .nils])])
  (.seq (.seq (.seq (.ops [o1 6 (.mv (.t 1)),
    o1 7 (.bin .lss (.t 6) (.c (.I 1)))]) (.keep [0, 1, 4, 7]))
  (.seq (.cond (.t 7)
  (.seq (.seq (.ops [o1 8 (.mv (.t 0)),
    o1 9 (.call f_sl92Set [(.t 8)]),
    o0 (.store 8 (.t 4) (.t 9))]) (.keep [4]))
  (.ret))
  (.skip)) (.keep [0, 1, 4])))
  (.seq (.seq (.ops [o1 10 (.mv (.t 0)),
    o1 11 (.mv (.t 1)),
    o1 12 (.call f_sl6Rd_pick [(.t 10), (.t 11)]),
    o1 5 (.mv (.t 12))]) (.keep [0, 4, 5]))
  (.seq (.seq (.seq (.ops [o1 13 (.mv (.t 0)),
    o1 14 (.call f_sl6Rd_pick [(.t 13), (.c (.I 2))]),
    o1 15 (.bin .eql (.t 14) (.c (.I 0)))]) (.keep [0, 4, 5, 15]))
  (.seq (.cond (.t 15)
  (.seq (.seq (.ops [o1 16 (.mv (.t 5)),
    o1 17 (.mv (.t 0)),
    o1 18 (.mv (.t 0)),
    o1 19 (.call f_sl6Rd_pick [(.t 18), (.c (.I 3))]),
    o1 20 (.bin .add (.c (.I 1)) (.t 19)),
    o1 21 (.call f_sl91Expr [(.t 17), (.t 20)]),
    o1 22 (.build [(.I 0), (.I 0), (.I 0), (.I 0), (.I 0), .nils, .nils, .nils] [(0, 1, (.c (.I 4))), (2, 1, (.t 16)), (3, 3, (.t 21))]),
    o0 (.store 8 (.t 4) (.t 22))]) (.keep [4]))
  (.ret))
  (.skip)) (.keep [0, 4, 5])))
  (.seq (.seq (.ops [o1 23 (.mv (.t 5)),
    o1 24 (.mv (.t 0)),
    o1 25 (.call f_sl6Rd_pick [(.t 24), (.c (.I 3))]),
    o1 26 (.build [(.I 0), (.I 0), (.I 0), (.I 0), (.I 0), .nils, .nils, .nils] [(0, 1, (.c (.I 5))), (2, 1, (.t 23)), (1, 1, (.t 25))]),
    o0 (.store 8 (.t 4) (.t 26))]) (.keep [4]))
  (.ret))))), [.c 4 8]⟩

/- loop.example/cothreads/spec.l91Expr -/
def c_sl91Expr : AFn := ⟨2, .seq (.ops [o1 4 (.alloc [(.I 0), (.I 0), .nils])])
  (.seq (.seq (.seq (.ops [o1 7 (.mv (.t 1)),
    o1 8 (.bin .lss (.t 7) (.c (.I 2))),
    o1 9 (.mv (.t 8)),
    ⟨some 10, (some (9, false)), [], false, .mv (.t 0)⟩,
    ⟨some 11, (some (9, false)), [], false, .call f_sl6Rd_pick [(.t 10), (.c (.I 3))]⟩,
    ⟨some 12, (some (9, false)), [], false, .bin .eql (.t 11) (.c (.I 0))⟩,
    o1 13 (.pick (.t 9) (.c (.b true)) (.t 12))]) (.keep [0, 1, 4, 13]))
  (.seq (.cond (.t 13)
  (.seq (.seq (.ops [o1 14 (.mv (.t 0)),
    o1 15 (.call f_sl91Leaf [(.t 14)]),
    o0 (.store 3 (.t 4) (.t 15))]) (.keep [4]))
  (.ret))
  (.skip)) (.keep [0, 1, 4])))
  (.seq (.seq (.ops [o1 16 (.mv (.t 0)),
    o1 17 (.call f_sl91Op [(.t 16)]),
    o1 5 (.mv (.t 17))]) (.keep [0, 1, 4, 5]))
  (.seq (.seq (.ops [o1 18 (.mv (.t 0)),
    o1 19 (.mv (.t 1)),
    o1 20 (.bin .sub (.t 19) (.c (.I 1))),
    o1 21 (.call f_sl91Expr [(.t 18), (.t 20)]),
    o1 6 (.alloc [(.I 0), (.I 0), .nils]),
    o0 (.store 3 (.t 6) (.t 21))]) (.keep [0, 1, 4, 5, 6]))
  (.seq (.seq (.ops [o1 22 (.mv (.t 5)),
    o1 23 (.loadN 3 (.t 6)),
    o1 24 (.mv (.t 0)),
    o1 25 (.mv (.t 1)),
    o1 26 (.bin .sub (.t 25) (.c (.I 1))),
    ⟨some 27, none, [(.t 6)], false, .call f_sl91Expr [(.t 24), (.t 26)]⟩,
    ⟨some 28, none, [], true, .call f_sl4Both [(.t 22), (.t 23), (.t 27)]⟩,
    o0 (.store 3 (.t 4) (.t 28))]) (.keep [4]))
  (.ret))))), [.c 4 3]⟩

/- loop.example/cothreads/impl.exprValid -/
def c_iexprValid : AFn := ⟨2, .seq (.seq (.ops [o1 2 (.box (.t 0)),
    o1 4 (.mv (.c (.b false)))]) (.keep [1, 2]))
  (.seq (.seq (.block 0 (.seq (.seq (.ops [o1 6 (.fldA 0 (.t 2)),
    o1 7 (.load (.t 6)),
    o1 8 (.bin .eql (.t 7) (.c (.I 0))),
    o1 5 (.mv (.t 8))]) (.keep [1, 2, 5]))
  (.seq (.cond (.t 5)
  (.seq (.seq (.ops [o1 9 (.fldA 1 (.t 2)),
    o1 10 (.load (.t 9)),
    o1 11 (.bin .geq (.t 10) (.c (.I 0))),
    o1 12 (.mv (.t 11)),
    ⟨some 13, (some (12, true)), [], false, .fldA 1 (.t 2)⟩,
    ⟨some 14, (some (12, true)), [], false, .load (.t 13)⟩,
    ⟨some 15, (some (12, true)), [], false, .bin .leq (.t 14) (.c (.I 99999))⟩,
    o1 16 (.pick (.t 12) (.t 15) (.c (.b false))),
    o1 17 (.mv (.t 16)),
    ⟨some 18, (some (17, true)), [], false, .fldA 2 (.t 2)⟩,
    ⟨some 19, (some (17, true)), [], false, .load (.t 18)⟩,
    ⟨some 20, (some (17, true)), [], false, .len (.t 19)⟩,
    ⟨some 21, (some (17, true)), [], false, .bin .eql (.t 20) (.c (.I 0))⟩,
    o1 22 (.pick (.t 17) (.t 21) (.c (.b false))),
    o1 23 (.mv (.t 22)),
    ⟨some 24, (some (23, true)), [], false, .mv (.t 1)⟩,
    ⟨some 25, (some (23, true)), [], false, .bin .gtr (.t 24) (.c (.I 0))⟩,
    o1 26 (.pick (.t 23) (.t 25) (.c (.b false))),
    o1 4 (.mv (.t 26))]) (.keep [4]))
  (.ret))
  (.seq (.seq (.ops [o1 28 (.fldA 0 (.t 2)),
    o1 29 (.load (.t 28)),
    o1 30 (.bin .eql (.t 29) (.c (.I 13))),
    o1 27 (.mv (.t 30))]) (.keep [1, 2, 27]))
  (.seq (.cond (.t 27)
  (.seq (.seq (.ops [o1 31 (.fldA 1 (.t 2)),
    o1 32 (.load (.t 31)),
    o1 33 (.bin .geq (.t 32) (.c (.I 0))),
    o1 34 (.mv (.t 33)),
    ⟨some 35, (some (34, true)), [], false, .fldA 1 (.t 2)⟩,
    ⟨some 36, (some (34, true)), [], false, .load (.t 35)⟩,
    ⟨some 37, (some (34, true)), [], false, .bin .lss (.t 36) (.c (.I 4))⟩,
    o1 38 (.pick (.t 34) (.t 37) (.c (.b false))),
    o1 39 (.mv (.t 38)),
    ⟨some 40, (some (39, true)), [], false, .fldA 2 (.t 2)⟩,
    ⟨some 41, (some (39, true)), [], false, .load (.t 40)⟩,
    ⟨some 42, (some (39, true)), [], false, .len (.t 41)⟩,
    ⟨some 43, (some (39, true)), [], false, .bin .eql (.t 42) (.c (.I 0))⟩,
    o1 44 (.pick (.t 39) (.t 43) (.c (.b false))),
    o1 45 (.mv (.t 44)),
    ⟨some 46, (some (45, true)), [], false, .mv (.t 1)⟩,
    ⟨some 47, (some (45, true)), [], false, .bin .gtr (.t 46) (.c (.I 0))⟩,
    o1 48 (.pick (.t 45) (.t 47) (.c (.b false))),
    o1 4 (.mv (.t 48))]) (.keep [4]))
  (.ret))
  (.skip)) (.keep [1, 2])))) (.keep [1, 2])))) (.keep [1, 2]))
  (.seq (.seq (.ops [o1 49 (.fldA 0 (.t 2)),
    o1 50 (.load (.t 49)),
    o1 51 (.call f_iOpValid [(.t 50)]),
    o1 52 (.mv (.t 51)),
    ⟨some 53, (some (52, true)), [], false, .fldA 1 (.t 2)⟩,
    ⟨some 54, (some (52, true)), [], false, .load (.t 53)⟩,
    ⟨some 55, (some (52, true)), [], false, .bin .eql (.t 54) (.c (.I 0))⟩,
    o1 56 (.pick (.t 52) (.t 55) (.c (.b false))),
    o1 57 (.mv (.t 56)),
    ⟨some 58, (some (57, true)), [], false, .fldA 2 (.t 2)⟩,
    ⟨some 59, (some (57, true)), [], false, .load (.t 58)⟩,
    ⟨some 60, (some (57, true)), [], false, .len (.t 59)⟩,
    ⟨some 61, (some (57, true)), [], false, .bin .eql (.t 60) (.c (.I 2))⟩,
    o1 62 (.pick (.t 57) (.t 61) (.c (.b false))),
    o1 63 (.mv (.t 62)),
    ⟨some 64, (some (63, true)), [], false, .mv (.t 1)⟩,
    ⟨some 65, (some (63, true)), [], false, .bin .gtr (.t 64) (.c (.I 1))⟩,
    o1 66 (.pick (.t 63) (.t 65) (.c (.b false))),
    o1 67 (.mv (.t 66)),
    ⟨some 68, (some (67, true)), [], false, .fldA 2 (.t 2)⟩,
    ⟨some 69, (some (67, true)), [], false, .load (.t 68)⟩,
    ⟨some 70, (some (67, true)), [], false, .idxA 3 (.t 69) (.c (.I 0))⟩,
    ⟨some 71, (some (67, true)), [], false, .loadN 3 (.t 70)⟩,
    ⟨some 72, (some (67, true)), [], false, .mv (.t 1)⟩,
    ⟨some 73, (some (67, true)), [], false, .bin .sub (.t 72) (.c (.I 1))⟩,
    ⟨some 74, (some (67, true)), [], false, .call f_iexprValid [(.t 71), (.t 73)]⟩,
    o1 75 (.pick (.t 67) (.t 74) (.c (.b false))),
    o1 76 (.mv (.t 75)),
    ⟨some 77, (some (76, true)), [], false, .fldA 2 (.t 2)⟩,
    ⟨some 78, (some (76, true)), [], false, .load (.t 77)⟩,
    ⟨some 79, (some (76, true)), [], false, .idxA 3 (.t 78) (.c (.I 1))⟩,
    ⟨some 80, (some (76, true)), [], false, .loadN 3 (.t 79)⟩,
    ⟨some 81, (some (76, true)), [], false, .mv (.t 1)⟩,
    ⟨some 82, (some (76, true)), [], false, .bin .sub (.t 81) (.c (.I 1))⟩,
    ⟨some 83, (some (76, true)), [], false, .call f_iexprValid [(.t 80), (.t 82)]⟩,
    o1 84 (.pick (.t 76) (.t 83) (.c (.b false))),
    o1 4 (.mv (.t 84))]) (.keep [4]))
  (.ret))), [.t 4]⟩

/- loop.example/cothreads/spec.l11Plain -/
def c_sl11Plain : AFn := ⟨1, .seq (.seq (.ops [o1 1 (.box (.t 0)),
    o1 2 (.mv (.c (.b false)))]) (.keep [1]))
  (.seq (.seq (.ops [o1 3 (.fldA 0 (.t 1)),
    o1 4 (.load (.t 3)),
    o1 5 (.bin .eql (.t 4) (.c (.I 0))),
    o1 6 (.mv (.t 5)),
    ⟨some 7, (some (6, true)), [], false, .fldA 1 (.t 1)⟩,
    ⟨some 8, (some (6, true)), [], false, .load (.t 7)⟩,
    ⟨some 9, (some (6, true)), [], false, .bin .eql (.t 8) (.c (.I 0))⟩,
    o1 10 (.pick (.t 6) (.t 9) (.c (.b false))),
    o1 11 (.mv (.t 10)),
    ⟨some 12, (some (11, true)), [], false, .fldA 2 (.t 1)⟩,
    ⟨some 13, (some (11, true)), [], false, .load (.t 12)⟩,
    ⟨some 14, (some (11, true)), [], false, .len (.t 13)⟩,
    ⟨some 15, (some (11, true)), [], false, .bin .eql (.t 14) (.c (.I 0))⟩,
    o1 16 (.pick (.t 11) (.t 15) (.c (.b false))),
    o1 2 (.mv (.t 16))]) (.keep [2]))
  (.ret)), [.t 2]⟩

/- loop.example/cothreads/spec.l4Ok -/
def c_sl4Ok : AFn := ⟨2, .seq (.seq (.ops [o1 2 (.box (.t 0)),
    o1 4 (.mv (.c (.b false)))]) (.keep [1, 2]))
  (.seq (.seq (.seq (.ops [o1 5 (.mv (.t 1)),
    o1 6 (.bin .lss (.t 5) (.c (.I 1)))]) (.keep [1, 2, 6]))
  (.seq (.cond (.t 6)
  (.seq (.ops [o1 4 (.mv (.c (.b false)))])
  (.ret))
  (.skip)) (.keep [1, 2])))
  (.seq (.seq (.seq (.ops [o1 7 (.fldA 0 (.t 2)),
    o1 8 (.load (.t 7)),
    o1 9 (.bin .eql (.t 8) (.c (.I 0)))]) (.keep [1, 2, 9]))
  (.seq (.cond (.t 9)
  (.seq (.seq (.ops [o1 10 (.fldA 1 (.t 2)),
    o1 11 (.load (.t 10)),
    o1 12 (.call f_sl6In [(.t 11), (.c (.I 0)), (.c (.I 99999))]),
    o1 13 (.mv (.t 12)),
    ⟨some 14, (some (13, true)), [], false, .fldA 2 (.t 2)⟩,
    ⟨some 15, (some (13, true)), [], false, .load (.t 14)⟩,
    ⟨some 16, (some (13, true)), [], false, .len (.t 15)⟩,
    ⟨some 17, (some (13, true)), [], false, .bin .eql (.t 16) (.c (.I 0))⟩,
    o1 18 (.pick (.t 13) (.t 17) (.c (.b false))),
    o1 4 (.mv (.t 18))]) (.keep [4]))
  (.ret))
  (.skip)) (.keep [1, 2])))
  (.seq (.seq (.seq (.ops [o1 19 (.fldA 0 (.t 2)),
    o1 20 (.load (.t 19)),
    o1 21 (.bin .eql (.t 20) (.c (.I 13)))]) (.keep [1, 2, 21]))
  (.seq (.cond (.t 21)
  (.seq (.seq (.ops [o1 22 (.fldA 1 (.t 2)),
    o1 23 (.load (.t 22)),
    o1 24 (.call f_sl6In [(.t 23), (.c (.I 0)), (.c (.I 3))]),
    o1 25 (.mv (.t 24)),
    ⟨some 26, (some (25, true)), [], false, .fldA 2 (.t 2)⟩,
    ⟨some 27, (some (25, true)), [], false, .load (.t 26)⟩,
    ⟨some 28, (some (25, true)), [], false, .len (.t 27)⟩,
    ⟨some 29, (some (25, true)), [], false, .bin .eql (.t 28) (.c (.I 0))⟩,
    o1 30 (.pick (.t 25) (.t 29) (.c (.b false))),
    o1 4 (.mv (.t 30))]) (.keep [4]))
  (.ret))
  (.skip)) (.keep [1, 2])))
  (.seq (.seq (.ops [o1 31 (.fldA 0 (.t 2)),
    o1 32 (.load (.t 31)),
    o1 33 (.call f_sOpValid [(.t 32)]),
    o1 34 (.mv (.t 33)),
    ⟨some 35, (some (34, true)), [], false, .fldA 1 (.t 2)⟩,
    ⟨some 36, (some (34, true)), [], false, .load (.t 35)⟩,
    ⟨some 37, (some (34, true)), [], false, .bin .eql (.t 36) (.c (.I 0))⟩,
    o1 38 (.pick (.t 34) (.t 37) (.c (.b false))),
    o1 39 (.mv (.t 38)),
    ⟨some 40, (some (39, true)), [], false, .fldA 2 (.t 2)⟩,
    ⟨some 41, (some (39, true)), [], false, .load (.t 40)⟩,
    ⟨some 42, (some (39, true)), [], false, .len (.t 41)⟩,
    ⟨some 43, (some (39, true)), [], false, .bin .eql (.t 42) (.c (.I 2))⟩,
    o1 44 (.pick (.t 39) (.t 43) (.c (.b false))),
    o1 45 (.mv (.t 44)),
    ⟨some 46, (some (45, true)), [], false, .fldA 2 (.t 2)⟩,
    ⟨some 47, (some (45, true)), [], false, .load (.t 46)⟩,
    ⟨some 48, (some (45, true)), [], false, .idxA 3 (.t 47) (.c (.I 0))⟩,
    ⟨some 49, (some (45, true)), [], false, .loadN 3 (.t 48)⟩,
    ⟨some 50, (some (45, true)), [], false, .mv (.t 1)⟩,
    ⟨some 51, (some (45, true)), [], false, .bin .sub (.t 50) (.c (.I 1))⟩,
    ⟨some 52, (some (45, true)), [], false, .call f_sl4Ok [(.t 49), (.t 51)]⟩,
    o1 53 (.pick (.t 45) (.t 52) (.c (.b false))),
    o1 54 (.mv (.t 53)),
    ⟨some 55, (some (54, true)), [], false, .fldA 2 (.t 2)⟩,
    ⟨some 56, (some (54, true)), [], false, .load (.t 55)⟩,
    ⟨some 57, (some (54, true)), [], false, .idxA 3 (.t 56) (.c (.I 1))⟩,
    ⟨some 58, (some (54, true)), [], false, .loadN 3 (.t 57)⟩,
    ⟨some 59, (some (54, true)), [], false, .mv (.t 1)⟩,
    ⟨some 60, (some (54, true)), [], false, .bin .sub (.t 59) (.c (.I 1))⟩,
    ⟨some 61, (some (54, true)), [], false, .call f_sl4Ok [(.t 58), (.t 60)]⟩,
    o1 62 (.pick (.t 54) (.t 61) (.c (.b false))),
    o1 4 (.mv (.t 62))]) (.keep [4]))
  (.ret))))), [.t 4]⟩

/- loop.example/cothreads/spec.l91Op -/
def c_sl91Op : AFn := ⟨1, .seq (.seq (.ops [o1 2 (.mv (.c (.I 0)))]) (.keep [0]))
  (.seq (.seq (.ops [o1 3 (.mv (.t 0)),
    o1 4 (.call f_sl6Rd_pick [(.t 3), (.c (.I 12))]),
    o1 5 (.bin .add (.c (.I 1)) (.t 4)),
    o1 2 (.mv (.t 5))]) (.keep [2]))
  (.ret)), [.t 2]⟩

end Go.Proofs.YtmecbehegmgbhaaGreat.AM
