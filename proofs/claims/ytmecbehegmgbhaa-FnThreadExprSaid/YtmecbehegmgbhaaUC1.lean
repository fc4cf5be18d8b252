/-
  The twins, in the abstract machine, of the functions that this claim reaches; by program (part 1). No condition.
-/
import Derived.Test.YtmecbehegmgbhaaUM2
import Derived.Test.YtmecbehegmgbhaaProg
namespace Go.Proofs.Ytmecbehegmgbhaa.AM
set_option linter.unusedSimpArgs false
set_option linter.unusedVariables false
set_option maxRecDepth 100000
def f_wFnThreadExpr : FuncId := 3
def f_sDrawCompileExpr : FuncId := 13
def f_iCompileExpr : FuncId := 14
def f_sCompileExpr : FuncId := 15
def f_wsameCode : FuncId := 16
def f_sDrawExprEval : FuncId := 17
def f_iExprEval : FuncId := 18
def f_iThreadStep : FuncId := 19
def f_wsameInts : FuncId := 20
def f_sl6Open : FuncId := 36
def f_sl91Spoilt : FuncId := 37
def f_sl6Rd_pick : FuncId := 38
def f_iExprValid : FuncId := 39
def f_iexprDepth : FuncId := 40
def f_icompileExpr : FuncId := 41
def f_sExprValid : FuncId := 42
def f_sl6In : FuncId := 43
def f_sl4Depth : FuncId := 44
def f_sl22Expr : FuncId := 45
def f_sl91Vars : FuncId := 46
def f_iareWords : FuncId := 47
def f_iexprEval : FuncId := 48
def f_iThreadValid : FuncId := 49
def f_iboxesValid : FuncId := 50
def f_iboxThere : FuncId := 51
def f_slices_Clone_int_int : FuncId := 52
def f_iboxesCopy : FuncId := 53
def f_iThread_step : FuncId := 54
def f_sl91Expr : FuncId := 81
def f_sl91Leaf : FuncId := 82
def f_sl4Both : FuncId := 83
def f_sl91Op : FuncId := 84
def f_sl4Leaf : FuncId := 85
def f_iexprValid : FuncId := 86
def f_sl4Ok : FuncId := 87
def f_sl91Word : FuncId := 88
def f_iWordValid : FuncId := 89
def f_iapply : FuncId := 90
def f_iCodeValid : FuncId := 91
def f_ithreadFits : FuncId := 92
def f_iBoxValid : FuncId := 93
def f_iBox_put : FuncId := 94
def f_iBox_take : FuncId := 95
def f_iOpValid : FuncId := 118
def f_sOpValid : FuncId := 119
def f_sWrap : FuncId := 120
def f_itruth : FuncId := 121
def f_iWrap : FuncId := 122
def f_iQuadValid : FuncId := 123
def f_iisReg : FuncId := 135
def c_wFnThreadExpr_l0 : AC := .seq (.seq (.seq (.seq (.ops [o1 97 (.mv (.t 18)),
    o1 98 (.mv (.t 7)),
    o1 99 (.len (.t 98)),
    o1 100 (.bin .lss (.t 97) (.t 99))]) (.keep [6, 7, 13, 15, 16, 17, 18, 100]))
  (.seq (.cond (.t 100)
  (.skip)
  (.exit 0)) (.keep [6, 7, 13, 15, 16, 17, 18])))
  (.seq (.seq (.block 1 (.seq (.seq (.ops [o1 104 (.mv (.t 15)),
    o1 105 (.loadN 2 (.t 16)),
    o1 106 (.bsl [] 0 []),
    o1 107 (.call f_iThreadStep [(.t 104), (.t 105), (.t 106)]),
    o1 103 (.mv (.t 107)),
    o1 108 (.ext (.t 103) 0),
    o1 109 (.ext (.t 103) 1),
    o1 110 (.ext (.t 103) 2),
    o1 111 (.ext (.t 103) 3),
    o1 19 (.alloc [.nils, (.I 0)]),
    o0 (.store 2 (.t 19) (.t 108)),
    o1 20 (.mv (.t 109)),
    o1 21 (.mv (.t 110)),
    o1 22 (.mv (.t 111))]) (.keep [6, 7, 13, 15, 16, 17, 18, 19, 22]))
  (.seq (.seq (.seq (.ops [o1 112 (.mv (.t 22)),
    o1 113 (.bin .neq (.t 112) (.c (.I 1)))]) (.keep [6, 7, 13, 15, 16, 17, 18, 19, 113]))
  (.seq (.cond (.t 113)
  (.seq (.ops [o1 4 (.mv (.c (.b false)))])
  (.ret))
  (.skip)) (.keep [6, 7, 13, 15, 16, 17, 18, 19])))
  (.seq (.ops [o1 114 (.loadN 2 (.t 19)),
    o0 (.store 2 (.t 16) (.t 114))]) (.keep [6, 7, 13, 15, 16, 17, 18]))))) (.keep [6, 7, 13, 15, 16, 17, 18]))
  (.seq (.ops [o1 101 (.mv (.t 18)),
    o1 102 (.bin .add (.t 101) (.c (.I 1))),
    o1 18 (.mv (.t 102))]) (.keep [6, 7, 13, 15, 16, 17, 18])))) (.keep [6, 7, 13, 15, 16, 17, 18])
def c_wFnThreadExpr : AFn := ⟨2, .seq (.seq (.ops [o1 4 (.mv (.c (.b false)))]) (.keep [0, 1]))
  (.seq (.seq (.seq (.ops [o1 23 (.mv (.t 0)),
    o1 24 (.len (.t 23)),
    o1 25 (.bin .gtr (.t 24) (.c (.I 1048576))),
    o1 26 (.mv (.t 25)),
    ⟨some 27, (some (26, false)), [], false, .mv (.t 1)⟩,
    ⟨some 28, (some (26, false)), [], false, .len (.t 27)⟩,
    ⟨some 29, (some (26, false)), [], false, .bin .gtr (.t 28) (.c (.I 1048576))⟩,
    o1 30 (.pick (.t 26) (.c (.b true)) (.t 29))]) (.keep [0, 1, 30]))
  (.seq (.cond (.t 30)
  (.seq (.ops [o1 4 (.mv (.c (.b true)))])
  (.ret))
  (.skip)) (.keep [0, 1])))
  (.seq (.seq (.ops [o1 32 (.mv (.t 0)),
    o1 33 (.call f_sDrawCompileExpr [(.t 32)]),
    o1 31 (.mv (.t 33)),
    o1 34 (.ext (.t 31) 0),
    o1 35 (.ext (.t 31) 1),
    o1 5 (.alloc [(.I 0), (.I 0), .nils]),
    o0 (.store 3 (.t 5) (.t 34)),
    o1 6 (.mv (.t 35))]) (.keep [1, 5, 6]))
  (.seq (.seq (.ops [o1 37 (.loadN 3 (.t 5)),
    o1 38 (.mv (.t 6)),
    o1 39 (.call f_iCompileExpr [(.t 37), (.t 38)]),
    o1 36 (.mv (.t 39)),
    o1 40 (.ext (.t 36) 0),
    o1 41 (.ext (.t 36) 1),
    o1 7 (.mv (.t 40)),
    o1 8 (.mv (.t 41))]) (.keep [1, 5, 6, 7, 8]))
  (.seq (.seq (.ops [o1 43 (.loadN 3 (.t 5)),
    o1 44 (.mv (.t 6)),
    o1 45 (.call f_sCompileExpr [(.t 43), (.t 44)]),
    o1 42 (.mv (.t 45)),
    o1 46 (.ext (.t 42) 0),
    o1 47 (.ext (.t 42) 1),
    o1 9 (.mv (.t 46)),
    o1 10 (.mv (.t 47))]) (.keep [1, 5, 6, 7, 8, 9, 10]))
  (.seq (.seq (.seq (.ops [o1 48 (.mv (.t 8)),
    o1 49 (.mv (.t 10)),
    o1 50 (.eqB true (.t 48) (.t 49)),
    o1 51 (.mv (.t 50)),
    ⟨some 52, (some (51, false)), [], false, .mv (.t 7)⟩,
    ⟨some 53, (some (51, false)), [], false, .mv (.t 9)⟩,
    ⟨some 54, (some (51, false)), [], false, .call f_wsameCode [(.t 52), (.t 53)]⟩,
    ⟨some 55, (some (51, false)), [], false, .un .not (.t 54)⟩,
    o1 56 (.pick (.t 51) (.c (.b true)) (.t 55)),
    o1 57 (.mv (.t 56)),
    ⟨some 58, (some (57, false)), [], false, .mv (.t 8)⟩,
    ⟨some 59, (some (57, false)), [], false, .un .not (.t 58)⟩,
    o1 60 (.pick (.t 57) (.c (.b true)) (.t 59))]) (.keep [1, 5, 6, 7, 8, 9, 10, 60]))
  (.seq (.cond (.t 60)
  (.seq (.seq (.ops [o1 61 (.mv (.t 8)),
    o1 62 (.mv (.t 10)),
    o1 63 (.eqB false (.t 61) (.t 62)),
    o1 64 (.mv (.t 63)),
    ⟨some 65, (some (64, true)), [], false, .mv (.t 7)⟩,
    ⟨some 66, (some (64, true)), [], false, .mv (.t 9)⟩,
    ⟨some 67, (some (64, true)), [], false, .call f_wsameCode [(.t 65), (.t 66)]⟩,
    o1 68 (.pick (.t 64) (.t 67) (.c (.b false))),
    o1 4 (.mv (.t 68))]) (.keep [4]))
  (.ret))
  (.skip)) (.keep [1, 5, 6, 7])))
  (.seq (.seq (.ops [o1 70 (.mv (.t 1)),
    o1 71 (.call f_sDrawExprEval [(.t 70)]),
    o1 69 (.mv (.t 71)),
    o1 72 (.ext (.t 69) 0),
    o1 73 (.ext (.t 69) 1),
    o1 11 (.alloc [(.I 0), (.I 0), .nils]),
    o0 (.store 3 (.t 11) (.t 72)),
    o1 12 (.mv (.t 73))]) (.keep [5, 6, 7, 12]))
  (.seq (.seq (.ops [o1 75 (.loadN 3 (.t 5)),
    o1 76 (.mv (.t 12)),
    o1 77 (.call f_iExprEval [(.t 75), (.t 76)]),
    o1 74 (.mv (.t 77)),
    o1 78 (.ext (.t 74) 0),
    o1 79 (.ext (.t 74) 1),
    o1 13 (.mv (.t 78)),
    o1 14 (.mv (.t 79))]) (.keep [6, 7, 12, 13, 14]))
  (.seq (.seq (.seq (.ops [o1 80 (.mv (.t 14)),
    o1 81 (.un .not (.t 80))]) (.keep [6, 7, 12, 13, 81]))
  (.seq (.cond (.t 81)
  (.seq (.ops [o1 4 (.mv (.c (.b true)))])
  (.ret))
  (.skip)) (.keep [6, 7, 12, 13])))
  (.seq (.seq (.ops [o1 82 (.bsl [] 0 []),
    o1 83 (.mv (.t 7)),
    o1 84 (.app 5 (.t 82) (.t 83)),
    o1 85 (.build [(.I 0), (.I 0), (.I 0), (.I 0), (.I 0)] [(0, 1, (.c (.I 10)))]),
    o1 86 (.bsl [(.I 0), (.I 0), (.I 0), (.I 0), (.I 0)] 1 [(0, 5, (.t 85))]),
    o1 87 (.app 5 (.t 84) (.t 86)),
    o1 15 (.mv (.t 87))]) (.keep [6, 7, 12, 13, 15]))
  (.seq (.seq (.ops [o1 88 (.bsl [] 0 []),
    o1 89 (.mv (.t 12)),
    o1 90 (.app 1 (.t 88) (.t 89)),
    o1 91 (.appz 1 [(.I 0)] (.t 90) 8),
    o1 92 (.build [.nils, (.I 0)] [(0, 1, (.t 91))]),
    o1 16 (.alloc [.nils, (.I 0)]),
    o0 (.store 2 (.t 16) (.t 92))]) (.keep [6, 7, 13, 15, 16]))
  (.seq (.seq (.ops [o1 93 (.bsl [] 0 []),
    o1 94 (.fldA 0 (.t 16)),
    o1 95 (.load (.t 94)),
    o1 96 (.app 1 (.t 93) (.t 95)),
    o1 17 (.mv (.t 96))]) (.keep [6, 7, 13, 15, 16, 17]))
  (.seq (.seq (.ops [o1 18 (.mv (.c (.I 0)))])
  (.seq (.block 0 (.seq (.keep [6, 7, 13, 15, 16, 17, 18]) (.loop c_wFnThreadExpr_l0))) (.keep [6, 7, 13, 16, 17])))
  (.seq (.seq (.ops [o1 115 (.fldA 1 (.t 16)),
    o1 116 (.load (.t 115)),
    o1 117 (.mv (.t 7)),
    o1 118 (.len (.t 117)),
    o1 119 (.bin .eql (.t 116) (.t 118)),
    o1 120 (.mv (.t 119)),
    ⟨some 121, (some (120, true)), [], false, .fldA 0 (.t 16)⟩,
    ⟨some 122, (some (120, true)), [], false, .load (.t 121)⟩,
    ⟨some 123, (some (120, true)), [], false, .mv (.t 6)⟩,
    ⟨some 124, (some (120, true)), [], false, .idxA 1 (.t 122) (.t 123)⟩,
    ⟨some 125, (some (120, true)), [], false, .load (.t 124)⟩,
    ⟨some 126, (some (120, true)), [], false, .mv (.t 13)⟩,
    ⟨some 127, (some (120, true)), [], false, .bin .eql (.t 125) (.t 126)⟩,
    o1 128 (.pick (.t 120) (.t 127) (.c (.b false))),
    o1 129 (.mv (.t 128)),
    ⟨some 130, (some (129, true)), [], false, .fldA 0 (.t 16)⟩,
    ⟨some 131, (some (129, true)), [], false, .load (.t 130)⟩,
    ⟨some 132, (some (129, true)), [], false, .mv (.t 6)⟩,
    ⟨some 133, (some (129, true)), [], false, .slice 1 (.t 131) none (some (.t 132)) none⟩,
    ⟨some 134, (some (129, true)), [], false, .mv (.t 17)⟩,
    ⟨some 135, (some (129, true)), [], false, .mv (.t 6)⟩,
    ⟨some 136, (some (129, true)), [], false, .slice 1 (.t 134) none (some (.t 135)) none⟩,
    ⟨some 137, (some (129, true)), [], true, .call f_wsameInts [(.t 133), (.t 136)]⟩,
    o1 138 (.pick (.t 129) (.t 137) (.c (.b false))),
    o1 4 (.mv (.t 138))]) (.keep [4]))
  (.ret)))))))))))))), [.t 4]⟩

/- loop.example/cothreads/spec.DrawCompileExpr -/
def c_sDrawCompileExpr : AFn := ⟨1, .seq (.seq (.ops [o1 2 (.alloc [(.I 0), (.I 0), .nils]),
    o1 3 (.mv (.c (.I 0)))]) (.keep [0, 2]))
  (.seq (.seq (.ops [o1 6 (.mv (.t 0)),
    o1 7 (.call f_sl6Open [(.t 6)]),
    o1 4 (.mv (.t 7))]) (.keep [2, 4]))
  (.seq (.seq (.ops [o1 8 (.mv (.t 4)),
    o1 9 (.call f_sl91Spoilt [(.t 8)]),
    o1 5 (.alloc [(.I 0), (.I 0), .nils]),
    o0 (.store 3 (.t 5) (.t 9))]) (.keep [2, 4, 5]))
  (.seq (.seq (.ops [o1 10 (.loadN 3 (.t 5)),
    o1 11 (.bsl [(.I 0), (.I 0), (.I 0), (.I 0), (.I 0), (.I 0), (.I 0), (.I 0)] 8 [(0, 1, (.c (.I 4))), (1, 1, (.c (.I 4))), (2, 1, (.c (.I 5))), (3, 1, (.c (.I 6))), (4, 1, (.c (.I 7))), (5, 1, (.c (.I 8))), (6, 1, (.c (.I 3))), (7, 1, (.c (.I 11)))]),
    o1 12 (.mv (.t 4)),
    ⟨some 13, none, [(.t 5), (.t 11)], false, .call f_sl6Rd_pick [(.t 12), (.c (.I 8))]⟩,
    o1 14 (.idxA 1 (.t 11) (.t 13)),
    o1 15 (.load (.t 14)),
    ⟨none, none, [(.t 11), (.t 14)], false, .store 3 (.t 2) (.t 10)⟩,
    o1 3 (.mv (.t 15))]) (.keep [2, 3]))
  (.ret)))), [.c 2 3, .t 3]⟩

/- loop.example/cothreads/impl.CompileExpr -/
def c_iCompileExpr : AFn := ⟨2, .seq (.seq (.ops [o1 2 (.box (.t 0)),
    o1 4 (.mv (.c .nils)),
    o1 5 (.mv (.c (.b false)))]) (.keep [1, 2]))
  (.seq (.seq (.seq (.ops [o1 6 (.loadN 3 (.t 2)),
    o1 7 (.call f_iExprValid [(.t 6)]),
    o1 8 (.un .not (.t 7)),
    o1 9 (.mv (.t 8)),
    ⟨some 10, (some (9, false)), [], false, .mv (.t 1)⟩,
    ⟨some 11, (some (9, false)), [], false, .bin .lss (.t 10) (.c (.I 4))⟩,
    o1 12 (.pick (.t 9) (.c (.b true)) (.t 11)),
    o1 13 (.mv (.t 12)),
    ⟨some 14, (some (13, false)), [], false, .mv (.t 1)⟩,
    ⟨some 15, (some (13, false)), [], false, .bin .gtr (.t 14) (.c (.I 12))⟩,
    o1 16 (.pick (.t 13) (.c (.b true)) (.t 15)),
    o1 17 (.mv (.t 16)),
    ⟨some 18, (some (17, false)), [], false, .mv (.t 1)⟩,
    ⟨some 19, (some (17, false)), [], false, .loadN 3 (.t 2)⟩,
    ⟨some 20, (some (17, false)), [], false, .call f_iexprDepth [(.t 19)]⟩,
    ⟨some 21, (some (17, false)), [], false, .bin .add (.t 18) (.t 20)⟩,
    ⟨some 22, (some (17, false)), [], false, .bin .gtr (.t 21) (.c (.I 12))⟩,
    o1 23 (.pick (.t 17) (.c (.b true)) (.t 22))]) (.keep [1, 2, 23]))
  (.seq (.cond (.t 23)
  (.seq (.ops [o1 4 (.mv (.c .nils)),
    o1 5 (.mv (.c (.b false)))])
  (.ret))
  (.skip)) (.keep [1, 2])))
  (.seq (.seq (.ops [o1 24 (.loadN 3 (.t 2)),
    o1 25 (.mv (.t 1)),
    o1 26 (.call f_icompileExpr [(.t 24), (.t 25), (.c .nils)]),
    o1 4 (.mv (.t 26)),
    o1 5 (.mv (.c (.b true)))]) (.keep [4, 5]))
  (.ret))), [.t 4, .t 5]⟩

/- loop.example/cothreads/spec.CompileExpr -/
def c_sCompileExpr : AFn := ⟨2, .seq (.seq (.ops [o1 2 (.box (.t 0)),
    o1 4 (.mv (.c .nils)),
    o1 5 (.mv (.c (.b false)))]) (.keep [1, 2]))
  (.seq (.seq (.seq (.ops [o1 6 (.loadN 3 (.t 2)),
    o1 7 (.call f_sExprValid [(.t 6)]),
    o1 8 (.un .not (.t 7)),
    o1 9 (.mv (.t 8)),
    ⟨some 10, (some (9, false)), [], false, .mv (.t 1)⟩,
    ⟨some 11, (some (9, false)), [], false, .loadN 3 (.t 2)⟩,
    ⟨some 12, (some (9, false)), [], false, .call f_sl4Depth [(.t 11)]⟩,
    ⟨some 13, (some (9, false)), [], false, .bin .sub (.c (.I 12)) (.t 12)⟩,
    ⟨some 14, (some (9, false)), [], false, .call f_sl6In [(.t 10), (.c (.I 4)), (.t 13)]⟩,
    ⟨some 15, (some (9, false)), [], false, .un .not (.t 14)⟩,
    o1 16 (.pick (.t 9) (.c (.b true)) (.t 15))]) (.keep [1, 2, 16]))
  (.seq (.cond (.t 16)
  (.seq (.seq (.ops [o1 17 (.bsl [] 0 []),
    o1 4 (.mv (.t 17)),
    o1 5 (.mv (.c (.b false)))]) (.keep [4, 5]))
  (.ret))
  (.skip)) (.keep [1, 2])))
  (.seq (.seq (.ops [o1 18 (.loadN 3 (.t 2)),
    o1 19 (.mv (.t 1)),
    o1 20 (.call f_sl22Expr [(.t 18), (.t 19)]),
    o1 4 (.mv (.t 20)),
    o1 5 (.mv (.c (.b true)))]) (.keep [4, 5]))
  (.ret))), [.t 4, .t 5]⟩

/- loop.example/cothreads/laws.sameCode -/
def c_wsameCode_l0 : AC := .seq (.seq (.seq (.seq (.ops [o1 11 (.mv (.t 5)),
    o1 12 (.mv (.t 0)),
    o1 13 (.len (.t 12)),
    o1 14 (.bin .lss (.t 11) (.t 13))]) (.keep [0, 1, 5, 14]))
  (.seq (.cond (.t 14)
  (.skip)
  (.exit 0)) (.keep [0, 1, 5])))
  (.seq (.seq (.block 1 (.seq (.seq (.ops [o1 17 (.mv (.t 0)),
    o1 18 (.mv (.t 5)),
    o1 19 (.idxA 5 (.t 17) (.t 18)),
    o1 20 (.loadN 5 (.t 19)),
    o1 21 (.mv (.t 1)),
    o1 22 (.mv (.t 5)),
    o1 23 (.idxA 5 (.t 21) (.t 22)),
    o1 24 (.loadN 5 (.t 23)),
    o1 25 (.eqA 5 true (.t 20) (.t 24))]) (.keep [0, 1, 5, 25]))
  (.seq (.cond (.t 25)
  (.seq (.ops [o1 4 (.mv (.c (.b false)))])
  (.ret))
  (.skip)) (.keep [0, 1, 5])))) (.keep [0, 1, 5]))
  (.seq (.ops [o1 15 (.mv (.t 5)),
    o1 16 (.bin .add (.t 15) (.c (.I 1))),
    o1 5 (.mv (.t 16))]) (.keep [0, 1, 5])))) (.keep [0, 1, 5])
def c_wsameCode : AFn := ⟨2, .seq (.seq (.ops [o1 4 (.mv (.c (.b false)))]) (.keep [0, 1]))
  (.seq (.seq (.seq (.ops [o1 6 (.mv (.t 0)),
    o1 7 (.len (.t 6)),
    o1 8 (.mv (.t 1)),
    o1 9 (.len (.t 8)),
    o1 10 (.bin .neq (.t 7) (.t 9))]) (.keep [0, 1, 10]))
  (.seq (.cond (.t 10)
  (.seq (.ops [o1 4 (.mv (.c (.b false)))])
  (.ret))
  (.skip)) (.keep [0, 1])))
  (.seq (.seq (.ops [o1 5 (.mv (.c (.I 0)))])
  (.seq (.block 0 (.seq (.keep [0, 1, 5]) (.loop c_wsameCode_l0))) (.keep [])))
  (.seq (.ops [o1 4 (.mv (.c (.b true)))])
  (.ret)))), [.t 4]⟩

/- loop.example/cothreads/spec.DrawExprEval -/
def c_sDrawExprEval : AFn := ⟨1, .seq (.seq (.ops [o1 2 (.alloc [(.I 0), (.I 0), .nils]),
    o1 3 (.mv (.c .nils))]) (.keep [0, 2]))
  (.seq (.seq (.ops [o1 6 (.mv (.t 0)),
    o1 7 (.call f_sl6Open [(.t 6)]),
    o1 4 (.mv (.t 7))]) (.keep [2, 4]))
  (.seq (.seq (.ops [o1 8 (.mv (.t 4)),
    o1 9 (.call f_sl91Spoilt [(.t 8)]),
    o1 5 (.alloc [(.I 0), (.I 0), .nils]),
    o0 (.store 3 (.t 5) (.t 9))]) (.keep [2, 4, 5]))
  (.seq (.seq (.ops [o1 10 (.loadN 3 (.t 5)),
    o1 11 (.mv (.t 4)),
    ⟨some 12, none, [(.t 5)], false, .call f_sl91Vars [(.t 11)]⟩,
    o0 (.store 3 (.t 2) (.t 10)),
    o1 3 (.mv (.t 12))]) (.keep [2, 3]))
  (.ret)))), [.c 2 3, .t 3]⟩

/- loop.example/cothreads/impl.ExprEval -/
def c_iExprEval : AFn := ⟨2, .seq (.seq (.ops [o1 2 (.box (.t 0)),
    o1 4 (.mv (.c (.I 0))),
    o1 5 (.mv (.c (.b false)))]) (.keep [1, 2]))
  (.seq (.seq (.seq (.ops [o1 6 (.loadN 3 (.t 2)),
    o1 7 (.call f_iExprValid [(.t 6)]),
    o1 8 (.un .not (.t 7)),
    o1 9 (.mv (.t 8)),
    ⟨some 10, (some (9, false)), [], false, .mv (.t 1)⟩,
    ⟨some 11, (some (9, false)), [], false, .len (.t 10)⟩,
    ⟨some 12, (some (9, false)), [], false, .bin .neq (.t 11) (.c (.I 4))⟩,
    o1 13 (.pick (.t 9) (.c (.b true)) (.t 12)),
    o1 14 (.mv (.t 13)),
    ⟨some 15, (some (14, false)), [], false, .mv (.t 1)⟩,
    ⟨some 16, (some (14, false)), [], false, .call f_iareWords [(.t 15)]⟩,
    ⟨some 17, (some (14, false)), [], false, .un .not (.t 16)⟩,
    o1 18 (.pick (.t 14) (.c (.b true)) (.t 17))]) (.keep [1, 2, 18]))
  (.seq (.cond (.t 18)
  (.seq (.ops [o1 4 (.mv (.c (.I 0))),
    o1 5 (.mv (.c (.b false)))])
  (.ret))
  (.skip)) (.keep [1, 2])))
  (.seq (.seq (.ops [o1 19 (.mv (.t 1)),
    o1 20 (.call f_iexprEval [(.t 2), (.t 19)]),
    o1 4 (.mv (.t 20)),
    o1 5 (.mv (.c (.b true)))]) (.keep [4, 5]))
  (.ret))), [.t 4, .t 5]⟩

/- loop.example/cothreads/impl.ThreadStep -/
def c_iThreadStep : AFn := ⟨3, .seq (.seq (.ops [o1 4 (.box (.t 1)),
    o1 6 (.alloc [.nils, (.I 0)]),
    o1 7 (.mv (.c .nils)),
    o1 8 (.mv (.c .nils)),
    o1 9 (.mv (.c (.I 0)))]) (.keep [0, 2, 4, 6]))
  (.seq (.seq (.seq (.ops [o1 14 (.loadN 2 (.t 4)),
    o1 15 (.mv (.t 0)),
    o1 16 (.call f_iThreadValid [(.t 14), (.t 15)]),
    o1 17 (.un .not (.t 16)),
    o1 18 (.mv (.t 17)),
    ⟨some 19, (some (18, false)), [], false, .mv (.t 2)⟩,
    ⟨some 20, (some (18, false)), [], false, .call f_iboxesValid [(.t 19)]⟩,
    ⟨some 21, (some (18, false)), [], false, .un .not (.t 20)⟩,
    o1 22 (.pick (.t 18) (.c (.b true)) (.t 21)),
    o1 23 (.mv (.t 22)),
    ⟨some 24, (some (23, false)), [], false, .mv (.t 0)⟩,
    ⟨some 25, (some (23, false)), [], false, .fldA 1 (.t 4)⟩,
    ⟨some 26, (some (23, false)), [], false, .load (.t 25)⟩,
    ⟨some 27, (some (23, false)), [], false, .idxA 5 (.t 24) (.t 26)⟩,
    ⟨some 28, (some (23, false)), [], false, .loadN 5 (.t 27)⟩,
    ⟨some 29, (some (23, false)), [], false, .mv (.t 2)⟩,
    ⟨some 30, (some (23, false)), [], false, .len (.t 29)⟩,
    ⟨some 31, (some (23, false)), [], false, .call f_iboxThere [(.t 28), (.t 30)]⟩,
    ⟨some 32, (some (23, false)), [], false, .un .not (.t 31)⟩,
    o1 33 (.pick (.t 23) (.c (.b true)) (.t 32))]) (.keep [0, 2, 4, 6, 33]))
  (.seq (.cond (.t 33)
  (.seq (.seq (.ops [o1 34 (.build [.nils, (.I 0)] []),
    o0 (.store 2 (.t 6) (.t 34)),
    o1 7 (.mv (.c .nils)),
    o1 8 (.mv (.c .nils)),
    o1 9 (.mv (.c (.I 0)))]) (.keep [6, 7, 8, 9]))
  (.ret))
  (.skip)) (.keep [0, 2, 4, 6])))
  (.seq (.seq (.ops [o1 35 (.fldA 0 (.t 4)),
    o1 36 (.load (.t 35)),
    ⟨some 37, none, [], true, .call f_slices_Clone_int_int [(.t 36)]⟩,
    o1 38 (.fldA 1 (.t 4)),
    o1 39 (.load (.t 38)),
    o1 40 (.build [.nils, (.I 0)] [(0, 1, (.t 37)), (1, 1, (.t 39))]),
    o1 10 (.alloc [.nils, (.I 0)]),
    o0 (.store 2 (.t 10) (.t 40))]) (.keep [0, 2, 6, 10]))
  (.seq (.seq (.ops [o1 41 (.mv (.t 2)),
    o1 42 (.call f_iboxesCopy [(.t 41)]),
    o1 11 (.mv (.t 42))]) (.keep [0, 6, 10, 11]))
  (.seq (.ops [o1 12 (.alloc [.nils])])
  (.seq (.seq (.ops [o1 43 (.mv (.t 0)),
    o1 44 (.mv (.t 11)),
    o1 45 (.call f_iThread_step [(.t 10), (.t 43), (.t 44), (.t 12)]),
    o1 13 (.mv (.t 45))]) (.keep [6, 10, 11, 12, 13]))
  (.seq (.seq (.ops [o1 46 (.loadN 2 (.t 10)),
    o1 47 (.mv (.t 11)),
    o1 48 (.load (.t 12)),
    o1 49 (.mv (.t 13)),
    ⟨none, none, [(.t 12)], false, .store 2 (.t 6) (.t 46)⟩,
    o1 7 (.mv (.t 47)),
    o1 8 (.mv (.t 48)),
    o1 9 (.mv (.t 49))]) (.keep [6, 7, 8, 9]))
  (.ret))))))), [.c 6 2, .t 7, .t 8, .t 9]⟩

/- loop.example/cothreads/laws.sameInts -/
def c_wsameInts_l0 : AC := .seq (.seq (.seq (.seq (.ops [o1 11 (.mv (.t 5)),
    o1 12 (.mv (.t 0)),
    o1 13 (.len (.t 12)),
    o1 14 (.bin .lss (.t 11) (.t 13))]) (.keep [0, 1, 5, 14]))
  (.seq (.cond (.t 14)
  (.skip)
  (.exit 0)) (.keep [0, 1, 5])))
  (.seq (.seq (.block 1 (.seq (.seq (.ops [o1 17 (.mv (.t 0)),
    o1 18 (.mv (.t 5)),
    o1 19 (.idxA 1 (.t 17) (.t 18)),
    o1 20 (.load (.t 19)),
    o1 21 (.mv (.t 1)),
    o1 22 (.mv (.t 5)),
    o1 23 (.idxA 1 (.t 21) (.t 22)),
    o1 24 (.load (.t 23)),
    o1 25 (.bin .neq (.t 20) (.t 24))]) (.keep [0, 1, 5, 25]))
  (.seq (.cond (.t 25)
  (.seq (.ops [o1 4 (.mv (.c (.b false)))])
  (.ret))
  (.skip)) (.keep [0, 1, 5])))) (.keep [0, 1, 5]))
  (.seq (.ops [o1 15 (.mv (.t 5)),
    o1 16 (.bin .add (.t 15) (.c (.I 1))),
    o1 5 (.mv (.t 16))]) (.keep [0, 1, 5])))) (.keep [0, 1, 5])
def c_wsameInts : AFn := ⟨2, .seq (.seq (.ops [o1 4 (.mv (.c (.b false)))]) (.keep [0, 1]))
  (.seq (.seq (.seq (.ops [o1 6 (.mv (.t 0)),
    o1 7 (.len (.t 6)),
    o1 8 (.mv (.t 1)),
    o1 9 (.len (.t 8)),
    o1 10 (.bin .neq (.t 7) (.t 9))]) (.keep [0, 1, 10]))
  (.seq (.cond (.t 10)
  (.seq (.ops [o1 4 (.mv (.c (.b false)))])
  (.ret))
  (.skip)) (.keep [0, 1])))
  (.seq (.seq (.ops [o1 5 (.mv (.c (.I 0)))])
  (.seq (.block 0 (.seq (.keep [0, 1, 5]) (.loop c_wsameInts_l0))) (.keep [])))
  (.seq (.ops [o1 4 (.mv (.c (.b true)))])
  (.ret)))), [.t 4]⟩

/- loop.example/cothreads/spec.l6Open -/
def c_sl6Open : AFn := ⟨1, .seq (.seq (.ops [o1 2 (.mv (.c .nilp))]) (.keep [0]))
  (.seq (.seq (.seq (.ops [o1 3 (.mv (.t 0)),
    o1 4 (.len (.t 3)),
    o1 5 (.bin .gtr (.t 4) (.c (.I 2000)))]) (.keep [0, 5]))
  (.seq (.cond (.t 5)
  (.seq (.ops [o1 6 (.mv (.t 0)),
    o1 7 (.slice 1 (.t 6) none (some (.c (.I 2000))) none),
    o1 0 (.mv (.t 7))]) (.keep [0]))
  (.skip)) (.keep [0])))
  (.seq (.seq (.ops [o1 8 (.mv (.t 0)),
    o1 9 (.build [.nils, (.I 0)] [(0, 1, (.t 8))]),
    o1 10 (.box (.t 9)),
    o1 2 (.mv (.t 10))]) (.keep [2]))
  (.ret))), [.t 2]⟩

/- loop.example/cothreads/spec.l91Spoilt -/
def c_sl91Spoilt : AFn := ⟨1, .seq (.ops [o1 2 (.alloc [(.I 0), (.I 0), .nils])])
  (.seq (.seq (.ops [o1 4 (.mv (.t 0)),
    o1 5 (.mv (.t 0)),
    o1 6 (.call f_sl6Rd_pick [(.t 5), (.c (.I 4))]),
    o1 7 (.bin .add (.c (.I 2)) (.t 6)),
    o1 8 (.call f_sl91Expr [(.t 4), (.t 7)]),
    o1 3 (.alloc [(.I 0), (.I 0), .nils]),
    o0 (.store 3 (.t 3) (.t 8))]) (.keep [0, 2, 3]))
  (.seq (.seq (.seq (.ops [o1 9 (.mv (.t 0)),
    o1 10 (.call f_sl6Rd_pick [(.t 9), (.c (.I 40))])]) (.keep [0, 2, 3, 10]))
  (.seq (.block 0 (.seq (.seq (.ops [o1 12 (.bin .eql (.t 10) (.c (.I 0))),
    o1 11 (.mv (.t 12))]) (.keep [0, 2, 3, 10, 11]))
  (.seq (.cond (.t 11)
  (.seq (.ops [o1 13 (.bsl [(.I 0), (.I 0)] 2 [(0, 1, (.c (.I (-1)))), (1, 1, (.c (.I 100000)))]),
    o1 14 (.mv (.t 0)),
    o1 15 (.call f_sl6Rd_pick [(.t 14), (.c (.I 2))]),
    o1 16 (.idxA 1 (.t 13) (.t 15)),
    o1 17 (.load (.t 16)),
    o1 18 (.fldA 1 (.t 3)),
    o0 (.store 1 (.t 18) (.t 17))]) (.keep [2, 3]))
  (.seq (.seq (.ops [o1 20 (.bin .eql (.t 10) (.c (.I 1))),
    o1 19 (.mv (.t 20))]) (.keep [0, 2, 3, 10, 19]))
  (.seq (.cond (.t 19)
  (.seq (.ops [o1 21 (.bsl [(.I 0), (.I 0)] 2 [(0, 1, (.c (.I (-1)))), (1, 1, (.c (.I 14)))]),
    o1 22 (.mv (.t 0)),
    o1 23 (.call f_sl6Rd_pick [(.t 22), (.c (.I 2))]),
    o1 24 (.idxA 1 (.t 21) (.t 23)),
    o1 25 (.load (.t 24)),
    o1 26 (.fldA 0 (.t 3)),
    o0 (.store 1 (.t 26) (.t 25))]) (.keep [2, 3]))
  (.seq (.seq (.ops [o1 28 (.bin .eql (.t 10) (.c (.I 2))),
    o1 27 (.mv (.t 28))]) (.keep [0, 2, 3, 10, 27]))
  (.seq (.cond (.t 27)
  (.seq (.ops [o1 29 (.fldA 2 (.t 3)),
    o1 30 (.load (.t 29)),
    o1 31 (.mv (.t 0)),
    ⟨some 32, none, [(.t 29)], false, .call f_sl91Leaf [(.t 31)]⟩,
    o1 33 (.bsl [(.I 0), (.I 0), .nils] 1 [(0, 3, (.t 32))]),
    o1 34 (.app 3 (.t 30) (.t 33)),
    o1 35 (.fldA 2 (.t 3)),
    o0 (.store 1 (.t 35) (.t 34))]) (.keep [2, 3]))
  (.seq (.seq (.ops [o1 37 (.bin .eql (.t 10) (.c (.I 3))),
    o1 36 (.mv (.t 37))]) (.keep [0, 2, 3, 10, 36]))
  (.seq (.cond (.t 36)
  (.seq (.seq (.ops [o1 38 (.loadN 3 (.t 3)),
    o1 39 (.mv (.t 0)),
    ⟨some 40, none, [(.t 3)], false, .call f_sl91Leaf [(.t 39)]⟩,
    ⟨some 41, none, [], true, .call f_sl4Both [(.c (.I 8)), (.t 38), (.t 40)]⟩,
    o1 42 (.mv (.t 0)),
    o1 43 (.call f_sl91Expr [(.t 42), (.c (.I 5))]),
    ⟨some 44, none, [], true, .call f_sl4Both [(.c (.I 8)), (.t 41), (.t 43)]⟩,
    o0 (.store 3 (.t 2) (.t 44))]) (.keep [2]))
  (.ret))
  (.seq (.seq (.ops [o1 46 (.bin .eql (.t 10) (.c (.I 4))),
    o1 45 (.mv (.t 46))]) (.keep [0, 2, 3, 45]))
  (.seq (.cond (.t 45)
  (.seq (.seq (.ops [o1 47 (.mv (.t 0)),
    o1 48 (.call f_sl91Op [(.t 47)]),
    o1 49 (.mv (.t 0)),
    o1 50 (.call f_sl91Expr [(.t 49), (.c (.I 4))]),
    o1 51 (.call f_sl4Leaf [(.c (.I 13)), (.c (.I 4))]),
    o1 52 (.call f_sl4Both [(.t 48), (.t 50), (.t 51)]),
    o0 (.store 3 (.t 2) (.t 52))]) (.keep [2]))
  (.ret))
  (.skip)) (.keep [2, 3])))) (.keep [2, 3])))) (.keep [2, 3])))) (.keep [2, 3])))) (.keep [2, 3])))) (.keep [2, 3])))
  (.seq (.seq (.ops [o1 53 (.loadN 3 (.t 3)),
    o0 (.store 3 (.t 2) (.t 53))]) (.keep [2]))
  (.ret)))), [.c 2 3]⟩

/- (*loop.example/cothreads/spec.l6Rd).pick -/
def c_sl6Rd_pick : AFn := ⟨2, .seq (.seq (.ops [o1 4 (.mv (.c (.I 0)))]) (.keep [0, 1]))
  (.seq (.seq (.ops [o1 7 (.mv (.t 0)),
    o1 8 (.mv (.t 0)),
    o1 9 (.nilc (.t 8)),
    o1 10 (.fldA 1 (.t 9)),
    o1 11 (.load (.t 10)),
    o1 12 (.bin .add (.t 11) (.c (.I 1))),
    o1 13 (.nilc (.t 7)),
    o1 14 (.fldA 1 (.t 13)),
    o0 (.store 1 (.t 14) (.t 12))]) (.keep [0, 1]))
  (.seq (.seq (.seq (.ops [o1 15 (.mv (.t 1)),
    o1 16 (.bin .lss (.t 15) (.c (.I 1))),
    o1 17 (.mv (.t 16)),
    ⟨some 18, (some (17, false)), [], false, .mv (.t 0)⟩,
    ⟨some 19, (some (17, false)), [], false, .nilc (.t 18)⟩,
    ⟨some 20, (some (17, false)), [], false, .fldA 0 (.t 19)⟩,
    ⟨some 21, (some (17, false)), [], false, .load (.t 20)⟩,
    ⟨some 22, (some (17, false)), [], false, .len (.t 21)⟩,
    ⟨some 23, (some (17, false)), [], false, .bin .eql (.t 22) (.c (.I 0))⟩,
    o1 24 (.pick (.t 17) (.c (.b true)) (.t 23))]) (.keep [0, 1, 24]))
  (.seq (.cond (.t 24)
  (.seq (.ops [o1 4 (.mv (.c (.I 0)))])
  (.ret))
  (.skip)) (.keep [0, 1])))
  (.seq (.seq (.ops [o1 25 (.mv (.t 0)),
    o1 26 (.nilc (.t 25)),
    o1 27 (.fldA 1 (.t 26)),
    o1 28 (.load (.t 27)),
    o1 29 (.bin .sub (.t 28) (.c (.I 1))),
    o1 5 (.mv (.t 29))]) (.keep [0, 1, 5]))
  (.seq (.seq (.seq (.ops [o1 30 (.mv (.t 5)),
    o1 31 (.mv (.t 0)),
    o1 32 (.nilc (.t 31)),
    o1 33 (.fldA 0 (.t 32)),
    o1 34 (.load (.t 33)),
    o1 35 (.len (.t 34)),
    o1 36 (.bin .lss (.t 30) (.t 35))]) (.keep [0, 1, 5, 36]))
  (.seq (.cond (.t 36)
  (.seq (.seq (.ops [o1 37 (.mv (.t 0)),
    o1 38 (.nilc (.t 37)),
    o1 39 (.fldA 0 (.t 38)),
    o1 40 (.load (.t 39)),
    o1 41 (.mv (.t 5)),
    o1 42 (.idxA 1 (.t 40) (.t 41)),
    o1 43 (.load (.t 42)),
    o1 44 (.conv .i64 (.t 43)),
    o1 45 (.mv (.t 1)),
    o1 46 (.bin .rem (.t 44) (.t 45)),
    o1 4 (.mv (.t 46))]) (.keep [4]))
  (.ret))
  (.skip)) (.keep [0, 1, 5])))
  (.seq (.seq (.ops [o1 47 (.mv (.t 0)),
    o1 48 (.nilc (.t 47)),
    o1 49 (.fldA 0 (.t 48)),
    o1 50 (.load (.t 49)),
    o1 51 (.mv (.t 5)),
    o1 52 (.mv (.t 0)),
    o1 53 (.nilc (.t 52)),
    o1 54 (.fldA 0 (.t 53)),
    o1 55 (.load (.t 54)),
    o1 56 (.len (.t 55)),
    o1 57 (.bin .rem (.t 51) (.t 56)),
    o1 58 (.idxA 1 (.t 50) (.t 57)),
    o1 59 (.load (.t 58)),
    o1 60 (.conv .i64 (.t 59)),
    o1 61 (.bin .mul (.t 60) (.c (.I 131))),
    o1 62 (.mv (.t 0)),
    o1 63 (.nilc (.t 62)),
    o1 64 (.fldA 0 (.t 63)),
    o1 65 (.load (.t 64)),
    o1 66 (.mv (.t 5)),
    o1 67 (.bin .mul (.t 66) (.c (.I 7))),
    o1 68 (.bin .add (.t 67) (.c (.I 3))),
    o1 69 (.mv (.t 0)),
    o1 70 (.nilc (.t 69)),
    o1 71 (.fldA 0 (.t 70)),
    o1 72 (.load (.t 71)),
    o1 73 (.len (.t 72)),
    o1 74 (.bin .rem (.t 68) (.t 73)),
    o1 75 (.idxA 1 (.t 65) (.t 74)),
    o1 76 (.load (.t 75)),
    o1 77 (.conv .i64 (.t 76)),
    o1 78 (.bin .mul (.t 77) (.c (.I 1117))),
    o1 79 (.bin .add (.t 61) (.t 78)),
    o1 80 (.mv (.t 5)),
    o1 81 (.bin .mul (.t 80) (.c (.I 29))),
    o1 82 (.bin .add (.t 79) (.t 81)),
    o1 83 (.mv (.t 5)),
    o1 84 (.mv (.t 0)),
    o1 85 (.nilc (.t 84)),
    o1 86 (.fldA 0 (.t 85)),
    o1 87 (.load (.t 86)),
    o1 88 (.len (.t 87)),
    o1 89 (.bin .quo (.t 83) (.t 88)),
    o1 90 (.bin .mul (.t 89) (.c (.I 53))),
    o1 91 (.bin .add (.t 82) (.t 90)),
    o1 6 (.mv (.t 91))]) (.keep [1, 6]))
  (.seq (.seq (.ops [o1 92 (.mv (.t 6)),
    o1 93 (.mv (.t 6)),
    o1 94 (.bin .quo (.t 93) (.c (.I 64))),
    o1 95 (.bin .xor (.t 92) (.t 94)),
    o1 6 (.mv (.t 95))]) (.keep [1, 6]))
  (.seq (.seq (.ops [o1 96 (.mv (.t 6)),
    o1 97 (.mv (.t 1)),
    o1 98 (.bin .rem (.t 96) (.t 97)),
    o1 4 (.mv (.t 98))]) (.keep [4]))
  (.ret)))))))), [.t 4]⟩

/- loop.example/cothreads/impl.ExprValid -/
def c_iExprValid : AFn := ⟨1, .seq (.seq (.ops [o1 1 (.box (.t 0)),
    o1 2 (.mv (.c (.b false)))]) (.keep [1]))
  (.seq (.seq (.ops [o1 3 (.loadN 3 (.t 1)),
    o1 4 (.call f_iexprValid [(.t 3), (.c (.I 5))]),
    o1 2 (.mv (.t 4))]) (.keep [2]))
  (.ret)), [.t 2]⟩

/- loop.example/cothreads/impl.exprDepth -/
def c_iexprDepth_l0 : AC := .seq (.seq (.ops [o1 10 (.bin .lss (.t 9) (.t 8))])
  (.seq (.seq (.cond (.t 10)
  (.skip)
  (.exit 0)) (.keep [3, 7, 8, 9]))
  (.seq (.seq (.block 1 (.seq (.seq (.ops [o1 11 (.idxA 3 (.t 7) (.t 9)),
    o1 12 (.loadN 3 (.t 11)),
    o1 5 (.alloc [(.I 0), (.I 0), .nils]),
    o0 (.store 3 (.t 5) (.t 12))]) (.keep [3, 5, 7, 8, 9]))
  (.seq (.ops [o1 13 (.mv (.t 3)),
    o1 14 (.loadN 3 (.t 5)),
    o1 15 (.call f_iexprDepth [(.t 14)]),
    o1 16 (.mx (.t 13) (.t 15)),
    o1 3 (.mv (.t 16))]) (.keep [3, 7, 8, 9])))) (.keep [3, 7, 8, 9]))
  (.seq (.ops [o1 17 (.bin .add (.t 9) (.c (.I 1))),
    o1 9 (.mv (.t 17))]) (.keep [3, 7, 8, 9]))))) (.keep [3, 7, 8, 9])
def c_iexprDepth : AFn := ⟨1, .seq (.seq (.ops [o1 1 (.box (.t 0)),
    o1 2 (.mv (.c (.I 0)))]) (.keep [1]))
  (.seq (.ops [o1 3 (.mv (.c (.I 0)))])
  (.seq (.seq (.seq (.ops [o1 6 (.fldA 2 (.t 1)),
    o1 7 (.load (.t 6)),
    o1 8 (.len (.t 7)),
    o1 9 (.mv (.c (.I 0)))]) (.keep [3, 7, 8, 9]))
  (.seq (.block 0 (.seq (.keep [3, 7, 8, 9]) (.loop c_iexprDepth_l0))) (.keep [3])))
  (.seq (.seq (.ops [o1 18 (.mv (.t 3)),
    o1 19 (.bin .add (.t 18) (.c (.I 1))),
    o1 2 (.mv (.t 19))]) (.keep [2]))
  (.ret)))), [.t 2]⟩

/- loop.example/cothreads/impl.compileExpr -/
def c_icompileExpr : AFn := ⟨3, .seq (.seq (.ops [o1 3 (.box (.t 0)),
    o1 6 (.mv (.c .nils))]) (.keep [1, 2, 3]))
  (.seq (.seq (.seq (.ops [o1 7 (.fldA 0 (.t 3)),
    o1 8 (.load (.t 7))]) (.keep [1, 2, 3, 8]))
  (.seq (.block 0 (.seq (.seq (.ops [o1 10 (.bin .eql (.t 8) (.c (.I 0))),
    o1 9 (.mv (.t 10))]) (.keep [1, 2, 3, 8, 9]))
  (.seq (.cond (.t 9)
  (.seq (.seq (.ops [o1 11 (.mv (.t 2)),
    o1 12 (.mv (.t 1)),
    o1 13 (.fldA 1 (.t 3)),
    o1 14 (.load (.t 13)),
    o1 15 (.build [(.I 0), (.I 0), (.I 0), (.I 0), (.I 0)] [(0, 1, (.c (.I 1))), (1, 1, (.t 12)), (4, 1, (.t 14))]),
    o1 16 (.bsl [(.I 0), (.I 0), (.I 0), (.I 0), (.I 0)] 1 [(0, 5, (.t 15))]),
    o1 17 (.app 5 (.t 11) (.t 16)),
    o1 6 (.mv (.t 17))]) (.keep [6]))
  (.ret))
  (.seq (.seq (.ops [o1 19 (.bin .eql (.t 8) (.c (.I 13))),
    o1 18 (.mv (.t 19))]) (.keep [1, 2, 3, 18]))
  (.seq (.cond (.t 18)
  (.seq (.seq (.ops [o1 20 (.mv (.t 2)),
    o1 21 (.mv (.t 1)),
    o1 22 (.fldA 1 (.t 3)),
    o1 23 (.load (.t 22)),
    o1 24 (.build [(.I 0), (.I 0), (.I 0), (.I 0), (.I 0)] [(0, 1, (.c (.I 2))), (1, 1, (.t 21)), (2, 1, (.t 23))]),
    o1 25 (.bsl [(.I 0), (.I 0), (.I 0), (.I 0), (.I 0)] 1 [(0, 5, (.t 24))]),
    o1 26 (.app 5 (.t 20) (.t 25)),
    o1 6 (.mv (.t 26))]) (.keep [6]))
  (.ret))
  (.skip)) (.keep [1, 2, 3])))) (.keep [1, 2, 3])))) (.keep [1, 2, 3])))
  (.seq (.seq (.ops [o1 27 (.fldA 2 (.t 3)),
    o1 28 (.load (.t 27)),
    o1 29 (.idxA 3 (.t 28) (.c (.I 0))),
    o1 30 (.loadN 3 (.t 29)),
    o1 31 (.mv (.t 1)),
    o1 32 (.mv (.t 2)),
    o1 33 (.call f_icompileExpr [(.t 30), (.t 31), (.t 32)]),
    o1 2 (.mv (.t 33))]) (.keep [1, 2, 3]))
  (.seq (.seq (.ops [o1 34 (.fldA 2 (.t 3)),
    o1 35 (.load (.t 34)),
    o1 36 (.idxA 3 (.t 35) (.c (.I 1))),
    o1 37 (.loadN 3 (.t 36)),
    o1 38 (.mv (.t 1)),
    o1 39 (.bin .add (.t 38) (.c (.I 1))),
    o1 40 (.mv (.t 2)),
    o1 41 (.call f_icompileExpr [(.t 37), (.t 39), (.t 40)]),
    o1 2 (.mv (.t 41))]) (.keep [1, 2, 3]))
  (.seq (.seq (.ops [o1 42 (.mv (.t 2)),
    o1 43 (.mv (.t 1)),
    o1 44 (.mv (.t 1)),
    o1 45 (.mv (.t 1)),
    o1 46 (.bin .add (.t 45) (.c (.I 1))),
    o1 47 (.fldA 0 (.t 3)),
    o1 48 (.load (.t 47)),
    o1 49 (.build [(.I 0), (.I 0), (.I 0), (.I 0), (.I 0)] [(0, 1, (.c (.I 3))), (1, 1, (.t 43)), (2, 1, (.t 44)), (3, 1, (.t 46)), (4, 1, (.t 48))]),
    o1 50 (.bsl [(.I 0), (.I 0), (.I 0), (.I 0), (.I 0)] 1 [(0, 5, (.t 49))]),
    o1 51 (.app 5 (.t 42) (.t 50)),
    o1 6 (.mv (.t 51))]) (.keep [6]))
  (.ret))))), [.t 6]⟩

/- loop.example/cothreads/spec.ExprValid -/
def c_sExprValid : AFn := ⟨1, .seq (.seq (.ops [o1 1 (.box (.t 0)),
    o1 2 (.mv (.c (.b false)))]) (.keep [1]))
  (.seq (.seq (.ops [o1 3 (.loadN 3 (.t 1)),
    o1 4 (.call f_sl4Ok [(.t 3), (.c (.I 5))]),
    o1 2 (.mv (.t 4))]) (.keep [2]))
  (.ret)), [.t 2]⟩

/- loop.example/cothreads/spec.l6In -/
def c_sl6In : AFn := ⟨3, .seq (.seq (.ops [o1 6 (.mv (.c (.b false)))]) (.keep [0, 1, 2]))
  (.seq (.seq (.ops [o1 7 (.mv (.t 0)),
    o1 8 (.mv (.t 1)),
    o1 9 (.bin .geq (.t 7) (.t 8)),
    o1 10 (.mv (.t 9)),
    ⟨some 11, (some (10, true)), [], false, .mv (.t 0)⟩,
    ⟨some 12, (some (10, true)), [], false, .mv (.t 2)⟩,
    ⟨some 13, (some (10, true)), [], false, .bin .leq (.t 11) (.t 12)⟩,
    o1 14 (.pick (.t 10) (.t 13) (.c (.b false))),
    o1 6 (.mv (.t 14))]) (.keep [6]))
  (.ret)), [.t 6]⟩

/- loop.example/cothreads/spec.l4Depth -/
def c_sl4Depth : AFn := ⟨1, .seq (.seq (.ops [o1 1 (.box (.t 0)),
    o1 2 (.mv (.c (.I 0)))]) (.keep [1]))
  (.seq (.seq (.seq (.ops [o1 3 (.fldA 2 (.t 1)),
    o1 4 (.load (.t 3)),
    o1 5 (.len (.t 4)),
    o1 6 (.bin .eql (.t 5) (.c (.I 0)))]) (.keep [1, 6]))
  (.seq (.cond (.t 6)
  (.seq (.ops [o1 2 (.mv (.c (.I 1)))])
  (.ret))
  (.skip)) (.keep [1])))
  (.seq (.seq (.ops [o1 7 (.fldA 2 (.t 1)),
    o1 8 (.load (.t 7)),
    o1 9 (.idxA 3 (.t 8) (.c (.I 0))),
    o1 10 (.loadN 3 (.t 9)),
    ⟨some 11, none, [], true, .call f_sl4Depth [(.t 10)]⟩,
    o1 12 (.fldA 2 (.t 1)),
    o1 13 (.load (.t 12)),
    o1 14 (.idxA 3 (.t 13) (.c (.I 1))),
    o1 15 (.loadN 3 (.t 14)),
    ⟨some 16, none, [], true, .call f_sl4Depth [(.t 15)]⟩,
    o1 17 (.mx (.t 11) (.t 16)),
    o1 18 (.bin .add (.c (.I 1)) (.t 17)),
    o1 2 (.mv (.t 18))]) (.keep [2]))
  (.ret))), [.t 2]⟩

/- loop.example/cothreads/spec.l22Expr -/
def c_sl22Expr : AFn := ⟨2, .seq (.seq (.ops [o1 2 (.box (.t 0)),
    o1 4 (.mv (.c .nils))]) (.keep [1, 2]))
  (.seq (.seq (.seq (.ops [o1 6 (.fldA 0 (.t 2)),
    o1 7 (.load (.t 6)),
    o1 8 (.bin .eql (.t 7) (.c (.I 0)))]) (.keep [1, 2, 8]))
  (.seq (.cond (.t 8)
  (.seq (.seq (.ops [o1 9 (.mv (.t 1)),
    o1 10 (.fldA 1 (.t 2)),
    o1 11 (.load (.t 10)),
    o1 12 (.build [(.I 0), (.I 0), (.I 0), (.I 0), (.I 0)] [(0, 1, (.c (.I 1))), (1, 1, (.t 9)), (4, 1, (.t 11))]),
    o1 13 (.bsl [(.I 0), (.I 0), (.I 0), (.I 0), (.I 0)] 1 [(0, 5, (.t 12))]),
    o1 4 (.mv (.t 13))]) (.keep [4]))
  (.ret))
  (.skip)) (.keep [1, 2])))
  (.seq (.seq (.seq (.ops [o1 14 (.fldA 0 (.t 2)),
    o1 15 (.load (.t 14)),
    o1 16 (.bin .eql (.t 15) (.c (.I 13)))]) (.keep [1, 2, 16]))
  (.seq (.cond (.t 16)
  (.seq (.seq (.ops [o1 17 (.mv (.t 1)),
    o1 18 (.fldA 1 (.t 2)),
    o1 19 (.load (.t 18)),
    o1 20 (.build [(.I 0), (.I 0), (.I 0), (.I 0), (.I 0)] [(0, 1, (.c (.I 2))), (1, 1, (.t 17)), (2, 1, (.t 19))]),
    o1 21 (.bsl [(.I 0), (.I 0), (.I 0), (.I 0), (.I 0)] 1 [(0, 5, (.t 20))]),
    o1 4 (.mv (.t 21))]) (.keep [4]))
  (.ret))
  (.skip)) (.keep [1, 2])))
  (.seq (.seq (.ops [o1 22 (.fldA 2 (.t 2)),
    o1 23 (.load (.t 22)),
    o1 24 (.idxA 3 (.t 23) (.c (.I 0))),
    o1 25 (.loadN 3 (.t 24)),
    o1 26 (.mv (.t 1)),
    ⟨some 27, none, [], true, .call f_sl22Expr [(.t 25), (.t 26)]⟩,
    o1 28 (.fldA 2 (.t 2)),
    o1 29 (.load (.t 28)),
    o1 30 (.idxA 3 (.t 29) (.c (.I 1))),
    o1 31 (.loadN 3 (.t 30)),
    o1 32 (.mv (.t 1)),
    o1 33 (.bin .add (.t 32) (.c (.I 1))),
    ⟨some 34, none, [], true, .call f_sl22Expr [(.t 31), (.t 33)]⟩,
    o1 35 (.app 5 (.t 27) (.t 34)),
    o1 5 (.mv (.t 35))]) (.keep [1, 2, 5]))
  (.seq (.seq (.ops [o1 36 (.mv (.t 5)),
    o1 37 (.mv (.t 1)),
    o1 38 (.mv (.t 1)),
    o1 39 (.mv (.t 1)),
    o1 40 (.bin .add (.t 39) (.c (.I 1))),
    o1 41 (.fldA 0 (.t 2)),
    o1 42 (.load (.t 41)),
    o1 43 (.build [(.I 0), (.I 0), (.I 0), (.I 0), (.I 0)] [(0, 1, (.c (.I 3))), (1, 1, (.t 37)), (2, 1, (.t 38)), (3, 1, (.t 40)), (4, 1, (.t 42))]),
    o1 44 (.bsl [(.I 0), (.I 0), (.I 0), (.I 0), (.I 0)] 1 [(0, 5, (.t 43))]),
    o1 45 (.app 5 (.t 36) (.t 44)),
    o1 4 (.mv (.t 45))]) (.keep [4]))
  (.ret))))), [.t 4]⟩

/- loop.example/cothreads/spec.l91Vars -/
def c_sl91Vars_l0 : AC := .seq (.seq (.seq (.seq (.ops [o1 6 (.mv (.t 4)),
    o1 7 (.bin .lss (.t 6) (.c (.I 4)))]) (.keep [0, 3, 4, 7]))
  (.seq (.cond (.t 7)
  (.skip)
  (.exit 0)) (.keep [0, 3, 4])))
  (.seq (.seq (.block 1 (.seq (.ops [o1 10 (.mv (.t 3)),
    o1 11 (.mv (.t 0)),
    o1 12 (.call f_sl91Word [(.t 11)]),
    o1 13 (.bsl [(.I 0)] 1 [(0, 1, (.t 12))]),
    o1 14 (.app 1 (.t 10) (.t 13)),
    o1 3 (.mv (.t 14))]) (.keep [0, 3, 4]))) (.keep [0, 3, 4]))
  (.seq (.ops [o1 8 (.mv (.t 4)),
    o1 9 (.bin .add (.t 8) (.c (.I 1))),
    o1 4 (.mv (.t 9))]) (.keep [0, 3, 4])))) (.keep [0, 3, 4])
def c_sl91Vars : AFn := ⟨1, .seq (.seq (.ops [o1 2 (.mv (.c .nils))]) (.keep [0]))
  (.seq (.seq (.ops [o1 5 (.bsl [] 0 []),
    o1 3 (.mv (.t 5))]) (.keep [0, 3]))
  (.seq (.seq (.ops [o1 4 (.mv (.c (.I 0)))])
  (.seq (.block 0 (.seq (.keep [0, 3, 4]) (.loop c_sl91Vars_l0))) (.keep [0, 3])))
  (.seq (.seq (.seq (.ops [o1 15 (.mv (.t 0)),
    o1 16 (.call f_sl6Rd_pick [(.t 15), (.c (.I 40))])]) (.keep [3, 16]))
  (.seq (.block 2 (.seq (.seq (.ops [o1 18 (.bin .eql (.t 16) (.c (.I 0))),
    o1 17 (.mv (.t 18))]) (.keep [3, 16, 17]))
  (.seq (.cond (.t 17)
  (.seq (.ops [o1 19 (.mv (.t 3)),
    o1 20 (.bsl [(.I 0)] 1 [(0, 1, (.c (.I 1)))]),
    o1 21 (.app 1 (.t 19) (.t 20)),
    o1 3 (.mv (.t 21))]) (.keep [3]))
  (.seq (.seq (.ops [o1 23 (.bin .eql (.t 16) (.c (.I 1))),
    o1 22 (.mv (.t 23))]) (.keep [3, 22]))
  (.seq (.cond (.t 22)
  (.seq (.ops [o1 24 (.mv (.t 3)),
    o1 25 (.idxA 1 (.t 24) (.c (.I 0))),
    o0 (.store 1 (.t 25) (.c (.I 2147483648)))]) (.keep [3]))
  (.skip)) (.keep [3])))) (.keep [3])))) (.keep [3])))
  (.seq (.seq (.ops [o1 26 (.mv (.t 3)),
    o1 2 (.mv (.t 26))]) (.keep [2]))
  (.ret))))), [.t 2]⟩

/- loop.example/cothreads/impl.areWords -/
def c_iareWords_l0 : AC := .seq (.seq (.ops [o1 8 (.bin .lss (.t 7) (.t 6))])
  (.seq (.seq (.cond (.t 8)
  (.skip)
  (.exit 0)) (.keep [5, 6, 7]))
  (.seq (.seq (.block 1 (.seq (.seq (.ops [o1 9 (.idxA 1 (.t 5) (.t 7)),
    o1 10 (.load (.t 9)),
    o1 4 (.mv (.t 10))]) (.keep [4, 5, 6, 7]))
  (.seq (.seq (.ops [o1 11 (.mv (.t 4)),
    o1 12 (.call f_iWordValid [(.t 11)]),
    o1 13 (.un .not (.t 12))]) (.keep [5, 6, 7, 13]))
  (.seq (.cond (.t 13)
  (.seq (.ops [o1 2 (.mv (.c (.b false)))])
  (.ret))
  (.skip)) (.keep [5, 6, 7]))))) (.keep [5, 6, 7]))
  (.seq (.ops [o1 14 (.bin .add (.t 7) (.c (.I 1))),
    o1 7 (.mv (.t 14))]) (.keep [5, 6, 7]))))) (.keep [5, 6, 7])
def c_iareWords : AFn := ⟨1, .seq (.seq (.ops [o1 2 (.mv (.c (.b false)))]) (.keep [0]))
  (.seq (.seq (.ops [o1 5 (.mv (.t 0)),
    o1 6 (.len (.t 5)),
    o1 7 (.mv (.c (.I 0)))])
  (.seq (.block 0 (.seq (.keep [5, 6, 7]) (.loop c_iareWords_l0))) (.keep [])))
  (.seq (.ops [o1 2 (.mv (.c (.b true)))])
  (.ret))), [.t 2]⟩

/- loop.example/cothreads/impl.exprEval -/
def c_iexprEval : AFn := ⟨2, .seq (.seq (.ops [o1 4 (.mv (.c (.I 0)))]) (.keep [0, 1]))
  (.seq (.seq (.seq (.ops [o1 5 (.mv (.t 0)),
    o1 6 (.nilc (.t 5)),
    o1 7 (.fldA 0 (.t 6)),
    o1 8 (.load (.t 7))]) (.keep [0, 1, 8]))
  (.seq (.block 0 (.seq (.seq (.ops [o1 10 (.bin .eql (.t 8) (.c (.I 0))),
    o1 9 (.mv (.t 10))]) (.keep [0, 1, 8, 9]))
  (.seq (.cond (.t 9)
  (.seq (.seq (.ops [o1 11 (.mv (.t 0)),
    o1 12 (.nilc (.t 11)),
    o1 13 (.fldA 1 (.t 12)),
    o1 14 (.load (.t 13)),
    o1 4 (.mv (.t 14))]) (.keep [4]))
  (.ret))
  (.seq (.seq (.ops [o1 16 (.bin .eql (.t 8) (.c (.I 13))),
    o1 15 (.mv (.t 16))]) (.keep [0, 1, 15]))
  (.seq (.cond (.t 15)
  (.seq (.seq (.ops [o1 17 (.mv (.t 1)),
    o1 18 (.mv (.t 0)),
    o1 19 (.nilc (.t 18)),
    o1 20 (.fldA 1 (.t 19)),
    o1 21 (.load (.t 20)),
    o1 22 (.idxA 1 (.t 17) (.t 21)),
    o1 23 (.load (.t 22)),
    o1 4 (.mv (.t 23))]) (.keep [4]))
  (.ret))
  (.skip)) (.keep [0, 1])))) (.keep [0, 1])))) (.keep [0, 1])))
  (.seq (.seq (.ops [o1 24 (.mv (.t 0)),
    o1 25 (.nilc (.t 24)),
    o1 26 (.fldA 0 (.t 25)),
    o1 27 (.load (.t 26)),
    o1 28 (.mv (.t 0)),
    o1 29 (.nilc (.t 28)),
    o1 30 (.fldA 2 (.t 29)),
    o1 31 (.load (.t 30)),
    o1 32 (.idxA 3 (.t 31) (.c (.I 0))),
    o1 33 (.mv (.t 1)),
    ⟨some 34, none, [], true, .call f_iexprEval [(.t 32), (.t 33)]⟩,
    o1 35 (.mv (.t 0)),
    o1 36 (.nilc (.t 35)),
    o1 37 (.fldA 2 (.t 36)),
    o1 38 (.load (.t 37)),
    o1 39 (.idxA 3 (.t 38) (.c (.I 1))),
    o1 40 (.mv (.t 1)),
    ⟨some 41, none, [], true, .call f_iexprEval [(.t 39), (.t 40)]⟩,
    ⟨some 42, none, [], true, .call f_iapply [(.t 27), (.t 34), (.t 41)]⟩,
    o1 4 (.mv (.t 42))]) (.keep [4]))
  (.ret))), [.t 4]⟩

/- loop.example/cothreads/impl.ThreadValid -/
def c_iThreadValid : AFn := ⟨2, .seq (.seq (.ops [o1 2 (.box (.t 0)),
    o1 4 (.mv (.c (.b false)))]) (.keep [1, 2]))
  (.seq (.seq (.ops [o1 5 (.mv (.t 1)),
    o1 6 (.call f_iCodeValid [(.t 5)]),
    o1 7 (.mv (.t 6)),
    ⟨some 8, (some (7, true)), [], false, .loadN 2 (.t 2)⟩,
    ⟨some 9, (some (7, true)), [], false, .mv (.t 1)⟩,
    ⟨some 10, (some (7, true)), [], false, .call f_ithreadFits [(.t 8), (.t 9)]⟩,
    o1 11 (.pick (.t 7) (.t 10) (.c (.b false))),
    o1 4 (.mv (.t 11))]) (.keep [4]))
  (.ret)), [.t 4]⟩

/- loop.example/cothreads/impl.boxesValid -/
def c_iboxesValid_l0 : AC := .seq (.seq (.ops [o1 8 (.bin .lss (.t 7) (.t 6))])
  (.seq (.seq (.cond (.t 8)
  (.skip)
  (.exit 0)) (.keep [0, 5, 6, 7]))
  (.seq (.seq (.block 1 (.seq (.seq (.ops [o1 9 (.idxA 2 (.t 5) (.t 7)),
    o1 10 (.loadN 2 (.t 9)),
    o1 4 (.alloc [(.I 0), .nils]),
    o0 (.store 2 (.t 4) (.t 10))]) (.keep [0, 4, 5, 6, 7]))
  (.seq (.seq (.ops [o1 11 (.loadN 2 (.t 4)),
    o1 12 (.call f_iBoxValid [(.t 11)]),
    o1 13 (.un .not (.t 12))]) (.keep [0, 5, 6, 7, 13]))
  (.seq (.cond (.t 13)
  (.seq (.ops [o1 2 (.mv (.c (.b false)))])
  (.ret))
  (.skip)) (.keep [0, 5, 6, 7]))))) (.keep [0, 5, 6, 7]))
  (.seq (.ops [o1 14 (.bin .add (.t 7) (.c (.I 1))),
    o1 7 (.mv (.t 14))]) (.keep [0, 5, 6, 7]))))) (.keep [0, 5, 6, 7])
def c_iboxesValid : AFn := ⟨1, .seq (.seq (.ops [o1 2 (.mv (.c (.b false)))]) (.keep [0]))
  (.seq (.seq (.ops [o1 5 (.mv (.t 0)),
    o1 6 (.len (.t 5)),
    o1 7 (.mv (.c (.I 0)))])
  (.seq (.block 0 (.seq (.keep [0, 5, 6, 7]) (.loop c_iboxesValid_l0))) (.keep [0])))
  (.seq (.seq (.ops [o1 15 (.mv (.t 0)),
    o1 16 (.len (.t 15)),
    o1 17 (.bin .leq (.t 16) (.c (.I 3))),
    o1 2 (.mv (.t 17))]) (.keep [2]))
  (.ret))), [.t 2]⟩

/- loop.example/cothreads/impl.boxThere -/
def c_iboxThere : AFn := ⟨2, .seq (.seq (.ops [o1 2 (.box (.t 0)),
    o1 4 (.mv (.c (.b false)))]) (.keep [1, 2]))
  (.seq (.seq (.ops [o1 5 (.fldA 0 (.t 2)),
    o1 6 (.load (.t 5)),
    o1 7 (.bin .neq (.t 6) (.c (.I 6))),
    o1 8 (.mv (.t 7)),
    ⟨some 9, (some (8, true)), [], false, .fldA 0 (.t 2)⟩,
    ⟨some 10, (some (8, true)), [], false, .load (.t 9)⟩,
    ⟨some 11, (some (8, true)), [], false, .bin .neq (.t 10) (.c (.I 7))⟩,
    o1 12 (.pick (.t 8) (.t 11) (.c (.b false))),
    o1 13 (.mv (.t 12)),
    ⟨some 14, (some (13, false)), [], false, .fldA 4 (.t 2)⟩,
    ⟨some 15, (some (13, false)), [], false, .load (.t 14)⟩,
    ⟨some 16, (some (13, false)), [], false, .mv (.t 1)⟩,
    ⟨some 17, (some (13, false)), [], false, .bin .lss (.t 15) (.t 16)⟩,
    o1 18 (.pick (.t 13) (.c (.b true)) (.t 17)),
    o1 4 (.mv (.t 18))]) (.keep [4]))
  (.ret)), [.t 4]⟩

/- slices.Clone[[]int,int] -/
def c_slices_Clone_int_int : AFn := ⟨1, .seq (.seq (.ops [o1 2 (.mv (.c .nils))]) (.keep [0]))
  (.seq (.seq (.seq (.ops [o1 3 (.mv (.t 0)),
    o1 4 (.eqN 0 false (.t 3) (.c .nils))]) (.keep [0, 4]))
  (.seq (.cond (.t 4)
  (.seq (.ops [o1 2 (.mv (.c .nils))])
  (.ret))
  (.skip)) (.keep [0])))
  (.seq (.seq (.ops [o1 5 (.bsl [] 0 []),
    o1 6 (.mv (.t 0)),
    o1 7 (.app 1 (.t 5) (.t 6)),
    o1 2 (.mv (.t 7))]) (.keep [2]))
  (.ret))), [.t 2]⟩

/- loop.example/cothreads/impl.boxesCopy -/
def c_iboxesCopy_l0 : AC := .seq (.seq (.ops [o1 9 (.bin .lss (.t 8) (.t 7))])
  (.seq (.seq (.cond (.t 9)
  (.skip)
  (.exit 0)) (.keep [3, 6, 7, 8]))
  (.seq (.seq (.block 1 (.seq (.seq (.ops [o1 10 (.idxA 2 (.t 6) (.t 8)),
    o1 11 (.loadN 2 (.t 10)),
    o1 5 (.alloc [(.I 0), .nils]),
    o0 (.store 2 (.t 5) (.t 11))]) (.keep [3, 5, 6, 7, 8]))
  (.seq (.ops [o1 12 (.mv (.t 3)),
    o1 13 (.fldA 0 (.t 5)),
    o1 14 (.load (.t 13)),
    o1 15 (.fldA 1 (.t 5)),
    o1 16 (.load (.t 15)),
    ⟨some 17, none, [], true, .call f_slices_Clone_int_int [(.t 16)]⟩,
    o1 18 (.build [(.I 0), .nils] [(0, 1, (.t 14)), (1, 1, (.t 17))]),
    o1 19 (.bsl [(.I 0), .nils] 1 [(0, 2, (.t 18))]),
    o1 20 (.app 2 (.t 12) (.t 19)),
    o1 3 (.mv (.t 20))]) (.keep [3, 6, 7, 8])))) (.keep [3, 6, 7, 8]))
  (.seq (.ops [o1 21 (.bin .add (.t 8) (.c (.I 1))),
    o1 8 (.mv (.t 21))]) (.keep [3, 6, 7, 8]))))) (.keep [3, 6, 7, 8])
def c_iboxesCopy : AFn := ⟨1, .seq (.seq (.ops [o1 2 (.mv (.c .nils))]) (.keep [0]))
  (.seq (.ops [o1 3 (.mv (.c .nils))])
  (.seq (.seq (.ops [o1 6 (.mv (.t 0)),
    o1 7 (.len (.t 6)),
    o1 8 (.mv (.c (.I 0)))])
  (.seq (.block 0 (.seq (.keep [3, 6, 7, 8]) (.loop c_iboxesCopy_l0))) (.keep [3])))
  (.seq (.seq (.ops [o1 22 (.mv (.t 3)),
    o1 2 (.mv (.t 22))]) (.keep [2]))
  (.ret)))), [.t 2]⟩

/- (*loop.example/cothreads/impl.Thread).step -/
def c_iThread_step : AFn := ⟨4, .seq (.seq (.ops [o1 8 (.mv (.c (.I 0)))]) (.keep [0, 1, 2, 3]))
  (.seq (.seq (.ops [o1 13 (.mv (.t 1)),
    o1 14 (.mv (.t 0)),
    o1 15 (.nilc (.t 14)),
    o1 16 (.fldA 1 (.t 15)),
    o1 17 (.load (.t 16)),
    o1 18 (.idxA 5 (.t 13) (.t 17)),
    o1 19 (.loadN 5 (.t 18)),
    o1 9 (.alloc [(.I 0), (.I 0), (.I 0), (.I 0), (.I 0)]),
    o0 (.store 5 (.t 9) (.t 19))]) (.keep [0, 2, 3, 9]))
  (.seq (.seq (.ops [o1 20 (.mv (.t 0)),
    o1 21 (.nilc (.t 20)),
    o1 22 (.fldA 1 (.t 21)),
    o1 23 (.load (.t 22)),
    o1 24 (.bin .add (.t 23) (.c (.I 1))),
    o1 10 (.mv (.t 24))]) (.keep [0, 2, 3, 9, 10]))
  (.seq (.seq (.seq (.ops [o1 25 (.fldA 0 (.t 9)),
    o1 26 (.load (.t 25))]) (.keep [0, 2, 3, 9, 10, 26]))
  (.seq (.block 0 (.seq (.seq (.ops [o1 28 (.bin .eql (.t 26) (.c (.I 1))),
    o1 27 (.mv (.t 28))]) (.keep [0, 2, 3, 9, 10, 26, 27]))
  (.seq (.cond (.t 27)
  (.seq (.ops [o1 29 (.mv (.t 0)),
    o1 30 (.nilc (.t 29)),
    o1 31 (.fldA 0 (.t 30)),
    o1 32 (.load (.t 31)),
    o1 33 (.fldA 1 (.t 9)),
    o1 34 (.load (.t 33)),
    o1 35 (.fldA 4 (.t 9)),
    o1 36 (.load (.t 35)),
    o1 37 (.idxA 1 (.t 32) (.t 34)),
    o0 (.store 1 (.t 37) (.t 36))]) (.keep [0, 10]))
  (.seq (.seq (.ops [o1 39 (.bin .eql (.t 26) (.c (.I 2))),
    o1 38 (.mv (.t 39))]) (.keep [0, 2, 3, 9, 10, 26, 38]))
  (.seq (.cond (.t 38)
  (.seq (.ops [o1 40 (.mv (.t 0)),
    o1 41 (.nilc (.t 40)),
    o1 42 (.fldA 0 (.t 41)),
    o1 43 (.load (.t 42)),
    o1 44 (.fldA 1 (.t 9)),
    o1 45 (.load (.t 44)),
    o1 46 (.mv (.t 0)),
    o1 47 (.nilc (.t 46)),
    o1 48 (.fldA 0 (.t 47)),
    o1 49 (.load (.t 48)),
    o1 50 (.fldA 2 (.t 9)),
    o1 51 (.load (.t 50)),
    o1 52 (.idxA 1 (.t 49) (.t 51)),
    o1 53 (.load (.t 52)),
    o1 54 (.idxA 1 (.t 43) (.t 45)),
    o0 (.store 1 (.t 54) (.t 53))]) (.keep [0, 10]))
  (.seq (.seq (.ops [o1 56 (.bin .eql (.t 26) (.c (.I 3))),
    o1 55 (.mv (.t 56))]) (.keep [0, 2, 3, 9, 10, 26, 55]))
  (.seq (.cond (.t 55)
  (.seq (.ops [o1 57 (.mv (.t 0)),
    o1 58 (.nilc (.t 57)),
    o1 59 (.fldA 0 (.t 58)),
    o1 60 (.load (.t 59)),
    o1 61 (.fldA 1 (.t 9)),
    o1 62 (.load (.t 61)),
    o1 63 (.fldA 4 (.t 9)),
    o1 64 (.load (.t 63)),
    o1 65 (.mv (.t 0)),
    o1 66 (.nilc (.t 65)),
    o1 67 (.fldA 0 (.t 66)),
    o1 68 (.load (.t 67)),
    o1 69 (.fldA 2 (.t 9)),
    o1 70 (.load (.t 69)),
    o1 71 (.idxA 1 (.t 68) (.t 70)),
    o1 72 (.load (.t 71)),
    o1 73 (.mv (.t 0)),
    o1 74 (.nilc (.t 73)),
    o1 75 (.fldA 0 (.t 74)),
    o1 76 (.load (.t 75)),
    o1 77 (.fldA 3 (.t 9)),
    o1 78 (.load (.t 77)),
    o1 79 (.idxA 1 (.t 76) (.t 78)),
    o1 80 (.load (.t 79)),
    ⟨some 81, none, [], true, .call f_iapply [(.t 64), (.t 72), (.t 80)]⟩,
    o1 82 (.idxA 1 (.t 60) (.t 62)),
    o0 (.store 1 (.t 82) (.t 81))]) (.keep [0, 10]))
  (.seq (.seq (.ops [o1 84 (.bin .eql (.t 26) (.c (.I 4))),
    o1 83 (.mv (.t 84))]) (.keep [0, 2, 3, 9, 10, 26, 83]))
  (.seq (.cond (.t 83)
  (.seq (.ops [o1 85 (.fldA 4 (.t 9)),
    o1 86 (.load (.t 85)),
    o1 10 (.mv (.t 86))]) (.keep [0, 10]))
  (.seq (.seq (.ops [o1 88 (.bin .eql (.t 26) (.c (.I 5))),
    o1 87 (.mv (.t 88))]) (.keep [0, 2, 3, 9, 10, 26, 87]))
  (.seq (.cond (.t 87)
  (.seq (.seq (.ops [o1 89 (.mv (.t 0)),
    o1 90 (.nilc (.t 89)),
    o1 91 (.fldA 0 (.t 90)),
    o1 92 (.load (.t 91)),
    o1 93 (.fldA 2 (.t 9)),
    o1 94 (.load (.t 93)),
    o1 95 (.idxA 1 (.t 92) (.t 94)),
    o1 96 (.load (.t 95)),
    o1 97 (.bin .eql (.t 96) (.c (.I 0)))]) (.keep [0, 9, 10, 97]))
  (.seq (.cond (.t 97)
  (.seq (.ops [o1 98 (.fldA 4 (.t 9)),
    o1 99 (.load (.t 98)),
    o1 10 (.mv (.t 99))]) (.keep [0, 10]))
  (.skip)) (.keep [0, 10])))
  (.seq (.seq (.ops [o1 101 (.bin .eql (.t 26) (.c (.I 6))),
    o1 100 (.mv (.t 101))]) (.keep [0, 2, 3, 9, 10, 26, 100]))
  (.seq (.cond (.t 100)
  (.seq (.seq (.ops [o1 102 (.mv (.t 2)),
    o1 103 (.fldA 4 (.t 9)),
    o1 104 (.load (.t 103)),
    o1 105 (.idxA 2 (.t 102) (.t 104)),
    o1 106 (.mv (.t 0)),
    o1 107 (.nilc (.t 106)),
    o1 108 (.fldA 0 (.t 107)),
    o1 109 (.load (.t 108)),
    o1 110 (.fldA 2 (.t 9)),
    o1 111 (.load (.t 110)),
    o1 112 (.idxA 1 (.t 109) (.t 111)),
    o1 113 (.load (.t 112)),
    o1 114 (.call f_iBox_put [(.t 105), (.t 113)]),
    o1 115 (.un .not (.t 114))]) (.keep [0, 10, 115]))
  (.seq (.cond (.t 115)
  (.seq (.ops [o1 8 (.mv (.c (.I 3)))])
  (.ret))
  (.skip)) (.keep [0, 10])))
  (.seq (.seq (.ops [o1 117 (.bin .eql (.t 26) (.c (.I 7))),
    o1 116 (.mv (.t 117))]) (.keep [0, 2, 3, 9, 10, 26, 116]))
  (.seq (.cond (.t 116)
  (.seq (.seq (.ops [o1 119 (.mv (.t 2)),
    o1 120 (.fldA 4 (.t 9)),
    o1 121 (.load (.t 120)),
    o1 122 (.idxA 2 (.t 119) (.t 121)),
    o1 123 (.call f_iBox_take [(.t 122)]),
    o1 118 (.mv (.t 123)),
    o1 124 (.ext (.t 118) 0),
    o1 125 (.ext (.t 118) 1),
    o1 11 (.mv (.t 124)),
    o1 12 (.mv (.t 125))]) (.keep [0, 9, 10, 11, 12]))
  (.seq (.seq (.seq (.ops [o1 126 (.mv (.t 12)),
    o1 127 (.un .not (.t 126))]) (.keep [0, 9, 10, 11, 127]))
  (.seq (.cond (.t 127)
  (.seq (.ops [o1 8 (.mv (.c (.I 3)))])
  (.ret))
  (.skip)) (.keep [0, 9, 10, 11])))
  (.seq (.ops [o1 128 (.mv (.t 0)),
    o1 129 (.nilc (.t 128)),
    o1 130 (.fldA 0 (.t 129)),
    o1 131 (.load (.t 130)),
    o1 132 (.fldA 1 (.t 9)),
    o1 133 (.load (.t 132)),
    o1 134 (.mv (.t 11)),
    o1 135 (.idxA 1 (.t 131) (.t 133)),
    o0 (.store 1 (.t 135) (.t 134))]) (.keep [0, 10]))))
  (.seq (.seq (.ops [o1 137 (.bin .eql (.t 26) (.c (.I 8))),
    o1 136 (.mv (.t 137))]) (.keep [0, 3, 9, 10, 26, 136]))
  (.seq (.cond (.t 136)
  (.seq (.seq (.ops [o1 138 (.mv (.t 0)),
    o1 139 (.mv (.t 10)),
    o1 140 (.nilc (.t 138)),
    o1 141 (.fldA 1 (.t 140)),
    o0 (.store 1 (.t 141) (.t 139))]) (.keep []))
  (.seq (.ops [o1 8 (.mv (.c (.I 2)))])
  (.ret)))
  (.seq (.seq (.ops [o1 143 (.bin .eql (.t 26) (.c (.I 9))),
    o1 142 (.mv (.t 143))]) (.keep [0, 3, 9, 10, 26, 142]))
  (.seq (.cond (.t 142)
  (.seq (.ops [o1 144 (.mv (.t 3)),
    o1 145 (.mv (.t 3)),
    o1 146 (.nilc (.t 145)),
    o1 147 (.load (.t 146)),
    o1 148 (.mv (.t 0)),
    o1 149 (.nilc (.t 148)),
    o1 150 (.fldA 0 (.t 149)),
    o1 151 (.load (.t 150)),
    o1 152 (.fldA 2 (.t 9)),
    o1 153 (.load (.t 152)),
    o1 154 (.idxA 1 (.t 151) (.t 153)),
    o1 155 (.load (.t 154)),
    o1 156 (.bsl [(.I 0)] 1 [(0, 1, (.t 155))]),
    o1 157 (.app 1 (.t 147) (.t 156)),
    o1 158 (.nilc (.t 144)),
    o0 (.store 1 (.t 158) (.t 157))]) (.keep [0, 10]))
  (.seq (.seq (.ops [o1 160 (.bin .eql (.t 26) (.c (.I 10))),
    o1 159 (.mv (.t 160))]) (.keep [0, 10, 159]))
  (.seq (.cond (.t 159)
  (.seq (.ops [o1 8 (.mv (.c (.I 4)))])
  (.ret))
  (.skip)) (.keep [0, 10])))) (.keep [0, 10])))) (.keep [0, 10])))) (.keep [0, 10])))) (.keep [0, 10])))) (.keep [0, 10])))) (.keep [0, 10])))) (.keep [0, 10])))) (.keep [0, 10])))) (.keep [0, 10])))) (.keep [0, 10])))
  (.seq (.seq (.ops [o1 161 (.mv (.t 0)),
    o1 162 (.mv (.t 10)),
    o1 163 (.nilc (.t 161)),
    o1 164 (.fldA 1 (.t 163)),
    o0 (.store 1 (.t 164) (.t 162))]) (.keep []))
  (.seq (.ops [o1 8 (.mv (.c (.I 1)))])
  (.ret)))))), [.t 8]⟩

/- loop.example/cothreads/spec.l91Expr -/
def c_sl91Expr : AFn := ⟨2, .seq (.ops [o1 4 (.alloc [(.I 0), (.I 0), .nils])])
  (.seq (.seq (.seq (.ops [o1 7 (.mv (.t 1)),
    o1 8 (.bin .lss (.t 7) (.c (.I 2))),
    o1 9 (.mv (.t 8)),
    ⟨some 10, (some (9, false)), [], false, .mv (.t 0)⟩,
    ⟨some 11, (some (9, false)), [], false, .call f_sl6Rd_pick [(.t 10), (.c (.I 3))]⟩,
    ⟨some 12, (some (9, false)), [], false, .bin .eql (.t 11) (.c (.I 0))⟩,
    o1 13 (.pick (.t 9) (.c (.b true)) (.t 12))]) (.keep [0, 1, 4, 13]))
  (.seq (.cond (.t 13)
  (.seq (.seq (.ops [o1 14 (.mv (.t 0)),
    o1 15 (.call f_sl91Leaf [(.t 14)]),
    o0 (.store 3 (.t 4) (.t 15))]) (.keep [4]))
  (.ret))
  (.skip)) (.keep [0, 1, 4])))
  (.seq (.seq (.ops [o1 16 (.mv (.t 0)),
    o1 17 (.call f_sl91Op [(.t 16)]),
    o1 5 (.mv (.t 17))]) (.keep [0, 1, 4, 5]))
  (.seq (.seq (.ops [o1 18 (.mv (.t 0)),
    o1 19 (.mv (.t 1)),
    o1 20 (.bin .sub (.t 19) (.c (.I 1))),
    o1 21 (.call f_sl91Expr [(.t 18), (.t 20)]),
    o1 6 (.alloc [(.I 0), (.I 0), .nils]),
    o0 (.store 3 (.t 6) (.t 21))]) (.keep [0, 1, 4, 5, 6]))
  (.seq (.seq (.ops [o1 22 (.mv (.t 5)),
    o1 23 (.loadN 3 (.t 6)),
    o1 24 (.mv (.t 0)),
    o1 25 (.mv (.t 1)),
    o1 26 (.bin .sub (.t 25) (.c (.I 1))),
    ⟨some 27, none, [(.t 6)], false, .call f_sl91Expr [(.t 24), (.t 26)]⟩,
    ⟨some 28, none, [], true, .call f_sl4Both [(.t 22), (.t 23), (.t 27)]⟩,
    o0 (.store 3 (.t 4) (.t 28))]) (.keep [4]))
  (.ret))))), [.c 4 3]⟩

/- loop.example/cothreads/spec.l91Leaf -/
def c_sl91Leaf : AFn := ⟨1, .seq (.ops [o1 2 (.alloc [(.I 0), (.I 0), .nils])])
  (.seq (.seq (.seq (.ops [o1 3 (.mv (.t 0)),
    o1 4 (.call f_sl6Rd_pick [(.t 3), (.c (.I 4))])]) (.keep [0, 2, 4]))
  (.seq (.block 0 (.seq (.seq (.ops [o1 6 (.bin .eql (.t 4) (.c (.I 0))),
    o1 5 (.mv (.t 6))]) (.keep [0, 2, 4, 5]))
  (.seq (.cond (.t 5)
  (.seq (.seq (.ops [o1 7 (.mv (.t 0)),
    o1 8 (.call f_sl6Rd_pick [(.t 7), (.c (.I 4))]),
    o1 9 (.call f_sl4Leaf [(.c (.I 0)), (.t 8)]),
    o0 (.store 3 (.t 2) (.t 9))]) (.keep [2]))
  (.ret))
  (.seq (.seq (.ops [o1 11 (.bin .eql (.t 4) (.c (.I 1))),
    o1 10 (.mv (.t 11))]) (.keep [0, 2, 10]))
  (.seq (.cond (.t 10)
  (.seq (.seq (.ops [o1 12 (.bsl [(.I 0), (.I 0), (.I 0), (.I 0), (.I 0), (.I 0), (.I 0), (.I 0)] 8 [(0, 1, (.c (.I 5))), (1, 1, (.c (.I 31))), (2, 1, (.c (.I 32))), (3, 1, (.c (.I 100))), (4, 1, (.c (.I 2047))), (5, 1, (.c (.I 2048))), (6, 1, (.c (.I 65536))), (7, 1, (.c (.I 99999)))]),
    o1 13 (.mv (.t 0)),
    o1 14 (.call f_sl6Rd_pick [(.t 13), (.c (.I 8))]),
    o1 15 (.idxA 1 (.t 12) (.t 14)),
    o1 16 (.load (.t 15)),
    o1 17 (.call f_sl4Leaf [(.c (.I 0)), (.t 16)]),
    o0 (.store 3 (.t 2) (.t 17))]) (.keep [2]))
  (.ret))
  (.skip)) (.keep [0, 2])))) (.keep [0, 2])))) (.keep [0, 2])))
  (.seq (.seq (.ops [o1 18 (.mv (.t 0)),
    o1 19 (.call f_sl6Rd_pick [(.t 18), (.c (.I 4))]),
    o1 20 (.call f_sl4Leaf [(.c (.I 13)), (.t 19)]),
    o0 (.store 3 (.t 2) (.t 20))]) (.keep [2]))
  (.ret))), [.c 2 3]⟩

/- loop.example/cothreads/spec.l4Both -/
def c_sl4Both : AFn := ⟨3, .seq (.ops [o1 4 (.box (.t 1)),
    o1 5 (.box (.t 2)),
    o1 6 (.alloc [(.I 0), (.I 0), .nils])])
  (.seq (.seq (.ops [o1 7 (.mv (.t 0)),
    o1 8 (.loadN 3 (.t 4)),
    o1 9 (.loadN 3 (.t 5)),
    o1 10 (.bsl [(.I 0), (.I 0), .nils, (.I 0), (.I 0), .nils] 2 [(0, 3, (.t 8)), (3, 3, (.t 9))]),
    o1 11 (.build [(.I 0), (.I 0), .nils] [(0, 1, (.t 7)), (2, 1, (.t 10))]),
    o0 (.store 3 (.t 6) (.t 11))]) (.keep [6]))
  (.ret)), [.c 6 3]⟩

/- loop.example/cothreads/spec.l91Op -/
def c_sl91Op : AFn := ⟨1, .seq (.seq (.ops [o1 2 (.mv (.c (.I 0)))]) (.keep [0]))
  (.seq (.seq (.ops [o1 3 (.mv (.t 0)),
    o1 4 (.call f_sl6Rd_pick [(.t 3), (.c (.I 12))]),
    o1 5 (.bin .add (.c (.I 1)) (.t 4)),
    o1 2 (.mv (.t 5))]) (.keep [2]))
  (.ret)), [.t 2]⟩

/- loop.example/cothreads/spec.l4Leaf -/
def c_sl4Leaf : AFn := ⟨2, .seq (.ops [o1 4 (.alloc [(.I 0), (.I 0), .nils])])
  (.seq (.seq (.ops [o1 5 (.mv (.t 0)),
    o1 6 (.mv (.t 1)),
    o1 7 (.bsl [] 0 []),
    o1 8 (.build [(.I 0), (.I 0), .nils] [(0, 1, (.t 5)), (1, 1, (.t 6)), (2, 1, (.t 7))]),
    o0 (.store 3 (.t 4) (.t 8))]) (.keep [4]))
  (.ret)), [.c 4 3]⟩

/- loop.example/cothreads/impl.exprValid -/
def c_iexprValid : AFn := ⟨2, .seq (.seq (.ops [o1 2 (.box (.t 0)),
    o1 4 (.mv (.c (.b false)))]) (.keep [1, 2]))
  (.seq (.seq (.block 0 (.seq (.seq (.ops [o1 6 (.fldA 0 (.t 2)),
    o1 7 (.load (.t 6)),
    o1 8 (.bin .eql (.t 7) (.c (.I 0))),
    o1 5 (.mv (.t 8))]) (.keep [1, 2, 5]))
  (.seq (.cond (.t 5)
  (.seq (.seq (.ops [o1 9 (.fldA 1 (.t 2)),
    o1 10 (.load (.t 9)),
    o1 11 (.bin .geq (.t 10) (.c (.I 0))),
    o1 12 (.mv (.t 11)),
    ⟨some 13, (some (12, true)), [], false, .fldA 1 (.t 2)⟩,
    ⟨some 14, (some (12, true)), [], false, .load (.t 13)⟩,
    ⟨some 15, (some (12, true)), [], false, .bin .leq (.t 14) (.c (.I 99999))⟩,
    o1 16 (.pick (.t 12) (.t 15) (.c (.b false))),
    o1 17 (.mv (.t 16)),
    ⟨some 18, (some (17, true)), [], false, .fldA 2 (.t 2)⟩,
    ⟨some 19, (some (17, true)), [], false, .load (.t 18)⟩,
    ⟨some 20, (some (17, true)), [], false, .len (.t 19)⟩,
    ⟨some 21, (some (17, true)), [], false, .bin .eql (.t 20) (.c (.I 0))⟩,
    o1 22 (.pick (.t 17) (.t 21) (.c (.b false))),
    o1 23 (.mv (.t 22)),
    ⟨some 24, (some (23, true)), [], false, .mv (.t 1)⟩,
    ⟨some 25, (some (23, true)), [], false, .bin .gtr (.t 24) (.c (.I 0))⟩,
    o1 26 (.pick (.t 23) (.t 25) (.c (.b false))),
    o1 4 (.mv (.t 26))]) (.keep [4]))
  (.ret))
  (.seq (.seq (.ops [o1 28 (.fldA 0 (.t 2)),
    o1 29 (.load (.t 28)),
    o1 30 (.bin .eql (.t 29) (.c (.I 13))),
    o1 27 (.mv (.t 30))]) (.keep [1, 2, 27]))
  (.seq (.cond (.t 27)
  (.seq (.seq (.ops [o1 31 (.fldA 1 (.t 2)),
    o1 32 (.load (.t 31)),
    o1 33 (.bin .geq (.t 32) (.c (.I 0))),
    o1 34 (.mv (.t 33)),
    ⟨some 35, (some (34, true)), [], false, .fldA 1 (.t 2)⟩,
    ⟨some 36, (some (34, true)), [], false, .load (.t 35)⟩,
    ⟨some 37, (some (34, true)), [], false, .bin .lss (.t 36) (.c (.I 4))⟩,
    o1 38 (.pick (.t 34) (.t 37) (.c (.b false))),
    o1 39 (.mv (.t 38)),
    ⟨some 40, (some (39, true)), [], false, .fldA 2 (.t 2)⟩,
    ⟨some 41, (some (39, true)), [], false, .load (.t 40)⟩,
    ⟨some 42, (some (39, true)), [], false, .len (.t 41)⟩,
    ⟨some 43, (some (39, true)), [], false, .bin .eql (.t 42) (.c (.I 0))⟩,
    o1 44 (.pick (.t 39) (.t 43) (.c (.b false))),
    o1 45 (.mv (.t 44)),
    ⟨some 46, (some (45, true)), [], false, .mv (.t 1)⟩,
    ⟨some 47, (some (45, true)), [], false, .bin .gtr (.t 46) (.c (.I 0))⟩,
    o1 48 (.pick (.t 45) (.t 47) (.c (.b false))),
    o1 4 (.mv (.t 48))]) (.keep [4]))
  (.ret))
  (.skip)) (.keep [1, 2])))) (.keep [1, 2])))) (.keep [1, 2]))
  (.seq (.seq (.ops [o1 49 (.fldA 0 (.t 2)),
    o1 50 (.load (.t 49)),
    o1 51 (.call f_iOpValid [(.t 50)]),
    o1 52 (.mv (.t 51)),
    ⟨some 53, (some (52, true)), [], false, .fldA 1 (.t 2)⟩,
    ⟨some 54, (some (52, true)), [], false, .load (.t 53)⟩,
    ⟨some 55, (some (52, true)), [], false, .bin .eql (.t 54) (.c (.I 0))⟩,
    o1 56 (.pick (.t 52) (.t 55) (.c (.b false))),
    o1 57 (.mv (.t 56)),
    ⟨some 58, (some (57, true)), [], false, .fldA 2 (.t 2)⟩,
    ⟨some 59, (some (57, true)), [], false, .load (.t 58)⟩,
    ⟨some 60, (some (57, true)), [], false, .len (.t 59)⟩,
    ⟨some 61, (some (57, true)), [], false, .bin .eql (.t 60) (.c (.I 2))⟩,
    o1 62 (.pick (.t 57) (.t 61) (.c (.b false))),
    o1 63 (.mv (.t 62)),
    ⟨some 64, (some (63, true)), [], false, .mv (.t 1)⟩,
    ⟨some 65, (some (63, true)), [], false, .bin .gtr (.t 64) (.c (.I 1))⟩,
    o1 66 (.pick (.t 63) (.t 65) (.c (.b false))),
    o1 67 (.mv (.t 66)),
    ⟨some 68, (some (67, true)), [], false, .fldA 2 (.t 2)⟩,
    ⟨some 69, (some (67, true)), [], false, .load (.t 68)⟩,
    ⟨some 70, (some (67, true)), [], false, .idxA 3 (.t 69) (.c (.I 0))⟩,
    ⟨some 71, (some (67, true)), [], false, .loadN 3 (.t 70)⟩,
    ⟨some 72, (some (67, true)), [], false, .mv (.t 1)⟩,
    ⟨some 73, (some (67, true)), [], false, .bin .sub (.t 72) (.c (.I 1))⟩,
    ⟨some 74, (some (67, true)), [], false, .call f_iexprValid [(.t 71), (.t 73)]⟩,
    o1 75 (.pick (.t 67) (.t 74) (.c (.b false))),
    o1 76 (.mv (.t 75)),
    ⟨some 77, (some (76, true)), [], false, .fldA 2 (.t 2)⟩,
    ⟨some 78, (some (76, true)), [], false, .load (.t 77)⟩,
    ⟨some 79, (some (76, true)), [], false, .idxA 3 (.t 78) (.c (.I 1))⟩,
    ⟨some 80, (some (76, true)), [], false, .loadN 3 (.t 79)⟩,
    ⟨some 81, (some (76, true)), [], false, .mv (.t 1)⟩,
    ⟨some 82, (some (76, true)), [], false, .bin .sub (.t 81) (.c (.I 1))⟩,
    ⟨some 83, (some (76, true)), [], false, .call f_iexprValid [(.t 80), (.t 82)]⟩,
    o1 84 (.pick (.t 76) (.t 83) (.c (.b false))),
    o1 4 (.mv (.t 84))]) (.keep [4]))
  (.ret))), [.t 4]⟩

/- loop.example/cothreads/spec.l4Ok -/
def c_sl4Ok : AFn := ⟨2, .seq (.seq (.ops [o1 2 (.box (.t 0)),
    o1 4 (.mv (.c (.b false)))]) (.keep [1, 2]))
  (.seq (.seq (.seq (.ops [o1 5 (.mv (.t 1)),
    o1 6 (.bin .lss (.t 5) (.c (.I 1)))]) (.keep [1, 2, 6]))
  (.seq (.cond (.t 6)
  (.seq (.ops [o1 4 (.mv (.c (.b false)))])
  (.ret))
  (.skip)) (.keep [1, 2])))
  (.seq (.seq (.seq (.ops [o1 7 (.fldA 0 (.t 2)),
    o1 8 (.load (.t 7)),
    o1 9 (.bin .eql (.t 8) (.c (.I 0)))]) (.keep [1, 2, 9]))
  (.seq (.cond (.t 9)
  (.seq (.seq (.ops [o1 10 (.fldA 1 (.t 2)),
    o1 11 (.load (.t 10)),
    o1 12 (.call f_sl6In [(.t 11), (.c (.I 0)), (.c (.I 99999))]),
    o1 13 (.mv (.t 12)),
    ⟨some 14, (some (13, true)), [], false, .fldA 2 (.t 2)⟩,
    ⟨some 15, (some (13, true)), [], false, .load (.t 14)⟩,
    ⟨some 16, (some (13, true)), [], false, .len (.t 15)⟩,
    ⟨some 17, (some (13, true)), [], false, .bin .eql (.t 16) (.c (.I 0))⟩,
    o1 18 (.pick (.t 13) (.t 17) (.c (.b false))),
    o1 4 (.mv (.t 18))]) (.keep [4]))
  (.ret))
  (.skip)) (.keep [1, 2])))
  (.seq (.seq (.seq (.ops [o1 19 (.fldA 0 (.t 2)),
    o1 20 (.load (.t 19)),
    o1 21 (.bin .eql (.t 20) (.c (.I 13)))]) (.keep [1, 2, 21]))
  (.seq (.cond (.t 21)
  (.seq (.seq (.ops [o1 22 (.fldA 1 (.t 2)),
    o1 23 (.load (.t 22)),
    o1 24 (.call f_sl6In [(.t 23), (.c (.I 0)), (.c (.I 3))]),
    o1 25 (.mv (.t 24)),
    ⟨some 26, (some (25, true)), [], false, .fldA 2 (.t 2)⟩,
    ⟨some 27, (some (25, true)), [], false, .load (.t 26)⟩,
    ⟨some 28, (some (25, true)), [], false, .len (.t 27)⟩,
    ⟨some 29, (some (25, true)), [], false, .bin .eql (.t 28) (.c (.I 0))⟩,
    o1 30 (.pick (.t 25) (.t 29) (.c (.b false))),
    o1 4 (.mv (.t 30))]) (.keep [4]))
  (.ret))
  (.skip)) (.keep [1, 2])))
  (.seq (.seq (.ops [o1 31 (.fldA 0 (.t 2)),
    o1 32 (.load (.t 31)),
    o1 33 (.call f_sOpValid [(.t 32)]),
    o1 34 (.mv (.t 33)),
    ⟨some 35, (some (34, true)), [], false, .fldA 1 (.t 2)⟩,
    ⟨some 36, (some (34, true)), [], false, .load (.t 35)⟩,
    ⟨some 37, (some (34, true)), [], false, .bin .eql (.t 36) (.c (.I 0))⟩,
    o1 38 (.pick (.t 34) (.t 37) (.c (.b false))),
    o1 39 (.mv (.t 38)),
    ⟨some 40, (some (39, true)), [], false, .fldA 2 (.t 2)⟩,
    ⟨some 41, (some (39, true)), [], false, .load (.t 40)⟩,
    ⟨some 42, (some (39, true)), [], false, .len (.t 41)⟩,
    ⟨some 43, (some (39, true)), [], false, .bin .eql (.t 42) (.c (.I 2))⟩,
    o1 44 (.pick (.t 39) (.t 43) (.c (.b false))),
    o1 45 (.mv (.t 44)),
    ⟨some 46, (some (45, true)), [], false, .fldA 2 (.t 2)⟩,
    ⟨some 47, (some (45, true)), [], false, .load (.t 46)⟩,
    ⟨some 48, (some (45, true)), [], false, .idxA 3 (.t 47) (.c (.I 0))⟩,
    ⟨some 49, (some (45, true)), [], false, .loadN 3 (.t 48)⟩,
    ⟨some 50, (some (45, true)), [], false, .mv (.t 1)⟩,
    ⟨some 51, (some (45, true)), [], false, .bin .sub (.t 50) (.c (.I 1))⟩,
    ⟨some 52, (some (45, true)), [], false, .call f_sl4Ok [(.t 49), (.t 51)]⟩,
    o1 53 (.pick (.t 45) (.t 52) (.c (.b false))),
    o1 54 (.mv (.t 53)),
    ⟨some 55, (some (54, true)), [], false, .fldA 2 (.t 2)⟩,
    ⟨some 56, (some (54, true)), [], false, .load (.t 55)⟩,
    ⟨some 57, (some (54, true)), [], false, .idxA 3 (.t 56) (.c (.I 1))⟩,
    ⟨some 58, (some (54, true)), [], false, .loadN 3 (.t 57)⟩,
    ⟨some 59, (some (54, true)), [], false, .mv (.t 1)⟩,
    ⟨some 60, (some (54, true)), [], false, .bin .sub (.t 59) (.c (.I 1))⟩,
    ⟨some 61, (some (54, true)), [], false, .call f_sl4Ok [(.t 58), (.t 60)]⟩,
    o1 62 (.pick (.t 54) (.t 61) (.c (.b false))),
    o1 4 (.mv (.t 62))]) (.keep [4]))
  (.ret))))), [.t 4]⟩

/- loop.example/cothreads/spec.l91Word -/
def c_sl91Word : AFn := ⟨1, .seq (.seq (.ops [o1 2 (.mv (.c (.I 0)))]) (.keep [0]))
  (.seq (.seq (.seq (.ops [o1 3 (.mv (.t 0)),
    o1 4 (.call f_sl6Rd_pick [(.t 3), (.c (.I 6))])]) (.keep [0, 4]))
  (.seq (.block 0 (.seq (.seq (.ops [o1 6 (.bin .eql (.t 4) (.c (.I 0))),
    o1 5 (.mv (.t 6))]) (.keep [0, 4, 5]))
  (.seq (.cond (.t 5)
  (.seq (.seq (.ops [o1 7 (.bsl [(.I 0), (.I 0), (.I 0), (.I 0), (.I 0), (.I 0), (.I 0), (.I 0)] 8 [(0, 1, (.c (.I (-2147483648)))), (1, 1, (.c (.I 2147483647))), (2, 1, (.c (.I (-1)))), (3, 1, (.c (.I 0))), (4, 1, (.c (.I 1))), (5, 1, (.c (.I (-2147483647)))), (6, 1, (.c (.I 65536))), (7, 1, (.c (.I (-65536))))]),
    o1 8 (.mv (.t 0)),
    o1 9 (.call f_sl6Rd_pick [(.t 8), (.c (.I 8))]),
    o1 10 (.idxA 1 (.t 7) (.t 9)),
    o1 11 (.load (.t 10)),
    o1 2 (.mv (.t 11))]) (.keep [2]))
  (.ret))
  (.seq (.seq (.ops [o1 13 (.bin .eql (.t 4) (.c (.I 1))),
    o1 12 (.mv (.t 13))]) (.keep [0, 4, 12]))
  (.seq (.cond (.t 12)
  (.seq (.seq (.ops [o1 14 (.mv (.t 0)),
    o1 15 (.call f_sl6Rd_pick [(.t 14), (.c (.I 256))]),
    o1 16 (.bin .mul (.t 15) (.c (.I 65536))),
    o1 17 (.mv (.t 0)),
    o1 18 (.call f_sl6Rd_pick [(.t 17), (.c (.I 256))]),
    o1 19 (.bin .mul (.t 18) (.c (.I 256))),
    o1 20 (.bin .add (.t 16) (.t 19)),
    o1 21 (.mv (.t 0)),
    o1 22 (.call f_sl6Rd_pick [(.t 21), (.c (.I 256))]),
    o1 23 (.bin .add (.t 20) (.t 22)),
    o1 24 (.mv (.t 0)),
    o1 25 (.call f_sl6Rd_pick [(.t 24), (.c (.I 200))]),
    o1 26 (.bin .add (.c (.I 1)) (.t 25)),
    o1 27 (.bin .mul (.t 23) (.t 26)),
    o1 28 (.call f_sWrap [(.t 27)]),
    o1 2 (.mv (.t 28))]) (.keep [2]))
  (.ret))
  (.seq (.seq (.ops [o1 30 (.bin .eql (.t 4) (.c (.I 2))),
    o1 29 (.mv (.t 30))]) (.keep [0, 29]))
  (.seq (.cond (.t 29)
  (.seq (.seq (.ops [o1 31 (.mv (.t 0)),
    o1 32 (.call f_sl6Rd_pick [(.t 31), (.c (.I 200))]),
    o1 33 (.bin .sub (.c (.I 0)) (.t 32)),
    o1 2 (.mv (.t 33))]) (.keep [2]))
  (.ret))
  (.skip)) (.keep [0])))) (.keep [0])))) (.keep [0])))) (.keep [0])))
  (.seq (.seq (.ops [o1 34 (.mv (.t 0)),
    o1 35 (.call f_sl6Rd_pick [(.t 34), (.c (.I 20))]),
    o1 2 (.mv (.t 35))]) (.keep [2]))
  (.ret))), [.t 2]⟩

/- loop.example/cothreads/impl.WordValid -/
def c_iWordValid : AFn := ⟨1, .seq (.seq (.ops [o1 2 (.mv (.c (.b false)))]) (.keep [0]))
  (.seq (.seq (.ops [o1 3 (.mv (.t 0)),
    o1 4 (.bin .geq (.t 3) (.c (.I (-2147483648)))),
    o1 5 (.mv (.t 4)),
    ⟨some 6, (some (5, true)), [], false, .mv (.t 0)⟩,
    ⟨some 7, (some (5, true)), [], false, .bin .leq (.t 6) (.c (.I 2147483647))⟩,
    o1 8 (.pick (.t 5) (.t 7) (.c (.b false))),
    o1 2 (.mv (.t 8))]) (.keep [2]))
  (.ret)), [.t 2]⟩

/- loop.example/cothreads/impl.apply -/
def c_iapply : AFn := ⟨3, .seq (.seq (.ops [o1 6 (.mv (.c (.I 0)))]) (.keep [0, 1, 2]))
  (.seq (.seq (.ops [o1 7 (.mv (.t 0))])
  (.seq (.block 0 (.seq (.seq (.ops [o1 9 (.bin .eql (.t 7) (.c (.I 1))),
    o1 8 (.mv (.t 9))]) (.keep [1, 2, 7, 8]))
  (.seq (.cond (.t 8)
  (.seq (.seq (.ops [o1 10 (.mv (.t 1)),
    o1 11 (.mv (.t 2)),
    o1 12 (.bin .or (.t 10) (.t 11)),
    o1 6 (.mv (.t 12))]) (.keep [6]))
  (.ret))
  (.seq (.seq (.ops [o1 14 (.bin .eql (.t 7) (.c (.I 2))),
    o1 13 (.mv (.t 14))]) (.keep [1, 2, 7, 13]))
  (.seq (.cond (.t 13)
  (.seq (.seq (.ops [o1 15 (.mv (.t 1)),
    o1 16 (.mv (.t 2)),
    o1 17 (.bin .xor (.t 15) (.t 16)),
    o1 6 (.mv (.t 17))]) (.keep [6]))
  (.ret))
  (.seq (.seq (.ops [o1 19 (.bin .eql (.t 7) (.c (.I 3))),
    o1 18 (.mv (.t 19))]) (.keep [1, 2, 7, 18]))
  (.seq (.cond (.t 18)
  (.seq (.seq (.ops [o1 20 (.mv (.t 1)),
    o1 21 (.mv (.t 2)),
    o1 22 (.bin .and (.t 20) (.t 21)),
    o1 6 (.mv (.t 22))]) (.keep [6]))
  (.ret))
  (.seq (.seq (.ops [o1 24 (.bin .eql (.t 7) (.c (.I 4))),
    o1 23 (.mv (.t 24))]) (.keep [1, 2, 7, 23]))
  (.seq (.cond (.t 23)
  (.seq (.seq (.ops [o1 25 (.mv (.t 1)),
    o1 26 (.mv (.t 2)),
    o1 27 (.bin .eql (.t 25) (.t 26)),
    o1 28 (.call f_itruth [(.t 27)]),
    o1 6 (.mv (.t 28))]) (.keep [6]))
  (.ret))
  (.seq (.seq (.ops [o1 30 (.bin .eql (.t 7) (.c (.I 5))),
    o1 29 (.mv (.t 30))]) (.keep [1, 2, 7, 29]))
  (.seq (.cond (.t 29)
  (.seq (.seq (.ops [o1 31 (.mv (.t 1)),
    o1 32 (.mv (.t 2)),
    o1 33 (.bin .lss (.t 31) (.t 32)),
    o1 34 (.call f_itruth [(.t 33)]),
    o1 6 (.mv (.t 34))]) (.keep [6]))
  (.ret))
  (.seq (.seq (.ops [o1 36 (.bin .eql (.t 7) (.c (.I 6))),
    o1 35 (.mv (.t 36))]) (.keep [1, 2, 7, 35]))
  (.seq (.cond (.t 35)
  (.seq (.seq (.ops [o1 37 (.mv (.t 1)),
    o1 38 (.mv (.t 2)),
    o1 39 (.bin .and (.t 38) (.c (.I 31))),
    o1 40 (.bin .shl (.t 37) (.t 39)),
    o1 41 (.call f_iWrap [(.t 40)]),
    o1 6 (.mv (.t 41))]) (.keep [6]))
  (.ret))
  (.seq (.seq (.ops [o1 43 (.bin .eql (.t 7) (.c (.I 7))),
    o1 42 (.mv (.t 43))]) (.keep [1, 2, 7, 42]))
  (.seq (.cond (.t 42)
  (.seq (.seq (.ops [o1 44 (.mv (.t 1)),
    o1 45 (.mv (.t 2)),
    o1 46 (.bin .and (.t 45) (.c (.I 31))),
    o1 47 (.bin .shr (.t 44) (.t 46)),
    o1 6 (.mv (.t 47))]) (.keep [6]))
  (.ret))
  (.seq (.seq (.ops [o1 49 (.bin .eql (.t 7) (.c (.I 8))),
    o1 48 (.mv (.t 49))]) (.keep [1, 2, 7, 48]))
  (.seq (.cond (.t 48)
  (.seq (.seq (.ops [o1 50 (.mv (.t 1)),
    o1 51 (.mv (.t 2)),
    o1 52 (.bin .add (.t 50) (.t 51)),
    o1 53 (.call f_iWrap [(.t 52)]),
    o1 6 (.mv (.t 53))]) (.keep [6]))
  (.ret))
  (.seq (.seq (.ops [o1 55 (.bin .eql (.t 7) (.c (.I 9))),
    o1 54 (.mv (.t 55))]) (.keep [1, 2, 7, 54]))
  (.seq (.cond (.t 54)
  (.seq (.seq (.ops [o1 56 (.mv (.t 1)),
    o1 57 (.mv (.t 2)),
    o1 58 (.bin .sub (.t 56) (.t 57)),
    o1 59 (.call f_iWrap [(.t 58)]),
    o1 6 (.mv (.t 59))]) (.keep [6]))
  (.ret))
  (.seq (.seq (.ops [o1 61 (.bin .eql (.t 7) (.c (.I 10))),
    o1 60 (.mv (.t 61))]) (.keep [1, 2, 7, 60]))
  (.seq (.cond (.t 60)
  (.seq (.seq (.ops [o1 62 (.mv (.t 1)),
    o1 63 (.mv (.t 2)),
    o1 64 (.bin .mul (.t 62) (.t 63)),
    o1 65 (.call f_iWrap [(.t 64)]),
    o1 6 (.mv (.t 65))]) (.keep [6]))
  (.ret))
  (.seq (.seq (.ops [o1 67 (.bin .eql (.t 7) (.c (.I 11))),
    o1 66 (.mv (.t 67))]) (.keep [1, 2, 66]))
  (.seq (.cond (.t 66)
  (.seq (.seq (.seq (.ops [o1 68 (.mv (.t 2)),
    o1 69 (.bin .eql (.t 68) (.c (.I 0)))]) (.keep [1, 2, 69]))
  (.seq (.cond (.t 69)
  (.seq (.ops [o1 6 (.mv (.c (.I (-1))))])
  (.ret))
  (.skip)) (.keep [1, 2])))
  (.seq (.seq (.ops [o1 70 (.mv (.t 1)),
    o1 71 (.mv (.t 2)),
    o1 72 (.bin .quo (.t 70) (.t 71)),
    o1 73 (.call f_iWrap [(.t 72)]),
    o1 6 (.mv (.t 73))]) (.keep [6]))
  (.ret)))
  (.skip)) (.keep [1, 2])))) (.keep [1, 2])))) (.keep [1, 2])))) (.keep [1, 2])))) (.keep [1, 2])))) (.keep [1, 2])))) (.keep [1, 2])))) (.keep [1, 2])))) (.keep [1, 2])))) (.keep [1, 2])))) (.keep [1, 2])))) (.keep [1, 2])))
  (.seq (.seq (.seq (.ops [o1 74 (.mv (.t 2)),
    o1 75 (.bin .eql (.t 74) (.c (.I 0)))]) (.keep [1, 2, 75]))
  (.seq (.cond (.t 75)
  (.seq (.seq (.ops [o1 76 (.mv (.t 1)),
    o1 6 (.mv (.t 76))]) (.keep [6]))
  (.ret))
  (.skip)) (.keep [1, 2])))
  (.seq (.seq (.ops [o1 77 (.mv (.t 1)),
    o1 78 (.mv (.t 2)),
    o1 79 (.bin .rem (.t 77) (.t 78)),
    o1 6 (.mv (.t 79))]) (.keep [6]))
  (.ret)))), [.t 6]⟩

/- loop.example/cothreads/impl.CodeValid -/
def c_iCodeValid_l0 : AC := .seq (.seq (.ops [o1 17 (.bin .lss (.t 16) (.t 15))])
  (.seq (.seq (.cond (.t 17)
  (.skip)
  (.exit 0)) (.keep [0, 14, 15, 16]))
  (.seq (.seq (.block 1 (.seq (.seq (.ops [o1 18 (.idxA 5 (.t 14) (.t 16)),
    o1 19 (.loadN 5 (.t 18)),
    o1 4 (.alloc [(.I 0), (.I 0), (.I 0), (.I 0), (.I 0)]),
    o0 (.store 5 (.t 4) (.t 19))]) (.keep [0, 4, 14, 15, 16]))
  (.seq (.seq (.ops [o1 20 (.loadN 5 (.t 4)),
    o1 21 (.mv (.t 0)),
    o1 22 (.len (.t 21)),
    o1 23 (.call f_iQuadValid [(.t 20), (.t 22)]),
    o1 24 (.un .not (.t 23))]) (.keep [0, 14, 15, 16, 24]))
  (.seq (.cond (.t 24)
  (.seq (.ops [o1 2 (.mv (.c (.b false)))])
  (.ret))
  (.skip)) (.keep [0, 14, 15, 16]))))) (.keep [0, 14, 15, 16]))
  (.seq (.ops [o1 25 (.bin .add (.t 16) (.c (.I 1))),
    o1 16 (.mv (.t 25))]) (.keep [0, 14, 15, 16]))))) (.keep [0, 14, 15, 16])
def c_iCodeValid : AFn := ⟨1, .seq (.seq (.ops [o1 2 (.mv (.c (.b false)))]) (.keep [0]))
  (.seq (.seq (.seq (.ops [o1 6 (.mv (.t 0)),
    o1 7 (.len (.t 6)),
    o1 8 (.bin .lss (.t 7) (.c (.I 1))),
    o1 9 (.mv (.t 8)),
    ⟨some 10, (some (9, false)), [], false, .mv (.t 0)⟩,
    ⟨some 11, (some (9, false)), [], false, .len (.t 10)⟩,
    ⟨some 12, (some (9, false)), [], false, .bin .gtr (.t 11) (.c (.I 600))⟩,
    o1 13 (.pick (.t 9) (.c (.b true)) (.t 12))]) (.keep [0, 13]))
  (.seq (.cond (.t 13)
  (.seq (.ops [o1 2 (.mv (.c (.b false)))])
  (.ret))
  (.skip)) (.keep [0])))
  (.seq (.seq (.ops [o1 14 (.mv (.t 0)),
    o1 15 (.len (.t 14)),
    o1 16 (.mv (.c (.I 0)))])
  (.seq (.block 0 (.seq (.keep [0, 14, 15, 16]) (.loop c_iCodeValid_l0))) (.keep [0])))
  (.seq (.seq (.ops [o1 26 (.mv (.t 0)),
    o1 27 (.mv (.t 0)),
    o1 28 (.len (.t 27)),
    o1 29 (.bin .sub (.t 28) (.c (.I 1))),
    o1 30 (.idxA 5 (.t 26) (.t 29)),
    o1 31 (.fldA 0 (.t 30)),
    o1 32 (.load (.t 31)),
    o1 5 (.mv (.t 32))]) (.keep [5]))
  (.seq (.seq (.ops [o1 33 (.mv (.t 5)),
    o1 34 (.bin .eql (.t 33) (.c (.I 10))),
    o1 35 (.mv (.t 34)),
    ⟨some 36, (some (35, false)), [], false, .mv (.t 5)⟩,
    ⟨some 37, (some (35, false)), [], false, .bin .eql (.t 36) (.c (.I 4))⟩,
    o1 38 (.pick (.t 35) (.c (.b true)) (.t 37)),
    o1 2 (.mv (.t 38))]) (.keep [2]))
  (.ret))))), [.t 2]⟩

/- loop.example/cothreads/impl.threadFits -/
def c_ithreadFits : AFn := ⟨2, .seq (.seq (.ops [o1 2 (.box (.t 0)),
    o1 4 (.mv (.c (.b false)))]) (.keep [1, 2]))
  (.seq (.seq (.ops [o1 5 (.fldA 0 (.t 2)),
    o1 6 (.load (.t 5)),
    o1 7 (.len (.t 6)),
    o1 8 (.bin .eql (.t 7) (.c (.I 12))),
    o1 9 (.mv (.t 8)),
    ⟨some 10, (some (9, true)), [], false, .fldA 0 (.t 2)⟩,
    ⟨some 11, (some (9, true)), [], false, .load (.t 10)⟩,
    ⟨some 12, (some (9, true)), [], false, .call f_iareWords [(.t 11)]⟩,
    o1 13 (.pick (.t 9) (.t 12) (.c (.b false))),
    o1 14 (.mv (.t 13)),
    ⟨some 15, (some (14, true)), [], false, .fldA 1 (.t 2)⟩,
    ⟨some 16, (some (14, true)), [], false, .load (.t 15)⟩,
    ⟨some 17, (some (14, true)), [], false, .bin .geq (.t 16) (.c (.I 0))⟩,
    o1 18 (.pick (.t 14) (.t 17) (.c (.b false))),
    o1 19 (.mv (.t 18)),
    ⟨some 20, (some (19, true)), [], false, .fldA 1 (.t 2)⟩,
    ⟨some 21, (some (19, true)), [], false, .load (.t 20)⟩,
    ⟨some 22, (some (19, true)), [], false, .mv (.t 1)⟩,
    ⟨some 23, (some (19, true)), [], false, .len (.t 22)⟩,
    ⟨some 24, (some (19, true)), [], false, .bin .lss (.t 21) (.t 23)⟩,
    o1 25 (.pick (.t 19) (.t 24) (.c (.b false))),
    o1 4 (.mv (.t 25))]) (.keep [4]))
  (.ret)), [.t 4]⟩

/- loop.example/cothreads/impl.BoxValid -/
def c_iBoxValid : AFn := ⟨1, .seq (.seq (.ops [o1 1 (.box (.t 0)),
    o1 2 (.mv (.c (.b false)))]) (.keep [1]))
  (.seq (.seq (.ops [o1 3 (.fldA 0 (.t 1)),
    o1 4 (.load (.t 3)),
    o1 5 (.bin .geq (.t 4) (.c (.I 1))),
    o1 6 (.mv (.t 5)),
    ⟨some 7, (some (6, true)), [], false, .fldA 0 (.t 1)⟩,
    ⟨some 8, (some (6, true)), [], false, .load (.t 7)⟩,
    ⟨some 9, (some (6, true)), [], false, .bin .leq (.t 8) (.c (.I 4))⟩,
    o1 10 (.pick (.t 6) (.t 9) (.c (.b false))),
    o1 11 (.mv (.t 10)),
    ⟨some 12, (some (11, true)), [], false, .fldA 1 (.t 1)⟩,
    ⟨some 13, (some (11, true)), [], false, .load (.t 12)⟩,
    ⟨some 14, (some (11, true)), [], false, .len (.t 13)⟩,
    ⟨some 15, (some (11, true)), [], false, .fldA 0 (.t 1)⟩,
    ⟨some 16, (some (11, true)), [], false, .load (.t 15)⟩,
    ⟨some 17, (some (11, true)), [], false, .bin .leq (.t 14) (.t 16)⟩,
    o1 18 (.pick (.t 11) (.t 17) (.c (.b false))),
    o1 19 (.mv (.t 18)),
    ⟨some 20, (some (19, true)), [], false, .fldA 1 (.t 1)⟩,
    ⟨some 21, (some (19, true)), [], false, .load (.t 20)⟩,
    ⟨some 22, (some (19, true)), [], false, .call f_iareWords [(.t 21)]⟩,
    o1 23 (.pick (.t 19) (.t 22) (.c (.b false))),
    o1 2 (.mv (.t 23))]) (.keep [2]))
  (.ret)), [.t 2]⟩

/- (*loop.example/cothreads/impl.Box).put -/
def c_iBox_put : AFn := ⟨2, .seq (.seq (.ops [o1 4 (.mv (.c (.b false)))]) (.keep [0, 1]))
  (.seq (.seq (.seq (.ops [o1 5 (.mv (.t 0)),
    o1 6 (.nilc (.t 5)),
    o1 7 (.fldA 1 (.t 6)),
    o1 8 (.load (.t 7)),
    o1 9 (.len (.t 8)),
    o1 10 (.mv (.t 0)),
    o1 11 (.nilc (.t 10)),
    o1 12 (.fldA 0 (.t 11)),
    o1 13 (.load (.t 12)),
    o1 14 (.bin .eql (.t 9) (.t 13))]) (.keep [0, 1, 14]))
  (.seq (.cond (.t 14)
  (.seq (.ops [o1 4 (.mv (.c (.b false)))])
  (.ret))
  (.skip)) (.keep [0, 1])))
  (.seq (.seq (.ops [o1 15 (.mv (.t 0)),
    o1 16 (.mv (.t 0)),
    o1 17 (.nilc (.t 16)),
    o1 18 (.fldA 1 (.t 17)),
    o1 19 (.load (.t 18)),
    o1 20 (.mv (.t 1)),
    o1 21 (.bsl [(.I 0)] 1 [(0, 1, (.t 20))]),
    o1 22 (.app 1 (.t 19) (.t 21)),
    o1 23 (.nilc (.t 15)),
    o1 24 (.fldA 1 (.t 23)),
    o0 (.store 1 (.t 24) (.t 22))]) (.keep []))
  (.seq (.ops [o1 4 (.mv (.c (.b true)))])
  (.ret)))), [.t 4]⟩

/- (*loop.example/cothreads/impl.Box).take -/
def c_iBox_take : AFn := ⟨1, .seq (.seq (.ops [o1 2 (.mv (.c (.I 0))),
    o1 3 (.mv (.c (.b false)))]) (.keep [0]))
  (.seq (.seq (.seq (.ops [o1 5 (.mv (.t 0)),
    o1 6 (.nilc (.t 5)),
    o1 7 (.fldA 1 (.t 6)),
    o1 8 (.load (.t 7)),
    o1 9 (.len (.t 8)),
    o1 10 (.bin .eql (.t 9) (.c (.I 0)))]) (.keep [0, 10]))
  (.seq (.cond (.t 10)
  (.seq (.ops [o1 2 (.mv (.c (.I 0))),
    o1 3 (.mv (.c (.b false)))])
  (.ret))
  (.skip)) (.keep [0])))
  (.seq (.seq (.ops [o1 11 (.mv (.t 0)),
    o1 12 (.nilc (.t 11)),
    o1 13 (.fldA 1 (.t 12)),
    o1 14 (.load (.t 13)),
    o1 15 (.idxA 1 (.t 14) (.c (.I 0))),
    o1 16 (.load (.t 15)),
    o1 4 (.mv (.t 16))]) (.keep [0, 4]))
  (.seq (.seq (.ops [o1 17 (.mv (.t 0)),
    o1 18 (.mv (.t 0)),
    o1 19 (.nilc (.t 18)),
    o1 20 (.fldA 1 (.t 19)),
    o1 21 (.load (.t 20)),
    o1 22 (.slice 1 (.t 21) none (some (.c (.I 0))) none),
    o1 23 (.mv (.t 0)),
    o1 24 (.nilc (.t 23)),
    o1 25 (.fldA 1 (.t 24)),
    o1 26 (.load (.t 25)),
    o1 27 (.slice 1 (.t 26) (some (.c (.I 1))) none none),
    o1 28 (.app 1 (.t 22) (.t 27)),
    o1 29 (.nilc (.t 17)),
    o1 30 (.fldA 1 (.t 29)),
    o0 (.store 1 (.t 30) (.t 28))]) (.keep [4]))
  (.seq (.seq (.ops [o1 31 (.mv (.t 4)),
    o1 2 (.mv (.t 31)),
    o1 3 (.mv (.c (.b true)))]) (.keep [2, 3]))
  (.ret))))), [.t 2, .t 3]⟩

/- loop.example/cothreads/impl.OpValid -/
def c_iOpValid : AFn := ⟨1, .seq (.seq (.ops [o1 2 (.mv (.c (.b false)))]) (.keep [0]))
  (.seq (.seq (.ops [o1 3 (.mv (.t 0)),
    o1 4 (.bin .geq (.t 3) (.c (.I 1))),
    o1 5 (.mv (.t 4)),
    ⟨some 6, (some (5, true)), [], false, .mv (.t 0)⟩,
    ⟨some 7, (some (5, true)), [], false, .bin .leq (.t 6) (.c (.I 12))⟩,
    o1 8 (.pick (.t 5) (.t 7) (.c (.b false))),
    o1 2 (.mv (.t 8))]) (.keep [2]))
  (.ret)), [.t 2]⟩

/- loop.example/cothreads/spec.OpValid -/
def c_sOpValid : AFn := ⟨1, .seq (.seq (.ops [o1 2 (.mv (.c (.b false)))]) (.keep [0]))
  (.seq (.seq (.ops [o1 3 (.mv (.t 0)),
    o1 4 (.call f_sl6In [(.t 3), (.c (.I 1)), (.c (.I 12))]),
    o1 2 (.mv (.t 4))]) (.keep [2]))
  (.ret)), [.t 2]⟩

/- loop.example/cothreads/spec.Wrap -/
def c_sWrap : AFn := ⟨1, .seq (.seq (.ops [o1 2 (.mv (.c (.I 0)))]) (.keep [0]))
  (.seq (.seq (.ops [o1 4 (.mv (.t 0)),
    o1 5 (.bin .rem (.t 4) (.c (.I 4294967296))),
    o1 3 (.mv (.t 5))]) (.keep [3]))
  (.seq (.seq (.seq (.ops [o1 6 (.mv (.t 3)),
    o1 7 (.bin .gtr (.t 6) (.c (.I 2147483647)))]) (.keep [3, 7]))
  (.seq (.cond (.t 7)
  (.seq (.seq (.ops [o1 8 (.mv (.t 3)),
    o1 9 (.bin .sub (.t 8) (.c (.I 4294967296))),
    o1 2 (.mv (.t 9))]) (.keep [2]))
  (.ret))
  (.skip)) (.keep [3])))
  (.seq (.seq (.seq (.ops [o1 10 (.mv (.t 3)),
    o1 11 (.bin .lss (.t 10) (.c (.I (-2147483648))))]) (.keep [3, 11]))
  (.seq (.cond (.t 11)
  (.seq (.seq (.ops [o1 12 (.mv (.t 3)),
    o1 13 (.bin .add (.t 12) (.c (.I 4294967296))),
    o1 2 (.mv (.t 13))]) (.keep [2]))
  (.ret))
  (.skip)) (.keep [3])))
  (.seq (.seq (.ops [o1 14 (.mv (.t 3)),
    o1 2 (.mv (.t 14))]) (.keep [2]))
  (.ret))))), [.t 2]⟩

/- loop.example/cothreads/impl.truth -/
def c_itruth : AFn := ⟨1, .seq (.seq (.ops [o1 2 (.mv (.c (.I 0)))]) (.keep [0]))
  (.seq (.seq (.ops [o1 3 (.mv (.t 0))])
  (.seq (.cond (.t 3)
  (.seq (.ops [o1 2 (.mv (.c (.I 1)))])
  (.ret))
  (.skip)) (.keep [])))
  (.seq (.ops [o1 2 (.mv (.c (.I 0)))])
  (.ret))), [.t 2]⟩

/- loop.example/cothreads/impl.Wrap -/
def c_iWrap : AFn := ⟨1, .seq (.seq (.ops [o1 2 (.mv (.c (.I 0)))]) (.keep [0]))
  (.seq (.seq (.ops [o1 3 (.mv (.t 0)),
    o1 4 (.conv .i32 (.t 3)),
    o1 5 (.conv .i64 (.t 4)),
    o1 2 (.mv (.t 5))]) (.keep [2]))
  (.ret)), [.t 2]⟩

/- loop.example/cothreads/impl.QuadValid -/
def c_iQuadValid : AFn := ⟨2, .seq (.seq (.ops [o1 2 (.box (.t 0)),
    o1 4 (.mv (.c (.b false)))]) (.keep [1, 2]))
  (.seq (.seq (.ops [o1 9 (.fldA 1 (.t 2)),
    o1 10 (.load (.t 9)),
    ⟨some 11, none, [], true, .call f_iisReg [(.t 10)]⟩,
    o1 12 (.fldA 2 (.t 2)),
    o1 13 (.load (.t 12)),
    ⟨some 14, none, [], true, .call f_iisReg [(.t 13)]⟩,
    o1 15 (.fldA 3 (.t 2)),
    o1 16 (.load (.t 15)),
    ⟨some 17, none, [], true, .call f_iisReg [(.t 16)]⟩,
    o1 18 (.fldA 4 (.t 2)),
    o1 19 (.load (.t 18)),
    o1 5 (.mv (.t 11)),
    o1 6 (.mv (.t 14)),
    o1 7 (.mv (.t 17)),
    o1 8 (.mv (.t 19))]) (.keep [1, 2, 5, 6, 7, 8]))
  (.seq (.seq (.seq (.ops [o1 20 (.fldA 0 (.t 2)),
    o1 21 (.load (.t 20))]) (.keep [1, 2, 5, 6, 7, 8, 21]))
  (.seq (.block 0 (.seq (.seq (.ops [o1 23 (.bin .eql (.t 21) (.c (.I 1))),
    o1 22 (.mv (.t 23))]) (.keep [1, 2, 5, 6, 7, 8, 21, 22]))
  (.seq (.cond (.t 22)
  (.seq (.seq (.ops [o1 24 (.loadN 5 (.t 2)),
    o1 25 (.fldA 1 (.t 2)),
    o1 26 (.load (.t 25)),
    o1 27 (.mv (.t 8)),
    o1 28 (.build [(.I 0), (.I 0), (.I 0), (.I 0), (.I 0)] [(0, 1, (.c (.I 1))), (1, 1, (.t 26)), (4, 1, (.t 27))]),
    o1 29 (.eqA 5 false (.t 24) (.t 28)),
    o1 30 (.mv (.t 29)),
    ⟨some 31, (some (30, true)), [], false, .mv (.t 5)⟩,
    o1 32 (.pick (.t 30) (.t 31) (.c (.b false))),
    o1 33 (.mv (.t 32)),
    ⟨some 34, (some (33, true)), [], false, .mv (.t 8)⟩,
    ⟨some 35, (some (33, true)), [], false, .call f_iWordValid [(.t 34)]⟩,
    o1 36 (.pick (.t 33) (.t 35) (.c (.b false))),
    o1 4 (.mv (.t 36))]) (.keep [4]))
  (.ret))
  (.seq (.seq (.ops [o1 38 (.bin .eql (.t 21) (.c (.I 2))),
    o1 37 (.mv (.t 38))]) (.keep [1, 2, 5, 6, 7, 8, 21, 37]))
  (.seq (.cond (.t 37)
  (.seq (.seq (.ops [o1 39 (.loadN 5 (.t 2)),
    o1 40 (.fldA 1 (.t 2)),
    o1 41 (.load (.t 40)),
    o1 42 (.fldA 2 (.t 2)),
    o1 43 (.load (.t 42)),
    o1 44 (.build [(.I 0), (.I 0), (.I 0), (.I 0), (.I 0)] [(0, 1, (.c (.I 2))), (1, 1, (.t 41)), (2, 1, (.t 43))]),
    o1 45 (.eqA 5 false (.t 39) (.t 44)),
    o1 46 (.mv (.t 45)),
    ⟨some 47, (some (46, true)), [], false, .mv (.t 5)⟩,
    o1 48 (.pick (.t 46) (.t 47) (.c (.b false))),
    o1 49 (.mv (.t 48)),
    ⟨some 50, (some (49, true)), [], false, .mv (.t 6)⟩,
    o1 51 (.pick (.t 49) (.t 50) (.c (.b false))),
    o1 4 (.mv (.t 51))]) (.keep [4]))
  (.ret))
  (.seq (.seq (.ops [o1 53 (.bin .eql (.t 21) (.c (.I 3))),
    o1 52 (.mv (.t 53))]) (.keep [1, 2, 5, 6, 7, 8, 21, 52]))
  (.seq (.cond (.t 52)
  (.seq (.seq (.ops [o1 54 (.mv (.t 5)),
    o1 55 (.mv (.t 54)),
    ⟨some 56, (some (55, true)), [], false, .mv (.t 6)⟩,
    o1 57 (.pick (.t 55) (.t 56) (.c (.b false))),
    o1 58 (.mv (.t 57)),
    ⟨some 59, (some (58, true)), [], false, .mv (.t 7)⟩,
    o1 60 (.pick (.t 58) (.t 59) (.c (.b false))),
    o1 61 (.mv (.t 60)),
    ⟨some 62, (some (61, true)), [], false, .mv (.t 8)⟩,
    ⟨some 63, (some (61, true)), [], false, .call f_iOpValid [(.t 62)]⟩,
    o1 64 (.pick (.t 61) (.t 63) (.c (.b false))),
    o1 4 (.mv (.t 64))]) (.keep [4]))
  (.ret))
  (.seq (.seq (.ops [o1 66 (.bin .eql (.t 21) (.c (.I 4))),
    o1 65 (.mv (.t 66))]) (.keep [1, 2, 5, 6, 8, 21, 65]))
  (.seq (.cond (.t 65)
  (.seq (.seq (.ops [o1 67 (.loadN 5 (.t 2)),
    o1 68 (.mv (.t 8)),
    o1 69 (.build [(.I 0), (.I 0), (.I 0), (.I 0), (.I 0)] [(0, 1, (.c (.I 4))), (4, 1, (.t 68))]),
    o1 70 (.eqA 5 false (.t 67) (.t 69)),
    o1 71 (.mv (.t 70)),
    ⟨some 72, (some (71, true)), [], false, .mv (.t 8)⟩,
    ⟨some 73, (some (71, true)), [], false, .bin .geq (.t 72) (.c (.I 0))⟩,
    o1 74 (.pick (.t 71) (.t 73) (.c (.b false))),
    o1 75 (.mv (.t 74)),
    ⟨some 76, (some (75, true)), [], false, .mv (.t 8)⟩,
    ⟨some 77, (some (75, true)), [], false, .mv (.t 1)⟩,
    ⟨some 78, (some (75, true)), [], false, .bin .lss (.t 76) (.t 77)⟩,
    o1 79 (.pick (.t 75) (.t 78) (.c (.b false))),
    o1 4 (.mv (.t 79))]) (.keep [4]))
  (.ret))
  (.seq (.seq (.ops [o1 81 (.bin .eql (.t 21) (.c (.I 5))),
    o1 80 (.mv (.t 81))]) (.keep [1, 2, 5, 6, 8, 21, 80]))
  (.seq (.cond (.t 80)
  (.seq (.seq (.ops [o1 82 (.loadN 5 (.t 2)),
    o1 83 (.fldA 2 (.t 2)),
    o1 84 (.load (.t 83)),
    o1 85 (.mv (.t 8)),
    o1 86 (.build [(.I 0), (.I 0), (.I 0), (.I 0), (.I 0)] [(0, 1, (.c (.I 5))), (2, 1, (.t 84)), (4, 1, (.t 85))]),
    o1 87 (.eqA 5 false (.t 82) (.t 86)),
    o1 88 (.mv (.t 87)),
    ⟨some 89, (some (88, true)), [], false, .mv (.t 6)⟩,
    o1 90 (.pick (.t 88) (.t 89) (.c (.b false))),
    o1 91 (.mv (.t 90)),
    ⟨some 92, (some (91, true)), [], false, .mv (.t 8)⟩,
    ⟨some 93, (some (91, true)), [], false, .bin .geq (.t 92) (.c (.I 0))⟩,
    o1 94 (.pick (.t 91) (.t 93) (.c (.b false))),
    o1 95 (.mv (.t 94)),
    ⟨some 96, (some (95, true)), [], false, .mv (.t 8)⟩,
    ⟨some 97, (some (95, true)), [], false, .mv (.t 1)⟩,
    ⟨some 98, (some (95, true)), [], false, .bin .lss (.t 96) (.t 97)⟩,
    o1 99 (.pick (.t 95) (.t 98) (.c (.b false))),
    o1 4 (.mv (.t 99))]) (.keep [4]))
  (.ret))
  (.seq (.seq (.ops [o1 101 (.bin .eql (.t 21) (.c (.I 6))),
    o1 100 (.mv (.t 101))]) (.keep [2, 5, 6, 8, 21, 100]))
  (.seq (.cond (.t 100)
  (.seq (.seq (.ops [o1 102 (.loadN 5 (.t 2)),
    o1 103 (.fldA 2 (.t 2)),
    o1 104 (.load (.t 103)),
    o1 105 (.mv (.t 8)),
    o1 106 (.build [(.I 0), (.I 0), (.I 0), (.I 0), (.I 0)] [(0, 1, (.c (.I 6))), (2, 1, (.t 104)), (4, 1, (.t 105))]),
    o1 107 (.eqA 5 false (.t 102) (.t 106)),
    o1 108 (.mv (.t 107)),
    ⟨some 109, (some (108, true)), [], false, .mv (.t 6)⟩,
    o1 110 (.pick (.t 108) (.t 109) (.c (.b false))),
    o1 111 (.mv (.t 110)),
    ⟨some 112, (some (111, true)), [], false, .mv (.t 8)⟩,
    ⟨some 113, (some (111, true)), [], false, .bin .geq (.t 112) (.c (.I 0))⟩,
    o1 114 (.pick (.t 111) (.t 113) (.c (.b false))),
    o1 115 (.mv (.t 114)),
    ⟨some 116, (some (115, true)), [], false, .mv (.t 8)⟩,
    ⟨some 117, (some (115, true)), [], false, .bin .lss (.t 116) (.c (.I 3))⟩,
    o1 118 (.pick (.t 115) (.t 117) (.c (.b false))),
    o1 4 (.mv (.t 118))]) (.keep [4]))
  (.ret))
  (.seq (.seq (.ops [o1 120 (.bin .eql (.t 21) (.c (.I 7))),
    o1 119 (.mv (.t 120))]) (.keep [2, 5, 6, 8, 21, 119]))
  (.seq (.cond (.t 119)
  (.seq (.seq (.ops [o1 121 (.loadN 5 (.t 2)),
    o1 122 (.fldA 1 (.t 2)),
    o1 123 (.load (.t 122)),
    o1 124 (.mv (.t 8)),
    o1 125 (.build [(.I 0), (.I 0), (.I 0), (.I 0), (.I 0)] [(0, 1, (.c (.I 7))), (1, 1, (.t 123)), (4, 1, (.t 124))]),
    o1 126 (.eqA 5 false (.t 121) (.t 125)),
    o1 127 (.mv (.t 126)),
    ⟨some 128, (some (127, true)), [], false, .mv (.t 5)⟩,
    o1 129 (.pick (.t 127) (.t 128) (.c (.b false))),
    o1 130 (.mv (.t 129)),
    ⟨some 131, (some (130, true)), [], false, .mv (.t 8)⟩,
    ⟨some 132, (some (130, true)), [], false, .bin .geq (.t 131) (.c (.I 0))⟩,
    o1 133 (.pick (.t 130) (.t 132) (.c (.b false))),
    o1 134 (.mv (.t 133)),
    ⟨some 135, (some (134, true)), [], false, .mv (.t 8)⟩,
    ⟨some 136, (some (134, true)), [], false, .bin .lss (.t 135) (.c (.I 3))⟩,
    o1 137 (.pick (.t 134) (.t 136) (.c (.b false))),
    o1 4 (.mv (.t 137))]) (.keep [4]))
  (.ret))
  (.seq (.seq (.ops [o1 139 (.bin .eql (.t 21) (.c (.I 9))),
    o1 138 (.mv (.t 139))]) (.keep [2, 6, 21, 138]))
  (.seq (.cond (.t 138)
  (.seq (.seq (.ops [o1 140 (.loadN 5 (.t 2)),
    o1 141 (.fldA 2 (.t 2)),
    o1 142 (.load (.t 141)),
    o1 143 (.build [(.I 0), (.I 0), (.I 0), (.I 0), (.I 0)] [(0, 1, (.c (.I 9))), (2, 1, (.t 142))]),
    o1 144 (.eqA 5 false (.t 140) (.t 143)),
    o1 145 (.mv (.t 144)),
    ⟨some 146, (some (145, true)), [], false, .mv (.t 6)⟩,
    o1 147 (.pick (.t 145) (.t 146) (.c (.b false))),
    o1 4 (.mv (.t 147))]) (.keep [4]))
  (.ret))
  (.seq (.seq (.seq (.ops [o1 149 (.bin .eql (.t 21) (.c (.I 8))),
    o1 148 (.mv (.t 149))]) (.keep [2, 21, 148]))
  (.seq (.cond (.t 148)
  (.skip)
  (.seq (.ops [o1 150 (.bin .eql (.t 21) (.c (.I 10))),
    o1 148 (.mv (.t 150))]) (.keep [2, 148]))) (.keep [2, 148])))
  (.seq (.cond (.t 148)
  (.seq (.seq (.ops [o1 151 (.loadN 5 (.t 2)),
    o1 152 (.fldA 0 (.t 2)),
    o1 153 (.load (.t 152)),
    o1 154 (.build [(.I 0), (.I 0), (.I 0), (.I 0), (.I 0)] [(0, 1, (.t 153))]),
    o1 155 (.eqA 5 false (.t 151) (.t 154)),
    o1 4 (.mv (.t 155))]) (.keep [4]))
  (.ret))
  (.skip)) (.keep [])))) (.keep [])))) (.keep [])))) (.keep [])))) (.keep [])))) (.keep [])))) (.keep [])))) (.keep [])))) (.keep [])))) (.keep [])))
  (.seq (.ops [o1 4 (.mv (.c (.b false)))])
  (.ret)))), [.t 4]⟩

/- loop.example/cothreads/impl.isReg -/
def c_iisReg : AFn := ⟨1, .seq (.seq (.ops [o1 2 (.mv (.c (.b false)))]) (.keep [0]))
  (.seq (.seq (.ops [o1 3 (.mv (.t 0)),
    o1 4 (.bin .geq (.t 3) (.c (.I 0))),
    o1 5 (.mv (.t 4)),
    ⟨some 6, (some (5, true)), [], false, .mv (.t 0)⟩,
    ⟨some 7, (some (5, true)), [], false, .bin .lss (.t 6) (.c (.I 12))⟩,
    o1 8 (.pick (.t 5) (.t 7) (.c (.b false))),
    o1 2 (.mv (.t 8))]) (.keep [2]))
  (.ret)), [.t 2]⟩

end Go.Proofs.Ytmecbehegmgbhaa.AM
