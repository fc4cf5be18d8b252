/-
  The twins, in the abstract machine, of the functions that this claim reaches; by program (part 1). No condition.
-/
import Derived.Test.YtcibjklpaljadaaGreatHM2
import Derived.Test.YtcibjklpaljadaaGreatProg
namespace Go.Proofs.YtcibjklpaljadaaGreat.AM
set_option linter.unusedSimpArgs false
set_option linter.unusedVariables false
set_option maxRecDepth 100000
def f_wFnExactTaskStep : FuncId := 4
def f_wszTask : FuncId := 12
def f_wszBoxS : FuncId := 13
def f_sTaskStep : FuncId := 14
def f_wtoTask : FuncId := 15
def f_wtoBoxS : FuncId := 16
def f_iTaskStep : FuncId := 17
def f_weqTask : FuncId := 18
def f_weqBoxS : FuncId := 19
def f_weqIntS : FuncId := 20
def f_wmarkTask : FuncId := 21
def f_wmarkBoxS : FuncId := 22
def f_wmarkIntS : FuncId := 23
def f_wheldTask : FuncId := 24
def f_wheldBoxS : FuncId := 25
def f_wheldIntS : FuncId := 26
def f_wszIntS : FuncId := 29
def f_wtoIntS : FuncId := 33
def f_wszStmtS : FuncId := 41
def f_wszBox : FuncId := 42
def f_sTaskValid : FuncId := 43
def f_sl15Boxes : FuncId := 44
def f_sl15Ready : FuncId := 45
def f_sl15Copy : FuncId := 46
def f_sl15BoxesCopy : FuncId := 47
def f_sl15Talk : FuncId := 48
def f_sl15Block : FuncId := 49
def f_sl15Set : FuncId := 50
def f_sl4Eval : FuncId := 51
def f_sl11Copy : FuncId := 52
def f_wtoStmtS : FuncId := 53
def f_wtoBox : FuncId := 54
def f_iTaskValid : FuncId := 55
def f_iboxesValid : FuncId := 56
def f_inewRunning : FuncId := 57
def f_iboxesCopy : FuncId := 58
def f_irunning_step : FuncId := 59
def f_iTaskStep_1 : FuncId := 60
def f_irunning_task : FuncId := 61
def f_weqStmtS : FuncId := 62
def f_weqBox : FuncId := 63
def f_wmarkStmtS : FuncId := 64
def f_wheldStmtS : FuncId := 65
def f_sl6In : FuncId := 69
def f_slices_Clone_int_int : FuncId := 76
def f_wszStmt : FuncId := 84
def f_sStmtsValid : FuncId := 85
def f_sl4Words : FuncId := 86
def f_sBoxValid : FuncId := 87
def f_sBoxPut : FuncId := 88
def f_sBoxTake : FuncId := 89
def f_sl15Ahead : FuncId := 90
def f_sApply : FuncId := 91
def f_sl4Copy : FuncId := 92
def f_wtoStmt : FuncId := 93
def f_itaskValid : FuncId := 94
def f_iBoxValid : FuncId := 95
def f_iahead : FuncId := 96
def f_iexprEval : FuncId := 97
def f_iBox_put : FuncId := 98
def f_iBox_take : FuncId := 99
def f_istmtsCopy : FuncId := 100
def f_weqStmt : FuncId := 101
def f_wmarkExprS : FuncId := 102
def f_wheldExprS : FuncId := 103
def f_iapply : FuncId := 116
def f_wszExpr : FuncId := 118
def f_sl11Blocks : FuncId := 119
def f_sl11Count : FuncId := 120
def f_sWordValid : FuncId := 121
def f_sOpValid : FuncId := 122
def f_sl2Flag : FuncId := 123
def f_sl2Shift : FuncId := 124
def f_sWrap : FuncId := 125
def f_sl2Divide : FuncId := 126
def f_sl2Remain : FuncId := 127
def f_sl4Leaf : FuncId := 128
def f_sl4Both : FuncId := 129
def f_wtoExpr : FuncId := 130
def f_iareWords : FuncId := 131
def f_istmtsValid : FuncId := 132
def f_iexprCopy : FuncId := 133
def f_weqExpr : FuncId := 134
def f_itruth : FuncId := 142
def f_iWrap : FuncId := 143
def f_wszExprS : FuncId := 144
def f_sl11Ok : FuncId := 145
def f_wtoExprS : FuncId := 146
def f_iWordValid : FuncId := 147
def f_iblockValid : FuncId := 148
def f_weqExprS : FuncId := 149
def f_sl11Simple : FuncId := 153
def f_sl11Var : FuncId := 154
def f_sl11Box : FuncId := 155
def f_sExprValid : FuncId := 156
def f_istmtValid : FuncId := 157
def f_iOpValid : FuncId := 160
def f_sl11Plain : FuncId := 161
def f_sl4Ok : FuncId := 162
def f_istmtValid_1 : FuncId := 163
def f_iExprValid : FuncId := 164
def f_iexprValid : FuncId := 166
def c_wFnExactTaskStep : AFn := ⟨2, .seq (.seq (.ops [o1 2 (.box (.t 0)),
    o1 4 (.mv (.c (.b false)))]) (.keep [1, 2]))
  (.seq (.ops [o1 5 (.mv (.c (.I 1048576)))])
  (.seq (.seq (.ops [o1 23 (.loadN 2 (.t 2)),
    o1 24 (.mv (.t 5)),
    o1 25 (.call f_wszTask [(.t 23), (.t 24)]),
    o1 5 (.mv (.t 25))]) (.keep [1, 2, 5]))
  (.seq (.seq (.seq (.ops [o1 26 (.mv (.t 5)),
    o1 27 (.bin .lss (.t 26) (.c (.I 0)))]) (.keep [1, 2, 5, 27]))
  (.seq (.cond (.t 27)
  (.seq (.ops [o1 4 (.mv (.c (.b true)))])
  (.ret))
  (.skip)) (.keep [1, 2, 5])))
  (.seq (.seq (.ops [o1 28 (.mv (.t 1)),
    o1 29 (.mv (.t 5)),
    o1 30 (.call f_wszBoxS [(.t 28), (.t 29)]),
    o1 5 (.mv (.t 30))]) (.keep [1, 2, 5]))
  (.seq (.seq (.seq (.ops [o1 31 (.mv (.t 5)),
    o1 32 (.bin .lss (.t 31) (.c (.I 0)))]) (.keep [1, 2, 32]))
  (.seq (.cond (.t 32)
  (.seq (.ops [o1 4 (.mv (.c (.b true)))])
  (.ret))
  (.skip)) (.keep [1, 2])))
  (.seq (.seq (.ops [o1 34 (.loadN 2 (.t 2)),
    o1 35 (.call f_wtoTask [(.t 34)]),
    o1 36 (.mv (.t 1)),
    o1 37 (.call f_wtoBoxS [(.t 36)]),
    o1 38 (.call f_sTaskStep [(.t 35), (.t 37)]),
    o1 33 (.mv (.t 38)),
    o1 39 (.ext (.t 33) 0),
    o1 40 (.ext (.t 33) 1),
    o1 41 (.ext (.t 33) 2),
    o1 42 (.ext (.t 33) 3),
    o1 6 (.alloc [.nils, .nils]),
    o0 (.store 2 (.t 6) (.t 39)),
    o1 7 (.mv (.t 40)),
    o1 8 (.mv (.t 41)),
    o1 9 (.mv (.t 42))]) (.keep [1, 2, 6, 7, 8, 9]))
  (.seq (.seq (.ops [o1 43 (.loadN 2 (.t 2)),
    o1 44 (.call f_wtoTask [(.t 43)]),
    o1 10 (.alloc [.nils, .nils]),
    o0 (.store 2 (.t 10) (.t 44))]) (.keep [1, 2, 6, 7, 8, 9, 10]))
  (.seq (.seq (.ops [o1 45 (.mv (.t 1)),
    o1 46 (.call f_wtoBoxS [(.t 45)]),
    o1 11 (.mv (.t 46))]) (.keep [1, 2, 6, 7, 8, 9, 10, 11]))
  (.seq (.seq (.ops [o1 48 (.loadN 2 (.t 10)),
    o1 49 (.mv (.t 11)),
    o1 50 (.call f_iTaskStep [(.t 48), (.t 49)]),
    o1 47 (.mv (.t 50)),
    o1 51 (.ext (.t 47) 0),
    o1 52 (.ext (.t 47) 1),
    o1 53 (.ext (.t 47) 2),
    o1 54 (.ext (.t 47) 3),
    o1 12 (.alloc [.nils, .nils]),
    o0 (.store 2 (.t 12) (.t 51)),
    o1 13 (.mv (.t 52)),
    o1 14 (.mv (.t 53)),
    o1 15 (.mv (.t 54))]) (.keep [1, 2, 6, 7, 8, 9, 10, 11, 12, 13, 14, 15]))
  (.seq (.seq (.seq (.ops [o1 55 (.loadN 2 (.t 12)),
    o1 56 (.loadN 2 (.t 6)),
    o1 57 (.call f_weqTask [(.t 55), (.t 56)]),
    o1 58 (.un .not (.t 57)),
    o1 59 (.mv (.t 58)),
    ⟨some 60, (some (59, false)), [], false, .mv (.t 13)⟩,
    ⟨some 61, (some (59, false)), [], false, .mv (.t 7)⟩,
    ⟨some 62, (some (59, false)), [], false, .call f_weqBoxS [(.t 60), (.t 61)]⟩,
    ⟨some 63, (some (59, false)), [], false, .un .not (.t 62)⟩,
    o1 64 (.pick (.t 59) (.c (.b true)) (.t 63)),
    o1 65 (.mv (.t 64)),
    ⟨some 66, (some (65, false)), [], false, .mv (.t 14)⟩,
    ⟨some 67, (some (65, false)), [], false, .mv (.t 8)⟩,
    ⟨some 68, (some (65, false)), [], false, .call f_weqIntS [(.t 66), (.t 67)]⟩,
    ⟨some 69, (some (65, false)), [], false, .un .not (.t 68)⟩,
    o1 70 (.pick (.t 65) (.c (.b true)) (.t 69)),
    o1 71 (.mv (.t 70)),
    ⟨some 72, (some (71, false)), [], false, .mv (.t 15)⟩,
    ⟨some 73, (some (71, false)), [], false, .mv (.t 9)⟩,
    ⟨some 74, (some (71, false)), [], false, .bin .neq (.t 72) (.t 73)⟩,
    o1 75 (.pick (.t 71) (.c (.b true)) (.t 74))]) (.keep [1, 2, 6, 7, 8, 9, 10, 11, 12, 13, 14, 15, 75]))
  (.seq (.cond (.t 75)
  (.seq (.ops [o1 4 (.mv (.c (.b false)))])
  (.ret))
  (.skip)) (.keep [1, 2, 6, 7, 8, 9, 10, 11, 12, 13, 14, 15])))
  (.seq (.seq (.seq (.ops [o1 76 (.loadN 2 (.t 10)),
    o1 77 (.loadN 2 (.t 2)),
    ⟨some 78, none, [], true, .call f_wtoTask [(.t 77)]⟩,
    ⟨some 79, none, [], true, .call f_weqTask [(.t 76), (.t 78)]⟩,
    o1 80 (.un .not (.t 79))]) (.keep [1, 2, 6, 7, 8, 9, 10, 11, 12, 13, 14, 15, 80]))
  (.seq (.cond (.t 80)
  (.seq (.ops [o1 4 (.mv (.c (.b false)))])
  (.ret))
  (.skip)) (.keep [1, 2, 6, 7, 8, 9, 10, 11, 12, 13, 14, 15])))
  (.seq (.seq (.seq (.ops [o1 81 (.mv (.t 11)),
    o1 82 (.mv (.t 1)),
    o1 83 (.call f_wtoBoxS [(.t 82)]),
    o1 84 (.call f_weqBoxS [(.t 81), (.t 83)]),
    o1 85 (.un .not (.t 84))]) (.keep [1, 2, 6, 7, 8, 9, 10, 11, 12, 13, 14, 15, 85]))
  (.seq (.cond (.t 85)
  (.seq (.ops [o1 4 (.mv (.c (.b false)))])
  (.ret))
  (.skip)) (.keep [1, 2, 6, 7, 8, 9, 10, 11, 12, 13, 14, 15])))
  (.seq (.ops [o1 16 (.mv (.c (.I 1)))])
  (.seq (.seq (.ops [o1 86 (.loadN 2 (.t 10)),
    o1 87 (.mv (.t 16)),
    o1 88 (.call f_wmarkTask [(.t 86), (.t 87)]),
    o1 16 (.mv (.t 88))]) (.keep [1, 2, 6, 7, 8, 9, 11, 12, 13, 14, 15, 16]))
  (.seq (.seq (.ops [o1 89 (.mv (.t 11)),
    o1 90 (.mv (.t 16)),
    o1 91 (.call f_wmarkBoxS [(.t 89), (.t 90)]),
    o1 16 (.mv (.t 91))]) (.keep [1, 2, 6, 7, 8, 9, 12, 13, 14, 15, 16]))
  (.seq (.seq (.seq (.ops [o1 92 (.mv (.t 16)),
    o1 93 (.bin .lss (.t 92) (.c (.I 0))),
    o1 94 (.mv (.t 93)),
    ⟨some 95, (some (94, false)), [], false, .loadN 2 (.t 12)⟩,
    ⟨some 96, (some (94, false)), [], false, .loadN 2 (.t 6)⟩,
    ⟨some 97, (some (94, false)), [], false, .call f_weqTask [(.t 95), (.t 96)]⟩,
    ⟨some 98, (some (94, false)), [], false, .un .not (.t 97)⟩,
    o1 99 (.pick (.t 94) (.c (.b true)) (.t 98)),
    o1 100 (.mv (.t 99)),
    ⟨some 101, (some (100, false)), [], false, .mv (.t 13)⟩,
    ⟨some 102, (some (100, false)), [], false, .mv (.t 7)⟩,
    ⟨some 103, (some (100, false)), [], false, .call f_weqBoxS [(.t 101), (.t 102)]⟩,
    ⟨some 104, (some (100, false)), [], false, .un .not (.t 103)⟩,
    o1 105 (.pick (.t 100) (.c (.b true)) (.t 104)),
    o1 106 (.mv (.t 105)),
    ⟨some 107, (some (106, false)), [], false, .mv (.t 14)⟩,
    ⟨some 108, (some (106, false)), [], false, .mv (.t 8)⟩,
    ⟨some 109, (some (106, false)), [], false, .call f_weqIntS [(.t 107), (.t 108)]⟩,
    ⟨some 110, (some (106, false)), [], false, .un .not (.t 109)⟩,
    o1 111 (.pick (.t 106) (.c (.b true)) (.t 110)),
    o1 112 (.mv (.t 111)),
    ⟨some 113, (some (112, false)), [], false, .mv (.t 15)⟩,
    ⟨some 114, (some (112, false)), [], false, .mv (.t 9)⟩,
    ⟨some 115, (some (112, false)), [], false, .bin .neq (.t 113) (.t 114)⟩,
    o1 116 (.pick (.t 112) (.c (.b true)) (.t 115))]) (.keep [1, 2, 6, 7, 8, 9, 12, 13, 14, 116]))
  (.seq (.cond (.t 116)
  (.seq (.ops [o1 4 (.mv (.c (.b false)))])
  (.ret))
  (.skip)) (.keep [1, 2, 6, 7, 8, 9, 12, 13, 14])))
  (.seq (.ops [o1 17 (.mv (.c (.I 1)))])
  (.seq (.seq (.ops [o1 117 (.loadN 2 (.t 12)),
    o1 118 (.mv (.t 17)),
    o1 119 (.call f_wmarkTask [(.t 117), (.t 118)]),
    o1 17 (.mv (.t 119))]) (.keep [1, 2, 6, 7, 8, 9, 12, 13, 14, 17]))
  (.seq (.seq (.ops [o1 120 (.mv (.t 13)),
    o1 121 (.mv (.t 17)),
    o1 122 (.call f_wmarkBoxS [(.t 120), (.t 121)]),
    o1 17 (.mv (.t 122))]) (.keep [1, 2, 6, 7, 8, 9, 12, 13, 14, 17]))
  (.seq (.seq (.ops [o1 123 (.mv (.t 14)),
    o1 124 (.mv (.t 17)),
    o1 125 (.call f_wmarkIntS [(.t 123), (.t 124)]),
    o1 17 (.mv (.t 125))]) (.keep [1, 2, 6, 7, 8, 9, 12, 13, 14, 17]))
  (.seq (.ops [o1 18 (.mv (.c (.I 1)))])
  (.seq (.seq (.ops [o1 126 (.loadN 2 (.t 12)),
    o1 127 (.mv (.t 18)),
    o1 128 (.call f_wheldTask [(.t 126), (.t 127)]),
    o1 18 (.mv (.t 128))]) (.keep [1, 2, 6, 7, 8, 9, 12, 13, 14, 17, 18]))
  (.seq (.seq (.seq (.ops [o1 129 (.mv (.t 18)),
    o1 130 (.bin .lss (.t 129) (.c (.I 0)))]) (.keep [1, 2, 6, 7, 8, 9, 12, 13, 14, 17, 18, 130]))
  (.seq (.cond (.t 130)
  (.seq (.ops [o1 4 (.mv (.c (.b false)))])
  (.ret))
  (.skip)) (.keep [1, 2, 6, 7, 8, 9, 12, 13, 14, 17, 18])))
  (.seq (.seq (.ops [o1 131 (.mv (.t 13)),
    o1 132 (.mv (.t 18)),
    o1 133 (.call f_wheldBoxS [(.t 131), (.t 132)]),
    o1 18 (.mv (.t 133))]) (.keep [1, 2, 6, 7, 8, 9, 12, 13, 14, 17, 18]))
  (.seq (.seq (.seq (.ops [o1 134 (.mv (.t 18)),
    o1 135 (.bin .lss (.t 134) (.c (.I 0)))]) (.keep [1, 2, 6, 7, 8, 9, 12, 13, 14, 17, 18, 135]))
  (.seq (.cond (.t 135)
  (.seq (.ops [o1 4 (.mv (.c (.b false)))])
  (.ret))
  (.skip)) (.keep [1, 2, 6, 7, 8, 9, 12, 13, 14, 17, 18])))
  (.seq (.seq (.ops [o1 136 (.mv (.t 14)),
    o1 137 (.mv (.t 18)),
    o1 138 (.call f_wheldIntS [(.t 136), (.t 137)]),
    o1 18 (.mv (.t 138))]) (.keep [1, 2, 6, 7, 8, 9, 12, 13, 14, 17, 18]))
  (.seq (.seq (.seq (.ops [o1 139 (.mv (.t 18)),
    o1 140 (.bin .lss (.t 139) (.c (.I 0)))]) (.keep [1, 2, 6, 7, 8, 9, 12, 13, 14, 17, 18, 140]))
  (.seq (.cond (.t 140)
  (.seq (.ops [o1 4 (.mv (.c (.b false)))])
  (.ret))
  (.skip)) (.keep [1, 2, 6, 7, 8, 9, 12, 13, 14, 17, 18])))
  (.seq (.seq (.seq (.ops [o1 141 (.mv (.t 18)),
    o1 142 (.mv (.t 17)),
    o1 143 (.bin .neq (.t 141) (.t 142))]) (.keep [1, 2, 6, 7, 8, 9, 12, 13, 14, 17, 143]))
  (.seq (.cond (.t 143)
  (.seq (.ops [o1 4 (.mv (.c (.b false)))])
  (.ret))
  (.skip)) (.keep [1, 2, 6, 7, 8, 9, 12, 13, 14, 17])))
  (.seq (.seq (.ops [o1 145 (.loadN 2 (.t 2)),
    o1 146 (.call f_wtoTask [(.t 145)]),
    o1 147 (.mv (.t 1)),
    o1 148 (.call f_wtoBoxS [(.t 147)]),
    o1 149 (.call f_iTaskStep [(.t 146), (.t 148)]),
    o1 144 (.mv (.t 149)),
    o1 150 (.ext (.t 144) 0),
    o1 151 (.ext (.t 144) 1),
    o1 152 (.ext (.t 144) 2),
    o1 153 (.ext (.t 144) 3),
    o1 19 (.alloc [.nils, .nils]),
    o0 (.store 2 (.t 19) (.t 150)),
    o1 20 (.mv (.t 151)),
    o1 21 (.mv (.t 152)),
    o1 22 (.mv (.t 153))]) (.keep [6, 7, 8, 9, 12, 13, 14, 17, 19, 20, 21, 22]))
  (.seq (.seq (.seq (.ops [o1 154 (.loadN 2 (.t 19)),
    o1 155 (.loadN 2 (.t 6)),
    o1 156 (.call f_weqTask [(.t 154), (.t 155)]),
    o1 157 (.un .not (.t 156)),
    o1 158 (.mv (.t 157)),
    ⟨some 159, (some (158, false)), [], false, .mv (.t 20)⟩,
    ⟨some 160, (some (158, false)), [], false, .mv (.t 7)⟩,
    ⟨some 161, (some (158, false)), [], false, .call f_weqBoxS [(.t 159), (.t 160)]⟩,
    ⟨some 162, (some (158, false)), [], false, .un .not (.t 161)⟩,
    o1 163 (.pick (.t 158) (.c (.b true)) (.t 162)),
    o1 164 (.mv (.t 163)),
    ⟨some 165, (some (164, false)), [], false, .mv (.t 21)⟩,
    ⟨some 166, (some (164, false)), [], false, .mv (.t 8)⟩,
    ⟨some 167, (some (164, false)), [], false, .call f_weqIntS [(.t 165), (.t 166)]⟩,
    ⟨some 168, (some (164, false)), [], false, .un .not (.t 167)⟩,
    o1 169 (.pick (.t 164) (.c (.b true)) (.t 168)),
    o1 170 (.mv (.t 169)),
    ⟨some 171, (some (170, false)), [], false, .mv (.t 22)⟩,
    ⟨some 172, (some (170, false)), [], false, .mv (.t 9)⟩,
    ⟨some 173, (some (170, false)), [], false, .bin .neq (.t 171) (.t 172)⟩,
    o1 174 (.pick (.t 170) (.c (.b true)) (.t 173))]) (.keep [12, 13, 14, 17, 174]))
  (.seq (.cond (.t 174)
  (.seq (.ops [o1 4 (.mv (.c (.b false)))])
  (.ret))
  (.skip)) (.keep [12, 13, 14, 17])))
  (.seq (.ops [o1 18 (.mv (.c (.I 1)))])
  (.seq (.seq (.ops [o1 175 (.loadN 2 (.t 12)),
    o1 176 (.mv (.t 18)),
    o1 177 (.call f_wheldTask [(.t 175), (.t 176)]),
    o1 18 (.mv (.t 177))]) (.keep [13, 14, 17, 18]))
  (.seq (.seq (.seq (.ops [o1 178 (.mv (.t 18)),
    o1 179 (.bin .lss (.t 178) (.c (.I 0)))]) (.keep [13, 14, 17, 18, 179]))
  (.seq (.cond (.t 179)
  (.seq (.ops [o1 4 (.mv (.c (.b false)))])
  (.ret))
  (.skip)) (.keep [13, 14, 17, 18])))
  (.seq (.seq (.ops [o1 180 (.mv (.t 13)),
    o1 181 (.mv (.t 18)),
    o1 182 (.call f_wheldBoxS [(.t 180), (.t 181)]),
    o1 18 (.mv (.t 182))]) (.keep [14, 17, 18]))
  (.seq (.seq (.seq (.ops [o1 183 (.mv (.t 18)),
    o1 184 (.bin .lss (.t 183) (.c (.I 0)))]) (.keep [14, 17, 18, 184]))
  (.seq (.cond (.t 184)
  (.seq (.ops [o1 4 (.mv (.c (.b false)))])
  (.ret))
  (.skip)) (.keep [14, 17, 18])))
  (.seq (.seq (.ops [o1 185 (.mv (.t 14)),
    o1 186 (.mv (.t 18)),
    o1 187 (.call f_wheldIntS [(.t 185), (.t 186)]),
    o1 18 (.mv (.t 187))]) (.keep [17, 18]))
  (.seq (.seq (.seq (.ops [o1 188 (.mv (.t 18)),
    o1 189 (.bin .lss (.t 188) (.c (.I 0)))]) (.keep [17, 18, 189]))
  (.seq (.cond (.t 189)
  (.seq (.ops [o1 4 (.mv (.c (.b false)))])
  (.ret))
  (.skip)) (.keep [17, 18])))
  (.seq (.seq (.seq (.ops [o1 190 (.mv (.t 18)),
    o1 191 (.mv (.t 17)),
    o1 192 (.bin .neq (.t 190) (.t 191))]) (.keep [192]))
  (.seq (.cond (.t 192)
  (.seq (.ops [o1 4 (.mv (.c (.b false)))])
  (.ret))
  (.skip)) (.keep [])))
  (.seq (.ops [o1 4 (.mv (.c (.b true)))])
  (.ret)))))))))))))))))))))))))))))))))))))))), [.t 4]⟩

/- loop.example/cothreads/laws.szTask -/
def c_wszTask : AFn := ⟨2, .seq (.seq (.ops [o1 2 (.box (.t 0)),
    o1 4 (.mv (.c (.I 0)))]) (.keep [1, 2]))
  (.seq (.seq (.ops [o1 5 (.fldA 0 (.t 2)),
    o1 6 (.load (.t 5)),
    o1 7 (.mv (.t 1)),
    o1 8 (.call f_wszIntS [(.t 6), (.t 7)]),
    o1 1 (.mv (.t 8))]) (.keep [1, 2]))
  (.seq (.seq (.seq (.ops [o1 9 (.mv (.t 1)),
    o1 10 (.bin .lss (.t 9) (.c (.I 0)))]) (.keep [1, 2, 10]))
  (.seq (.cond (.t 10)
  (.seq (.ops [o1 4 (.mv (.c (.I (-1))))])
  (.ret))
  (.skip)) (.keep [1, 2])))
  (.seq (.seq (.ops [o1 11 (.fldA 1 (.t 2)),
    o1 12 (.load (.t 11)),
    o1 13 (.mv (.t 1)),
    o1 14 (.call f_wszStmtS [(.t 12), (.t 13)]),
    o1 1 (.mv (.t 14))]) (.keep [1]))
  (.seq (.seq (.seq (.ops [o1 15 (.mv (.t 1)),
    o1 16 (.bin .lss (.t 15) (.c (.I 0)))]) (.keep [1, 16]))
  (.seq (.cond (.t 16)
  (.seq (.ops [o1 4 (.mv (.c (.I (-1))))])
  (.ret))
  (.skip)) (.keep [1])))
  (.seq (.seq (.ops [o1 17 (.mv (.t 1)),
    o1 4 (.mv (.t 17))]) (.keep [4]))
  (.ret)))))), [.t 4]⟩

/- loop.example/cothreads/laws.szBoxS -/
def c_wszBoxS_l0 : AC := .seq (.seq (.seq (.seq (.ops [o1 12 (.mv (.t 5)),
    o1 13 (.mv (.t 0)),
    o1 14 (.len (.t 13)),
    o1 15 (.bin .lss (.t 12) (.t 14))]) (.keep [0, 1, 5, 15]))
  (.seq (.cond (.t 15)
  (.skip)
  (.exit 0)) (.keep [0, 1, 5])))
  (.seq (.seq (.block 1 (.seq (.seq (.ops [o1 18 (.mv (.t 0)),
    o1 19 (.mv (.t 5)),
    o1 20 (.idxA 2 (.t 18) (.t 19)),
    o1 21 (.loadN 2 (.t 20)),
    o1 22 (.mv (.t 1)),
    o1 23 (.call f_wszBox [(.t 21), (.t 22)]),
    o1 1 (.mv (.t 23))]) (.keep [0, 1, 5]))
  (.seq (.seq (.ops [o1 24 (.mv (.t 1)),
    o1 25 (.bin .lss (.t 24) (.c (.I 0)))]) (.keep [0, 1, 5, 25]))
  (.seq (.cond (.t 25)
  (.seq (.ops [o1 4 (.mv (.c (.I (-1))))])
  (.ret))
  (.skip)) (.keep [0, 1, 5]))))) (.keep [0, 1, 5]))
  (.seq (.ops [o1 16 (.mv (.t 5)),
    o1 17 (.bin .add (.t 16) (.c (.I 1))),
    o1 5 (.mv (.t 17))]) (.keep [0, 1, 5])))) (.keep [0, 1, 5])
def c_wszBoxS : AFn := ⟨2, .seq (.seq (.ops [o1 4 (.mv (.c (.I 0)))]) (.keep [0, 1]))
  (.seq (.seq (.ops [o1 6 (.mv (.t 1)),
    o1 7 (.mv (.t 0)),
    o1 8 (.len (.t 7)),
    o1 9 (.bin .sub (.t 6) (.t 8)),
    o1 1 (.mv (.t 9))]) (.keep [0, 1]))
  (.seq (.seq (.seq (.ops [o1 10 (.mv (.t 1)),
    o1 11 (.bin .lss (.t 10) (.c (.I 0)))]) (.keep [0, 1, 11]))
  (.seq (.cond (.t 11)
  (.seq (.ops [o1 4 (.mv (.c (.I (-1))))])
  (.ret))
  (.skip)) (.keep [0, 1])))
  (.seq (.seq (.ops [o1 5 (.mv (.c (.I 0)))])
  (.seq (.block 0 (.seq (.keep [0, 1, 5]) (.loop c_wszBoxS_l0))) (.keep [1])))
  (.seq (.seq (.ops [o1 26 (.mv (.t 1)),
    o1 4 (.mv (.t 26))]) (.keep [4]))
  (.ret))))), [.t 4]⟩

/- loop.example/cothreads/spec.TaskStep -/
def c_sTaskStep : AFn := ⟨2, .seq (.seq (.ops [o1 2 (.box (.t 0)),
    o1 4 (.alloc [.nils, .nils]),
    o1 5 (.mv (.c .nils)),
    o1 6 (.mv (.c .nils)),
    o1 7 (.mv (.c (.I 0)))]) (.keep [1, 2, 4]))
  (.seq (.seq (.seq (.ops [o1 13 (.loadN 2 (.t 2)),
    o1 14 (.call f_sTaskValid [(.t 13)]),
    o1 15 (.un .not (.t 14)),
    o1 16 (.mv (.t 15)),
    ⟨some 17, (some (16, false)), [], false, .mv (.t 1)⟩,
    ⟨some 18, (some (16, false)), [], false, .call f_sl15Boxes [(.t 17)]⟩,
    ⟨some 19, (some (16, false)), [], false, .un .not (.t 18)⟩,
    o1 20 (.pick (.t 16) (.c (.b true)) (.t 19)),
    o1 21 (.mv (.t 20)),
    ⟨some 22, (some (21, false)), [], false, .loadN 2 (.t 2)⟩,
    ⟨some 23, (some (21, false)), [], false, .mv (.t 1)⟩,
    ⟨some 24, (some (21, false)), [], false, .call f_sl15Ready [(.t 22), (.t 23)]⟩,
    ⟨some 25, (some (21, false)), [], false, .un .not (.t 24)⟩,
    o1 26 (.pick (.t 21) (.c (.b true)) (.t 25))]) (.keep [1, 2, 4, 26]))
  (.seq (.cond (.t 26)
  (.seq (.seq (.ops [o1 27 (.build [.nils, .nils] []),
    o1 28 (.bsl [] 0 []),
    o1 29 (.bsl [] 0 []),
    o0 (.store 2 (.t 4) (.t 27)),
    o1 5 (.mv (.t 28)),
    o1 6 (.mv (.t 29)),
    o1 7 (.mv (.c (.I 0)))]) (.keep [4, 5, 6, 7]))
  (.ret))
  (.skip)) (.keep [1, 2, 4])))
  (.seq (.seq (.seq (.ops [o1 30 (.fldA 1 (.t 2)),
    o1 31 (.load (.t 30)),
    o1 32 (.len (.t 31)),
    o1 33 (.bin .eql (.t 32) (.c (.I 0)))]) (.keep [1, 2, 4, 33]))
  (.seq (.cond (.t 33)
  (.seq (.seq (.ops [o1 34 (.loadN 2 (.t 2)),
    o1 35 (.call f_sl15Copy [(.t 34)]),
    o1 36 (.mv (.t 1)),
    o1 37 (.call f_sl15BoxesCopy [(.t 36)]),
    o1 38 (.bsl [] 0 []),
    o0 (.store 2 (.t 4) (.t 35)),
    o1 5 (.mv (.t 37)),
    o1 6 (.mv (.t 38)),
    o1 7 (.mv (.c (.I 4)))]) (.keep [4, 5, 6, 7]))
  (.ret))
  (.skip)) (.keep [1, 2, 4])))
  (.seq (.seq (.ops [o1 39 (.fldA 1 (.t 2)),
    o1 40 (.load (.t 39)),
    o1 41 (.idxA 8 (.t 40) (.c (.I 0))),
    o1 42 (.loadN 8 (.t 41)),
    o1 8 (.alloc [(.I 0), (.I 0), (.I 0), (.I 0), (.I 0), .nils, .nils, .nils]),
    o0 (.store 8 (.t 8) (.t 42))]) (.keep [1, 2, 4, 8]))
  (.seq (.seq (.seq (.ops [o1 43 (.fldA 0 (.t 8)),
    o1 44 (.load (.t 43))]) (.keep [1, 2, 4, 8, 44]))
  (.seq (.block 0 (.seq (.seq (.seq (.ops [o1 46 (.bin .eql (.t 44) (.c (.I 4))),
    o1 45 (.mv (.t 46))]) (.keep [1, 2, 4, 8, 44, 45]))
  (.seq (.cond (.t 45)
  (.skip)
  (.seq (.ops [o1 47 (.bin .eql (.t 44) (.c (.I 5))),
    o1 45 (.mv (.t 47))]) (.keep [1, 2, 4, 8, 44, 45]))) (.keep [1, 2, 4, 8, 44, 45])))
  (.seq (.cond (.t 45)
  (.seq (.seq (.ops [o1 49 (.loadN 2 (.t 2)),
    o1 50 (.mv (.t 1)),
    o1 51 (.call f_sl15Talk [(.t 49), (.t 50)]),
    o1 48 (.mv (.t 51)),
    o1 52 (.ext (.t 48) 0),
    o1 53 (.ext (.t 48) 1),
    o1 54 (.ext (.t 48) 2),
    o1 9 (.alloc [.nils, .nils]),
    o0 (.store 2 (.t 9) (.t 52)),
    o1 10 (.mv (.t 53)),
    o1 11 (.mv (.t 54))]) (.keep [4, 9, 10, 11]))
  (.seq (.seq (.ops [o1 55 (.loadN 2 (.t 9)),
    o1 56 (.mv (.t 10)),
    o1 57 (.bsl [] 0 []),
    o1 58 (.mv (.t 11)),
    o0 (.store 2 (.t 4) (.t 55)),
    o1 5 (.mv (.t 56)),
    o1 6 (.mv (.t 57)),
    o1 7 (.mv (.t 58))]) (.keep [4, 5, 6, 7]))
  (.ret)))
  (.seq (.seq (.seq (.ops [o1 60 (.bin .eql (.t 44) (.c (.I 2))),
    o1 59 (.mv (.t 60))]) (.keep [1, 2, 4, 8, 44, 59]))
  (.seq (.cond (.t 59)
  (.skip)
  (.seq (.ops [o1 61 (.bin .eql (.t 44) (.c (.I 3))),
    o1 59 (.mv (.t 61))]) (.keep [1, 2, 4, 8, 44, 59]))) (.keep [1, 2, 4, 8, 44, 59])))
  (.seq (.cond (.t 59)
  (.seq (.seq (.ops [o1 62 (.loadN 2 (.t 2)),
    o1 63 (.call f_sl15Block [(.t 62)]),
    o1 64 (.mv (.t 1)),
    o1 65 (.call f_sl15BoxesCopy [(.t 64)]),
    o1 66 (.bsl [] 0 []),
    o0 (.store 2 (.t 4) (.t 63)),
    o1 5 (.mv (.t 65)),
    o1 6 (.mv (.t 66)),
    o1 7 (.mv (.c (.I 1)))]) (.keep [4, 5, 6, 7]))
  (.ret))
  (.seq (.seq (.ops [o1 68 (.bin .eql (.t 44) (.c (.I 1))),
    o1 67 (.mv (.t 68))]) (.keep [1, 2, 4, 8, 67]))
  (.seq (.cond (.t 67)
  (.seq (.seq (.ops [o1 69 (.loadN 2 (.t 2)),
    o1 70 (.fldA 1 (.t 8)),
    o1 71 (.load (.t 70)),
    o1 72 (.fldA 3 (.t 8)),
    o1 73 (.loadN 3 (.t 72)),
    o1 74 (.fldA 0 (.t 2)),
    o1 75 (.load (.t 74)),
    ⟨some 76, none, [], true, .call f_sl4Eval [(.t 73), (.t 75)]⟩,
    ⟨some 77, none, [], true, .call f_sl15Set [(.t 69), (.t 71), (.t 76)]⟩,
    o1 78 (.mv (.t 1)),
    ⟨some 79, none, [], true, .call f_sl15BoxesCopy [(.t 78)]⟩,
    o1 80 (.bsl [] 0 []),
    ⟨none, none, [(.t 80)], false, .store 2 (.t 4) (.t 77)⟩,
    o1 5 (.mv (.t 79)),
    o1 6 (.mv (.t 80)),
    o1 7 (.mv (.c (.I 1)))]) (.keep [4, 5, 6, 7]))
  (.ret))
  (.skip)) (.keep [1, 2, 4, 8])))) (.keep [1, 2, 4, 8])))) (.keep [1, 2, 4, 8])))) (.keep [1, 2, 4, 8])))
  (.seq (.seq (.ops [o1 81 (.bsl [] 0 []),
    o1 82 (.fldA 0 (.t 2)),
    o1 83 (.load (.t 82)),
    ⟨some 84, none, [], true, .app 1 (.t 81) (.t 83)⟩,
    o1 85 (.fldA 1 (.t 2)),
    o1 86 (.load (.t 85)),
    o1 87 (.slice 8 (.t 86) (some (.c (.I 1))) none none),
    ⟨some 88, none, [], true, .call f_sl11Copy [(.t 87)]⟩,
    o1 89 (.build [.nils, .nils] [(0, 1, (.t 84)), (1, 1, (.t 88))]),
    o1 12 (.alloc [.nils, .nils]),
    o0 (.store 2 (.t 12) (.t 89))]) (.keep [1, 2, 4, 8, 12]))
  (.seq (.seq (.seq (.ops [o1 90 (.fldA 0 (.t 8)),
    o1 91 (.load (.t 90)),
    o1 92 (.bin .eql (.t 91) (.c (.I 6)))]) (.keep [1, 2, 4, 8, 12, 92]))
  (.seq (.cond (.t 92)
  (.seq (.seq (.ops [o1 93 (.loadN 2 (.t 12)),
    o1 94 (.mv (.t 1)),
    ⟨some 95, none, [], true, .call f_sl15BoxesCopy [(.t 94)]⟩,
    o1 96 (.bsl [] 0 []),
    ⟨none, none, [(.t 96)], false, .store 2 (.t 4) (.t 93)⟩,
    o1 5 (.mv (.t 95)),
    o1 6 (.mv (.t 96)),
    o1 7 (.mv (.c (.I 2)))]) (.keep [4, 5, 6, 7]))
  (.ret))
  (.skip)) (.keep [1, 2, 4, 8, 12])))
  (.seq (.seq (.ops [o1 97 (.loadN 2 (.t 12)),
    o1 98 (.mv (.t 1)),
    ⟨some 99, none, [], true, .call f_sl15BoxesCopy [(.t 98)]⟩,
    o1 100 (.fldA 3 (.t 8)),
    o1 101 (.loadN 3 (.t 100)),
    o1 102 (.fldA 0 (.t 2)),
    o1 103 (.load (.t 102)),
    ⟨some 104, none, [], true, .call f_sl4Eval [(.t 101), (.t 103)]⟩,
    o1 105 (.bsl [(.I 0)] 1 [(0, 1, (.t 104))]),
    ⟨none, none, [(.t 105)], false, .store 2 (.t 4) (.t 97)⟩,
    o1 5 (.mv (.t 99)),
    o1 6 (.mv (.t 105)),
    o1 7 (.mv (.c (.I 1)))]) (.keep [4, 5, 6, 7]))
  (.ret)))))))), [.c 4 2, .t 5, .t 6, .t 7]⟩

/- loop.example/cothreads/laws.toTask -/
def c_wtoTask : AFn := ⟨1, .seq (.ops [o1 1 (.box (.t 0)),
    o1 2 (.alloc [.nils, .nils])])
  (.seq (.ops [o1 3 (.alloc [.nils, .nils])])
  (.seq (.seq (.ops [o1 4 (.fldA 0 (.t 1)),
    o1 5 (.load (.t 4)),
    o1 6 (.call f_wtoIntS [(.t 5)]),
    o1 7 (.fldA 0 (.t 3)),
    o0 (.store 1 (.t 7) (.t 6))]) (.keep [1, 2, 3]))
  (.seq (.seq (.ops [o1 8 (.fldA 1 (.t 1)),
    o1 9 (.load (.t 8)),
    o1 10 (.call f_wtoStmtS [(.t 9)]),
    o1 11 (.fldA 1 (.t 3)),
    o0 (.store 1 (.t 11) (.t 10))]) (.keep [2, 3]))
  (.seq (.seq (.ops [o1 12 (.loadN 2 (.t 3)),
    o0 (.store 2 (.t 2) (.t 12))]) (.keep [2]))
  (.ret))))), [.c 2 2]⟩

/- loop.example/cothreads/laws.toBoxS -/
def c_wtoBoxS_l0 : AC := .seq (.seq (.seq (.seq (.ops [o1 8 (.mv (.t 4)),
    o1 9 (.mv (.t 0)),
    o1 10 (.len (.t 9)),
    o1 11 (.bin .lss (.t 8) (.t 10))]) (.keep [0, 3, 4, 11]))
  (.seq (.cond (.t 11)
  (.skip)
  (.exit 0)) (.keep [0, 3, 4])))
  (.seq (.seq (.block 1 (.seq (.ops [o1 14 (.mv (.t 3)),
    o1 15 (.mv (.t 4)),
    o1 16 (.mv (.t 0)),
    o1 17 (.mv (.t 4)),
    o1 18 (.idxA 2 (.t 16) (.t 17)),
    o1 19 (.loadN 2 (.t 18)),
    o1 20 (.call f_wtoBox [(.t 19)]),
    o1 21 (.idxA 2 (.t 14) (.t 15)),
    o0 (.store 2 (.t 21) (.t 20))]) (.keep [0, 3, 4]))) (.keep [0, 3, 4]))
  (.seq (.ops [o1 12 (.mv (.t 4)),
    o1 13 (.bin .add (.t 12) (.c (.I 1))),
    o1 4 (.mv (.t 13))]) (.keep [0, 3, 4])))) (.keep [0, 3, 4])
def c_wtoBoxS : AFn := ⟨1, .seq (.seq (.ops [o1 2 (.mv (.c .nils))]) (.keep [0]))
  (.seq (.seq (.ops [o1 5 (.mv (.t 0)),
    o1 6 (.len (.t 5)),
    o1 7 (.mksl [(.I 0), .nils] (.t 6) (.t 6)),
    o1 3 (.mv (.t 7))]) (.keep [0, 3]))
  (.seq (.seq (.ops [o1 4 (.mv (.c (.I 0)))])
  (.seq (.block 0 (.seq (.keep [0, 3, 4]) (.loop c_wtoBoxS_l0))) (.keep [3])))
  (.seq (.seq (.ops [o1 22 (.mv (.t 3)),
    o1 2 (.mv (.t 22))]) (.keep [2]))
  (.ret)))), [.t 2]⟩

/- loop.example/cothreads/impl.TaskStep -/
def c_iTaskStep : AFn := ⟨2, .seq (.seq (.ops [o1 2 (.box (.t 0)),
    o1 4 (.alloc [.nils, .nils]),
    o1 5 (.mv (.c .nils)),
    o1 6 (.mv (.c .nils)),
    o1 7 (.mv (.c (.I 0)))]) (.keep [1, 2, 4]))
  (.seq (.seq (.seq (.ops [o1 13 (.loadN 2 (.t 2)),
    o1 14 (.call f_iTaskValid [(.t 13)]),
    o1 15 (.un .not (.t 14)),
    o1 16 (.mv (.t 15)),
    ⟨some 17, (some (16, false)), [], false, .mv (.t 1)⟩,
    ⟨some 18, (some (16, false)), [], false, .call f_iboxesValid [(.t 17)]⟩,
    ⟨some 19, (some (16, false)), [], false, .un .not (.t 18)⟩,
    o1 20 (.pick (.t 16) (.c (.b true)) (.t 19))]) (.keep [1, 2, 4, 20]))
  (.seq (.cond (.t 20)
  (.seq (.seq (.ops [o1 21 (.build [.nils, .nils] []),
    o0 (.store 2 (.t 4) (.t 21)),
    o1 5 (.mv (.c .nils)),
    o1 6 (.mv (.c .nils)),
    o1 7 (.mv (.c (.I 0)))]) (.keep [4, 5, 6, 7]))
  (.ret))
  (.skip)) (.keep [1, 2, 4])))
  (.seq (.seq (.seq (.ops [o1 22 (.fldA 1 (.t 2)),
    o1 23 (.load (.t 22)),
    o1 24 (.len (.t 23)),
    o1 25 (.bin .gtr (.t 24) (.c (.I 0)))]) (.keep [1, 2, 4, 25]))
  (.seq (.cond (.t 25)
  (.seq (.seq (.ops [o1 26 (.fldA 1 (.t 2)),
    o1 27 (.load (.t 26)),
    o1 28 (.idxA 8 (.t 27) (.c (.I 0))),
    o1 29 (.loadN 8 (.t 28)),
    o1 8 (.alloc [(.I 0), (.I 0), (.I 0), (.I 0), (.I 0), .nils, .nils, .nils]),
    o0 (.store 8 (.t 8) (.t 29))]) (.keep [1, 2, 4, 8]))
  (.seq (.seq (.ops [o1 30 (.fldA 0 (.t 8)),
    o1 31 (.load (.t 30)),
    o1 32 (.bin .eql (.t 31) (.c (.I 4))),
    o1 33 (.mv (.t 32)),
    ⟨some 34, (some (33, false)), [], false, .fldA 0 (.t 8)⟩,
    ⟨some 35, (some (33, false)), [], false, .load (.t 34)⟩,
    ⟨some 36, (some (33, false)), [], false, .bin .eql (.t 35) (.c (.I 5))⟩,
    o1 37 (.pick (.t 33) (.c (.b true)) (.t 36)),
    o1 38 (.mv (.t 37)),
    ⟨some 39, (some (38, true)), [], false, .fldA 2 (.t 8)⟩,
    ⟨some 40, (some (38, true)), [], false, .load (.t 39)⟩,
    ⟨some 41, (some (38, true)), [], false, .mv (.t 1)⟩,
    ⟨some 42, (some (38, true)), [], false, .len (.t 41)⟩,
    ⟨some 43, (some (38, true)), [], false, .bin .geq (.t 40) (.t 42)⟩,
    o1 44 (.pick (.t 38) (.t 43) (.c (.b false)))]) (.keep [1, 2, 4, 44]))
  (.seq (.cond (.t 44)
  (.seq (.seq (.ops [o1 45 (.build [.nils, .nils] []),
    o0 (.store 2 (.t 4) (.t 45)),
    o1 5 (.mv (.c .nils)),
    o1 6 (.mv (.c .nils)),
    o1 7 (.mv (.c (.I 0)))]) (.keep [4, 5, 6, 7]))
  (.ret))
  (.skip)) (.keep [1, 2, 4]))))
  (.skip)) (.keep [1, 2, 4])))
  (.seq (.seq (.ops [o1 46 (.loadN 2 (.t 2)),
    o1 47 (.call f_inewRunning [(.t 46)]),
    o1 9 (.mv (.t 47))]) (.keep [1, 4, 9]))
  (.seq (.seq (.ops [o1 48 (.mv (.t 1)),
    o1 49 (.call f_iboxesCopy [(.t 48)]),
    o1 10 (.mv (.t 49))]) (.keep [4, 9, 10]))
  (.seq (.ops [o1 11 (.alloc [.nils])])
  (.seq (.seq (.ops [o1 50 (.mv (.t 9)),
    o1 51 (.mv (.t 10)),
    o1 52 (.mkfn f_iTaskStep_1 [] [(.t 11)]),
    o1 53 (.call f_irunning_step [(.t 50), (.t 51), (.t 52)]),
    o1 12 (.mv (.t 53))]) (.keep [4, 9, 10, 11, 12]))
  (.seq (.seq (.ops [o1 54 (.mv (.t 9)),
    ⟨some 55, none, [], true, .call f_irunning_task [(.t 54)]⟩,
    o1 56 (.mv (.t 10)),
    o1 57 (.load (.t 11)),
    o1 58 (.mv (.t 12)),
    ⟨none, none, [(.t 11)], false, .store 2 (.t 4) (.t 55)⟩,
    o1 5 (.mv (.t 56)),
    o1 6 (.mv (.t 57)),
    o1 7 (.mv (.t 58))]) (.keep [4, 5, 6, 7]))
  (.ret)))))))), [.c 4 2, .t 5, .t 6, .t 7]⟩

/- loop.example/cothreads/laws.eqTask -/
def c_weqTask : AFn := ⟨2, .seq (.seq (.ops [o1 2 (.box (.t 0)),
    o1 3 (.box (.t 1)),
    o1 4 (.mv (.c (.b false)))]) (.keep [2, 3]))
  (.seq (.seq (.seq (.ops [o1 5 (.fldA 0 (.t 2)),
    o1 6 (.load (.t 5)),
    o1 7 (.fldA 0 (.t 3)),
    o1 8 (.load (.t 7)),
    o1 9 (.call f_weqIntS [(.t 6), (.t 8)]),
    o1 10 (.un .not (.t 9))]) (.keep [2, 3, 10]))
  (.seq (.cond (.t 10)
  (.seq (.ops [o1 4 (.mv (.c (.b false)))])
  (.ret))
  (.skip)) (.keep [2, 3])))
  (.seq (.seq (.seq (.ops [o1 11 (.fldA 1 (.t 2)),
    o1 12 (.load (.t 11)),
    o1 13 (.fldA 1 (.t 3)),
    o1 14 (.load (.t 13)),
    o1 15 (.call f_weqStmtS [(.t 12), (.t 14)]),
    o1 16 (.un .not (.t 15))]) (.keep [16]))
  (.seq (.cond (.t 16)
  (.seq (.ops [o1 4 (.mv (.c (.b false)))])
  (.ret))
  (.skip)) (.keep [])))
  (.seq (.ops [o1 4 (.mv (.c (.b true)))])
  (.ret)))), [.t 4]⟩

/- loop.example/cothreads/laws.eqBoxS -/
def c_weqBoxS_l0 : AC := .seq (.seq (.seq (.seq (.ops [o1 11 (.mv (.t 5)),
    o1 12 (.mv (.t 0)),
    o1 13 (.len (.t 12)),
    o1 14 (.bin .lss (.t 11) (.t 13))]) (.keep [0, 1, 5, 14]))
  (.seq (.cond (.t 14)
  (.skip)
  (.exit 0)) (.keep [0, 1, 5])))
  (.seq (.seq (.block 1 (.seq (.seq (.ops [o1 17 (.mv (.t 0)),
    o1 18 (.mv (.t 5)),
    o1 19 (.idxA 2 (.t 17) (.t 18)),
    o1 20 (.loadN 2 (.t 19)),
    o1 21 (.mv (.t 1)),
    o1 22 (.mv (.t 5)),
    o1 23 (.idxA 2 (.t 21) (.t 22)),
    o1 24 (.loadN 2 (.t 23)),
    ⟨some 25, none, [], true, .call f_weqBox [(.t 20), (.t 24)]⟩,
    o1 26 (.un .not (.t 25))]) (.keep [0, 1, 5, 26]))
  (.seq (.cond (.t 26)
  (.seq (.ops [o1 4 (.mv (.c (.b false)))])
  (.ret))
  (.skip)) (.keep [0, 1, 5])))) (.keep [0, 1, 5]))
  (.seq (.ops [o1 15 (.mv (.t 5)),
    o1 16 (.bin .add (.t 15) (.c (.I 1))),
    o1 5 (.mv (.t 16))]) (.keep [0, 1, 5])))) (.keep [0, 1, 5])
def c_weqBoxS : AFn := ⟨2, .seq (.seq (.ops [o1 4 (.mv (.c (.b false)))]) (.keep [0, 1]))
  (.seq (.seq (.seq (.ops [o1 6 (.mv (.t 0)),
    o1 7 (.len (.t 6)),
    o1 8 (.mv (.t 1)),
    o1 9 (.len (.t 8)),
    o1 10 (.bin .neq (.t 7) (.t 9))]) (.keep [0, 1, 10]))
  (.seq (.cond (.t 10)
  (.seq (.ops [o1 4 (.mv (.c (.b false)))])
  (.ret))
  (.skip)) (.keep [0, 1])))
  (.seq (.seq (.ops [o1 5 (.mv (.c (.I 0)))])
  (.seq (.block 0 (.seq (.keep [0, 1, 5]) (.loop c_weqBoxS_l0))) (.keep [])))
  (.seq (.ops [o1 4 (.mv (.c (.b true)))])
  (.ret)))), [.t 4]⟩

/- loop.example/cothreads/laws.eqIntS -/
def c_weqIntS_l0 : AC := .seq (.seq (.seq (.seq (.ops [o1 11 (.mv (.t 5)),
    o1 12 (.mv (.t 0)),
    o1 13 (.len (.t 12)),
    o1 14 (.bin .lss (.t 11) (.t 13))]) (.keep [0, 1, 5, 14]))
  (.seq (.cond (.t 14)
  (.skip)
  (.exit 0)) (.keep [0, 1, 5])))
  (.seq (.seq (.block 1 (.seq (.seq (.ops [o1 17 (.mv (.t 0)),
    o1 18 (.mv (.t 5)),
    o1 19 (.idxA 1 (.t 17) (.t 18)),
    o1 20 (.load (.t 19)),
    o1 21 (.mv (.t 1)),
    o1 22 (.mv (.t 5)),
    o1 23 (.idxA 1 (.t 21) (.t 22)),
    o1 24 (.load (.t 23)),
    o1 25 (.bin .neq (.t 20) (.t 24))]) (.keep [0, 1, 5, 25]))
  (.seq (.cond (.t 25)
  (.seq (.ops [o1 4 (.mv (.c (.b false)))])
  (.ret))
  (.skip)) (.keep [0, 1, 5])))) (.keep [0, 1, 5]))
  (.seq (.ops [o1 15 (.mv (.t 5)),
    o1 16 (.bin .add (.t 15) (.c (.I 1))),
    o1 5 (.mv (.t 16))]) (.keep [0, 1, 5])))) (.keep [0, 1, 5])
def c_weqIntS : AFn := ⟨2, .seq (.seq (.ops [o1 4 (.mv (.c (.b false)))]) (.keep [0, 1]))
  (.seq (.seq (.seq (.ops [o1 6 (.mv (.t 0)),
    o1 7 (.len (.t 6)),
    o1 8 (.mv (.t 1)),
    o1 9 (.len (.t 8)),
    o1 10 (.bin .neq (.t 7) (.t 9))]) (.keep [0, 1, 10]))
  (.seq (.cond (.t 10)
  (.seq (.ops [o1 4 (.mv (.c (.b false)))])
  (.ret))
  (.skip)) (.keep [0, 1])))
  (.seq (.seq (.ops [o1 5 (.mv (.c (.I 0)))])
  (.seq (.block 0 (.seq (.keep [0, 1, 5]) (.loop c_weqIntS_l0))) (.keep [])))
  (.seq (.ops [o1 4 (.mv (.c (.b true)))])
  (.ret)))), [.t 4]⟩

/- loop.example/cothreads/laws.markTask -/
def c_wmarkTask : AFn := ⟨2, .seq (.seq (.ops [o1 2 (.box (.t 0)),
    o1 4 (.mv (.c (.I 0)))]) (.keep [1, 2]))
  (.seq (.seq (.ops [o1 5 (.fldA 0 (.t 2)),
    o1 6 (.load (.t 5)),
    o1 7 (.mv (.t 1)),
    o1 8 (.call f_wmarkIntS [(.t 6), (.t 7)]),
    o1 1 (.mv (.t 8))]) (.keep [1, 2]))
  (.seq (.seq (.ops [o1 9 (.fldA 1 (.t 2)),
    o1 10 (.load (.t 9)),
    o1 11 (.mv (.t 1)),
    o1 12 (.call f_wmarkStmtS [(.t 10), (.t 11)]),
    o1 1 (.mv (.t 12))]) (.keep [1]))
  (.seq (.seq (.ops [o1 13 (.mv (.t 1)),
    o1 4 (.mv (.t 13))]) (.keep [4]))
  (.ret)))), [.t 4]⟩

/- loop.example/cothreads/laws.markBoxS -/
def c_wmarkBoxS_l0 : AC := .seq (.seq (.seq (.seq (.ops [o1 6 (.mv (.t 5)),
    o1 7 (.mv (.t 0)),
    o1 8 (.len (.t 7)),
    o1 9 (.bin .lss (.t 6) (.t 8))]) (.keep [0, 1, 5, 9]))
  (.seq (.cond (.t 9)
  (.skip)
  (.exit 0)) (.keep [0, 1, 5])))
  (.seq (.seq (.block 1 (.seq (.seq (.ops [o1 12 (.mv (.t 0)),
    o1 13 (.mv (.t 5)),
    o1 14 (.mv (.t 1)),
    o1 15 (.idxA 2 (.t 12) (.t 13)),
    o1 16 (.fldA 0 (.t 15)),
    o0 (.store 1 (.t 16) (.t 14))]) (.keep [0, 1, 5]))
  (.seq (.seq (.ops [o1 17 (.mv (.t 1)),
    o1 18 (.bin .add (.t 17) (.c (.I 1))),
    o1 1 (.mv (.t 18))]) (.keep [0, 1, 5]))
  (.seq (.ops [o1 19 (.mv (.t 0)),
    o1 20 (.mv (.t 5)),
    o1 21 (.idxA 2 (.t 19) (.t 20)),
    o1 22 (.fldA 1 (.t 21)),
    o1 23 (.load (.t 22)),
    o1 24 (.mv (.t 1)),
    o1 25 (.call f_wmarkIntS [(.t 23), (.t 24)]),
    o1 1 (.mv (.t 25))]) (.keep [0, 1, 5]))))) (.keep [0, 1, 5]))
  (.seq (.ops [o1 10 (.mv (.t 5)),
    o1 11 (.bin .add (.t 10) (.c (.I 1))),
    o1 5 (.mv (.t 11))]) (.keep [0, 1, 5])))) (.keep [0, 1, 5])
def c_wmarkBoxS : AFn := ⟨2, .seq (.seq (.ops [o1 4 (.mv (.c (.I 0)))]) (.keep [0, 1]))
  (.seq (.seq (.ops [o1 5 (.mv (.c (.I 0)))])
  (.seq (.block 0 (.seq (.keep [0, 1, 5]) (.loop c_wmarkBoxS_l0))) (.keep [1])))
  (.seq (.seq (.ops [o1 26 (.mv (.t 1)),
    o1 4 (.mv (.t 26))]) (.keep [4]))
  (.ret))), [.t 4]⟩

/- loop.example/cothreads/laws.markIntS -/
def c_wmarkIntS_l0 : AC := .seq (.seq (.seq (.seq (.ops [o1 6 (.mv (.t 5)),
    o1 7 (.mv (.t 0)),
    o1 8 (.len (.t 7)),
    o1 9 (.bin .lss (.t 6) (.t 8))]) (.keep [0, 1, 5, 9]))
  (.seq (.cond (.t 9)
  (.skip)
  (.exit 0)) (.keep [0, 1, 5])))
  (.seq (.seq (.block 1 (.seq (.seq (.ops [o1 12 (.mv (.t 0)),
    o1 13 (.mv (.t 5)),
    o1 14 (.mv (.t 1)),
    o1 15 (.idxA 1 (.t 12) (.t 13)),
    o0 (.store 1 (.t 15) (.t 14))]) (.keep [0, 1, 5]))
  (.seq (.ops [o1 16 (.mv (.t 1)),
    o1 17 (.bin .add (.t 16) (.c (.I 1))),
    o1 1 (.mv (.t 17))]) (.keep [0, 1, 5])))) (.keep [0, 1, 5]))
  (.seq (.ops [o1 10 (.mv (.t 5)),
    o1 11 (.bin .add (.t 10) (.c (.I 1))),
    o1 5 (.mv (.t 11))]) (.keep [0, 1, 5])))) (.keep [0, 1, 5])
def c_wmarkIntS : AFn := ⟨2, .seq (.seq (.ops [o1 4 (.mv (.c (.I 0)))]) (.keep [0, 1]))
  (.seq (.seq (.ops [o1 5 (.mv (.c (.I 0)))])
  (.seq (.block 0 (.seq (.keep [0, 1, 5]) (.loop c_wmarkIntS_l0))) (.keep [1])))
  (.seq (.seq (.ops [o1 18 (.mv (.t 1)),
    o1 4 (.mv (.t 18))]) (.keep [4]))
  (.ret))), [.t 4]⟩

/- loop.example/cothreads/laws.heldTask -/
def c_wheldTask : AFn := ⟨2, .seq (.seq (.ops [o1 2 (.box (.t 0)),
    o1 4 (.mv (.c (.I 0)))]) (.keep [1, 2]))
  (.seq (.seq (.ops [o1 5 (.fldA 0 (.t 2)),
    o1 6 (.load (.t 5)),
    o1 7 (.mv (.t 1)),
    o1 8 (.call f_wheldIntS [(.t 6), (.t 7)]),
    o1 1 (.mv (.t 8))]) (.keep [1, 2]))
  (.seq (.seq (.seq (.ops [o1 9 (.mv (.t 1)),
    o1 10 (.bin .lss (.t 9) (.c (.I 0)))]) (.keep [1, 2, 10]))
  (.seq (.cond (.t 10)
  (.seq (.ops [o1 4 (.mv (.c (.I (-1))))])
  (.ret))
  (.skip)) (.keep [1, 2])))
  (.seq (.seq (.ops [o1 11 (.fldA 1 (.t 2)),
    o1 12 (.load (.t 11)),
    o1 13 (.mv (.t 1)),
    o1 14 (.call f_wheldStmtS [(.t 12), (.t 13)]),
    o1 1 (.mv (.t 14))]) (.keep [1]))
  (.seq (.seq (.seq (.ops [o1 15 (.mv (.t 1)),
    o1 16 (.bin .lss (.t 15) (.c (.I 0)))]) (.keep [1, 16]))
  (.seq (.cond (.t 16)
  (.seq (.ops [o1 4 (.mv (.c (.I (-1))))])
  (.ret))
  (.skip)) (.keep [1])))
  (.seq (.seq (.ops [o1 17 (.mv (.t 1)),
    o1 4 (.mv (.t 17))]) (.keep [4]))
  (.ret)))))), [.t 4]⟩

/- loop.example/cothreads/laws.heldBoxS -/
def c_wheldBoxS_l0 : AC := .seq (.seq (.seq (.seq (.ops [o1 6 (.mv (.t 5)),
    o1 7 (.mv (.t 0)),
    o1 8 (.len (.t 7)),
    o1 9 (.bin .lss (.t 6) (.t 8))]) (.keep [0, 1, 5, 9]))
  (.seq (.cond (.t 9)
  (.skip)
  (.exit 0)) (.keep [0, 1, 5])))
  (.seq (.seq (.block 1 (.seq (.seq (.seq (.ops [o1 12 (.mv (.t 0)),
    o1 13 (.mv (.t 5)),
    o1 14 (.idxA 2 (.t 12) (.t 13)),
    o1 15 (.fldA 0 (.t 14)),
    o1 16 (.load (.t 15)),
    o1 17 (.mv (.t 1)),
    o1 18 (.bin .neq (.t 16) (.t 17))]) (.keep [0, 1, 5, 18]))
  (.seq (.cond (.t 18)
  (.seq (.ops [o1 4 (.mv (.c (.I (-1))))])
  (.ret))
  (.skip)) (.keep [0, 1, 5])))
  (.seq (.seq (.ops [o1 19 (.mv (.t 1)),
    o1 20 (.bin .add (.t 19) (.c (.I 1))),
    o1 1 (.mv (.t 20))]) (.keep [0, 1, 5]))
  (.seq (.seq (.ops [o1 21 (.mv (.t 0)),
    o1 22 (.mv (.t 5)),
    o1 23 (.idxA 2 (.t 21) (.t 22)),
    o1 24 (.fldA 1 (.t 23)),
    o1 25 (.load (.t 24)),
    o1 26 (.mv (.t 1)),
    o1 27 (.call f_wheldIntS [(.t 25), (.t 26)]),
    o1 1 (.mv (.t 27))]) (.keep [0, 1, 5]))
  (.seq (.seq (.ops [o1 28 (.mv (.t 1)),
    o1 29 (.bin .lss (.t 28) (.c (.I 0)))]) (.keep [0, 1, 5, 29]))
  (.seq (.cond (.t 29)
  (.seq (.ops [o1 4 (.mv (.c (.I (-1))))])
  (.ret))
  (.skip)) (.keep [0, 1, 5]))))))) (.keep [0, 1, 5]))
  (.seq (.ops [o1 10 (.mv (.t 5)),
    o1 11 (.bin .add (.t 10) (.c (.I 1))),
    o1 5 (.mv (.t 11))]) (.keep [0, 1, 5])))) (.keep [0, 1, 5])
def c_wheldBoxS : AFn := ⟨2, .seq (.seq (.ops [o1 4 (.mv (.c (.I 0)))]) (.keep [0, 1]))
  (.seq (.seq (.ops [o1 5 (.mv (.c (.I 0)))])
  (.seq (.block 0 (.seq (.keep [0, 1, 5]) (.loop c_wheldBoxS_l0))) (.keep [1])))
  (.seq (.seq (.ops [o1 30 (.mv (.t 1)),
    o1 4 (.mv (.t 30))]) (.keep [4]))
  (.ret))), [.t 4]⟩

/- loop.example/cothreads/laws.heldIntS -/
def c_wheldIntS_l0 : AC := .seq (.seq (.seq (.seq (.ops [o1 6 (.mv (.t 5)),
    o1 7 (.mv (.t 0)),
    o1 8 (.len (.t 7)),
    o1 9 (.bin .lss (.t 6) (.t 8))]) (.keep [0, 1, 5, 9]))
  (.seq (.cond (.t 9)
  (.skip)
  (.exit 0)) (.keep [0, 1, 5])))
  (.seq (.seq (.block 1 (.seq (.seq (.seq (.ops [o1 12 (.mv (.t 0)),
    o1 13 (.mv (.t 5)),
    o1 14 (.idxA 1 (.t 12) (.t 13)),
    o1 15 (.load (.t 14)),
    o1 16 (.mv (.t 1)),
    o1 17 (.bin .neq (.t 15) (.t 16))]) (.keep [0, 1, 5, 17]))
  (.seq (.cond (.t 17)
  (.seq (.ops [o1 4 (.mv (.c (.I (-1))))])
  (.ret))
  (.skip)) (.keep [0, 1, 5])))
  (.seq (.ops [o1 18 (.mv (.t 1)),
    o1 19 (.bin .add (.t 18) (.c (.I 1))),
    o1 1 (.mv (.t 19))]) (.keep [0, 1, 5])))) (.keep [0, 1, 5]))
  (.seq (.ops [o1 10 (.mv (.t 5)),
    o1 11 (.bin .add (.t 10) (.c (.I 1))),
    o1 5 (.mv (.t 11))]) (.keep [0, 1, 5])))) (.keep [0, 1, 5])
def c_wheldIntS : AFn := ⟨2, .seq (.seq (.ops [o1 4 (.mv (.c (.I 0)))]) (.keep [0, 1]))
  (.seq (.seq (.ops [o1 5 (.mv (.c (.I 0)))])
  (.seq (.block 0 (.seq (.keep [0, 1, 5]) (.loop c_wheldIntS_l0))) (.keep [1])))
  (.seq (.seq (.ops [o1 20 (.mv (.t 1)),
    o1 4 (.mv (.t 20))]) (.keep [4]))
  (.ret))), [.t 4]⟩

/- loop.example/cothreads/laws.szIntS -/
def c_wszIntS : AFn := ⟨2, .seq (.seq (.ops [o1 4 (.mv (.c (.I 0)))]) (.keep [0, 1]))
  (.seq (.seq (.ops [o1 5 (.mv (.t 1)),
    o1 6 (.mv (.t 0)),
    o1 7 (.len (.t 6)),
    o1 8 (.bin .sub (.t 5) (.t 7)),
    o1 1 (.mv (.t 8))]) (.keep [1]))
  (.seq (.seq (.seq (.ops [o1 9 (.mv (.t 1)),
    o1 10 (.bin .lss (.t 9) (.c (.I 0)))]) (.keep [1, 10]))
  (.seq (.cond (.t 10)
  (.seq (.ops [o1 4 (.mv (.c (.I (-1))))])
  (.ret))
  (.skip)) (.keep [1])))
  (.seq (.seq (.ops [o1 11 (.mv (.t 1)),
    o1 4 (.mv (.t 11))]) (.keep [4]))
  (.ret)))), [.t 4]⟩

/- loop.example/cothreads/laws.toIntS -/
def c_wtoIntS_l0 : AC := .seq (.seq (.seq (.seq (.ops [o1 8 (.mv (.t 4)),
    o1 9 (.mv (.t 0)),
    o1 10 (.len (.t 9)),
    o1 11 (.bin .lss (.t 8) (.t 10))]) (.keep [0, 3, 4, 11]))
  (.seq (.cond (.t 11)
  (.skip)
  (.exit 0)) (.keep [0, 3, 4])))
  (.seq (.seq (.block 1 (.seq (.ops [o1 14 (.mv (.t 3)),
    o1 15 (.mv (.t 4)),
    o1 16 (.mv (.t 0)),
    o1 17 (.mv (.t 4)),
    o1 18 (.idxA 1 (.t 16) (.t 17)),
    o1 19 (.load (.t 18)),
    o1 20 (.idxA 1 (.t 14) (.t 15)),
    o0 (.store 1 (.t 20) (.t 19))]) (.keep [0, 3, 4]))) (.keep [0, 3, 4]))
  (.seq (.ops [o1 12 (.mv (.t 4)),
    o1 13 (.bin .add (.t 12) (.c (.I 1))),
    o1 4 (.mv (.t 13))]) (.keep [0, 3, 4])))) (.keep [0, 3, 4])
def c_wtoIntS : AFn := ⟨1, .seq (.seq (.ops [o1 2 (.mv (.c .nils))]) (.keep [0]))
  (.seq (.seq (.ops [o1 5 (.mv (.t 0)),
    o1 6 (.len (.t 5)),
    o1 7 (.mksl [(.I 0)] (.t 6) (.t 6)),
    o1 3 (.mv (.t 7))]) (.keep [0, 3]))
  (.seq (.seq (.ops [o1 4 (.mv (.c (.I 0)))])
  (.seq (.block 0 (.seq (.keep [0, 3, 4]) (.loop c_wtoIntS_l0))) (.keep [3])))
  (.seq (.seq (.ops [o1 21 (.mv (.t 3)),
    o1 2 (.mv (.t 21))]) (.keep [2]))
  (.ret)))), [.t 2]⟩

/- loop.example/cothreads/laws.szStmtS -/
def c_wszStmtS_l0 : AC := .seq (.seq (.seq (.seq (.ops [o1 12 (.mv (.t 5)),
    o1 13 (.mv (.t 0)),
    o1 14 (.len (.t 13)),
    o1 15 (.bin .lss (.t 12) (.t 14))]) (.keep [0, 1, 5, 15]))
  (.seq (.cond (.t 15)
  (.skip)
  (.exit 0)) (.keep [0, 1, 5])))
  (.seq (.seq (.block 1 (.seq (.seq (.ops [o1 18 (.mv (.t 0)),
    o1 19 (.mv (.t 5)),
    o1 20 (.idxA 8 (.t 18) (.t 19)),
    o1 21 (.loadN 8 (.t 20)),
    o1 22 (.mv (.t 1)),
    o1 23 (.call f_wszStmt [(.t 21), (.t 22)]),
    o1 1 (.mv (.t 23))]) (.keep [0, 1, 5]))
  (.seq (.seq (.ops [o1 24 (.mv (.t 1)),
    o1 25 (.bin .lss (.t 24) (.c (.I 0)))]) (.keep [0, 1, 5, 25]))
  (.seq (.cond (.t 25)
  (.seq (.ops [o1 4 (.mv (.c (.I (-1))))])
  (.ret))
  (.skip)) (.keep [0, 1, 5]))))) (.keep [0, 1, 5]))
  (.seq (.ops [o1 16 (.mv (.t 5)),
    o1 17 (.bin .add (.t 16) (.c (.I 1))),
    o1 5 (.mv (.t 17))]) (.keep [0, 1, 5])))) (.keep [0, 1, 5])
def c_wszStmtS : AFn := ⟨2, .seq (.seq (.ops [o1 4 (.mv (.c (.I 0)))]) (.keep [0, 1]))
  (.seq (.seq (.ops [o1 6 (.mv (.t 1)),
    o1 7 (.mv (.t 0)),
    o1 8 (.len (.t 7)),
    o1 9 (.bin .sub (.t 6) (.t 8)),
    o1 1 (.mv (.t 9))]) (.keep [0, 1]))
  (.seq (.seq (.seq (.ops [o1 10 (.mv (.t 1)),
    o1 11 (.bin .lss (.t 10) (.c (.I 0)))]) (.keep [0, 1, 11]))
  (.seq (.cond (.t 11)
  (.seq (.ops [o1 4 (.mv (.c (.I (-1))))])
  (.ret))
  (.skip)) (.keep [0, 1])))
  (.seq (.seq (.ops [o1 5 (.mv (.c (.I 0)))])
  (.seq (.block 0 (.seq (.keep [0, 1, 5]) (.loop c_wszStmtS_l0))) (.keep [1])))
  (.seq (.seq (.ops [o1 26 (.mv (.t 1)),
    o1 4 (.mv (.t 26))]) (.keep [4]))
  (.ret))))), [.t 4]⟩

/- loop.example/cothreads/laws.szBox -/
def c_wszBox : AFn := ⟨2, .seq (.seq (.ops [o1 2 (.box (.t 0)),
    o1 4 (.mv (.c (.I 0)))]) (.keep [1, 2]))
  (.seq (.seq (.ops [o1 5 (.fldA 1 (.t 2)),
    o1 6 (.load (.t 5)),
    o1 7 (.mv (.t 1)),
    o1 8 (.call f_wszIntS [(.t 6), (.t 7)]),
    o1 1 (.mv (.t 8))]) (.keep [1]))
  (.seq (.seq (.seq (.ops [o1 9 (.mv (.t 1)),
    o1 10 (.bin .lss (.t 9) (.c (.I 0)))]) (.keep [1, 10]))
  (.seq (.cond (.t 10)
  (.seq (.ops [o1 4 (.mv (.c (.I (-1))))])
  (.ret))
  (.skip)) (.keep [1])))
  (.seq (.seq (.ops [o1 11 (.mv (.t 1)),
    o1 4 (.mv (.t 11))]) (.keep [4]))
  (.ret)))), [.t 4]⟩

/- loop.example/cothreads/spec.TaskValid -/
def c_sTaskValid_l0 : AC := .seq (.seq (.seq (.seq (.ops [o1 4 (.mv (.t 3)),
    o1 5 (.fldA 1 (.t 1)),
    o1 6 (.load (.t 5)),
    o1 7 (.len (.t 6)),
    o1 8 (.bin .lss (.t 4) (.t 7))]) (.keep [1, 3, 8]))
  (.seq (.cond (.t 8)
  (.skip)
  (.exit 0)) (.keep [1, 3])))
  (.seq (.seq (.block 1 (.seq (.seq (.ops [o1 11 (.fldA 1 (.t 1)),
    o1 12 (.load (.t 11)),
    o1 13 (.mv (.t 3)),
    o1 14 (.mv (.t 3)),
    o1 15 (.bin .add (.t 14) (.c (.I 1))),
    o1 16 (.slice 8 (.t 12) (some (.t 13)) (some (.t 15)) none),
    o1 17 (.call f_sStmtsValid [(.t 16)]),
    o1 18 (.un .not (.t 17))]) (.keep [1, 3, 18]))
  (.seq (.cond (.t 18)
  (.seq (.ops [o1 2 (.mv (.c (.b false)))])
  (.ret))
  (.skip)) (.keep [1, 3])))) (.keep [1, 3]))
  (.seq (.ops [o1 9 (.mv (.t 3)),
    o1 10 (.bin .add (.t 9) (.c (.I 1))),
    o1 3 (.mv (.t 10))]) (.keep [1, 3])))) (.keep [1, 3])
def c_sTaskValid : AFn := ⟨1, .seq (.seq (.ops [o1 1 (.box (.t 0)),
    o1 2 (.mv (.c (.b false)))]) (.keep [1]))
  (.seq (.seq (.ops [o1 3 (.mv (.c (.I 0)))])
  (.seq (.block 0 (.seq (.keep [1, 3]) (.loop c_sTaskValid_l0))) (.keep [1])))
  (.seq (.seq (.ops [o1 19 (.fldA 0 (.t 1)),
    o1 20 (.load (.t 19)),
    o1 21 (.call f_sl4Words [(.t 20), (.c (.I 4))]),
    o1 2 (.mv (.t 21))]) (.keep [2]))
  (.ret))), [.t 2]⟩

/- loop.example/cothreads/spec.l15Boxes -/
def c_sl15Boxes_l0 : AC := .seq (.seq (.seq (.seq (.ops [o1 4 (.mv (.t 3)),
    o1 5 (.mv (.t 0)),
    o1 6 (.len (.t 5)),
    o1 7 (.bin .lss (.t 4) (.t 6))]) (.keep [0, 3, 7]))
  (.seq (.cond (.t 7)
  (.skip)
  (.exit 0)) (.keep [0, 3])))
  (.seq (.seq (.block 1 (.seq (.seq (.ops [o1 10 (.mv (.t 0)),
    o1 11 (.mv (.t 3)),
    o1 12 (.idxA 2 (.t 10) (.t 11)),
    o1 13 (.loadN 2 (.t 12)),
    o1 14 (.call f_sBoxValid [(.t 13)]),
    o1 15 (.un .not (.t 14))]) (.keep [0, 3, 15]))
  (.seq (.cond (.t 15)
  (.seq (.ops [o1 2 (.mv (.c (.b false)))])
  (.ret))
  (.skip)) (.keep [0, 3])))) (.keep [0, 3]))
  (.seq (.ops [o1 8 (.mv (.t 3)),
    o1 9 (.bin .add (.t 8) (.c (.I 1))),
    o1 3 (.mv (.t 9))]) (.keep [0, 3])))) (.keep [0, 3])
def c_sl15Boxes : AFn := ⟨1, .seq (.seq (.ops [o1 2 (.mv (.c (.b false)))]) (.keep [0]))
  (.seq (.seq (.ops [o1 3 (.mv (.c (.I 0)))])
  (.seq (.block 0 (.seq (.keep [0, 3]) (.loop c_sl15Boxes_l0))) (.keep [0])))
  (.seq (.seq (.ops [o1 16 (.mv (.t 0)),
    o1 17 (.len (.t 16)),
    o1 18 (.bin .leq (.t 17) (.c (.I 3))),
    o1 2 (.mv (.t 18))]) (.keep [2]))
  (.ret))), [.t 2]⟩

/- loop.example/cothreads/spec.l15Ready -/
def c_sl15Ready : AFn := ⟨2, .seq (.seq (.ops [o1 2 (.box (.t 0)),
    o1 4 (.mv (.c (.b false)))]) (.keep [1, 2]))
  (.seq (.seq (.seq (.ops [o1 6 (.fldA 1 (.t 2)),
    o1 7 (.load (.t 6)),
    o1 8 (.len (.t 7)),
    o1 9 (.bin .eql (.t 8) (.c (.I 0)))]) (.keep [1, 2, 9]))
  (.seq (.cond (.t 9)
  (.seq (.ops [o1 4 (.mv (.c (.b true)))])
  (.ret))
  (.skip)) (.keep [1, 2])))
  (.seq (.seq (.ops [o1 10 (.fldA 1 (.t 2)),
    o1 11 (.load (.t 10)),
    o1 12 (.idxA 8 (.t 11) (.c (.I 0))),
    o1 13 (.loadN 8 (.t 12)),
    o1 5 (.alloc [(.I 0), (.I 0), (.I 0), (.I 0), (.I 0), .nils, .nils, .nils]),
    o0 (.store 8 (.t 5) (.t 13))]) (.keep [1, 5]))
  (.seq (.seq (.ops [o1 14 (.fldA 0 (.t 5)),
    o1 15 (.load (.t 14)),
    o1 16 (.bin .neq (.t 15) (.c (.I 4))),
    o1 17 (.mv (.t 16)),
    ⟨some 18, (some (17, true)), [], false, .fldA 0 (.t 5)⟩,
    ⟨some 19, (some (17, true)), [], false, .load (.t 18)⟩,
    ⟨some 20, (some (17, true)), [], false, .bin .neq (.t 19) (.c (.I 5))⟩,
    o1 21 (.pick (.t 17) (.t 20) (.c (.b false))),
    o1 22 (.mv (.t 21)),
    ⟨some 23, (some (22, false)), [], false, .fldA 2 (.t 5)⟩,
    ⟨some 24, (some (22, false)), [], false, .load (.t 23)⟩,
    ⟨some 25, (some (22, false)), [], false, .mv (.t 1)⟩,
    ⟨some 26, (some (22, false)), [], false, .len (.t 25)⟩,
    ⟨some 27, (some (22, false)), [], false, .bin .lss (.t 24) (.t 26)⟩,
    o1 28 (.pick (.t 22) (.c (.b true)) (.t 27)),
    o1 4 (.mv (.t 28))]) (.keep [4]))
  (.ret)))), [.t 4]⟩

/- loop.example/cothreads/spec.l15Copy -/
def c_sl15Copy : AFn := ⟨1, .seq (.ops [o1 1 (.box (.t 0)),
    o1 2 (.alloc [.nils, .nils])])
  (.seq (.seq (.ops [o1 3 (.bsl [] 0 []),
    o1 4 (.fldA 0 (.t 1)),
    o1 5 (.load (.t 4)),
    ⟨some 6, none, [], true, .app 1 (.t 3) (.t 5)⟩,
    o1 7 (.fldA 1 (.t 1)),
    o1 8 (.load (.t 7)),
    ⟨some 9, none, [], true, .call f_sl11Copy [(.t 8)]⟩,
    o1 10 (.build [.nils, .nils] [(0, 1, (.t 6)), (1, 1, (.t 9))]),
    o0 (.store 2 (.t 2) (.t 10))]) (.keep [2]))
  (.ret)), [.c 2 2]⟩

/- loop.example/cothreads/spec.l15BoxesCopy -/
def c_sl15BoxesCopy_l0 : AC := .seq (.seq (.seq (.seq (.ops [o1 6 (.mv (.t 4)),
    o1 7 (.mv (.t 0)),
    o1 8 (.len (.t 7)),
    o1 9 (.bin .lss (.t 6) (.t 8))]) (.keep [0, 3, 4, 9]))
  (.seq (.cond (.t 9)
  (.skip)
  (.exit 0)) (.keep [0, 3, 4])))
  (.seq (.seq (.block 1 (.seq (.ops [o1 12 (.mv (.t 3)),
    o1 13 (.mv (.t 0)),
    o1 14 (.mv (.t 4)),
    o1 15 (.idxA 2 (.t 13) (.t 14)),
    o1 16 (.fldA 0 (.t 15)),
    o1 17 (.load (.t 16)),
    o1 18 (.bsl [] 0 []),
    o1 19 (.mv (.t 0)),
    o1 20 (.mv (.t 4)),
    o1 21 (.idxA 2 (.t 19) (.t 20)),
    o1 22 (.fldA 1 (.t 21)),
    o1 23 (.load (.t 22)),
    ⟨some 24, none, [], true, .app 1 (.t 18) (.t 23)⟩,
    o1 25 (.build [(.I 0), .nils] [(0, 1, (.t 17)), (1, 1, (.t 24))]),
    o1 26 (.bsl [(.I 0), .nils] 1 [(0, 2, (.t 25))]),
    o1 27 (.app 2 (.t 12) (.t 26)),
    o1 3 (.mv (.t 27))]) (.keep [0, 3, 4]))) (.keep [0, 3, 4]))
  (.seq (.ops [o1 10 (.mv (.t 4)),
    o1 11 (.bin .add (.t 10) (.c (.I 1))),
    o1 4 (.mv (.t 11))]) (.keep [0, 3, 4])))) (.keep [0, 3, 4])
def c_sl15BoxesCopy : AFn := ⟨1, .seq (.seq (.ops [o1 2 (.mv (.c .nils))]) (.keep [0]))
  (.seq (.seq (.ops [o1 5 (.bsl [] 0 []),
    o1 3 (.mv (.t 5))]) (.keep [0, 3]))
  (.seq (.seq (.ops [o1 4 (.mv (.c (.I 0)))])
  (.seq (.block 0 (.seq (.keep [0, 3, 4]) (.loop c_sl15BoxesCopy_l0))) (.keep [3])))
  (.seq (.seq (.ops [o1 28 (.mv (.t 3)),
    o1 2 (.mv (.t 28))]) (.keep [2]))
  (.ret)))), [.t 2]⟩

/- loop.example/cothreads/spec.l15Talk -/
def c_sl15Talk : AFn := ⟨2, .seq (.seq (.ops [o1 2 (.box (.t 0)),
    o1 4 (.alloc [.nils, .nils]),
    o1 5 (.mv (.c .nils)),
    o1 6 (.mv (.c (.I 0)))]) (.keep [1, 2, 4]))
  (.seq (.seq (.ops [o1 14 (.fldA 1 (.t 2)),
    o1 15 (.load (.t 14)),
    o1 16 (.idxA 8 (.t 15) (.c (.I 0))),
    o1 17 (.loadN 8 (.t 16)),
    o1 7 (.alloc [(.I 0), (.I 0), (.I 0), (.I 0), (.I 0), .nils, .nils, .nils]),
    o0 (.store 8 (.t 7) (.t 17))]) (.keep [1, 2, 4, 7]))
  (.seq (.seq (.ops [o1 18 (.mv (.t 1)),
    o1 19 (.call f_sl15BoxesCopy [(.t 18)]),
    o1 8 (.mv (.t 19))]) (.keep [1, 2, 4, 7, 8]))
  (.seq (.seq (.seq (.ops [o1 20 (.fldA 0 (.t 7)),
    o1 21 (.load (.t 20)),
    o1 22 (.bin .eql (.t 21) (.c (.I 4)))]) (.keep [1, 2, 4, 7, 8, 22]))
  (.seq (.cond (.t 22)
  (.seq (.seq (.ops [o1 24 (.mv (.t 1)),
    o1 25 (.fldA 2 (.t 7)),
    o1 26 (.load (.t 25)),
    o1 27 (.idxA 2 (.t 24) (.t 26)),
    o1 28 (.loadN 2 (.t 27)),
    o1 29 (.fldA 3 (.t 7)),
    o1 30 (.loadN 3 (.t 29)),
    o1 31 (.fldA 0 (.t 2)),
    o1 32 (.load (.t 31)),
    ⟨some 33, none, [], true, .call f_sl4Eval [(.t 30), (.t 32)]⟩,
    ⟨some 34, none, [], true, .call f_sBoxPut [(.t 28), (.t 33)]⟩,
    o1 23 (.mv (.t 34)),
    o1 35 (.ext (.t 23) 0),
    o1 36 (.ext (.t 23) 1),
    o1 9 (.alloc [(.I 0), .nils]),
    o0 (.store 2 (.t 9) (.t 35)),
    o1 10 (.mv (.t 36))]) (.keep [2, 4, 7, 8, 9, 10]))
  (.seq (.seq (.seq (.ops [o1 37 (.mv (.t 10)),
    o1 38 (.un .not (.t 37))]) (.keep [2, 4, 7, 8, 9, 38]))
  (.seq (.cond (.t 38)
  (.seq (.seq (.ops [o1 39 (.loadN 2 (.t 2)),
    o1 40 (.call f_sl15Copy [(.t 39)]),
    o1 41 (.mv (.t 8)),
    o0 (.store 2 (.t 4) (.t 40)),
    o1 5 (.mv (.t 41)),
    o1 6 (.mv (.c (.I 3)))]) (.keep [4, 5, 6]))
  (.ret))
  (.skip)) (.keep [2, 4, 7, 8, 9])))
  (.seq (.seq (.ops [o1 42 (.mv (.t 8)),
    o1 43 (.fldA 2 (.t 7)),
    o1 44 (.load (.t 43)),
    o1 45 (.loadN 2 (.t 9)),
    o1 46 (.idxA 2 (.t 42) (.t 44)),
    o0 (.store 2 (.t 46) (.t 45))]) (.keep [2, 4, 8]))
  (.seq (.seq (.ops [o1 47 (.bsl [] 0 []),
    o1 48 (.fldA 0 (.t 2)),
    o1 49 (.load (.t 48)),
    ⟨some 50, none, [], true, .app 1 (.t 47) (.t 49)⟩,
    o1 51 (.fldA 1 (.t 2)),
    o1 52 (.load (.t 51)),
    o1 53 (.slice 8 (.t 52) (some (.c (.I 1))) none none),
    ⟨some 54, none, [], true, .call f_sl11Copy [(.t 53)]⟩,
    o1 55 (.build [.nils, .nils] [(0, 1, (.t 50)), (1, 1, (.t 54))]),
    o1 56 (.mv (.t 8)),
    o0 (.store 2 (.t 4) (.t 55)),
    o1 5 (.mv (.t 56)),
    o1 6 (.mv (.c (.I 1)))]) (.keep [4, 5, 6]))
  (.ret)))))
  (.skip)) (.keep [1, 2, 4, 7, 8])))
  (.seq (.seq (.ops [o1 58 (.mv (.t 1)),
    o1 59 (.fldA 2 (.t 7)),
    o1 60 (.load (.t 59)),
    o1 61 (.idxA 2 (.t 58) (.t 60)),
    o1 62 (.loadN 2 (.t 61)),
    o1 63 (.call f_sBoxTake [(.t 62)]),
    o1 57 (.mv (.t 63)),
    o1 64 (.ext (.t 57) 0),
    o1 65 (.ext (.t 57) 1),
    o1 66 (.ext (.t 57) 2),
    o1 11 (.alloc [(.I 0), .nils]),
    o0 (.store 2 (.t 11) (.t 64)),
    o1 12 (.mv (.t 65)),
    o1 13 (.mv (.t 66))]) (.keep [2, 4, 7, 8, 11, 12, 13]))
  (.seq (.seq (.seq (.ops [o1 67 (.mv (.t 13)),
    o1 68 (.un .not (.t 67))]) (.keep [2, 4, 7, 8, 11, 12, 68]))
  (.seq (.cond (.t 68)
  (.seq (.seq (.ops [o1 69 (.loadN 2 (.t 2)),
    o1 70 (.call f_sl15Copy [(.t 69)]),
    o1 71 (.mv (.t 8)),
    o0 (.store 2 (.t 4) (.t 70)),
    o1 5 (.mv (.t 71)),
    o1 6 (.mv (.c (.I 3)))]) (.keep [4, 5, 6]))
  (.ret))
  (.skip)) (.keep [2, 4, 7, 8, 11, 12])))
  (.seq (.seq (.ops [o1 72 (.mv (.t 8)),
    o1 73 (.fldA 2 (.t 7)),
    o1 74 (.load (.t 73)),
    o1 75 (.loadN 2 (.t 11)),
    o1 76 (.idxA 2 (.t 72) (.t 74)),
    o0 (.store 2 (.t 76) (.t 75))]) (.keep [2, 4, 7, 8, 12]))
  (.seq (.seq (.ops [o1 77 (.loadN 2 (.t 2)),
    o1 78 (.fldA 1 (.t 7)),
    o1 79 (.load (.t 78)),
    o1 80 (.mv (.t 12)),
    o1 81 (.call f_sl15Set [(.t 77), (.t 79), (.t 80)]),
    o1 82 (.mv (.t 8)),
    o0 (.store 2 (.t 4) (.t 81)),
    o1 5 (.mv (.t 82)),
    o1 6 (.mv (.c (.I 1)))]) (.keep [4, 5, 6]))
  (.ret)))))))), [.c 4 2, .t 5, .t 6]⟩

/- loop.example/cothreads/spec.l15Block -/
def c_sl15Block : AFn := ⟨1, .seq (.ops [o1 1 (.box (.t 0)),
    o1 2 (.alloc [.nils, .nils])])
  (.seq (.seq (.ops [o1 6 (.fldA 1 (.t 1)),
    o1 7 (.load (.t 6)),
    o1 8 (.idxA 8 (.t 7) (.c (.I 0))),
    o1 9 (.loadN 8 (.t 8)),
    o1 3 (.alloc [(.I 0), (.I 0), (.I 0), (.I 0), (.I 0), .nils, .nils, .nils]),
    o0 (.store 8 (.t 3) (.t 9))]) (.keep [1, 2, 3]))
  (.seq (.seq (.ops [o1 10 (.bsl [] 0 []),
    o1 11 (.fldA 0 (.t 1)),
    o1 12 (.load (.t 11)),
    o1 13 (.app 1 (.t 10) (.t 12)),
    o1 14 (.build [.nils, .nils] [(0, 1, (.t 13))]),
    o1 4 (.alloc [.nils, .nils]),
    o0 (.store 2 (.t 4) (.t 14))]) (.keep [1, 2, 3, 4]))
  (.seq (.seq (.ops [o1 15 (.fldA 3 (.t 3)),
    o1 16 (.loadN 3 (.t 15)),
    o1 17 (.fldA 0 (.t 1)),
    o1 18 (.load (.t 17)),
    o1 19 (.call f_sl4Eval [(.t 16), (.t 18)]),
    o1 20 (.bin .neq (.t 19) (.c (.I 0))),
    o1 5 (.mv (.t 20))]) (.keep [1, 2, 3, 4, 5]))
  (.seq (.seq (.block 0 (.seq (.seq (.ops [o1 27 (.fldA 0 (.t 3)),
    o1 28 (.load (.t 27)),
    o1 29 (.bin .eql (.t 28) (.c (.I 2))),
    o1 30 (.mv (.t 29)),
    ⟨some 31, (some (30, true)), [], false, .mv (.t 5)⟩,
    o1 32 (.pick (.t 30) (.t 31) (.c (.b false))),
    o1 26 (.mv (.t 32))]) (.keep [1, 2, 3, 4, 5, 26]))
  (.seq (.cond (.t 26)
  (.seq (.ops [o1 33 (.fldA 6 (.t 3)),
    o1 34 (.load (.t 33)),
    o1 35 (.fldA 1 (.t 1)),
    o1 36 (.load (.t 35)),
    o1 37 (.slice 8 (.t 36) (some (.c (.I 1))) none none),
    ⟨some 38, none, [], true, .call f_sl15Ahead [(.t 34), (.t 37)]⟩,
    o1 39 (.fldA 1 (.t 4)),
    o0 (.store 1 (.t 39) (.t 38))]) (.keep [2, 4]))
  (.seq (.seq (.ops [o1 41 (.fldA 0 (.t 3)),
    o1 42 (.load (.t 41)),
    o1 43 (.bin .eql (.t 42) (.c (.I 2))),
    o1 40 (.mv (.t 43))]) (.keep [1, 2, 3, 4, 5, 40]))
  (.seq (.cond (.t 40)
  (.seq (.ops [o1 44 (.fldA 7 (.t 3)),
    o1 45 (.load (.t 44)),
    o1 46 (.fldA 1 (.t 1)),
    o1 47 (.load (.t 46)),
    o1 48 (.slice 8 (.t 47) (some (.c (.I 1))) none none),
    ⟨some 49, none, [], true, .call f_sl15Ahead [(.t 45), (.t 48)]⟩,
    o1 50 (.fldA 1 (.t 4)),
    o0 (.store 1 (.t 50) (.t 49))]) (.keep [2, 4]))
  (.seq (.seq (.ops [o1 52 (.mv (.t 5)),
    o1 51 (.mv (.t 52))]) (.keep [1, 2, 3, 4, 51]))
  (.seq (.cond (.t 51)
  (.seq (.ops [o1 53 (.fldA 6 (.t 3)),
    o1 54 (.load (.t 53)),
    o1 55 (.fldA 1 (.t 1)),
    o1 56 (.load (.t 55)),
    o1 57 (.call f_sl15Ahead [(.t 54), (.t 56)]),
    o1 58 (.fldA 1 (.t 4)),
    o0 (.store 1 (.t 58) (.t 57))]) (.keep [2, 4]))
  (.seq (.ops [o1 21 (.fldA 1 (.t 1)),
    o1 22 (.load (.t 21)),
    o1 23 (.slice 8 (.t 22) (some (.c (.I 1))) none none),
    o1 24 (.call f_sl11Copy [(.t 23)]),
    o1 25 (.fldA 1 (.t 4)),
    o0 (.store 1 (.t 25) (.t 24))]) (.keep [2, 4]))) (.keep [2, 4])))) (.keep [2, 4])))) (.keep [2, 4])))) (.keep [2, 4]))
  (.seq (.seq (.ops [o1 59 (.loadN 2 (.t 4)),
    o0 (.store 2 (.t 2) (.t 59))]) (.keep [2]))
  (.ret)))))), [.c 2 2]⟩

/- loop.example/cothreads/spec.l15Set -/
def c_sl15Set : AFn := ⟨3, .seq (.ops [o1 3 (.box (.t 0)),
    o1 6 (.alloc [.nils, .nils])])
  (.seq (.seq (.ops [o1 8 (.bsl [] 0 []),
    o1 9 (.fldA 0 (.t 3)),
    o1 10 (.load (.t 9)),
    ⟨some 11, none, [], true, .app 1 (.t 8) (.t 10)⟩,
    o1 12 (.fldA 1 (.t 3)),
    o1 13 (.load (.t 12)),
    o1 14 (.slice 8 (.t 13) (some (.c (.I 1))) none none),
    ⟨some 15, none, [], true, .call f_sl11Copy [(.t 14)]⟩,
    o1 16 (.build [.nils, .nils] [(0, 1, (.t 11)), (1, 1, (.t 15))]),
    o1 7 (.alloc [.nils, .nils]),
    o0 (.store 2 (.t 7) (.t 16))]) (.keep [1, 2, 6, 7]))
  (.seq (.seq (.ops [o1 17 (.fldA 0 (.t 7)),
    o1 18 (.load (.t 17)),
    o1 19 (.mv (.t 1)),
    o1 20 (.mv (.t 2)),
    o1 21 (.idxA 1 (.t 18) (.t 19)),
    o0 (.store 1 (.t 21) (.t 20))]) (.keep [6, 7]))
  (.seq (.seq (.ops [o1 22 (.loadN 2 (.t 7)),
    o0 (.store 2 (.t 6) (.t 22))]) (.keep [6]))
  (.ret)))), [.c 6 2]⟩

/- loop.example/cothreads/spec.l4Eval -/
def c_sl4Eval : AFn := ⟨2, .seq (.seq (.ops [o1 2 (.box (.t 0)),
    o1 4 (.mv (.c (.I 0)))]) (.keep [1, 2]))
  (.seq (.seq (.seq (.ops [o1 7 (.fldA 0 (.t 2)),
    o1 8 (.load (.t 7)),
    o1 9 (.bin .eql (.t 8) (.c (.I 0)))]) (.keep [1, 2, 9]))
  (.seq (.cond (.t 9)
  (.seq (.seq (.ops [o1 10 (.fldA 1 (.t 2)),
    o1 11 (.load (.t 10)),
    o1 4 (.mv (.t 11))]) (.keep [4]))
  (.ret))
  (.skip)) (.keep [1, 2])))
  (.seq (.seq (.seq (.ops [o1 12 (.fldA 0 (.t 2)),
    o1 13 (.load (.t 12)),
    o1 14 (.bin .eql (.t 13) (.c (.I 13)))]) (.keep [1, 2, 14]))
  (.seq (.cond (.t 14)
  (.seq (.seq (.ops [o1 15 (.mv (.t 1)),
    o1 16 (.fldA 1 (.t 2)),
    o1 17 (.load (.t 16)),
    o1 18 (.idxA 1 (.t 15) (.t 17)),
    o1 19 (.load (.t 18)),
    o1 4 (.mv (.t 19))]) (.keep [4]))
  (.ret))
  (.skip)) (.keep [1, 2])))
  (.seq (.seq (.ops [o1 21 (.fldA 0 (.t 2)),
    o1 22 (.load (.t 21)),
    o1 23 (.fldA 2 (.t 2)),
    o1 24 (.load (.t 23)),
    o1 25 (.idxA 3 (.t 24) (.c (.I 0))),
    o1 26 (.loadN 3 (.t 25)),
    o1 27 (.mv (.t 1)),
    ⟨some 28, none, [], true, .call f_sl4Eval [(.t 26), (.t 27)]⟩,
    o1 29 (.fldA 2 (.t 2)),
    o1 30 (.load (.t 29)),
    o1 31 (.idxA 3 (.t 30) (.c (.I 1))),
    o1 32 (.loadN 3 (.t 31)),
    o1 33 (.mv (.t 1)),
    ⟨some 34, none, [], true, .call f_sl4Eval [(.t 32), (.t 33)]⟩,
    ⟨some 35, none, [], true, .call f_sApply [(.t 22), (.t 28), (.t 34)]⟩,
    o1 20 (.mv (.t 35)),
    o1 36 (.ext (.t 20) 0),
    o1 37 (.ext (.t 20) 1),
    o1 5 (.mv (.t 36)),
    o1 6 (.mv (.t 37))]) (.keep [5]))
  (.seq (.seq (.ops [o1 38 (.mv (.t 5)),
    o1 4 (.mv (.t 38))]) (.keep [4]))
  (.ret))))), [.t 4]⟩

/- loop.example/cothreads/spec.l11Copy -/
def c_sl11Copy_l0 : AC := .seq (.seq (.seq (.seq (.ops [o1 7 (.mv (.t 4)),
    o1 8 (.mv (.t 0)),
    o1 9 (.len (.t 8)),
    o1 10 (.bin .lss (.t 7) (.t 9))]) (.keep [0, 3, 4, 10]))
  (.seq (.cond (.t 10)
  (.skip)
  (.exit 0)) (.keep [0, 3, 4])))
  (.seq (.seq (.block 1 (.seq (.seq (.ops [o1 13 (.mv (.t 0)),
    o1 14 (.mv (.t 4)),
    o1 15 (.idxA 8 (.t 13) (.t 14)),
    o1 16 (.loadN 8 (.t 15)),
    o1 5 (.alloc [(.I 0), (.I 0), (.I 0), (.I 0), (.I 0), .nils, .nils, .nils]),
    o0 (.store 8 (.t 5) (.t 16))]) (.keep [0, 3, 4, 5]))
  (.seq (.seq (.ops [o1 17 (.fldA 3 (.t 5)),
    o1 18 (.loadN 3 (.t 17)),
    o1 19 (.call f_sl4Copy [(.t 18)]),
    o1 20 (.fldA 3 (.t 5)),
    o0 (.store 3 (.t 20) (.t 19))]) (.keep [0, 3, 4, 5]))
  (.seq (.seq (.ops [o1 21 (.fldA 6 (.t 5)),
    o1 22 (.load (.t 21)),
    o1 23 (.call f_sl11Copy [(.t 22)]),
    o1 24 (.fldA 6 (.t 5)),
    o0 (.store 1 (.t 24) (.t 23))]) (.keep [0, 3, 4, 5]))
  (.seq (.seq (.ops [o1 25 (.fldA 7 (.t 5)),
    o1 26 (.load (.t 25)),
    o1 27 (.call f_sl11Copy [(.t 26)]),
    o1 28 (.fldA 7 (.t 5)),
    o0 (.store 1 (.t 28) (.t 27))]) (.keep [0, 3, 4, 5]))
  (.seq (.ops [o1 29 (.mv (.t 3)),
    o1 30 (.loadN 8 (.t 5)),
    o1 31 (.bsl [(.I 0), (.I 0), (.I 0), (.I 0), (.I 0), .nils, .nils, .nils] 1 [(0, 8, (.t 30))]),
    o1 32 (.app 8 (.t 29) (.t 31)),
    o1 3 (.mv (.t 32))]) (.keep [0, 3, 4]))))))) (.keep [0, 3, 4]))
  (.seq (.ops [o1 11 (.mv (.t 4)),
    o1 12 (.bin .add (.t 11) (.c (.I 1))),
    o1 4 (.mv (.t 12))]) (.keep [0, 3, 4])))) (.keep [0, 3, 4])
def c_sl11Copy : AFn := ⟨1, .seq (.seq (.ops [o1 2 (.mv (.c .nils))]) (.keep [0]))
  (.seq (.seq (.ops [o1 6 (.bsl [] 0 []),
    o1 3 (.mv (.t 6))]) (.keep [0, 3]))
  (.seq (.seq (.ops [o1 4 (.mv (.c (.I 0)))])
  (.seq (.block 0 (.seq (.keep [0, 3, 4]) (.loop c_sl11Copy_l0))) (.keep [3])))
  (.seq (.seq (.ops [o1 33 (.mv (.t 3)),
    o1 2 (.mv (.t 33))]) (.keep [2]))
  (.ret)))), [.t 2]⟩

/- loop.example/cothreads/laws.toStmtS -/
def c_wtoStmtS_l0 : AC := .seq (.seq (.seq (.seq (.ops [o1 8 (.mv (.t 4)),
    o1 9 (.mv (.t 0)),
    o1 10 (.len (.t 9)),
    o1 11 (.bin .lss (.t 8) (.t 10))]) (.keep [0, 3, 4, 11]))
  (.seq (.cond (.t 11)
  (.skip)
  (.exit 0)) (.keep [0, 3, 4])))
  (.seq (.seq (.block 1 (.seq (.ops [o1 14 (.mv (.t 3)),
    o1 15 (.mv (.t 4)),
    o1 16 (.mv (.t 0)),
    o1 17 (.mv (.t 4)),
    o1 18 (.idxA 8 (.t 16) (.t 17)),
    o1 19 (.loadN 8 (.t 18)),
    o1 20 (.call f_wtoStmt [(.t 19)]),
    o1 21 (.idxA 8 (.t 14) (.t 15)),
    o0 (.store 8 (.t 21) (.t 20))]) (.keep [0, 3, 4]))) (.keep [0, 3, 4]))
  (.seq (.ops [o1 12 (.mv (.t 4)),
    o1 13 (.bin .add (.t 12) (.c (.I 1))),
    o1 4 (.mv (.t 13))]) (.keep [0, 3, 4])))) (.keep [0, 3, 4])
def c_wtoStmtS : AFn := ⟨1, .seq (.seq (.ops [o1 2 (.mv (.c .nils))]) (.keep [0]))
  (.seq (.seq (.ops [o1 5 (.mv (.t 0)),
    o1 6 (.len (.t 5)),
    o1 7 (.mksl [(.I 0), (.I 0), (.I 0), (.I 0), (.I 0), .nils, .nils, .nils] (.t 6) (.t 6)),
    o1 3 (.mv (.t 7))]) (.keep [0, 3]))
  (.seq (.seq (.ops [o1 4 (.mv (.c (.I 0)))])
  (.seq (.block 0 (.seq (.keep [0, 3, 4]) (.loop c_wtoStmtS_l0))) (.keep [3])))
  (.seq (.seq (.ops [o1 22 (.mv (.t 3)),
    o1 2 (.mv (.t 22))]) (.keep [2]))
  (.ret)))), [.t 2]⟩

/- loop.example/cothreads/laws.toBox -/
def c_wtoBox : AFn := ⟨1, .seq (.ops [o1 1 (.box (.t 0)),
    o1 2 (.alloc [(.I 0), .nils])])
  (.seq (.ops [o1 3 (.alloc [(.I 0), .nils])])
  (.seq (.seq (.ops [o1 4 (.fldA 0 (.t 1)),
    o1 5 (.load (.t 4)),
    o1 6 (.fldA 0 (.t 3)),
    o0 (.store 1 (.t 6) (.t 5))]) (.keep [1, 2, 3]))
  (.seq (.seq (.ops [o1 7 (.fldA 1 (.t 1)),
    o1 8 (.load (.t 7)),
    o1 9 (.call f_wtoIntS [(.t 8)]),
    o1 10 (.fldA 1 (.t 3)),
    o0 (.store 1 (.t 10) (.t 9))]) (.keep [2, 3]))
  (.seq (.seq (.ops [o1 11 (.loadN 2 (.t 3)),
    o0 (.store 2 (.t 2) (.t 11))]) (.keep [2]))
  (.ret))))), [.c 2 2]⟩

/- loop.example/cothreads/impl.TaskValid -/
def c_iTaskValid : AFn := ⟨1, .seq (.seq (.ops [o1 1 (.box (.t 0)),
    o1 2 (.mv (.c (.b false)))]) (.keep [1]))
  (.seq (.seq (.ops [o1 3 (.loadN 2 (.t 1)),
    o1 4 (.call f_itaskValid [(.t 3), (.c (.I 3))]),
    o1 2 (.mv (.t 4))]) (.keep [2]))
  (.ret)), [.t 2]⟩

/- loop.example/cothreads/impl.boxesValid -/
def c_iboxesValid_l0 : AC := .seq (.seq (.ops [o1 8 (.bin .lss (.t 7) (.t 6))])
  (.seq (.seq (.cond (.t 8)
  (.skip)
  (.exit 0)) (.keep [0, 5, 6, 7]))
  (.seq (.seq (.block 1 (.seq (.seq (.ops [o1 9 (.idxA 2 (.t 5) (.t 7)),
    o1 10 (.loadN 2 (.t 9)),
    o1 4 (.alloc [(.I 0), .nils]),
    o0 (.store 2 (.t 4) (.t 10))]) (.keep [0, 4, 5, 6, 7]))
  (.seq (.seq (.ops [o1 11 (.loadN 2 (.t 4)),
    o1 12 (.call f_iBoxValid [(.t 11)]),
    o1 13 (.un .not (.t 12))]) (.keep [0, 5, 6, 7, 13]))
  (.seq (.cond (.t 13)
  (.seq (.ops [o1 2 (.mv (.c (.b false)))])
  (.ret))
  (.skip)) (.keep [0, 5, 6, 7]))))) (.keep [0, 5, 6, 7]))
  (.seq (.ops [o1 14 (.bin .add (.t 7) (.c (.I 1))),
    o1 7 (.mv (.t 14))]) (.keep [0, 5, 6, 7]))))) (.keep [0, 5, 6, 7])
def c_iboxesValid : AFn := ⟨1, .seq (.seq (.ops [o1 2 (.mv (.c (.b false)))]) (.keep [0]))
  (.seq (.seq (.ops [o1 5 (.mv (.t 0)),
    o1 6 (.len (.t 5)),
    o1 7 (.mv (.c (.I 0)))])
  (.seq (.block 0 (.seq (.keep [0, 5, 6, 7]) (.loop c_iboxesValid_l0))) (.keep [0])))
  (.seq (.seq (.ops [o1 15 (.mv (.t 0)),
    o1 16 (.len (.t 15)),
    o1 17 (.bin .leq (.t 16) (.c (.I 3))),
    o1 2 (.mv (.t 17))]) (.keep [2]))
  (.ret))), [.t 2]⟩

/- loop.example/cothreads/impl.newRunning -/
def c_inewRunning : AFn := ⟨1, .seq (.seq (.ops [o1 1 (.box (.t 0)),
    o1 2 (.mv (.c .nilp))]) (.keep [1]))
  (.seq (.seq (.ops [o1 3 (.fldA 0 (.t 1)),
    o1 4 (.load (.t 3)),
    ⟨some 5, none, [], true, .call f_slices_Clone_int_int [(.t 4)]⟩,
    o1 6 (.fldA 1 (.t 1)),
    o1 7 (.load (.t 6)),
    ⟨some 8, none, [], true, .call f_iahead [(.t 7), (.c .nilp)]⟩,
    o1 9 (.build [.nils, .nilp] [(0, 1, (.t 5)), (1, 1, (.t 8))]),
    o1 10 (.box (.t 9)),
    o1 2 (.mv (.t 10))]) (.keep [2]))
  (.ret)), [.t 2]⟩

/- loop.example/cothreads/impl.boxesCopy -/
def c_iboxesCopy_l0 : AC := .seq (.seq (.ops [o1 9 (.bin .lss (.t 8) (.t 7))])
  (.seq (.seq (.cond (.t 9)
  (.skip)
  (.exit 0)) (.keep [3, 6, 7, 8]))
  (.seq (.seq (.block 1 (.seq (.seq (.ops [o1 10 (.idxA 2 (.t 6) (.t 8)),
    o1 11 (.loadN 2 (.t 10)),
    o1 5 (.alloc [(.I 0), .nils]),
    o0 (.store 2 (.t 5) (.t 11))]) (.keep [3, 5, 6, 7, 8]))
  (.seq (.ops [o1 12 (.mv (.t 3)),
    o1 13 (.fldA 0 (.t 5)),
    o1 14 (.load (.t 13)),
    o1 15 (.fldA 1 (.t 5)),
    o1 16 (.load (.t 15)),
    ⟨some 17, none, [], true, .call f_slices_Clone_int_int [(.t 16)]⟩,
    o1 18 (.build [(.I 0), .nils] [(0, 1, (.t 14)), (1, 1, (.t 17))]),
    o1 19 (.bsl [(.I 0), .nils] 1 [(0, 2, (.t 18))]),
    o1 20 (.app 2 (.t 12) (.t 19)),
    o1 3 (.mv (.t 20))]) (.keep [3, 6, 7, 8])))) (.keep [3, 6, 7, 8]))
  (.seq (.ops [o1 21 (.bin .add (.t 8) (.c (.I 1))),
    o1 8 (.mv (.t 21))]) (.keep [3, 6, 7, 8]))))) (.keep [3, 6, 7, 8])
def c_iboxesCopy : AFn := ⟨1, .seq (.seq (.ops [o1 2 (.mv (.c .nils))]) (.keep [0]))
  (.seq (.ops [o1 3 (.mv (.c .nils))])
  (.seq (.seq (.ops [o1 6 (.mv (.t 0)),
    o1 7 (.len (.t 6)),
    o1 8 (.mv (.c (.I 0)))])
  (.seq (.block 0 (.seq (.keep [3, 6, 7, 8]) (.loop c_iboxesCopy_l0))) (.keep [3])))
  (.seq (.seq (.ops [o1 22 (.mv (.t 3)),
    o1 2 (.mv (.t 22))]) (.keep [2]))
  (.ret)))), [.t 2]⟩

/- (*loop.example/cothreads/impl.running).step -/
def c_irunning_step : AFn := ⟨3, .seq (.seq (.ops [o1 6 (.mv (.c (.I 0)))]) (.keep [0, 1, 2]))
  (.seq (.seq (.seq (.ops [o1 13 (.mv (.t 0)),
    o1 14 (.nilc (.t 13)),
    o1 15 (.fldA 1 (.t 14)),
    o1 16 (.load (.t 15)),
    o1 17 (.eqN 1 false (.t 16) (.c .nilp))]) (.keep [0, 1, 2, 17]))
  (.seq (.cond (.t 17)
  (.seq (.ops [o1 6 (.mv (.c (.I 4)))])
  (.ret))
  (.skip)) (.keep [0, 1, 2])))
  (.seq (.seq (.ops [o1 18 (.mv (.t 0)),
    o1 19 (.nilc (.t 18)),
    o1 20 (.fldA 1 (.t 19)),
    o1 21 (.load (.t 20)),
    o1 22 (.nilc (.t 21)),
    o1 23 (.fldA 0 (.t 22)),
    o1 24 (.load (.t 23)),
    o1 25 (.mv (.t 0)),
    o1 26 (.nilc (.t 25)),
    o1 27 (.fldA 1 (.t 26)),
    o1 28 (.load (.t 27)),
    o1 29 (.nilc (.t 28)),
    o1 30 (.fldA 1 (.t 29)),
    o1 31 (.load (.t 30)),
    o1 7 (.mv (.t 24)),
    o1 8 (.mv (.t 31))]) (.keep [0, 1, 2, 7, 8]))
  (.seq (.seq (.seq (.ops [o1 32 (.mv (.t 7)),
    o1 33 (.nilc (.t 32)),
    o1 34 (.fldA 0 (.t 33)),
    o1 35 (.load (.t 34))]) (.keep [0, 1, 2, 7, 8, 35]))
  (.seq (.block 0 (.seq (.seq (.ops [o1 37 (.bin .eql (.t 35) (.c (.I 1))),
    o1 36 (.mv (.t 37))]) (.keep [0, 1, 2, 7, 8, 35, 36]))
  (.seq (.cond (.t 36)
  (.seq (.ops [o1 38 (.mv (.t 0)),
    o1 39 (.nilc (.t 38)),
    o1 40 (.fldA 0 (.t 39)),
    o1 41 (.load (.t 40)),
    o1 42 (.mv (.t 7)),
    o1 43 (.nilc (.t 42)),
    o1 44 (.fldA 1 (.t 43)),
    o1 45 (.load (.t 44)),
    o1 46 (.mv (.t 7)),
    o1 47 (.nilc (.t 46)),
    o1 48 (.fldA 3 (.t 47)),
    o1 49 (.mv (.t 0)),
    o1 50 (.nilc (.t 49)),
    o1 51 (.fldA 0 (.t 50)),
    o1 52 (.load (.t 51)),
    ⟨some 53, none, [], true, .call f_iexprEval [(.t 48), (.t 52)]⟩,
    o1 54 (.idxA 1 (.t 41) (.t 45)),
    o0 (.store 1 (.t 54) (.t 53))]) (.keep [0, 8]))
  (.seq (.seq (.ops [o1 56 (.bin .eql (.t 35) (.c (.I 2))),
    o1 55 (.mv (.t 56))]) (.keep [0, 1, 2, 7, 8, 35, 55]))
  (.seq (.cond (.t 55)
  (.seq (.seq (.ops [o1 57 (.mv (.t 7)),
    o1 58 (.nilc (.t 57)),
    o1 59 (.fldA 7 (.t 58)),
    o1 60 (.load (.t 59)),
    o1 9 (.mv (.t 60))]) (.keep [0, 7, 8, 9]))
  (.seq (.seq (.seq (.ops [o1 61 (.mv (.t 7)),
    o1 62 (.nilc (.t 61)),
    o1 63 (.fldA 3 (.t 62)),
    o1 64 (.mv (.t 0)),
    o1 65 (.nilc (.t 64)),
    o1 66 (.fldA 0 (.t 65)),
    o1 67 (.load (.t 66)),
    ⟨some 68, none, [], true, .call f_iexprEval [(.t 63), (.t 67)]⟩,
    o1 69 (.bin .neq (.t 68) (.c (.I 0)))]) (.keep [0, 7, 8, 9, 69]))
  (.seq (.cond (.t 69)
  (.seq (.ops [o1 70 (.mv (.t 7)),
    o1 71 (.nilc (.t 70)),
    o1 72 (.fldA 6 (.t 71)),
    o1 73 (.load (.t 72)),
    o1 9 (.mv (.t 73))]) (.keep [0, 8, 9]))
  (.skip)) (.keep [0, 8, 9])))
  (.seq (.ops [o1 74 (.mv (.t 9)),
    o1 75 (.mv (.t 8)),
    o1 76 (.call f_iahead [(.t 74), (.t 75)]),
    o1 8 (.mv (.t 76))]) (.keep [0, 8]))))
  (.seq (.seq (.ops [o1 78 (.bin .eql (.t 35) (.c (.I 3))),
    o1 77 (.mv (.t 78))]) (.keep [0, 1, 2, 7, 8, 35, 77]))
  (.seq (.cond (.t 77)
  (.seq (.seq (.ops [o1 79 (.mv (.t 7)),
    o1 80 (.nilc (.t 79)),
    o1 81 (.fldA 3 (.t 80)),
    o1 82 (.mv (.t 0)),
    o1 83 (.nilc (.t 82)),
    o1 84 (.fldA 0 (.t 83)),
    o1 85 (.load (.t 84)),
    ⟨some 86, none, [], true, .call f_iexprEval [(.t 81), (.t 85)]⟩,
    o1 87 (.bin .neq (.t 86) (.c (.I 0)))]) (.keep [0, 7, 8, 87]))
  (.seq (.cond (.t 87)
  (.seq (.ops [o1 88 (.mv (.t 7)),
    o1 89 (.nilc (.t 88)),
    o1 90 (.fldA 6 (.t 89)),
    o1 91 (.load (.t 90)),
    o1 92 (.mv (.t 0)),
    o1 93 (.nilc (.t 92)),
    o1 94 (.fldA 1 (.t 93)),
    o1 95 (.load (.t 94)),
    ⟨some 96, none, [], true, .call f_iahead [(.t 91), (.t 95)]⟩,
    o1 8 (.mv (.t 96))]) (.keep [0, 8]))
  (.skip)) (.keep [0, 8])))
  (.seq (.seq (.ops [o1 98 (.bin .eql (.t 35) (.c (.I 4))),
    o1 97 (.mv (.t 98))]) (.keep [0, 1, 2, 7, 8, 35, 97]))
  (.seq (.cond (.t 97)
  (.seq (.seq (.ops [o1 99 (.mv (.t 7)),
    o1 100 (.nilc (.t 99)),
    o1 101 (.fldA 3 (.t 100)),
    o1 102 (.mv (.t 0)),
    o1 103 (.nilc (.t 102)),
    o1 104 (.fldA 0 (.t 103)),
    o1 105 (.load (.t 104)),
    ⟨some 106, none, [], true, .call f_iexprEval [(.t 101), (.t 105)]⟩,
    o1 10 (.mv (.t 106))]) (.keep [0, 1, 2, 7, 8, 10]))
  (.seq (.seq (.seq (.ops [o1 107 (.mv (.t 1)),
    o1 108 (.mv (.t 7)),
    o1 109 (.nilc (.t 108)),
    o1 110 (.fldA 2 (.t 109)),
    o1 111 (.load (.t 110)),
    o1 112 (.idxA 2 (.t 107) (.t 111)),
    o1 113 (.mv (.t 10)),
    o1 114 (.call f_iBox_put [(.t 112), (.t 113)]),
    o1 115 (.un .not (.t 114))]) (.keep [0, 2, 7, 8, 10, 115]))
  (.seq (.cond (.t 115)
  (.seq (.ops [o1 6 (.mv (.c (.I 3)))])
  (.ret))
  (.skip)) (.keep [0, 2, 7, 8, 10])))
  (.seq (.ops [o1 116 (.mv (.t 2)),
    o1 117 (.mv (.t 7)),
    o1 118 (.nilc (.t 117)),
    o1 119 (.fldA 2 (.t 118)),
    o1 120 (.load (.t 119)),
    o1 121 (.mv (.t 10)),
    o1 122 (.callv (.t 116) [(.c (.I 1)), (.t 120), (.t 121)])]) (.keep [0, 8]))))
  (.seq (.seq (.ops [o1 124 (.bin .eql (.t 35) (.c (.I 5))),
    o1 123 (.mv (.t 124))]) (.keep [0, 1, 2, 7, 8, 35, 123]))
  (.seq (.cond (.t 123)
  (.seq (.seq (.ops [o1 126 (.mv (.t 1)),
    o1 127 (.mv (.t 7)),
    o1 128 (.nilc (.t 127)),
    o1 129 (.fldA 2 (.t 128)),
    o1 130 (.load (.t 129)),
    o1 131 (.idxA 2 (.t 126) (.t 130)),
    o1 132 (.call f_iBox_take [(.t 131)]),
    o1 125 (.mv (.t 132)),
    o1 133 (.ext (.t 125) 0),
    o1 134 (.ext (.t 125) 1),
    o1 11 (.mv (.t 133)),
    o1 12 (.mv (.t 134))]) (.keep [0, 2, 7, 8, 11, 12]))
  (.seq (.seq (.seq (.ops [o1 135 (.mv (.t 12)),
    o1 136 (.un .not (.t 135))]) (.keep [0, 2, 7, 8, 11, 136]))
  (.seq (.cond (.t 136)
  (.seq (.ops [o1 6 (.mv (.c (.I 3)))])
  (.ret))
  (.skip)) (.keep [0, 2, 7, 8, 11])))
  (.seq (.seq (.ops [o1 137 (.mv (.t 0)),
    o1 138 (.nilc (.t 137)),
    o1 139 (.fldA 0 (.t 138)),
    o1 140 (.load (.t 139)),
    o1 141 (.mv (.t 7)),
    o1 142 (.nilc (.t 141)),
    o1 143 (.fldA 1 (.t 142)),
    o1 144 (.load (.t 143)),
    o1 145 (.mv (.t 11)),
    o1 146 (.idxA 1 (.t 140) (.t 144)),
    o0 (.store 1 (.t 146) (.t 145))]) (.keep [0, 2, 7, 8, 11]))
  (.seq (.ops [o1 147 (.mv (.t 2)),
    o1 148 (.mv (.t 7)),
    o1 149 (.nilc (.t 148)),
    o1 150 (.fldA 2 (.t 149)),
    o1 151 (.load (.t 150)),
    o1 152 (.mv (.t 11)),
    o1 153 (.callv (.t 147) [(.c (.I 2)), (.t 151), (.t 152)])]) (.keep [0, 8])))))
  (.seq (.seq (.ops [o1 155 (.bin .eql (.t 35) (.c (.I 6))),
    o1 154 (.mv (.t 155))]) (.keep [0, 2, 7, 8, 35, 154]))
  (.seq (.cond (.t 154)
  (.seq (.seq (.ops [o1 156 (.mv (.t 0)),
    o1 157 (.mv (.t 8)),
    o1 158 (.nilc (.t 156)),
    o1 159 (.fldA 1 (.t 158)),
    o0 (.store 1 (.t 159) (.t 157))]) (.keep []))
  (.seq (.ops [o1 6 (.mv (.c (.I 2)))])
  (.ret)))
  (.seq (.seq (.ops [o1 161 (.bin .eql (.t 35) (.c (.I 7))),
    o1 160 (.mv (.t 161))]) (.keep [0, 2, 7, 8, 160]))
  (.seq (.cond (.t 160)
  (.seq (.ops [o1 162 (.mv (.t 2)),
    o1 163 (.mv (.t 7)),
    o1 164 (.nilc (.t 163)),
    o1 165 (.fldA 3 (.t 164)),
    o1 166 (.mv (.t 0)),
    o1 167 (.nilc (.t 166)),
    o1 168 (.fldA 0 (.t 167)),
    o1 169 (.load (.t 168)),
    ⟨some 170, none, [], true, .call f_iexprEval [(.t 165), (.t 169)]⟩,
    o1 171 (.callv (.t 162) [(.c (.I 3)), (.c (.I 0)), (.t 170)])]) (.keep [0, 8]))
  (.skip)) (.keep [0, 8])))) (.keep [0, 8])))) (.keep [0, 8])))) (.keep [0, 8])))) (.keep [0, 8])))) (.keep [0, 8])))) (.keep [0, 8])))) (.keep [0, 8])))
  (.seq (.seq (.ops [o1 172 (.mv (.t 0)),
    o1 173 (.mv (.t 8)),
    o1 174 (.nilc (.t 172)),
    o1 175 (.fldA 1 (.t 174)),
    o0 (.store 1 (.t 175) (.t 173))]) (.keep []))
  (.seq (.ops [o1 6 (.mv (.c (.I 1)))])
  (.ret)))))), [.t 6]⟩

/- loop.example/cothreads/impl.TaskStep$1 -/
def c_iTaskStep_1 : AFn := ⟨4, .seq (.seq (.ops [o1 7 (.mv (.t 0)),
    o1 8 (.bin .eql (.t 7) (.c (.I 3)))]) (.keep [2, 3, 8]))
  (.seq (.cond (.t 8)
  (.seq (.ops [o1 9 (.load (.t 3)),
    o1 10 (.mv (.t 2)),
    o1 11 (.bsl [(.I 0)] 1 [(0, 1, (.t 10))]),
    o1 12 (.app 1 (.t 9) (.t 11)),
    o0 (.store 1 (.t 3) (.t 12))]) (.keep []))
  (.skip)) (.keep [])), []⟩

/- (*loop.example/cothreads/impl.running).task -/
def c_irunning_task_l0 : AC := .seq (.seq (.seq (.seq (.ops [o1 15 (.mv (.t 4)),
    o1 16 (.eqN 1 true (.t 15) (.c .nilp))]) (.keep [2, 3, 4, 16]))
  (.seq (.cond (.t 16)
  (.skip)
  (.exit 0)) (.keep [2, 3, 4])))
  (.seq (.seq (.block 1 (.seq (.ops [o1 21 (.fldA 1 (.t 3)),
    o1 22 (.load (.t 21)),
    o1 23 (.mv (.t 4)),
    o1 24 (.nilc (.t 23)),
    o1 25 (.fldA 0 (.t 24)),
    o1 26 (.load (.t 25)),
    o1 27 (.nilc (.t 26)),
    o1 28 (.loadN 8 (.t 27)),
    o1 29 (.bsl [(.I 0), (.I 0), (.I 0), (.I 0), (.I 0), .nils, .nils, .nils] 1 [(0, 8, (.t 28))]),
    ⟨some 30, none, [], true, .call f_istmtsCopy [(.t 29)]⟩,
    o1 31 (.app 8 (.t 22) (.t 30)),
    o1 32 (.fldA 1 (.t 3)),
    o0 (.store 1 (.t 32) (.t 31))]) (.keep [2, 3, 4]))) (.keep [2, 3, 4]))
  (.seq (.ops [o1 17 (.mv (.t 4)),
    o1 18 (.nilc (.t 17)),
    o1 19 (.fldA 1 (.t 18)),
    o1 20 (.load (.t 19)),
    o1 4 (.mv (.t 20))]) (.keep [2, 3, 4])))) (.keep [2, 3, 4])
def c_irunning_task : AFn := ⟨1, .seq (.ops [o1 2 (.alloc [.nils, .nils])])
  (.seq (.seq (.ops [o1 5 (.mv (.t 0)),
    o1 6 (.nilc (.t 5)),
    o1 7 (.fldA 0 (.t 6)),
    o1 8 (.load (.t 7)),
    o1 9 (.call f_slices_Clone_int_int [(.t 8)]),
    o1 10 (.build [.nils, .nils] [(0, 1, (.t 9))]),
    o1 3 (.alloc [.nils, .nils]),
    o0 (.store 2 (.t 3) (.t 10))]) (.keep [0, 2, 3]))
  (.seq (.seq (.seq (.ops [o1 11 (.mv (.t 0)),
    o1 12 (.nilc (.t 11)),
    o1 13 (.fldA 1 (.t 12)),
    o1 14 (.load (.t 13)),
    o1 4 (.mv (.t 14))]) (.keep [2, 3, 4]))
  (.seq (.block 0 (.seq (.keep [2, 3, 4]) (.loop c_irunning_task_l0))) (.keep [2, 3])))
  (.seq (.seq (.ops [o1 33 (.loadN 2 (.t 3)),
    o0 (.store 2 (.t 2) (.t 33))]) (.keep [2]))
  (.ret)))), [.c 2 2]⟩

/- loop.example/cothreads/laws.eqStmtS -/
def c_weqStmtS_l0 : AC := .seq (.seq (.seq (.seq (.ops [o1 11 (.mv (.t 5)),
    o1 12 (.mv (.t 0)),
    o1 13 (.len (.t 12)),
    o1 14 (.bin .lss (.t 11) (.t 13))]) (.keep [0, 1, 5, 14]))
  (.seq (.cond (.t 14)
  (.skip)
  (.exit 0)) (.keep [0, 1, 5])))
  (.seq (.seq (.block 1 (.seq (.seq (.ops [o1 17 (.mv (.t 0)),
    o1 18 (.mv (.t 5)),
    o1 19 (.idxA 8 (.t 17) (.t 18)),
    o1 20 (.loadN 8 (.t 19)),
    o1 21 (.mv (.t 1)),
    o1 22 (.mv (.t 5)),
    o1 23 (.idxA 8 (.t 21) (.t 22)),
    o1 24 (.loadN 8 (.t 23)),
    ⟨some 25, none, [], true, .call f_weqStmt [(.t 20), (.t 24)]⟩,
    o1 26 (.un .not (.t 25))]) (.keep [0, 1, 5, 26]))
  (.seq (.cond (.t 26)
  (.seq (.ops [o1 4 (.mv (.c (.b false)))])
  (.ret))
  (.skip)) (.keep [0, 1, 5])))) (.keep [0, 1, 5]))
  (.seq (.ops [o1 15 (.mv (.t 5)),
    o1 16 (.bin .add (.t 15) (.c (.I 1))),
    o1 5 (.mv (.t 16))]) (.keep [0, 1, 5])))) (.keep [0, 1, 5])
def c_weqStmtS : AFn := ⟨2, .seq (.seq (.ops [o1 4 (.mv (.c (.b false)))]) (.keep [0, 1]))
  (.seq (.seq (.seq (.ops [o1 6 (.mv (.t 0)),
    o1 7 (.len (.t 6)),
    o1 8 (.mv (.t 1)),
    o1 9 (.len (.t 8)),
    o1 10 (.bin .neq (.t 7) (.t 9))]) (.keep [0, 1, 10]))
  (.seq (.cond (.t 10)
  (.seq (.ops [o1 4 (.mv (.c (.b false)))])
  (.ret))
  (.skip)) (.keep [0, 1])))
  (.seq (.seq (.ops [o1 5 (.mv (.c (.I 0)))])
  (.seq (.block 0 (.seq (.keep [0, 1, 5]) (.loop c_weqStmtS_l0))) (.keep [])))
  (.seq (.ops [o1 4 (.mv (.c (.b true)))])
  (.ret)))), [.t 4]⟩

/- loop.example/cothreads/laws.eqBox -/
def c_weqBox : AFn := ⟨2, .seq (.seq (.ops [o1 2 (.box (.t 0)),
    o1 3 (.box (.t 1)),
    o1 4 (.mv (.c (.b false)))]) (.keep [2, 3]))
  (.seq (.seq (.seq (.ops [o1 5 (.fldA 0 (.t 2)),
    o1 6 (.load (.t 5)),
    o1 7 (.fldA 0 (.t 3)),
    o1 8 (.load (.t 7)),
    o1 9 (.bin .neq (.t 6) (.t 8))]) (.keep [2, 3, 9]))
  (.seq (.cond (.t 9)
  (.seq (.ops [o1 4 (.mv (.c (.b false)))])
  (.ret))
  (.skip)) (.keep [2, 3])))
  (.seq (.seq (.seq (.ops [o1 10 (.fldA 1 (.t 2)),
    o1 11 (.load (.t 10)),
    o1 12 (.fldA 1 (.t 3)),
    o1 13 (.load (.t 12)),
    o1 14 (.call f_weqIntS [(.t 11), (.t 13)]),
    o1 15 (.un .not (.t 14))]) (.keep [15]))
  (.seq (.cond (.t 15)
  (.seq (.ops [o1 4 (.mv (.c (.b false)))])
  (.ret))
  (.skip)) (.keep [])))
  (.seq (.ops [o1 4 (.mv (.c (.b true)))])
  (.ret)))), [.t 4]⟩

/- loop.example/cothreads/laws.markStmtS -/
def c_wmarkStmtS_l0 : AC := .seq (.seq (.seq (.seq (.ops [o1 6 (.mv (.t 5)),
    o1 7 (.mv (.t 0)),
    o1 8 (.len (.t 7)),
    o1 9 (.bin .lss (.t 6) (.t 8))]) (.keep [0, 1, 5, 9]))
  (.seq (.cond (.t 9)
  (.skip)
  (.exit 0)) (.keep [0, 1, 5])))
  (.seq (.seq (.block 1 (.seq (.seq (.ops [o1 12 (.mv (.t 0)),
    o1 13 (.mv (.t 5)),
    o1 14 (.mv (.t 1)),
    o1 15 (.idxA 8 (.t 12) (.t 13)),
    o1 16 (.fldA 0 (.t 15)),
    o0 (.store 1 (.t 16) (.t 14))]) (.keep [0, 1, 5]))
  (.seq (.seq (.ops [o1 17 (.mv (.t 1)),
    o1 18 (.bin .add (.t 17) (.c (.I 1))),
    o1 1 (.mv (.t 18))]) (.keep [0, 1, 5]))
  (.seq (.seq (.ops [o1 19 (.mv (.t 0)),
    o1 20 (.mv (.t 5)),
    o1 21 (.mv (.t 1)),
    o1 22 (.idxA 8 (.t 19) (.t 20)),
    o1 23 (.fldA 1 (.t 22)),
    o0 (.store 1 (.t 23) (.t 21))]) (.keep [0, 1, 5]))
  (.seq (.seq (.ops [o1 24 (.mv (.t 1)),
    o1 25 (.bin .add (.t 24) (.c (.I 1))),
    o1 1 (.mv (.t 25))]) (.keep [0, 1, 5]))
  (.seq (.seq (.ops [o1 26 (.mv (.t 0)),
    o1 27 (.mv (.t 5)),
    o1 28 (.mv (.t 1)),
    o1 29 (.idxA 8 (.t 26) (.t 27)),
    o1 30 (.fldA 2 (.t 29)),
    o0 (.store 1 (.t 30) (.t 28))]) (.keep [0, 1, 5]))
  (.seq (.seq (.ops [o1 31 (.mv (.t 1)),
    o1 32 (.bin .add (.t 31) (.c (.I 1))),
    o1 1 (.mv (.t 32))]) (.keep [0, 1, 5]))
  (.seq (.seq (.ops [o1 33 (.mv (.t 0)),
    o1 34 (.mv (.t 5)),
    o1 35 (.mv (.t 1)),
    o1 36 (.idxA 8 (.t 33) (.t 34)),
    o1 37 (.fldA 3 (.t 36)),
    o1 38 (.fldA 0 (.t 37)),
    o0 (.store 1 (.t 38) (.t 35))]) (.keep [0, 1, 5]))
  (.seq (.seq (.ops [o1 39 (.mv (.t 1)),
    o1 40 (.bin .add (.t 39) (.c (.I 1))),
    o1 1 (.mv (.t 40))]) (.keep [0, 1, 5]))
  (.seq (.seq (.ops [o1 41 (.mv (.t 0)),
    o1 42 (.mv (.t 5)),
    o1 43 (.mv (.t 1)),
    o1 44 (.idxA 8 (.t 41) (.t 42)),
    o1 45 (.fldA 3 (.t 44)),
    o1 46 (.fldA 1 (.t 45)),
    o0 (.store 1 (.t 46) (.t 43))]) (.keep [0, 1, 5]))
  (.seq (.seq (.ops [o1 47 (.mv (.t 1)),
    o1 48 (.bin .add (.t 47) (.c (.I 1))),
    o1 1 (.mv (.t 48))]) (.keep [0, 1, 5]))
  (.seq (.seq (.ops [o1 49 (.mv (.t 0)),
    o1 50 (.mv (.t 5)),
    o1 51 (.idxA 8 (.t 49) (.t 50)),
    o1 52 (.fldA 3 (.t 51)),
    o1 53 (.fldA 2 (.t 52)),
    o1 54 (.load (.t 53)),
    o1 55 (.mv (.t 1)),
    o1 56 (.call f_wmarkExprS [(.t 54), (.t 55)]),
    o1 1 (.mv (.t 56))]) (.keep [0, 1, 5]))
  (.seq (.seq (.ops [o1 57 (.mv (.t 0)),
    o1 58 (.mv (.t 5)),
    o1 59 (.idxA 8 (.t 57) (.t 58)),
    o1 60 (.fldA 6 (.t 59)),
    o1 61 (.load (.t 60)),
    o1 62 (.mv (.t 1)),
    o1 63 (.call f_wmarkStmtS [(.t 61), (.t 62)]),
    o1 1 (.mv (.t 63))]) (.keep [0, 1, 5]))
  (.seq (.ops [o1 64 (.mv (.t 0)),
    o1 65 (.mv (.t 5)),
    o1 66 (.idxA 8 (.t 64) (.t 65)),
    o1 67 (.fldA 7 (.t 66)),
    o1 68 (.load (.t 67)),
    o1 69 (.mv (.t 1)),
    o1 70 (.call f_wmarkStmtS [(.t 68), (.t 69)]),
    o1 1 (.mv (.t 70))]) (.keep [0, 1, 5]))))))))))))))) (.keep [0, 1, 5]))
  (.seq (.ops [o1 10 (.mv (.t 5)),
    o1 11 (.bin .add (.t 10) (.c (.I 1))),
    o1 5 (.mv (.t 11))]) (.keep [0, 1, 5])))) (.keep [0, 1, 5])
def c_wmarkStmtS : AFn := ⟨2, .seq (.seq (.ops [o1 4 (.mv (.c (.I 0)))]) (.keep [0, 1]))
  (.seq (.seq (.ops [o1 5 (.mv (.c (.I 0)))])
  (.seq (.block 0 (.seq (.keep [0, 1, 5]) (.loop c_wmarkStmtS_l0))) (.keep [1])))
  (.seq (.seq (.ops [o1 71 (.mv (.t 1)),
    o1 4 (.mv (.t 71))]) (.keep [4]))
  (.ret))), [.t 4]⟩

/- loop.example/cothreads/laws.heldStmtS -/
def c_wheldStmtS_l0 : AC := .seq (.seq (.seq (.seq (.ops [o1 6 (.mv (.t 5)),
    o1 7 (.mv (.t 0)),
    o1 8 (.len (.t 7)),
    o1 9 (.bin .lss (.t 6) (.t 8))]) (.keep [0, 1, 5, 9]))
  (.seq (.cond (.t 9)
  (.skip)
  (.exit 0)) (.keep [0, 1, 5])))
  (.seq (.seq (.block 1 (.seq (.seq (.seq (.ops [o1 12 (.mv (.t 0)),
    o1 13 (.mv (.t 5)),
    o1 14 (.idxA 8 (.t 12) (.t 13)),
    o1 15 (.fldA 0 (.t 14)),
    o1 16 (.load (.t 15)),
    o1 17 (.mv (.t 1)),
    o1 18 (.bin .neq (.t 16) (.t 17))]) (.keep [0, 1, 5, 18]))
  (.seq (.cond (.t 18)
  (.seq (.ops [o1 4 (.mv (.c (.I (-1))))])
  (.ret))
  (.skip)) (.keep [0, 1, 5])))
  (.seq (.seq (.ops [o1 19 (.mv (.t 1)),
    o1 20 (.bin .add (.t 19) (.c (.I 1))),
    o1 1 (.mv (.t 20))]) (.keep [0, 1, 5]))
  (.seq (.seq (.seq (.ops [o1 21 (.mv (.t 0)),
    o1 22 (.mv (.t 5)),
    o1 23 (.idxA 8 (.t 21) (.t 22)),
    o1 24 (.fldA 1 (.t 23)),
    o1 25 (.load (.t 24)),
    o1 26 (.mv (.t 1)),
    o1 27 (.bin .neq (.t 25) (.t 26))]) (.keep [0, 1, 5, 27]))
  (.seq (.cond (.t 27)
  (.seq (.ops [o1 4 (.mv (.c (.I (-1))))])
  (.ret))
  (.skip)) (.keep [0, 1, 5])))
  (.seq (.seq (.ops [o1 28 (.mv (.t 1)),
    o1 29 (.bin .add (.t 28) (.c (.I 1))),
    o1 1 (.mv (.t 29))]) (.keep [0, 1, 5]))
  (.seq (.seq (.seq (.ops [o1 30 (.mv (.t 0)),
    o1 31 (.mv (.t 5)),
    o1 32 (.idxA 8 (.t 30) (.t 31)),
    o1 33 (.fldA 2 (.t 32)),
    o1 34 (.load (.t 33)),
    o1 35 (.mv (.t 1)),
    o1 36 (.bin .neq (.t 34) (.t 35))]) (.keep [0, 1, 5, 36]))
  (.seq (.cond (.t 36)
  (.seq (.ops [o1 4 (.mv (.c (.I (-1))))])
  (.ret))
  (.skip)) (.keep [0, 1, 5])))
  (.seq (.seq (.ops [o1 37 (.mv (.t 1)),
    o1 38 (.bin .add (.t 37) (.c (.I 1))),
    o1 1 (.mv (.t 38))]) (.keep [0, 1, 5]))
  (.seq (.seq (.seq (.ops [o1 39 (.mv (.t 0)),
    o1 40 (.mv (.t 5)),
    o1 41 (.idxA 8 (.t 39) (.t 40)),
    o1 42 (.fldA 3 (.t 41)),
    o1 43 (.fldA 0 (.t 42)),
    o1 44 (.load (.t 43)),
    o1 45 (.mv (.t 1)),
    o1 46 (.bin .neq (.t 44) (.t 45))]) (.keep [0, 1, 5, 46]))
  (.seq (.cond (.t 46)
  (.seq (.ops [o1 4 (.mv (.c (.I (-1))))])
  (.ret))
  (.skip)) (.keep [0, 1, 5])))
  (.seq (.seq (.ops [o1 47 (.mv (.t 1)),
    o1 48 (.bin .add (.t 47) (.c (.I 1))),
    o1 1 (.mv (.t 48))]) (.keep [0, 1, 5]))
  (.seq (.seq (.seq (.ops [o1 49 (.mv (.t 0)),
    o1 50 (.mv (.t 5)),
    o1 51 (.idxA 8 (.t 49) (.t 50)),
    o1 52 (.fldA 3 (.t 51)),
    o1 53 (.fldA 1 (.t 52)),
    o1 54 (.load (.t 53)),
    o1 55 (.mv (.t 1)),
    o1 56 (.bin .neq (.t 54) (.t 55))]) (.keep [0, 1, 5, 56]))
  (.seq (.cond (.t 56)
  (.seq (.ops [o1 4 (.mv (.c (.I (-1))))])
  (.ret))
  (.skip)) (.keep [0, 1, 5])))
  (.seq (.seq (.ops [o1 57 (.mv (.t 1)),
    o1 58 (.bin .add (.t 57) (.c (.I 1))),
    o1 1 (.mv (.t 58))]) (.keep [0, 1, 5]))
  (.seq (.seq (.ops [o1 59 (.mv (.t 0)),
    o1 60 (.mv (.t 5)),
    o1 61 (.idxA 8 (.t 59) (.t 60)),
    o1 62 (.fldA 3 (.t 61)),
    o1 63 (.fldA 2 (.t 62)),
    o1 64 (.load (.t 63)),
    o1 65 (.mv (.t 1)),
    o1 66 (.call f_wheldExprS [(.t 64), (.t 65)]),
    o1 1 (.mv (.t 66))]) (.keep [0, 1, 5]))
  (.seq (.seq (.seq (.ops [o1 67 (.mv (.t 1)),
    o1 68 (.bin .lss (.t 67) (.c (.I 0)))]) (.keep [0, 1, 5, 68]))
  (.seq (.cond (.t 68)
  (.seq (.ops [o1 4 (.mv (.c (.I (-1))))])
  (.ret))
  (.skip)) (.keep [0, 1, 5])))
  (.seq (.seq (.ops [o1 69 (.mv (.t 0)),
    o1 70 (.mv (.t 5)),
    o1 71 (.idxA 8 (.t 69) (.t 70)),
    o1 72 (.fldA 6 (.t 71)),
    o1 73 (.load (.t 72)),
    o1 74 (.mv (.t 1)),
    o1 75 (.call f_wheldStmtS [(.t 73), (.t 74)]),
    o1 1 (.mv (.t 75))]) (.keep [0, 1, 5]))
  (.seq (.seq (.seq (.ops [o1 76 (.mv (.t 1)),
    o1 77 (.bin .lss (.t 76) (.c (.I 0)))]) (.keep [0, 1, 5, 77]))
  (.seq (.cond (.t 77)
  (.seq (.ops [o1 4 (.mv (.c (.I (-1))))])
  (.ret))
  (.skip)) (.keep [0, 1, 5])))
  (.seq (.seq (.ops [o1 78 (.mv (.t 0)),
    o1 79 (.mv (.t 5)),
    o1 80 (.idxA 8 (.t 78) (.t 79)),
    o1 81 (.fldA 7 (.t 80)),
    o1 82 (.load (.t 81)),
    o1 83 (.mv (.t 1)),
    o1 84 (.call f_wheldStmtS [(.t 82), (.t 83)]),
    o1 1 (.mv (.t 84))]) (.keep [0, 1, 5]))
  (.seq (.seq (.ops [o1 85 (.mv (.t 1)),
    o1 86 (.bin .lss (.t 85) (.c (.I 0)))]) (.keep [0, 1, 5, 86]))
  (.seq (.cond (.t 86)
  (.seq (.ops [o1 4 (.mv (.c (.I (-1))))])
  (.ret))
  (.skip)) (.keep [0, 1, 5]))))))))))))))))))) (.keep [0, 1, 5]))
  (.seq (.ops [o1 10 (.mv (.t 5)),
    o1 11 (.bin .add (.t 10) (.c (.I 1))),
    o1 5 (.mv (.t 11))]) (.keep [0, 1, 5])))) (.keep [0, 1, 5])
def c_wheldStmtS : AFn := ⟨2, .seq (.seq (.ops [o1 4 (.mv (.c (.I 0)))]) (.keep [0, 1]))
  (.seq (.seq (.ops [o1 5 (.mv (.c (.I 0)))])
  (.seq (.block 0 (.seq (.keep [0, 1, 5]) (.loop c_wheldStmtS_l0))) (.keep [1])))
  (.seq (.seq (.ops [o1 87 (.mv (.t 1)),
    o1 4 (.mv (.t 87))]) (.keep [4]))
  (.ret))), [.t 4]⟩

/- loop.example/cothreads/spec.l6In -/
def c_sl6In : AFn := ⟨3, .seq (.seq (.ops [o1 6 (.mv (.c (.b false)))]) (.keep [0, 1, 2]))
  (.seq (.seq (.ops [o1 7 (.mv (.t 0)),
    o1 8 (.mv (.t 1)),
    o1 9 (.bin .geq (.t 7) (.t 8)),
    o1 10 (.mv (.t 9)),
    ⟨some 11, (some (10, true)), [], false, .mv (.t 0)⟩,
    ⟨some 12, (some (10, true)), [], false, .mv (.t 2)⟩,
    ⟨some 13, (some (10, true)), [], false, .bin .leq (.t 11) (.t 12)⟩,
    o1 14 (.pick (.t 10) (.t 13) (.c (.b false))),
    o1 6 (.mv (.t 14))]) (.keep [6]))
  (.ret)), [.t 6]⟩

/- slices.Clone[[]int,int] -/
def c_slices_Clone_int_int : AFn := ⟨1, .seq (.seq (.ops [o1 2 (.mv (.c .nils))]) (.keep [0]))
  (.seq (.seq (.seq (.ops [o1 3 (.mv (.t 0)),
    o1 4 (.eqN 0 false (.t 3) (.c .nils))]) (.keep [0, 4]))
  (.seq (.cond (.t 4)
  (.seq (.ops [o1 2 (.mv (.c .nils))])
  (.ret))
  (.skip)) (.keep [0])))
  (.seq (.seq (.ops [o1 5 (.bsl [] 0 []),
    o1 6 (.mv (.t 0)),
    o1 7 (.app 1 (.t 5) (.t 6)),
    o1 2 (.mv (.t 7))]) (.keep [2]))
  (.ret))), [.t 2]⟩

/- loop.example/cothreads/laws.szStmt -/
def c_wszStmt : AFn := ⟨2, .seq (.seq (.ops [o1 2 (.box (.t 0)),
    o1 4 (.mv (.c (.I 0)))]) (.keep [1, 2]))
  (.seq (.seq (.ops [o1 5 (.fldA 3 (.t 2)),
    o1 6 (.loadN 3 (.t 5)),
    o1 7 (.mv (.t 1)),
    o1 8 (.call f_wszExpr [(.t 6), (.t 7)]),
    o1 1 (.mv (.t 8))]) (.keep [1, 2]))
  (.seq (.seq (.seq (.ops [o1 9 (.mv (.t 1)),
    o1 10 (.bin .lss (.t 9) (.c (.I 0)))]) (.keep [1, 2, 10]))
  (.seq (.cond (.t 10)
  (.seq (.ops [o1 4 (.mv (.c (.I (-1))))])
  (.ret))
  (.skip)) (.keep [1, 2])))
  (.seq (.seq (.ops [o1 11 (.fldA 6 (.t 2)),
    o1 12 (.load (.t 11)),
    o1 13 (.mv (.t 1)),
    o1 14 (.call f_wszStmtS [(.t 12), (.t 13)]),
    o1 1 (.mv (.t 14))]) (.keep [1, 2]))
  (.seq (.seq (.seq (.ops [o1 15 (.mv (.t 1)),
    o1 16 (.bin .lss (.t 15) (.c (.I 0)))]) (.keep [1, 2, 16]))
  (.seq (.cond (.t 16)
  (.seq (.ops [o1 4 (.mv (.c (.I (-1))))])
  (.ret))
  (.skip)) (.keep [1, 2])))
  (.seq (.seq (.ops [o1 17 (.fldA 7 (.t 2)),
    o1 18 (.load (.t 17)),
    o1 19 (.mv (.t 1)),
    o1 20 (.call f_wszStmtS [(.t 18), (.t 19)]),
    o1 1 (.mv (.t 20))]) (.keep [1]))
  (.seq (.seq (.seq (.ops [o1 21 (.mv (.t 1)),
    o1 22 (.bin .lss (.t 21) (.c (.I 0)))]) (.keep [1, 22]))
  (.seq (.cond (.t 22)
  (.seq (.ops [o1 4 (.mv (.c (.I (-1))))])
  (.ret))
  (.skip)) (.keep [1])))
  (.seq (.seq (.ops [o1 23 (.mv (.t 1)),
    o1 4 (.mv (.t 23))]) (.keep [4]))
  (.ret)))))))), [.t 4]⟩

/- loop.example/cothreads/spec.StmtsValid -/
def c_sStmtsValid : AFn := ⟨1, .seq (.seq (.ops [o1 2 (.mv (.c (.b false)))]) (.keep [0]))
  (.seq (.seq (.ops [o1 3 (.mv (.t 0)),
    o1 4 (.call f_sl11Blocks [(.t 3), (.c (.I 3))]),
    o1 5 (.mv (.t 4)),
    ⟨some 6, (some (5, true)), [], false, .mv (.t 0)⟩,
    ⟨some 7, (some (5, true)), [], false, .call f_sl11Count [(.t 6)]⟩,
    ⟨some 8, (some (5, true)), [], false, .bin .leq (.t 7) (.c (.I 16))⟩,
    o1 9 (.pick (.t 5) (.t 8) (.c (.b false))),
    o1 2 (.mv (.t 9))]) (.keep [2]))
  (.ret)), [.t 2]⟩

/- loop.example/cothreads/spec.l4Words -/
def c_sl4Words_l0 : AC := .seq (.seq (.seq (.seq (.ops [o1 10 (.mv (.t 5)),
    o1 11 (.mv (.t 0)),
    o1 12 (.len (.t 11)),
    o1 13 (.bin .lss (.t 10) (.t 12))]) (.keep [0, 5, 13]))
  (.seq (.cond (.t 13)
  (.skip)
  (.exit 0)) (.keep [0, 5])))
  (.seq (.seq (.block 1 (.seq (.seq (.ops [o1 16 (.mv (.t 0)),
    o1 17 (.mv (.t 5)),
    o1 18 (.idxA 1 (.t 16) (.t 17)),
    o1 19 (.load (.t 18)),
    o1 20 (.call f_sWordValid [(.t 19)]),
    o1 21 (.un .not (.t 20))]) (.keep [0, 5, 21]))
  (.seq (.cond (.t 21)
  (.seq (.ops [o1 4 (.mv (.c (.b false)))])
  (.ret))
  (.skip)) (.keep [0, 5])))) (.keep [0, 5]))
  (.seq (.ops [o1 14 (.mv (.t 5)),
    o1 15 (.bin .add (.t 14) (.c (.I 1))),
    o1 5 (.mv (.t 15))]) (.keep [0, 5])))) (.keep [0, 5])
def c_sl4Words : AFn := ⟨2, .seq (.seq (.ops [o1 4 (.mv (.c (.b false)))]) (.keep [0, 1]))
  (.seq (.seq (.seq (.ops [o1 6 (.mv (.t 0)),
    o1 7 (.len (.t 6)),
    o1 8 (.mv (.t 1)),
    o1 9 (.bin .neq (.t 7) (.t 8))]) (.keep [0, 9]))
  (.seq (.cond (.t 9)
  (.seq (.ops [o1 4 (.mv (.c (.b false)))])
  (.ret))
  (.skip)) (.keep [0])))
  (.seq (.seq (.ops [o1 5 (.mv (.c (.I 0)))])
  (.seq (.block 0 (.seq (.keep [0, 5]) (.loop c_sl4Words_l0))) (.keep [])))
  (.seq (.ops [o1 4 (.mv (.c (.b true)))])
  (.ret)))), [.t 4]⟩

/- loop.example/cothreads/spec.BoxValid -/
def c_sBoxValid : AFn := ⟨1, .seq (.seq (.ops [o1 1 (.box (.t 0)),
    o1 2 (.mv (.c (.b false)))]) (.keep [1]))
  (.seq (.seq (.ops [o1 3 (.fldA 0 (.t 1)),
    o1 4 (.load (.t 3)),
    o1 5 (.call f_sl6In [(.t 4), (.c (.I 1)), (.c (.I 4))]),
    o1 6 (.mv (.t 5)),
    ⟨some 7, (some (6, true)), [], false, .fldA 1 (.t 1)⟩,
    ⟨some 8, (some (6, true)), [], false, .load (.t 7)⟩,
    ⟨some 9, (some (6, true)), [], false, .len (.t 8)⟩,
    ⟨some 10, (some (6, true)), [], false, .fldA 0 (.t 1)⟩,
    ⟨some 11, (some (6, true)), [], false, .load (.t 10)⟩,
    ⟨some 12, (some (6, true)), [], false, .bin .leq (.t 9) (.t 11)⟩,
    o1 13 (.pick (.t 6) (.t 12) (.c (.b false))),
    o1 14 (.mv (.t 13)),
    ⟨some 15, (some (14, true)), [], false, .fldA 1 (.t 1)⟩,
    ⟨some 16, (some (14, true)), [], false, .load (.t 15)⟩,
    ⟨some 17, (some (14, true)), [], false, .fldA 1 (.t 1)⟩,
    ⟨some 18, (some (14, true)), [], false, .load (.t 17)⟩,
    ⟨some 19, (some (14, true)), [], false, .len (.t 18)⟩,
    ⟨some 20, (some (14, true)), [], false, .call f_sl4Words [(.t 16), (.t 19)]⟩,
    o1 21 (.pick (.t 14) (.t 20) (.c (.b false))),
    o1 2 (.mv (.t 21))]) (.keep [2]))
  (.ret)), [.t 2]⟩

/- loop.example/cothreads/spec.BoxPut -/
def c_sBoxPut : AFn := ⟨2, .seq (.seq (.ops [o1 2 (.box (.t 0)),
    o1 4 (.alloc [(.I 0), .nils]),
    o1 5 (.mv (.c (.b false)))]) (.keep [1, 2, 4]))
  (.seq (.seq (.seq (.ops [o1 6 (.loadN 2 (.t 2)),
    o1 7 (.call f_sBoxValid [(.t 6)]),
    o1 8 (.un .not (.t 7)),
    o1 9 (.mv (.t 8)),
    ⟨some 10, (some (9, false)), [], false, .mv (.t 1)⟩,
    ⟨some 11, (some (9, false)), [], false, .call f_sWordValid [(.t 10)]⟩,
    ⟨some 12, (some (9, false)), [], false, .un .not (.t 11)⟩,
    o1 13 (.pick (.t 9) (.c (.b true)) (.t 12)),
    o1 14 (.mv (.t 13)),
    ⟨some 15, (some (14, false)), [], false, .fldA 1 (.t 2)⟩,
    ⟨some 16, (some (14, false)), [], false, .load (.t 15)⟩,
    ⟨some 17, (some (14, false)), [], false, .len (.t 16)⟩,
    ⟨some 18, (some (14, false)), [], false, .fldA 0 (.t 2)⟩,
    ⟨some 19, (some (14, false)), [], false, .load (.t 18)⟩,
    ⟨some 20, (some (14, false)), [], false, .bin .geq (.t 17) (.t 19)⟩,
    o1 21 (.pick (.t 14) (.c (.b true)) (.t 20))]) (.keep [1, 2, 4, 21]))
  (.seq (.cond (.t 21)
  (.seq (.seq (.ops [o1 22 (.build [(.I 0), .nils] []),
    o0 (.store 2 (.t 4) (.t 22)),
    o1 5 (.mv (.c (.b false)))]) (.keep [4, 5]))
  (.ret))
  (.skip)) (.keep [1, 2, 4])))
  (.seq (.seq (.ops [o1 23 (.fldA 0 (.t 2)),
    o1 24 (.load (.t 23)),
    o1 25 (.bsl [] 0 []),
    o1 26 (.fldA 1 (.t 2)),
    o1 27 (.load (.t 26)),
    ⟨some 28, none, [], true, .app 1 (.t 25) (.t 27)⟩,
    o1 29 (.mv (.t 1)),
    o1 30 (.bsl [(.I 0)] 1 [(0, 1, (.t 29))]),
    ⟨some 31, none, [(.t 23)], false, .app 1 (.t 28) (.t 30)⟩,
    o1 32 (.build [(.I 0), .nils] [(0, 1, (.t 24)), (1, 1, (.t 31))]),
    o0 (.store 2 (.t 4) (.t 32)),
    o1 5 (.mv (.c (.b true)))]) (.keep [4, 5]))
  (.ret))), [.c 4 2, .t 5]⟩

/- loop.example/cothreads/spec.BoxTake -/
def c_sBoxTake : AFn := ⟨1, .seq (.seq (.ops [o1 1 (.box (.t 0)),
    o1 2 (.alloc [(.I 0), .nils]),
    o1 3 (.mv (.c (.I 0))),
    o1 4 (.mv (.c (.b false)))]) (.keep [1, 2]))
  (.seq (.seq (.seq (.ops [o1 5 (.loadN 2 (.t 1)),
    o1 6 (.call f_sBoxValid [(.t 5)]),
    o1 7 (.un .not (.t 6)),
    o1 8 (.mv (.t 7)),
    ⟨some 9, (some (8, false)), [], false, .fldA 1 (.t 1)⟩,
    ⟨some 10, (some (8, false)), [], false, .load (.t 9)⟩,
    ⟨some 11, (some (8, false)), [], false, .len (.t 10)⟩,
    ⟨some 12, (some (8, false)), [], false, .bin .eql (.t 11) (.c (.I 0))⟩,
    o1 13 (.pick (.t 8) (.c (.b true)) (.t 12))]) (.keep [1, 2, 13]))
  (.seq (.cond (.t 13)
  (.seq (.seq (.ops [o1 14 (.build [(.I 0), .nils] []),
    o0 (.store 2 (.t 2) (.t 14)),
    o1 3 (.mv (.c (.I 0))),
    o1 4 (.mv (.c (.b false)))]) (.keep [2, 3, 4]))
  (.ret))
  (.skip)) (.keep [1, 2])))
  (.seq (.seq (.ops [o1 15 (.fldA 0 (.t 1)),
    o1 16 (.load (.t 15)),
    o1 17 (.bsl [] 0 []),
    o1 18 (.fldA 1 (.t 1)),
    o1 19 (.load (.t 18)),
    o1 20 (.slice 1 (.t 19) (some (.c (.I 1))) none none),
    ⟨some 21, none, [], true, .app 1 (.t 17) (.t 20)⟩,
    o1 22 (.build [(.I 0), .nils] [(0, 1, (.t 16)), (1, 1, (.t 21))]),
    o1 23 (.fldA 1 (.t 1)),
    o1 24 (.load (.t 23)),
    o1 25 (.idxA 1 (.t 24) (.c (.I 0))),
    o1 26 (.load (.t 25)),
    ⟨none, none, [(.t 23), (.t 25)], false, .store 2 (.t 2) (.t 22)⟩,
    o1 3 (.mv (.t 26)),
    o1 4 (.mv (.c (.b true)))]) (.keep [2, 3, 4]))
  (.ret))), [.c 2 2, .t 3, .t 4]⟩

/- loop.example/cothreads/spec.l15Ahead -/
def c_sl15Ahead : AFn := ⟨2, .seq (.seq (.ops [o1 4 (.mv (.c .nils))]) (.keep [0, 1]))
  (.seq (.seq (.ops [o1 5 (.mv (.t 0)),
    o1 6 (.call f_sl11Copy [(.t 5)]),
    o1 7 (.mv (.t 1)),
    o1 8 (.call f_sl11Copy [(.t 7)]),
    o1 9 (.app 8 (.t 6) (.t 8)),
    o1 4 (.mv (.t 9))]) (.keep [4]))
  (.ret)), [.t 4]⟩

/- loop.example/cothreads/spec.Apply -/
def c_sApply : AFn := ⟨3, .seq (.seq (.ops [o1 6 (.mv (.c (.I 0))),
    o1 7 (.mv (.c (.b false)))]) (.keep [0, 1, 2]))
  (.seq (.seq (.seq (.ops [o1 8 (.mv (.t 0)),
    o1 9 (.call f_sOpValid [(.t 8)]),
    o1 10 (.un .not (.t 9)),
    o1 11 (.mv (.t 10)),
    ⟨some 12, (some (11, false)), [], false, .mv (.t 1)⟩,
    ⟨some 13, (some (11, false)), [], false, .call f_sWordValid [(.t 12)]⟩,
    ⟨some 14, (some (11, false)), [], false, .un .not (.t 13)⟩,
    o1 15 (.pick (.t 11) (.c (.b true)) (.t 14)),
    o1 16 (.mv (.t 15)),
    ⟨some 17, (some (16, false)), [], false, .mv (.t 2)⟩,
    ⟨some 18, (some (16, false)), [], false, .call f_sWordValid [(.t 17)]⟩,
    ⟨some 19, (some (16, false)), [], false, .un .not (.t 18)⟩,
    o1 20 (.pick (.t 16) (.c (.b true)) (.t 19))]) (.keep [0, 1, 2, 20]))
  (.seq (.cond (.t 20)
  (.seq (.ops [o1 6 (.mv (.c (.I 0))),
    o1 7 (.mv (.c (.b false)))])
  (.ret))
  (.skip)) (.keep [0, 1, 2])))
  (.seq (.seq (.ops [o1 21 (.mv (.t 0))])
  (.seq (.block 0 (.seq (.seq (.ops [o1 23 (.bin .eql (.t 21) (.c (.I 1))),
    o1 22 (.mv (.t 23))]) (.keep [1, 2, 21, 22]))
  (.seq (.cond (.t 22)
  (.seq (.seq (.ops [o1 24 (.mv (.t 1)),
    o1 25 (.mv (.t 2)),
    o1 26 (.bin .or (.t 24) (.t 25)),
    o1 6 (.mv (.t 26)),
    o1 7 (.mv (.c (.b true)))]) (.keep [6, 7]))
  (.ret))
  (.seq (.seq (.ops [o1 28 (.bin .eql (.t 21) (.c (.I 2))),
    o1 27 (.mv (.t 28))]) (.keep [1, 2, 21, 27]))
  (.seq (.cond (.t 27)
  (.seq (.seq (.ops [o1 29 (.mv (.t 1)),
    o1 30 (.mv (.t 2)),
    o1 31 (.bin .xor (.t 29) (.t 30)),
    o1 6 (.mv (.t 31)),
    o1 7 (.mv (.c (.b true)))]) (.keep [6, 7]))
  (.ret))
  (.seq (.seq (.ops [o1 33 (.bin .eql (.t 21) (.c (.I 3))),
    o1 32 (.mv (.t 33))]) (.keep [1, 2, 21, 32]))
  (.seq (.cond (.t 32)
  (.seq (.seq (.ops [o1 34 (.mv (.t 1)),
    o1 35 (.mv (.t 2)),
    o1 36 (.bin .and (.t 34) (.t 35)),
    o1 6 (.mv (.t 36)),
    o1 7 (.mv (.c (.b true)))]) (.keep [6, 7]))
  (.ret))
  (.seq (.seq (.ops [o1 38 (.bin .eql (.t 21) (.c (.I 4))),
    o1 37 (.mv (.t 38))]) (.keep [1, 2, 21, 37]))
  (.seq (.cond (.t 37)
  (.seq (.seq (.ops [o1 39 (.mv (.t 1)),
    o1 40 (.mv (.t 2)),
    o1 41 (.bin .eql (.t 39) (.t 40)),
    o1 42 (.call f_sl2Flag [(.t 41)]),
    o1 6 (.mv (.t 42)),
    o1 7 (.mv (.c (.b true)))]) (.keep [6, 7]))
  (.ret))
  (.seq (.seq (.ops [o1 44 (.bin .eql (.t 21) (.c (.I 5))),
    o1 43 (.mv (.t 44))]) (.keep [1, 2, 21, 43]))
  (.seq (.cond (.t 43)
  (.seq (.seq (.ops [o1 45 (.mv (.t 1)),
    o1 46 (.mv (.t 2)),
    o1 47 (.bin .lss (.t 45) (.t 46)),
    o1 48 (.call f_sl2Flag [(.t 47)]),
    o1 6 (.mv (.t 48)),
    o1 7 (.mv (.c (.b true)))]) (.keep [6, 7]))
  (.ret))
  (.seq (.seq (.ops [o1 50 (.bin .eql (.t 21) (.c (.I 6))),
    o1 49 (.mv (.t 50))]) (.keep [1, 2, 21, 49]))
  (.seq (.cond (.t 49)
  (.seq (.seq (.ops [o1 51 (.mv (.t 1)),
    o1 52 (.mv (.t 2)),
    o1 53 (.call f_sl2Shift [(.t 51), (.t 52), (.c (.b false))]),
    o1 6 (.mv (.t 53)),
    o1 7 (.mv (.c (.b true)))]) (.keep [6, 7]))
  (.ret))
  (.seq (.seq (.ops [o1 55 (.bin .eql (.t 21) (.c (.I 7))),
    o1 54 (.mv (.t 55))]) (.keep [1, 2, 21, 54]))
  (.seq (.cond (.t 54)
  (.seq (.seq (.ops [o1 56 (.mv (.t 1)),
    o1 57 (.mv (.t 2)),
    o1 58 (.call f_sl2Shift [(.t 56), (.t 57), (.c (.b true))]),
    o1 6 (.mv (.t 58)),
    o1 7 (.mv (.c (.b true)))]) (.keep [6, 7]))
  (.ret))
  (.seq (.seq (.ops [o1 60 (.bin .eql (.t 21) (.c (.I 8))),
    o1 59 (.mv (.t 60))]) (.keep [1, 2, 21, 59]))
  (.seq (.cond (.t 59)
  (.seq (.seq (.ops [o1 61 (.mv (.t 1)),
    o1 62 (.mv (.t 2)),
    o1 63 (.bin .add (.t 61) (.t 62)),
    o1 64 (.call f_sWrap [(.t 63)]),
    o1 6 (.mv (.t 64)),
    o1 7 (.mv (.c (.b true)))]) (.keep [6, 7]))
  (.ret))
  (.seq (.seq (.ops [o1 66 (.bin .eql (.t 21) (.c (.I 9))),
    o1 65 (.mv (.t 66))]) (.keep [1, 2, 21, 65]))
  (.seq (.cond (.t 65)
  (.seq (.seq (.ops [o1 67 (.mv (.t 1)),
    o1 68 (.mv (.t 2)),
    o1 69 (.bin .sub (.t 67) (.t 68)),
    o1 70 (.call f_sWrap [(.t 69)]),
    o1 6 (.mv (.t 70)),
    o1 7 (.mv (.c (.b true)))]) (.keep [6, 7]))
  (.ret))
  (.seq (.seq (.ops [o1 72 (.bin .eql (.t 21) (.c (.I 10))),
    o1 71 (.mv (.t 72))]) (.keep [1, 2, 21, 71]))
  (.seq (.cond (.t 71)
  (.seq (.seq (.ops [o1 73 (.mv (.t 1)),
    o1 74 (.mv (.t 2)),
    o1 75 (.bin .mul (.t 73) (.t 74)),
    o1 76 (.call f_sWrap [(.t 75)]),
    o1 6 (.mv (.t 76)),
    o1 7 (.mv (.c (.b true)))]) (.keep [6, 7]))
  (.ret))
  (.seq (.seq (.ops [o1 78 (.bin .eql (.t 21) (.c (.I 11))),
    o1 77 (.mv (.t 78))]) (.keep [1, 2, 77]))
  (.seq (.cond (.t 77)
  (.seq (.seq (.ops [o1 79 (.mv (.t 1)),
    o1 80 (.mv (.t 2)),
    o1 81 (.call f_sl2Divide [(.t 79), (.t 80)]),
    o1 6 (.mv (.t 81)),
    o1 7 (.mv (.c (.b true)))]) (.keep [6, 7]))
  (.ret))
  (.skip)) (.keep [1, 2])))) (.keep [1, 2])))) (.keep [1, 2])))) (.keep [1, 2])))) (.keep [1, 2])))) (.keep [1, 2])))) (.keep [1, 2])))) (.keep [1, 2])))) (.keep [1, 2])))) (.keep [1, 2])))) (.keep [1, 2])))) (.keep [1, 2])))
  (.seq (.seq (.ops [o1 82 (.mv (.t 1)),
    o1 83 (.mv (.t 2)),
    o1 84 (.call f_sl2Remain [(.t 82), (.t 83)]),
    o1 6 (.mv (.t 84)),
    o1 7 (.mv (.c (.b true)))]) (.keep [6, 7]))
  (.ret)))), [.t 6, .t 7]⟩

/- loop.example/cothreads/spec.l4Copy -/
def c_sl4Copy : AFn := ⟨1, .seq (.ops [o1 1 (.box (.t 0)),
    o1 2 (.alloc [(.I 0), (.I 0), .nils])])
  (.seq (.seq (.seq (.ops [o1 3 (.fldA 2 (.t 1)),
    o1 4 (.load (.t 3)),
    o1 5 (.len (.t 4)),
    o1 6 (.bin .eql (.t 5) (.c (.I 0)))]) (.keep [1, 2, 6]))
  (.seq (.cond (.t 6)
  (.seq (.seq (.ops [o1 7 (.fldA 0 (.t 1)),
    o1 8 (.load (.t 7)),
    o1 9 (.fldA 1 (.t 1)),
    o1 10 (.load (.t 9)),
    o1 11 (.call f_sl4Leaf [(.t 8), (.t 10)]),
    o0 (.store 3 (.t 2) (.t 11))]) (.keep [2]))
  (.ret))
  (.skip)) (.keep [1, 2])))
  (.seq (.seq (.ops [o1 12 (.fldA 0 (.t 1)),
    o1 13 (.load (.t 12)),
    o1 14 (.fldA 2 (.t 1)),
    o1 15 (.load (.t 14)),
    o1 16 (.idxA 3 (.t 15) (.c (.I 0))),
    o1 17 (.loadN 3 (.t 16)),
    ⟨some 18, none, [], true, .call f_sl4Copy [(.t 17)]⟩,
    o1 19 (.fldA 2 (.t 1)),
    o1 20 (.load (.t 19)),
    o1 21 (.idxA 3 (.t 20) (.c (.I 1))),
    o1 22 (.loadN 3 (.t 21)),
    ⟨some 23, none, [], true, .call f_sl4Copy [(.t 22)]⟩,
    ⟨some 24, none, [], true, .call f_sl4Both [(.t 13), (.t 18), (.t 23)]⟩,
    o0 (.store 3 (.t 2) (.t 24))]) (.keep [2]))
  (.ret))), [.c 2 3]⟩

/- loop.example/cothreads/laws.toStmt -/
def c_wtoStmt : AFn := ⟨1, .seq (.ops [o1 1 (.box (.t 0)),
    o1 2 (.alloc [(.I 0), (.I 0), (.I 0), (.I 0), (.I 0), .nils, .nils, .nils])])
  (.seq (.ops [o1 3 (.alloc [(.I 0), (.I 0), (.I 0), (.I 0), (.I 0), .nils, .nils, .nils])])
  (.seq (.seq (.ops [o1 4 (.fldA 0 (.t 1)),
    o1 5 (.load (.t 4)),
    o1 6 (.fldA 0 (.t 3)),
    o0 (.store 1 (.t 6) (.t 5))]) (.keep [1, 2, 3]))
  (.seq (.seq (.ops [o1 7 (.fldA 1 (.t 1)),
    o1 8 (.load (.t 7)),
    o1 9 (.fldA 1 (.t 3)),
    o0 (.store 1 (.t 9) (.t 8))]) (.keep [1, 2, 3]))
  (.seq (.seq (.ops [o1 10 (.fldA 2 (.t 1)),
    o1 11 (.load (.t 10)),
    o1 12 (.fldA 2 (.t 3)),
    o0 (.store 1 (.t 12) (.t 11))]) (.keep [1, 2, 3]))
  (.seq (.seq (.ops [o1 13 (.fldA 3 (.t 1)),
    o1 14 (.loadN 3 (.t 13)),
    o1 15 (.call f_wtoExpr [(.t 14)]),
    o1 16 (.fldA 3 (.t 3)),
    o0 (.store 3 (.t 16) (.t 15))]) (.keep [1, 2, 3]))
  (.seq (.seq (.ops [o1 17 (.fldA 6 (.t 1)),
    o1 18 (.load (.t 17)),
    o1 19 (.call f_wtoStmtS [(.t 18)]),
    o1 20 (.fldA 6 (.t 3)),
    o0 (.store 1 (.t 20) (.t 19))]) (.keep [1, 2, 3]))
  (.seq (.seq (.ops [o1 21 (.fldA 7 (.t 1)),
    o1 22 (.load (.t 21)),
    o1 23 (.call f_wtoStmtS [(.t 22)]),
    o1 24 (.fldA 7 (.t 3)),
    o0 (.store 1 (.t 24) (.t 23))]) (.keep [2, 3]))
  (.seq (.seq (.ops [o1 25 (.loadN 8 (.t 3)),
    o0 (.store 8 (.t 2) (.t 25))]) (.keep [2]))
  (.ret))))))))), [.c 2 8]⟩

/- loop.example/cothreads/impl.taskValid -/
def c_itaskValid_l0 : AC := .seq (.seq (.ops [o1 20 (.bin .lss (.t 19) (.t 18))])
  (.seq (.seq (.cond (.t 20)
  (.skip)
  (.exit 0)) (.keep [1, 2, 18, 19]))
  (.seq (.seq (.block 1 (.seq (.seq (.ops [o1 21 (.mv (.t 19)),
    o1 5 (.mv (.t 21))]) (.keep [1, 2, 5, 18, 19]))
  (.seq (.seq (.ops [o1 22 (.fldA 1 (.t 2)),
    o1 23 (.load (.t 22)),
    o1 24 (.mv (.t 5)),
    o1 25 (.mv (.t 5)),
    o1 26 (.bin .add (.t 25) (.c (.I 1))),
    o1 27 (.slice 8 (.t 23) (some (.t 24)) (some (.t 26)) none),
    o1 28 (.mv (.t 1)),
    o1 29 (.call f_istmtsValid [(.t 27), (.t 28)]),
    o1 30 (.un .not (.t 29))]) (.keep [1, 2, 18, 19, 30]))
  (.seq (.cond (.t 30)
  (.seq (.ops [o1 4 (.mv (.c (.b false)))])
  (.ret))
  (.skip)) (.keep [1, 2, 18, 19]))))) (.keep [1, 2, 18, 19]))
  (.seq (.ops [o1 31 (.bin .add (.t 19) (.c (.I 1))),
    o1 19 (.mv (.t 31))]) (.keep [1, 2, 18, 19]))))) (.keep [1, 2, 18, 19])
def c_itaskValid : AFn := ⟨2, .seq (.seq (.ops [o1 2 (.box (.t 0)),
    o1 4 (.mv (.c (.b false)))]) (.keep [1, 2]))
  (.seq (.seq (.seq (.ops [o1 6 (.fldA 0 (.t 2)),
    o1 7 (.load (.t 6)),
    o1 8 (.len (.t 7)),
    o1 9 (.bin .neq (.t 8) (.c (.I 4))),
    o1 10 (.mv (.t 9)),
    ⟨some 11, (some (10, false)), [], false, .fldA 0 (.t 2)⟩,
    ⟨some 12, (some (10, false)), [], false, .load (.t 11)⟩,
    ⟨some 13, (some (10, false)), [], false, .call f_iareWords [(.t 12)]⟩,
    ⟨some 14, (some (10, false)), [], false, .un .not (.t 13)⟩,
    o1 15 (.pick (.t 10) (.c (.b true)) (.t 14))]) (.keep [1, 2, 15]))
  (.seq (.cond (.t 15)
  (.seq (.ops [o1 4 (.mv (.c (.b false)))])
  (.ret))
  (.skip)) (.keep [1, 2])))
  (.seq (.seq (.seq (.ops [o1 16 (.fldA 1 (.t 2)),
    o1 17 (.load (.t 16)),
    o1 18 (.len (.t 17)),
    o1 19 (.mv (.c (.I 0)))]) (.keep [1, 2, 18, 19]))
  (.seq (.block 0 (.seq (.keep [1, 2, 18, 19]) (.loop c_itaskValid_l0))) (.keep [])))
  (.seq (.ops [o1 4 (.mv (.c (.b true)))])
  (.ret)))), [.t 4]⟩

/- loop.example/cothreads/impl.BoxValid -/
def c_iBoxValid : AFn := ⟨1, .seq (.seq (.ops [o1 1 (.box (.t 0)),
    o1 2 (.mv (.c (.b false)))]) (.keep [1]))
  (.seq (.seq (.ops [o1 3 (.fldA 0 (.t 1)),
    o1 4 (.load (.t 3)),
    o1 5 (.bin .geq (.t 4) (.c (.I 1))),
    o1 6 (.mv (.t 5)),
    ⟨some 7, (some (6, true)), [], false, .fldA 0 (.t 1)⟩,
    ⟨some 8, (some (6, true)), [], false, .load (.t 7)⟩,
    ⟨some 9, (some (6, true)), [], false, .bin .leq (.t 8) (.c (.I 4))⟩,
    o1 10 (.pick (.t 6) (.t 9) (.c (.b false))),
    o1 11 (.mv (.t 10)),
    ⟨some 12, (some (11, true)), [], false, .fldA 1 (.t 1)⟩,
    ⟨some 13, (some (11, true)), [], false, .load (.t 12)⟩,
    ⟨some 14, (some (11, true)), [], false, .len (.t 13)⟩,
    ⟨some 15, (some (11, true)), [], false, .fldA 0 (.t 1)⟩,
    ⟨some 16, (some (11, true)), [], false, .load (.t 15)⟩,
    ⟨some 17, (some (11, true)), [], false, .bin .leq (.t 14) (.t 16)⟩,
    o1 18 (.pick (.t 11) (.t 17) (.c (.b false))),
    o1 19 (.mv (.t 18)),
    ⟨some 20, (some (19, true)), [], false, .fldA 1 (.t 1)⟩,
    ⟨some 21, (some (19, true)), [], false, .load (.t 20)⟩,
    ⟨some 22, (some (19, true)), [], false, .call f_iareWords [(.t 21)]⟩,
    o1 23 (.pick (.t 19) (.t 22) (.c (.b false))),
    o1 2 (.mv (.t 23))]) (.keep [2]))
  (.ret)), [.t 2]⟩

/- loop.example/cothreads/impl.ahead -/
def c_iahead_l0 : AC := .seq (.seq (.seq (.seq (.ops [o1 9 (.mv (.t 5)),
    o1 10 (.bin .geq (.t 9) (.c (.I 0)))]) (.keep [0, 1, 5, 10]))
  (.seq (.cond (.t 10)
  (.skip)
  (.exit 0)) (.keep [0, 1, 5])))
  (.seq (.seq (.block 1 (.seq (.ops [o1 13 (.mv (.t 0)),
    o1 14 (.mv (.t 5)),
    o1 15 (.idxA 8 (.t 13) (.t 14)),
    o1 16 (.mv (.t 1)),
    o1 17 (.build [.nilp, .nilp] [(0, 1, (.t 15)), (1, 1, (.t 16))]),
    o1 18 (.box (.t 17)),
    o1 1 (.mv (.t 18))]) (.keep [0, 1, 5]))) (.keep [0, 1, 5]))
  (.seq (.ops [o1 11 (.mv (.t 5)),
    o1 12 (.bin .sub (.t 11) (.c (.I 1))),
    o1 5 (.mv (.t 12))]) (.keep [0, 1, 5])))) (.keep [0, 1, 5])
def c_iahead : AFn := ⟨2, .seq (.seq (.ops [o1 4 (.mv (.c .nilp))]) (.keep [0, 1]))
  (.seq (.seq (.seq (.ops [o1 6 (.mv (.t 0)),
    o1 7 (.len (.t 6)),
    o1 8 (.bin .sub (.t 7) (.c (.I 1))),
    o1 5 (.mv (.t 8))]) (.keep [0, 1, 5]))
  (.seq (.block 0 (.seq (.keep [0, 1, 5]) (.loop c_iahead_l0))) (.keep [1])))
  (.seq (.seq (.ops [o1 19 (.mv (.t 1)),
    o1 4 (.mv (.t 19))]) (.keep [4]))
  (.ret))), [.t 4]⟩

/- loop.example/cothreads/impl.exprEval -/
def c_iexprEval : AFn := ⟨2, .seq (.seq (.ops [o1 4 (.mv (.c (.I 0)))]) (.keep [0, 1]))
  (.seq (.seq (.seq (.ops [o1 5 (.mv (.t 0)),
    o1 6 (.nilc (.t 5)),
    o1 7 (.fldA 0 (.t 6)),
    o1 8 (.load (.t 7))]) (.keep [0, 1, 8]))
  (.seq (.block 0 (.seq (.seq (.ops [o1 10 (.bin .eql (.t 8) (.c (.I 0))),
    o1 9 (.mv (.t 10))]) (.keep [0, 1, 8, 9]))
  (.seq (.cond (.t 9)
  (.seq (.seq (.ops [o1 11 (.mv (.t 0)),
    o1 12 (.nilc (.t 11)),
    o1 13 (.fldA 1 (.t 12)),
    o1 14 (.load (.t 13)),
    o1 4 (.mv (.t 14))]) (.keep [4]))
  (.ret))
  (.seq (.seq (.ops [o1 16 (.bin .eql (.t 8) (.c (.I 13))),
    o1 15 (.mv (.t 16))]) (.keep [0, 1, 15]))
  (.seq (.cond (.t 15)
  (.seq (.seq (.ops [o1 17 (.mv (.t 1)),
    o1 18 (.mv (.t 0)),
    o1 19 (.nilc (.t 18)),
    o1 20 (.fldA 1 (.t 19)),
    o1 21 (.load (.t 20)),
    o1 22 (.idxA 1 (.t 17) (.t 21)),
    o1 23 (.load (.t 22)),
    o1 4 (.mv (.t 23))]) (.keep [4]))
  (.ret))
  (.skip)) (.keep [0, 1])))) (.keep [0, 1])))) (.keep [0, 1])))
  (.seq (.seq (.ops [o1 24 (.mv (.t 0)),
    o1 25 (.nilc (.t 24)),
    o1 26 (.fldA 0 (.t 25)),
    o1 27 (.load (.t 26)),
    o1 28 (.mv (.t 0)),
    o1 29 (.nilc (.t 28)),
    o1 30 (.fldA 2 (.t 29)),
    o1 31 (.load (.t 30)),
    o1 32 (.idxA 3 (.t 31) (.c (.I 0))),
    o1 33 (.mv (.t 1)),
    ⟨some 34, none, [], true, .call f_iexprEval [(.t 32), (.t 33)]⟩,
    o1 35 (.mv (.t 0)),
    o1 36 (.nilc (.t 35)),
    o1 37 (.fldA 2 (.t 36)),
    o1 38 (.load (.t 37)),
    o1 39 (.idxA 3 (.t 38) (.c (.I 1))),
    o1 40 (.mv (.t 1)),
    ⟨some 41, none, [], true, .call f_iexprEval [(.t 39), (.t 40)]⟩,
    ⟨some 42, none, [], true, .call f_iapply [(.t 27), (.t 34), (.t 41)]⟩,
    o1 4 (.mv (.t 42))]) (.keep [4]))
  (.ret))), [.t 4]⟩

/- (*loop.example/cothreads/impl.Box).put -/
def c_iBox_put : AFn := ⟨2, .seq (.seq (.ops [o1 4 (.mv (.c (.b false)))]) (.keep [0, 1]))
  (.seq (.seq (.seq (.ops [o1 5 (.mv (.t 0)),
    o1 6 (.nilc (.t 5)),
    o1 7 (.fldA 1 (.t 6)),
    o1 8 (.load (.t 7)),
    o1 9 (.len (.t 8)),
    o1 10 (.mv (.t 0)),
    o1 11 (.nilc (.t 10)),
    o1 12 (.fldA 0 (.t 11)),
    o1 13 (.load (.t 12)),
    o1 14 (.bin .eql (.t 9) (.t 13))]) (.keep [0, 1, 14]))
  (.seq (.cond (.t 14)
  (.seq (.ops [o1 4 (.mv (.c (.b false)))])
  (.ret))
  (.skip)) (.keep [0, 1])))
  (.seq (.seq (.ops [o1 15 (.mv (.t 0)),
    o1 16 (.mv (.t 0)),
    o1 17 (.nilc (.t 16)),
    o1 18 (.fldA 1 (.t 17)),
    o1 19 (.load (.t 18)),
    o1 20 (.mv (.t 1)),
    o1 21 (.bsl [(.I 0)] 1 [(0, 1, (.t 20))]),
    o1 22 (.app 1 (.t 19) (.t 21)),
    o1 23 (.nilc (.t 15)),
    o1 24 (.fldA 1 (.t 23)),
    o0 (.store 1 (.t 24) (.t 22))]) (.keep []))
  (.seq (.ops [o1 4 (.mv (.c (.b true)))])
  (.ret)))), [.t 4]⟩

/- (*loop.example/cothreads/impl.Box).take -/
def c_iBox_take : AFn := ⟨1, .seq (.seq (.ops [o1 2 (.mv (.c (.I 0))),
    o1 3 (.mv (.c (.b false)))]) (.keep [0]))
  (.seq (.seq (.seq (.ops [o1 5 (.mv (.t 0)),
    o1 6 (.nilc (.t 5)),
    o1 7 (.fldA 1 (.t 6)),
    o1 8 (.load (.t 7)),
    o1 9 (.len (.t 8)),
    o1 10 (.bin .eql (.t 9) (.c (.I 0)))]) (.keep [0, 10]))
  (.seq (.cond (.t 10)
  (.seq (.ops [o1 2 (.mv (.c (.I 0))),
    o1 3 (.mv (.c (.b false)))])
  (.ret))
  (.skip)) (.keep [0])))
  (.seq (.seq (.ops [o1 11 (.mv (.t 0)),
    o1 12 (.nilc (.t 11)),
    o1 13 (.fldA 1 (.t 12)),
    o1 14 (.load (.t 13)),
    o1 15 (.idxA 1 (.t 14) (.c (.I 0))),
    o1 16 (.load (.t 15)),
    o1 4 (.mv (.t 16))]) (.keep [0, 4]))
  (.seq (.seq (.ops [o1 17 (.mv (.t 0)),
    o1 18 (.mv (.t 0)),
    o1 19 (.nilc (.t 18)),
    o1 20 (.fldA 1 (.t 19)),
    o1 21 (.load (.t 20)),
    o1 22 (.slice 1 (.t 21) none (some (.c (.I 0))) none),
    o1 23 (.mv (.t 0)),
    o1 24 (.nilc (.t 23)),
    o1 25 (.fldA 1 (.t 24)),
    o1 26 (.load (.t 25)),
    o1 27 (.slice 1 (.t 26) (some (.c (.I 1))) none none),
    o1 28 (.app 1 (.t 22) (.t 27)),
    o1 29 (.nilc (.t 17)),
    o1 30 (.fldA 1 (.t 29)),
    o0 (.store 1 (.t 30) (.t 28))]) (.keep [4]))
  (.seq (.seq (.ops [o1 31 (.mv (.t 4)),
    o1 2 (.mv (.t 31)),
    o1 3 (.mv (.c (.b true)))]) (.keep [2, 3]))
  (.ret))))), [.t 2, .t 3]⟩

/- loop.example/cothreads/impl.stmtsCopy -/
def c_istmtsCopy_l0 : AC := .seq (.seq (.ops [o1 9 (.bin .lss (.t 8) (.t 7))])
  (.seq (.seq (.cond (.t 9)
  (.skip)
  (.exit 0)) (.keep [3, 6, 7, 8]))
  (.seq (.seq (.block 1 (.seq (.seq (.ops [o1 10 (.idxA 8 (.t 6) (.t 8)),
    o1 11 (.loadN 8 (.t 10)),
    o1 5 (.alloc [(.I 0), (.I 0), (.I 0), (.I 0), (.I 0), .nils, .nils, .nils]),
    o0 (.store 8 (.t 5) (.t 11))]) (.keep [3, 5, 6, 7, 8]))
  (.seq (.seq (.ops [o1 12 (.fldA 6 (.t 5)),
    o1 13 (.load (.t 12)),
    ⟨some 14, none, [], true, .call f_istmtsCopy [(.t 13)]⟩,
    o1 15 (.fldA 7 (.t 5)),
    o1 16 (.load (.t 15)),
    ⟨some 17, none, [], true, .call f_istmtsCopy [(.t 16)]⟩,
    o1 18 (.fldA 3 (.t 5)),
    o1 19 (.loadN 3 (.t 18)),
    ⟨some 20, none, [], true, .call f_iexprCopy [(.t 19)]⟩,
    o1 21 (.fldA 6 (.t 5)),
    o0 (.store 1 (.t 21) (.t 14)),
    o1 22 (.fldA 7 (.t 5)),
    o0 (.store 1 (.t 22) (.t 17)),
    o1 23 (.fldA 3 (.t 5)),
    o0 (.store 3 (.t 23) (.t 20))]) (.keep [3, 5, 6, 7, 8]))
  (.seq (.ops [o1 24 (.mv (.t 3)),
    o1 25 (.loadN 8 (.t 5)),
    o1 26 (.bsl [(.I 0), (.I 0), (.I 0), (.I 0), (.I 0), .nils, .nils, .nils] 1 [(0, 8, (.t 25))]),
    o1 27 (.app 8 (.t 24) (.t 26)),
    o1 3 (.mv (.t 27))]) (.keep [3, 6, 7, 8]))))) (.keep [3, 6, 7, 8]))
  (.seq (.ops [o1 28 (.bin .add (.t 8) (.c (.I 1))),
    o1 8 (.mv (.t 28))]) (.keep [3, 6, 7, 8]))))) (.keep [3, 6, 7, 8])
def c_istmtsCopy : AFn := ⟨1, .seq (.seq (.ops [o1 2 (.mv (.c .nils))]) (.keep [0]))
  (.seq (.ops [o1 3 (.mv (.c .nils))])
  (.seq (.seq (.ops [o1 6 (.mv (.t 0)),
    o1 7 (.len (.t 6)),
    o1 8 (.mv (.c (.I 0)))])
  (.seq (.block 0 (.seq (.keep [3, 6, 7, 8]) (.loop c_istmtsCopy_l0))) (.keep [3])))
  (.seq (.seq (.ops [o1 29 (.mv (.t 3)),
    o1 2 (.mv (.t 29))]) (.keep [2]))
  (.ret)))), [.t 2]⟩

/- loop.example/cothreads/laws.eqStmt -/
def c_weqStmt : AFn := ⟨2, .seq (.seq (.ops [o1 2 (.box (.t 0)),
    o1 3 (.box (.t 1)),
    o1 4 (.mv (.c (.b false)))]) (.keep [2, 3]))
  (.seq (.seq (.seq (.ops [o1 5 (.fldA 0 (.t 2)),
    o1 6 (.load (.t 5)),
    o1 7 (.fldA 0 (.t 3)),
    o1 8 (.load (.t 7)),
    o1 9 (.bin .neq (.t 6) (.t 8))]) (.keep [2, 3, 9]))
  (.seq (.cond (.t 9)
  (.seq (.ops [o1 4 (.mv (.c (.b false)))])
  (.ret))
  (.skip)) (.keep [2, 3])))
  (.seq (.seq (.seq (.ops [o1 10 (.fldA 1 (.t 2)),
    o1 11 (.load (.t 10)),
    o1 12 (.fldA 1 (.t 3)),
    o1 13 (.load (.t 12)),
    o1 14 (.bin .neq (.t 11) (.t 13))]) (.keep [2, 3, 14]))
  (.seq (.cond (.t 14)
  (.seq (.ops [o1 4 (.mv (.c (.b false)))])
  (.ret))
  (.skip)) (.keep [2, 3])))
  (.seq (.seq (.seq (.ops [o1 15 (.fldA 2 (.t 2)),
    o1 16 (.load (.t 15)),
    o1 17 (.fldA 2 (.t 3)),
    o1 18 (.load (.t 17)),
    o1 19 (.bin .neq (.t 16) (.t 18))]) (.keep [2, 3, 19]))
  (.seq (.cond (.t 19)
  (.seq (.ops [o1 4 (.mv (.c (.b false)))])
  (.ret))
  (.skip)) (.keep [2, 3])))
  (.seq (.seq (.seq (.ops [o1 20 (.fldA 3 (.t 2)),
    o1 21 (.loadN 3 (.t 20)),
    o1 22 (.fldA 3 (.t 3)),
    o1 23 (.loadN 3 (.t 22)),
    o1 24 (.call f_weqExpr [(.t 21), (.t 23)]),
    o1 25 (.un .not (.t 24))]) (.keep [2, 3, 25]))
  (.seq (.cond (.t 25)
  (.seq (.ops [o1 4 (.mv (.c (.b false)))])
  (.ret))
  (.skip)) (.keep [2, 3])))
  (.seq (.seq (.seq (.ops [o1 26 (.fldA 6 (.t 2)),
    o1 27 (.load (.t 26)),
    o1 28 (.fldA 6 (.t 3)),
    o1 29 (.load (.t 28)),
    o1 30 (.call f_weqStmtS [(.t 27), (.t 29)]),
    o1 31 (.un .not (.t 30))]) (.keep [2, 3, 31]))
  (.seq (.cond (.t 31)
  (.seq (.ops [o1 4 (.mv (.c (.b false)))])
  (.ret))
  (.skip)) (.keep [2, 3])))
  (.seq (.seq (.seq (.ops [o1 32 (.fldA 7 (.t 2)),
    o1 33 (.load (.t 32)),
    o1 34 (.fldA 7 (.t 3)),
    o1 35 (.load (.t 34)),
    o1 36 (.call f_weqStmtS [(.t 33), (.t 35)]),
    o1 37 (.un .not (.t 36))]) (.keep [37]))
  (.seq (.cond (.t 37)
  (.seq (.ops [o1 4 (.mv (.c (.b false)))])
  (.ret))
  (.skip)) (.keep [])))
  (.seq (.ops [o1 4 (.mv (.c (.b true)))])
  (.ret)))))))), [.t 4]⟩

/- loop.example/cothreads/laws.markExprS -/
def c_wmarkExprS_l0 : AC := .seq (.seq (.seq (.seq (.ops [o1 6 (.mv (.t 5)),
    o1 7 (.mv (.t 0)),
    o1 8 (.len (.t 7)),
    o1 9 (.bin .lss (.t 6) (.t 8))]) (.keep [0, 1, 5, 9]))
  (.seq (.cond (.t 9)
  (.skip)
  (.exit 0)) (.keep [0, 1, 5])))
  (.seq (.seq (.block 1 (.seq (.seq (.ops [o1 12 (.mv (.t 0)),
    o1 13 (.mv (.t 5)),
    o1 14 (.mv (.t 1)),
    o1 15 (.idxA 3 (.t 12) (.t 13)),
    o1 16 (.fldA 0 (.t 15)),
    o0 (.store 1 (.t 16) (.t 14))]) (.keep [0, 1, 5]))
  (.seq (.seq (.ops [o1 17 (.mv (.t 1)),
    o1 18 (.bin .add (.t 17) (.c (.I 1))),
    o1 1 (.mv (.t 18))]) (.keep [0, 1, 5]))
  (.seq (.seq (.ops [o1 19 (.mv (.t 0)),
    o1 20 (.mv (.t 5)),
    o1 21 (.mv (.t 1)),
    o1 22 (.idxA 3 (.t 19) (.t 20)),
    o1 23 (.fldA 1 (.t 22)),
    o0 (.store 1 (.t 23) (.t 21))]) (.keep [0, 1, 5]))
  (.seq (.seq (.ops [o1 24 (.mv (.t 1)),
    o1 25 (.bin .add (.t 24) (.c (.I 1))),
    o1 1 (.mv (.t 25))]) (.keep [0, 1, 5]))
  (.seq (.ops [o1 26 (.mv (.t 0)),
    o1 27 (.mv (.t 5)),
    o1 28 (.idxA 3 (.t 26) (.t 27)),
    o1 29 (.fldA 2 (.t 28)),
    o1 30 (.load (.t 29)),
    o1 31 (.mv (.t 1)),
    o1 32 (.call f_wmarkExprS [(.t 30), (.t 31)]),
    o1 1 (.mv (.t 32))]) (.keep [0, 1, 5]))))))) (.keep [0, 1, 5]))
  (.seq (.ops [o1 10 (.mv (.t 5)),
    o1 11 (.bin .add (.t 10) (.c (.I 1))),
    o1 5 (.mv (.t 11))]) (.keep [0, 1, 5])))) (.keep [0, 1, 5])
def c_wmarkExprS : AFn := ⟨2, .seq (.seq (.ops [o1 4 (.mv (.c (.I 0)))]) (.keep [0, 1]))
  (.seq (.seq (.ops [o1 5 (.mv (.c (.I 0)))])
  (.seq (.block 0 (.seq (.keep [0, 1, 5]) (.loop c_wmarkExprS_l0))) (.keep [1])))
  (.seq (.seq (.ops [o1 33 (.mv (.t 1)),
    o1 4 (.mv (.t 33))]) (.keep [4]))
  (.ret))), [.t 4]⟩

/- loop.example/cothreads/laws.heldExprS -/
def c_wheldExprS_l0 : AC := .seq (.seq (.seq (.seq (.ops [o1 6 (.mv (.t 5)),
    o1 7 (.mv (.t 0)),
    o1 8 (.len (.t 7)),
    o1 9 (.bin .lss (.t 6) (.t 8))]) (.keep [0, 1, 5, 9]))
  (.seq (.cond (.t 9)
  (.skip)
  (.exit 0)) (.keep [0, 1, 5])))
  (.seq (.seq (.block 1 (.seq (.seq (.seq (.ops [o1 12 (.mv (.t 0)),
    o1 13 (.mv (.t 5)),
    o1 14 (.idxA 3 (.t 12) (.t 13)),
    o1 15 (.fldA 0 (.t 14)),
    o1 16 (.load (.t 15)),
    o1 17 (.mv (.t 1)),
    o1 18 (.bin .neq (.t 16) (.t 17))]) (.keep [0, 1, 5, 18]))
  (.seq (.cond (.t 18)
  (.seq (.ops [o1 4 (.mv (.c (.I (-1))))])
  (.ret))
  (.skip)) (.keep [0, 1, 5])))
  (.seq (.seq (.ops [o1 19 (.mv (.t 1)),
    o1 20 (.bin .add (.t 19) (.c (.I 1))),
    o1 1 (.mv (.t 20))]) (.keep [0, 1, 5]))
  (.seq (.seq (.seq (.ops [o1 21 (.mv (.t 0)),
    o1 22 (.mv (.t 5)),
    o1 23 (.idxA 3 (.t 21) (.t 22)),
    o1 24 (.fldA 1 (.t 23)),
    o1 25 (.load (.t 24)),
    o1 26 (.mv (.t 1)),
    o1 27 (.bin .neq (.t 25) (.t 26))]) (.keep [0, 1, 5, 27]))
  (.seq (.cond (.t 27)
  (.seq (.ops [o1 4 (.mv (.c (.I (-1))))])
  (.ret))
  (.skip)) (.keep [0, 1, 5])))
  (.seq (.seq (.ops [o1 28 (.mv (.t 1)),
    o1 29 (.bin .add (.t 28) (.c (.I 1))),
    o1 1 (.mv (.t 29))]) (.keep [0, 1, 5]))
  (.seq (.seq (.ops [o1 30 (.mv (.t 0)),
    o1 31 (.mv (.t 5)),
    o1 32 (.idxA 3 (.t 30) (.t 31)),
    o1 33 (.fldA 2 (.t 32)),
    o1 34 (.load (.t 33)),
    o1 35 (.mv (.t 1)),
    o1 36 (.call f_wheldExprS [(.t 34), (.t 35)]),
    o1 1 (.mv (.t 36))]) (.keep [0, 1, 5]))
  (.seq (.seq (.ops [o1 37 (.mv (.t 1)),
    o1 38 (.bin .lss (.t 37) (.c (.I 0)))]) (.keep [0, 1, 5, 38]))
  (.seq (.cond (.t 38)
  (.seq (.ops [o1 4 (.mv (.c (.I (-1))))])
  (.ret))
  (.skip)) (.keep [0, 1, 5]))))))))) (.keep [0, 1, 5]))
  (.seq (.ops [o1 10 (.mv (.t 5)),
    o1 11 (.bin .add (.t 10) (.c (.I 1))),
    o1 5 (.mv (.t 11))]) (.keep [0, 1, 5])))) (.keep [0, 1, 5])
def c_wheldExprS : AFn := ⟨2, .seq (.seq (.ops [o1 4 (.mv (.c (.I 0)))]) (.keep [0, 1]))
  (.seq (.seq (.ops [o1 5 (.mv (.c (.I 0)))])
  (.seq (.block 0 (.seq (.keep [0, 1, 5]) (.loop c_wheldExprS_l0))) (.keep [1])))
  (.seq (.seq (.ops [o1 39 (.mv (.t 1)),
    o1 4 (.mv (.t 39))]) (.keep [4]))
  (.ret))), [.t 4]⟩

/- loop.example/cothreads/impl.apply -/
def c_iapply : AFn := ⟨3, .seq (.seq (.ops [o1 6 (.mv (.c (.I 0)))]) (.keep [0, 1, 2]))
  (.seq (.seq (.ops [o1 7 (.mv (.t 0))])
  (.seq (.block 0 (.seq (.seq (.ops [o1 9 (.bin .eql (.t 7) (.c (.I 1))),
    o1 8 (.mv (.t 9))]) (.keep [1, 2, 7, 8]))
  (.seq (.cond (.t 8)
  (.seq (.seq (.ops [o1 10 (.mv (.t 1)),
    o1 11 (.mv (.t 2)),
    o1 12 (.bin .or (.t 10) (.t 11)),
    o1 6 (.mv (.t 12))]) (.keep [6]))
  (.ret))
  (.seq (.seq (.ops [o1 14 (.bin .eql (.t 7) (.c (.I 2))),
    o1 13 (.mv (.t 14))]) (.keep [1, 2, 7, 13]))
  (.seq (.cond (.t 13)
  (.seq (.seq (.ops [o1 15 (.mv (.t 1)),
    o1 16 (.mv (.t 2)),
    o1 17 (.bin .xor (.t 15) (.t 16)),
    o1 6 (.mv (.t 17))]) (.keep [6]))
  (.ret))
  (.seq (.seq (.ops [o1 19 (.bin .eql (.t 7) (.c (.I 3))),
    o1 18 (.mv (.t 19))]) (.keep [1, 2, 7, 18]))
  (.seq (.cond (.t 18)
  (.seq (.seq (.ops [o1 20 (.mv (.t 1)),
    o1 21 (.mv (.t 2)),
    o1 22 (.bin .and (.t 20) (.t 21)),
    o1 6 (.mv (.t 22))]) (.keep [6]))
  (.ret))
  (.seq (.seq (.ops [o1 24 (.bin .eql (.t 7) (.c (.I 4))),
    o1 23 (.mv (.t 24))]) (.keep [1, 2, 7, 23]))
  (.seq (.cond (.t 23)
  (.seq (.seq (.ops [o1 25 (.mv (.t 1)),
    o1 26 (.mv (.t 2)),
    o1 27 (.bin .eql (.t 25) (.t 26)),
    o1 28 (.call f_itruth [(.t 27)]),
    o1 6 (.mv (.t 28))]) (.keep [6]))
  (.ret))
  (.seq (.seq (.ops [o1 30 (.bin .eql (.t 7) (.c (.I 5))),
    o1 29 (.mv (.t 30))]) (.keep [1, 2, 7, 29]))
  (.seq (.cond (.t 29)
  (.seq (.seq (.ops [o1 31 (.mv (.t 1)),
    o1 32 (.mv (.t 2)),
    o1 33 (.bin .lss (.t 31) (.t 32)),
    o1 34 (.call f_itruth [(.t 33)]),
    o1 6 (.mv (.t 34))]) (.keep [6]))
  (.ret))
  (.seq (.seq (.ops [o1 36 (.bin .eql (.t 7) (.c (.I 6))),
    o1 35 (.mv (.t 36))]) (.keep [1, 2, 7, 35]))
  (.seq (.cond (.t 35)
  (.seq (.seq (.ops [o1 37 (.mv (.t 1)),
    o1 38 (.mv (.t 2)),
    o1 39 (.bin .and (.t 38) (.c (.I 31))),
    o1 40 (.bin .shl (.t 37) (.t 39)),
    o1 41 (.call f_iWrap [(.t 40)]),
    o1 6 (.mv (.t 41))]) (.keep [6]))
  (.ret))
  (.seq (.seq (.ops [o1 43 (.bin .eql (.t 7) (.c (.I 7))),
    o1 42 (.mv (.t 43))]) (.keep [1, 2, 7, 42]))
  (.seq (.cond (.t 42)
  (.seq (.seq (.ops [o1 44 (.mv (.t 1)),
    o1 45 (.mv (.t 2)),
    o1 46 (.bin .and (.t 45) (.c (.I 31))),
    o1 47 (.bin .shr (.t 44) (.t 46)),
    o1 6 (.mv (.t 47))]) (.keep [6]))
  (.ret))
  (.seq (.seq (.ops [o1 49 (.bin .eql (.t 7) (.c (.I 8))),
    o1 48 (.mv (.t 49))]) (.keep [1, 2, 7, 48]))
  (.seq (.cond (.t 48)
  (.seq (.seq (.ops [o1 50 (.mv (.t 1)),
    o1 51 (.mv (.t 2)),
    o1 52 (.bin .add (.t 50) (.t 51)),
    o1 53 (.call f_iWrap [(.t 52)]),
    o1 6 (.mv (.t 53))]) (.keep [6]))
  (.ret))
  (.seq (.seq (.ops [o1 55 (.bin .eql (.t 7) (.c (.I 9))),
    o1 54 (.mv (.t 55))]) (.keep [1, 2, 7, 54]))
  (.seq (.cond (.t 54)
  (.seq (.seq (.ops [o1 56 (.mv (.t 1)),
    o1 57 (.mv (.t 2)),
    o1 58 (.bin .sub (.t 56) (.t 57)),
    o1 59 (.call f_iWrap [(.t 58)]),
    o1 6 (.mv (.t 59))]) (.keep [6]))
  (.ret))
  (.seq (.seq (.ops [o1 61 (.bin .eql (.t 7) (.c (.I 10))),
    o1 60 (.mv (.t 61))]) (.keep [1, 2, 7, 60]))
  (.seq (.cond (.t 60)
  (.seq (.seq (.ops [o1 62 (.mv (.t 1)),
    o1 63 (.mv (.t 2)),
    o1 64 (.bin .mul (.t 62) (.t 63)),
    o1 65 (.call f_iWrap [(.t 64)]),
    o1 6 (.mv (.t 65))]) (.keep [6]))
  (.ret))
  (.seq (.seq (.ops [o1 67 (.bin .eql (.t 7) (.c (.I 11))),
    o1 66 (.mv (.t 67))]) (.keep [1, 2, 66]))
  (.seq (.cond (.t 66)
  (.seq (.seq (.seq (.ops [o1 68 (.mv (.t 2)),
    o1 69 (.bin .eql (.t 68) (.c (.I 0)))]) (.keep [1, 2, 69]))
  (.seq (.cond (.t 69)
  (.seq (.ops [o1 6 (.mv (.c (.I (-1))))])
  (.ret))
  (.skip)) (.keep [1, 2])))
  (.seq (.seq (.ops [o1 70 (.mv (.t 1)),
    o1 71 (.mv (.t 2)),
    o1 72 (.bin .quo (.t 70) (.t 71)),
    o1 73 (.call f_iWrap [(.t 72)]),
    o1 6 (.mv (.t 73))]) (.keep [6]))
  (.ret)))
  (.skip)) (.keep [1, 2])))) (.keep [1, 2])))) (.keep [1, 2])))) (.keep [1, 2])))) (.keep [1, 2])))) (.keep [1, 2])))) (.keep [1, 2])))) (.keep [1, 2])))) (.keep [1, 2])))) (.keep [1, 2])))) (.keep [1, 2])))) (.keep [1, 2])))
  (.seq (.seq (.seq (.ops [o1 74 (.mv (.t 2)),
    o1 75 (.bin .eql (.t 74) (.c (.I 0)))]) (.keep [1, 2, 75]))
  (.seq (.cond (.t 75)
  (.seq (.seq (.ops [o1 76 (.mv (.t 1)),
    o1 6 (.mv (.t 76))]) (.keep [6]))
  (.ret))
  (.skip)) (.keep [1, 2])))
  (.seq (.seq (.ops [o1 77 (.mv (.t 1)),
    o1 78 (.mv (.t 2)),
    o1 79 (.bin .rem (.t 77) (.t 78)),
    o1 6 (.mv (.t 79))]) (.keep [6]))
  (.ret)))), [.t 6]⟩

/- loop.example/cothreads/laws.szExpr -/
def c_wszExpr : AFn := ⟨2, .seq (.seq (.ops [o1 2 (.box (.t 0)),
    o1 4 (.mv (.c (.I 0)))]) (.keep [1, 2]))
  (.seq (.seq (.ops [o1 5 (.fldA 2 (.t 2)),
    o1 6 (.load (.t 5)),
    o1 7 (.mv (.t 1)),
    o1 8 (.call f_wszExprS [(.t 6), (.t 7)]),
    o1 1 (.mv (.t 8))]) (.keep [1]))
  (.seq (.seq (.seq (.ops [o1 9 (.mv (.t 1)),
    o1 10 (.bin .lss (.t 9) (.c (.I 0)))]) (.keep [1, 10]))
  (.seq (.cond (.t 10)
  (.seq (.ops [o1 4 (.mv (.c (.I (-1))))])
  (.ret))
  (.skip)) (.keep [1])))
  (.seq (.seq (.ops [o1 11 (.mv (.t 1)),
    o1 4 (.mv (.t 11))]) (.keep [4]))
  (.ret)))), [.t 4]⟩

/- loop.example/cothreads/spec.l11Blocks -/
def c_sl11Blocks_l0 : AC := .seq (.seq (.seq (.seq (.ops [o1 6 (.mv (.t 5)),
    o1 7 (.mv (.t 0)),
    o1 8 (.len (.t 7)),
    o1 9 (.bin .lss (.t 6) (.t 8))]) (.keep [0, 1, 5, 9]))
  (.seq (.cond (.t 9)
  (.skip)
  (.exit 0)) (.keep [0, 1, 5])))
  (.seq (.seq (.block 1 (.seq (.seq (.ops [o1 12 (.mv (.t 0)),
    o1 13 (.mv (.t 5)),
    o1 14 (.idxA 8 (.t 12) (.t 13)),
    o1 15 (.loadN 8 (.t 14)),
    o1 16 (.mv (.t 1)),
    o1 17 (.call f_sl11Ok [(.t 15), (.t 16)]),
    o1 18 (.un .not (.t 17))]) (.keep [0, 1, 5, 18]))
  (.seq (.cond (.t 18)
  (.seq (.ops [o1 4 (.mv (.c (.b false)))])
  (.ret))
  (.skip)) (.keep [0, 1, 5])))) (.keep [0, 1, 5]))
  (.seq (.ops [o1 10 (.mv (.t 5)),
    o1 11 (.bin .add (.t 10) (.c (.I 1))),
    o1 5 (.mv (.t 11))]) (.keep [0, 1, 5])))) (.keep [0, 1, 5])
def c_sl11Blocks : AFn := ⟨2, .seq (.seq (.ops [o1 4 (.mv (.c (.b false)))]) (.keep [0, 1]))
  (.seq (.seq (.ops [o1 5 (.mv (.c (.I 0)))])
  (.seq (.block 0 (.seq (.keep [0, 1, 5]) (.loop c_sl11Blocks_l0))) (.keep [])))
  (.seq (.ops [o1 4 (.mv (.c (.b true)))])
  (.ret))), [.t 4]⟩

/- loop.example/cothreads/spec.l11Count -/
def c_sl11Count_l0 : AC := .seq (.seq (.seq (.seq (.ops [o1 5 (.mv (.t 4)),
    o1 6 (.mv (.t 0)),
    o1 7 (.len (.t 6)),
    o1 8 (.bin .lss (.t 5) (.t 7))]) (.keep [0, 3, 4, 8]))
  (.seq (.cond (.t 8)
  (.skip)
  (.exit 0)) (.keep [0, 3, 4])))
  (.seq (.seq (.block 1 (.seq (.ops [o1 11 (.mv (.t 3)),
    o1 12 (.bin .add (.t 11) (.c (.I 1))),
    o1 13 (.mv (.t 0)),
    o1 14 (.mv (.t 4)),
    o1 15 (.idxA 8 (.t 13) (.t 14)),
    o1 16 (.fldA 6 (.t 15)),
    o1 17 (.load (.t 16)),
    ⟨some 18, none, [], true, .call f_sl11Count [(.t 17)]⟩,
    o1 19 (.bin .add (.t 12) (.t 18)),
    o1 20 (.mv (.t 0)),
    o1 21 (.mv (.t 4)),
    o1 22 (.idxA 8 (.t 20) (.t 21)),
    o1 23 (.fldA 7 (.t 22)),
    o1 24 (.load (.t 23)),
    ⟨some 25, none, [], true, .call f_sl11Count [(.t 24)]⟩,
    o1 26 (.bin .add (.t 19) (.t 25)),
    o1 3 (.mv (.t 26))]) (.keep [0, 3, 4]))) (.keep [0, 3, 4]))
  (.seq (.ops [o1 9 (.mv (.t 4)),
    o1 10 (.bin .add (.t 9) (.c (.I 1))),
    o1 4 (.mv (.t 10))]) (.keep [0, 3, 4])))) (.keep [0, 3, 4])
def c_sl11Count : AFn := ⟨1, .seq (.seq (.ops [o1 2 (.mv (.c (.I 0)))]) (.keep [0]))
  (.seq (.ops [o1 3 (.mv (.c (.I 0)))])
  (.seq (.seq (.ops [o1 4 (.mv (.c (.I 0)))])
  (.seq (.block 0 (.seq (.keep [0, 3, 4]) (.loop c_sl11Count_l0))) (.keep [3])))
  (.seq (.seq (.ops [o1 27 (.mv (.t 3)),
    o1 2 (.mv (.t 27))]) (.keep [2]))
  (.ret)))), [.t 2]⟩

/- loop.example/cothreads/spec.WordValid -/
def c_sWordValid : AFn := ⟨1, .seq (.seq (.ops [o1 2 (.mv (.c (.b false)))]) (.keep [0]))
  (.seq (.seq (.ops [o1 3 (.mv (.t 0)),
    o1 4 (.call f_sl6In [(.t 3), (.c (.I (-2147483648))), (.c (.I 2147483647))]),
    o1 2 (.mv (.t 4))]) (.keep [2]))
  (.ret)), [.t 2]⟩

/- loop.example/cothreads/spec.OpValid -/
def c_sOpValid : AFn := ⟨1, .seq (.seq (.ops [o1 2 (.mv (.c (.b false)))]) (.keep [0]))
  (.seq (.seq (.ops [o1 3 (.mv (.t 0)),
    o1 4 (.call f_sl6In [(.t 3), (.c (.I 1)), (.c (.I 12))]),
    o1 2 (.mv (.t 4))]) (.keep [2]))
  (.ret)), [.t 2]⟩

/- loop.example/cothreads/spec.l2Flag -/
def c_sl2Flag : AFn := ⟨1, .seq (.seq (.ops [o1 2 (.mv (.c (.I 0)))]) (.keep [0]))
  (.seq (.seq (.ops [o1 3 (.mv (.t 0))])
  (.seq (.cond (.t 3)
  (.seq (.ops [o1 2 (.mv (.c (.I 1)))])
  (.ret))
  (.skip)) (.keep [])))
  (.seq (.ops [o1 2 (.mv (.c (.I 0)))])
  (.ret))), [.t 2]⟩

/- loop.example/cothreads/spec.l2Shift -/
def c_sl2Shift : AFn := ⟨3, .seq (.seq (.ops [o1 6 (.mv (.c (.I 0)))]) (.keep [0, 1, 2]))
  (.seq (.seq (.ops [o1 7 (.mv (.t 2))])
  (.seq (.cond (.t 7)
  (.seq (.seq (.ops [o1 8 (.mv (.t 0)),
    o1 9 (.mv (.t 1)),
    o1 10 (.bin .and (.t 9) (.c (.I 31))),
    o1 11 (.bin .shr (.t 8) (.t 10)),
    o1 6 (.mv (.t 11))]) (.keep [6]))
  (.ret))
  (.skip)) (.keep [0, 1])))
  (.seq (.seq (.ops [o1 12 (.mv (.t 0)),
    o1 13 (.mv (.t 1)),
    o1 14 (.bin .and (.t 13) (.c (.I 31))),
    o1 15 (.bin .shl (.t 12) (.t 14)),
    o1 16 (.call f_sWrap [(.t 15)]),
    o1 6 (.mv (.t 16))]) (.keep [6]))
  (.ret))), [.t 6]⟩

/- loop.example/cothreads/spec.Wrap -/
def c_sWrap : AFn := ⟨1, .seq (.seq (.ops [o1 2 (.mv (.c (.I 0)))]) (.keep [0]))
  (.seq (.seq (.ops [o1 4 (.mv (.t 0)),
    o1 5 (.bin .rem (.t 4) (.c (.I 4294967296))),
    o1 3 (.mv (.t 5))]) (.keep [3]))
  (.seq (.seq (.seq (.ops [o1 6 (.mv (.t 3)),
    o1 7 (.bin .gtr (.t 6) (.c (.I 2147483647)))]) (.keep [3, 7]))
  (.seq (.cond (.t 7)
  (.seq (.seq (.ops [o1 8 (.mv (.t 3)),
    o1 9 (.bin .sub (.t 8) (.c (.I 4294967296))),
    o1 2 (.mv (.t 9))]) (.keep [2]))
  (.ret))
  (.skip)) (.keep [3])))
  (.seq (.seq (.seq (.ops [o1 10 (.mv (.t 3)),
    o1 11 (.bin .lss (.t 10) (.c (.I (-2147483648))))]) (.keep [3, 11]))
  (.seq (.cond (.t 11)
  (.seq (.seq (.ops [o1 12 (.mv (.t 3)),
    o1 13 (.bin .add (.t 12) (.c (.I 4294967296))),
    o1 2 (.mv (.t 13))]) (.keep [2]))
  (.ret))
  (.skip)) (.keep [3])))
  (.seq (.seq (.ops [o1 14 (.mv (.t 3)),
    o1 2 (.mv (.t 14))]) (.keep [2]))
  (.ret))))), [.t 2]⟩

/- loop.example/cothreads/spec.l2Divide -/
def c_sl2Divide : AFn := ⟨2, .seq (.seq (.ops [o1 4 (.mv (.c (.I 0)))]) (.keep [0, 1]))
  (.seq (.seq (.seq (.ops [o1 5 (.mv (.t 1)),
    o1 6 (.bin .eql (.t 5) (.c (.I 0)))]) (.keep [0, 1, 6]))
  (.seq (.cond (.t 6)
  (.seq (.ops [o1 4 (.mv (.c (.I (-1))))])
  (.ret))
  (.skip)) (.keep [0, 1])))
  (.seq (.seq (.ops [o1 7 (.mv (.t 0)),
    o1 8 (.mv (.t 1)),
    o1 9 (.bin .quo (.t 7) (.t 8)),
    o1 10 (.call f_sWrap [(.t 9)]),
    o1 4 (.mv (.t 10))]) (.keep [4]))
  (.ret))), [.t 4]⟩

/- loop.example/cothreads/spec.l2Remain -/
def c_sl2Remain : AFn := ⟨2, .seq (.seq (.ops [o1 4 (.mv (.c (.I 0)))]) (.keep [0, 1]))
  (.seq (.seq (.seq (.ops [o1 5 (.mv (.t 1)),
    o1 6 (.bin .eql (.t 5) (.c (.I 0)))]) (.keep [0, 1, 6]))
  (.seq (.cond (.t 6)
  (.seq (.seq (.ops [o1 7 (.mv (.t 0)),
    o1 4 (.mv (.t 7))]) (.keep [4]))
  (.ret))
  (.skip)) (.keep [0, 1])))
  (.seq (.seq (.ops [o1 8 (.mv (.t 0)),
    o1 9 (.mv (.t 1)),
    o1 10 (.bin .rem (.t 8) (.t 9)),
    o1 4 (.mv (.t 10))]) (.keep [4]))
  (.ret))), [.t 4]⟩

/- loop.example/cothreads/spec.l4Leaf -/
def c_sl4Leaf : AFn := ⟨2, .seq (.ops [o1 4 (.alloc [(.I 0), (.I 0), .nils])])
  (.seq (.seq (.ops [o1 5 (.mv (.t 0)),
    o1 6 (.mv (.t 1)),
    o1 7 (.bsl [] 0 []),
    o1 8 (.build [(.I 0), (.I 0), .nils] [(0, 1, (.t 5)), (1, 1, (.t 6)), (2, 1, (.t 7))]),
    o0 (.store 3 (.t 4) (.t 8))]) (.keep [4]))
  (.ret)), [.c 4 3]⟩

/- loop.example/cothreads/spec.l4Both -/
def c_sl4Both : AFn := ⟨3, .seq (.ops [o1 4 (.box (.t 1)),
    o1 5 (.box (.t 2)),
    o1 6 (.alloc [(.I 0), (.I 0), .nils])])
  (.seq (.seq (.ops [o1 7 (.mv (.t 0)),
    o1 8 (.loadN 3 (.t 4)),
    o1 9 (.loadN 3 (.t 5)),
    o1 10 (.bsl [(.I 0), (.I 0), .nils, (.I 0), (.I 0), .nils] 2 [(0, 3, (.t 8)), (3, 3, (.t 9))]),
    o1 11 (.build [(.I 0), (.I 0), .nils] [(0, 1, (.t 7)), (2, 1, (.t 10))]),
    o0 (.store 3 (.t 6) (.t 11))]) (.keep [6]))
  (.ret)), [.c 6 3]⟩

/- loop.example/cothreads/laws.toExpr -/
def c_wtoExpr : AFn := ⟨1, .seq (.ops [o1 1 (.box (.t 0)),
    o1 2 (.alloc [(.I 0), (.I 0), .nils])])
  (.seq (.ops [o1 3 (.alloc [(.I 0), (.I 0), .nils])])
  (.seq (.seq (.ops [o1 4 (.fldA 0 (.t 1)),
    o1 5 (.load (.t 4)),
    o1 6 (.fldA 0 (.t 3)),
    o0 (.store 1 (.t 6) (.t 5))]) (.keep [1, 2, 3]))
  (.seq (.seq (.ops [o1 7 (.fldA 1 (.t 1)),
    o1 8 (.load (.t 7)),
    o1 9 (.fldA 1 (.t 3)),
    o0 (.store 1 (.t 9) (.t 8))]) (.keep [1, 2, 3]))
  (.seq (.seq (.ops [o1 10 (.fldA 2 (.t 1)),
    o1 11 (.load (.t 10)),
    o1 12 (.call f_wtoExprS [(.t 11)]),
    o1 13 (.fldA 2 (.t 3)),
    o0 (.store 1 (.t 13) (.t 12))]) (.keep [2, 3]))
  (.seq (.seq (.ops [o1 14 (.loadN 3 (.t 3)),
    o0 (.store 3 (.t 2) (.t 14))]) (.keep [2]))
  (.ret)))))), [.c 2 3]⟩

/- loop.example/cothreads/impl.areWords -/
def c_iareWords_l0 : AC := .seq (.seq (.ops [o1 8 (.bin .lss (.t 7) (.t 6))])
  (.seq (.seq (.cond (.t 8)
  (.skip)
  (.exit 0)) (.keep [5, 6, 7]))
  (.seq (.seq (.block 1 (.seq (.seq (.ops [o1 9 (.idxA 1 (.t 5) (.t 7)),
    o1 10 (.load (.t 9)),
    o1 4 (.mv (.t 10))]) (.keep [4, 5, 6, 7]))
  (.seq (.seq (.ops [o1 11 (.mv (.t 4)),
    o1 12 (.call f_iWordValid [(.t 11)]),
    o1 13 (.un .not (.t 12))]) (.keep [5, 6, 7, 13]))
  (.seq (.cond (.t 13)
  (.seq (.ops [o1 2 (.mv (.c (.b false)))])
  (.ret))
  (.skip)) (.keep [5, 6, 7]))))) (.keep [5, 6, 7]))
  (.seq (.ops [o1 14 (.bin .add (.t 7) (.c (.I 1))),
    o1 7 (.mv (.t 14))]) (.keep [5, 6, 7]))))) (.keep [5, 6, 7])
def c_iareWords : AFn := ⟨1, .seq (.seq (.ops [o1 2 (.mv (.c (.b false)))]) (.keep [0]))
  (.seq (.seq (.ops [o1 5 (.mv (.t 0)),
    o1 6 (.len (.t 5)),
    o1 7 (.mv (.c (.I 0)))])
  (.seq (.block 0 (.seq (.keep [5, 6, 7]) (.loop c_iareWords_l0))) (.keep [])))
  (.seq (.ops [o1 2 (.mv (.c (.b true)))])
  (.ret))), [.t 2]⟩

/- loop.example/cothreads/impl.stmtsValid -/
def c_istmtsValid : AFn := ⟨2, .seq (.seq (.ops [o1 4 (.mv (.c (.b false)))]) (.keep [0, 1]))
  (.seq (.ops [o1 5 (.alloc [(.I 0)]),
    o0 (.store 1 (.t 5) (.c (.I 0)))])
  (.seq (.seq (.ops [o1 6 (.mv (.t 0)),
    o1 7 (.mv (.t 1)),
    o1 8 (.call f_iblockValid [(.t 6), (.t 7), (.c (.I 0)), (.t 5)]),
    o1 4 (.mv (.t 8))]) (.keep [4]))
  (.ret))), [.t 4]⟩

/- loop.example/cothreads/impl.exprCopy -/
def c_iexprCopy_l0 : AC := .seq (.seq (.ops [o1 15 (.bin .lss (.t 14) (.t 13))])
  (.seq (.seq (.cond (.t 15)
  (.skip)
  (.exit 0)) (.keep [2, 3, 12, 13, 14]))
  (.seq (.seq (.block 1 (.seq (.seq (.ops [o1 16 (.idxA 3 (.t 12) (.t 14)),
    o1 17 (.loadN 3 (.t 16)),
    o1 5 (.alloc [(.I 0), (.I 0), .nils]),
    o0 (.store 3 (.t 5) (.t 17))]) (.keep [2, 3, 5, 12, 13, 14]))
  (.seq (.ops [o1 18 (.fldA 2 (.t 3)),
    o1 19 (.load (.t 18)),
    o1 20 (.loadN 3 (.t 5)),
    ⟨some 21, none, [], true, .call f_iexprCopy [(.t 20)]⟩,
    o1 22 (.bsl [(.I 0), (.I 0), .nils] 1 [(0, 3, (.t 21))]),
    o1 23 (.app 3 (.t 19) (.t 22)),
    o1 24 (.fldA 2 (.t 3)),
    o0 (.store 1 (.t 24) (.t 23))]) (.keep [2, 3, 12, 13, 14])))) (.keep [2, 3, 12, 13, 14]))
  (.seq (.ops [o1 25 (.bin .add (.t 14) (.c (.I 1))),
    o1 14 (.mv (.t 25))]) (.keep [2, 3, 12, 13, 14]))))) (.keep [2, 3, 12, 13, 14])
def c_iexprCopy : AFn := ⟨1, .seq (.ops [o1 1 (.box (.t 0)),
    o1 2 (.alloc [(.I 0), (.I 0), .nils])])
  (.seq (.seq (.ops [o1 6 (.fldA 0 (.t 1)),
    o1 7 (.load (.t 6)),
    o1 8 (.fldA 1 (.t 1)),
    o1 9 (.load (.t 8)),
    o1 10 (.build [(.I 0), (.I 0), .nils] [(0, 1, (.t 7)), (1, 1, (.t 9))]),
    o1 3 (.alloc [(.I 0), (.I 0), .nils]),
    o0 (.store 3 (.t 3) (.t 10))]) (.keep [1, 2, 3]))
  (.seq (.seq (.seq (.ops [o1 11 (.fldA 2 (.t 1)),
    o1 12 (.load (.t 11)),
    o1 13 (.len (.t 12)),
    o1 14 (.mv (.c (.I 0)))]) (.keep [2, 3, 12, 13, 14]))
  (.seq (.block 0 (.seq (.keep [2, 3, 12, 13, 14]) (.loop c_iexprCopy_l0))) (.keep [2, 3])))
  (.seq (.seq (.ops [o1 26 (.loadN 3 (.t 3)),
    o0 (.store 3 (.t 2) (.t 26))]) (.keep [2]))
  (.ret)))), [.c 2 3]⟩

/- loop.example/cothreads/laws.eqExpr -/
def c_weqExpr : AFn := ⟨2, .seq (.seq (.ops [o1 2 (.box (.t 0)),
    o1 3 (.box (.t 1)),
    o1 4 (.mv (.c (.b false)))]) (.keep [2, 3]))
  (.seq (.seq (.seq (.ops [o1 5 (.fldA 0 (.t 2)),
    o1 6 (.load (.t 5)),
    o1 7 (.fldA 0 (.t 3)),
    o1 8 (.load (.t 7)),
    o1 9 (.bin .neq (.t 6) (.t 8))]) (.keep [2, 3, 9]))
  (.seq (.cond (.t 9)
  (.seq (.ops [o1 4 (.mv (.c (.b false)))])
  (.ret))
  (.skip)) (.keep [2, 3])))
  (.seq (.seq (.seq (.ops [o1 10 (.fldA 1 (.t 2)),
    o1 11 (.load (.t 10)),
    o1 12 (.fldA 1 (.t 3)),
    o1 13 (.load (.t 12)),
    o1 14 (.bin .neq (.t 11) (.t 13))]) (.keep [2, 3, 14]))
  (.seq (.cond (.t 14)
  (.seq (.ops [o1 4 (.mv (.c (.b false)))])
  (.ret))
  (.skip)) (.keep [2, 3])))
  (.seq (.seq (.seq (.ops [o1 15 (.fldA 2 (.t 2)),
    o1 16 (.load (.t 15)),
    o1 17 (.fldA 2 (.t 3)),
    o1 18 (.load (.t 17)),
    o1 19 (.call f_weqExprS [(.t 16), (.t 18)]),
    o1 20 (.un .not (.t 19))]) (.keep [20]))
  (.seq (.cond (.t 20)
  (.seq (.ops [o1 4 (.mv (.c (.b false)))])
  (.ret))
  (.skip)) (.keep [])))
  (.seq (.ops [o1 4 (.mv (.c (.b true)))])
  (.ret))))), [.t 4]⟩

/- loop.example/cothreads/impl.truth -/
def c_itruth : AFn := ⟨1, .seq (.seq (.ops [o1 2 (.mv (.c (.I 0)))]) (.keep [0]))
  (.seq (.seq (.ops [o1 3 (.mv (.t 0))])
  (.seq (.cond (.t 3)
  (.seq (.ops [o1 2 (.mv (.c (.I 1)))])
  (.ret))
  (.skip)) (.keep [])))
  (.seq (.ops [o1 2 (.mv (.c (.I 0)))])
  (.ret))), [.t 2]⟩

/- loop.example/cothreads/impl.Wrap -/
def c_iWrap : AFn := ⟨1, .seq (.seq (.ops [o1 2 (.mv (.c (.I 0)))]) (.keep [0]))
  (.seq (.seq (.ops [o1 3 (.mv (.t 0)),
    o1 4 (.conv .i32 (.t 3)),
    o1 5 (.conv .i64 (.t 4)),
    o1 2 (.mv (.t 5))]) (.keep [2]))
  (.ret)), [.t 2]⟩

/- loop.example/cothreads/laws.szExprS -/
def c_wszExprS_l0 : AC := .seq (.seq (.seq (.seq (.ops [o1 12 (.mv (.t 5)),
    o1 13 (.mv (.t 0)),
    o1 14 (.len (.t 13)),
    o1 15 (.bin .lss (.t 12) (.t 14))]) (.keep [0, 1, 5, 15]))
  (.seq (.cond (.t 15)
  (.skip)
  (.exit 0)) (.keep [0, 1, 5])))
  (.seq (.seq (.block 1 (.seq (.seq (.ops [o1 18 (.mv (.t 0)),
    o1 19 (.mv (.t 5)),
    o1 20 (.idxA 3 (.t 18) (.t 19)),
    o1 21 (.loadN 3 (.t 20)),
    o1 22 (.mv (.t 1)),
    o1 23 (.call f_wszExpr [(.t 21), (.t 22)]),
    o1 1 (.mv (.t 23))]) (.keep [0, 1, 5]))
  (.seq (.seq (.ops [o1 24 (.mv (.t 1)),
    o1 25 (.bin .lss (.t 24) (.c (.I 0)))]) (.keep [0, 1, 5, 25]))
  (.seq (.cond (.t 25)
  (.seq (.ops [o1 4 (.mv (.c (.I (-1))))])
  (.ret))
  (.skip)) (.keep [0, 1, 5]))))) (.keep [0, 1, 5]))
  (.seq (.ops [o1 16 (.mv (.t 5)),
    o1 17 (.bin .add (.t 16) (.c (.I 1))),
    o1 5 (.mv (.t 17))]) (.keep [0, 1, 5])))) (.keep [0, 1, 5])
def c_wszExprS : AFn := ⟨2, .seq (.seq (.ops [o1 4 (.mv (.c (.I 0)))]) (.keep [0, 1]))
  (.seq (.seq (.ops [o1 6 (.mv (.t 1)),
    o1 7 (.mv (.t 0)),
    o1 8 (.len (.t 7)),
    o1 9 (.bin .sub (.t 6) (.t 8)),
    o1 1 (.mv (.t 9))]) (.keep [0, 1]))
  (.seq (.seq (.seq (.ops [o1 10 (.mv (.t 1)),
    o1 11 (.bin .lss (.t 10) (.c (.I 0)))]) (.keep [0, 1, 11]))
  (.seq (.cond (.t 11)
  (.seq (.ops [o1 4 (.mv (.c (.I (-1))))])
  (.ret))
  (.skip)) (.keep [0, 1])))
  (.seq (.seq (.ops [o1 5 (.mv (.c (.I 0)))])
  (.seq (.block 0 (.seq (.keep [0, 1, 5]) (.loop c_wszExprS_l0))) (.keep [1])))
  (.seq (.seq (.ops [o1 26 (.mv (.t 1)),
    o1 4 (.mv (.t 26))]) (.keep [4]))
  (.ret))))), [.t 4]⟩

/- loop.example/cothreads/spec.l11Ok -/
def c_sl11Ok : AFn := ⟨2, .seq (.seq (.ops [o1 2 (.box (.t 0)),
    o1 4 (.mv (.c (.b false)))]) (.keep [1, 2]))
  (.seq (.seq (.seq (.ops [o1 5 (.fldA 0 (.t 2)),
    o1 6 (.load (.t 5)),
    o1 7 (.bin .neq (.t 6) (.c (.I 2))),
    o1 8 (.mv (.t 7)),
    ⟨some 9, (some (8, true)), [], false, .fldA 0 (.t 2)⟩,
    ⟨some 10, (some (8, true)), [], false, .load (.t 9)⟩,
    ⟨some 11, (some (8, true)), [], false, .bin .neq (.t 10) (.c (.I 3))⟩,
    o1 12 (.pick (.t 8) (.t 11) (.c (.b false)))]) (.keep [1, 2, 12]))
  (.seq (.cond (.t 12)
  (.seq (.seq (.ops [o1 13 (.loadN 8 (.t 2)),
    o1 14 (.call f_sl11Simple [(.t 13)]),
    o1 4 (.mv (.t 14))]) (.keep [4]))
  (.ret))
  (.skip)) (.keep [1, 2])))
  (.seq (.seq (.seq (.ops [o1 15 (.mv (.t 1)),
    o1 16 (.bin .lss (.t 15) (.c (.I 1))),
    o1 17 (.mv (.t 16)),
    ⟨some 18, (some (17, false)), [], false, .fldA 0 (.t 2)⟩,
    ⟨some 19, (some (17, false)), [], false, .load (.t 18)⟩,
    ⟨some 20, (some (17, false)), [], false, .bin .eql (.t 19) (.c (.I 3))⟩,
    ⟨some 21, (some (17, false)), [], false, .mv (.t 20)⟩,
    ⟨some 22, (some (21, true)), [], false, .fldA 7 (.t 2)⟩,
    ⟨some 23, (some (21, true)), [], false, .load (.t 22)⟩,
    ⟨some 24, (some (21, true)), [], false, .len (.t 23)⟩,
    ⟨some 25, (some (21, true)), [], false, .bin .gtr (.t 24) (.c (.I 0))⟩,
    ⟨some 26, (some (17, false)), [], false, .pick (.t 21) (.t 25) (.c (.b false))⟩,
    o1 27 (.pick (.t 17) (.c (.b true)) (.t 26))]) (.keep [1, 2, 27]))
  (.seq (.cond (.t 27)
  (.seq (.ops [o1 4 (.mv (.c (.b false)))])
  (.ret))
  (.skip)) (.keep [1, 2])))
  (.seq (.seq (.ops [o1 28 (.loadN 8 (.t 2)),
    o1 29 (.call f_sl11Var [(.t 28), (.c (.b false))]),
    o1 30 (.mv (.t 29)),
    ⟨some 31, (some (30, true)), [], false, .loadN 8 (.t 2)⟩,
    ⟨some 32, (some (30, true)), [], false, .call f_sl11Box [(.t 31), (.c (.b false))]⟩,
    o1 33 (.pick (.t 30) (.t 32) (.c (.b false))),
    o1 34 (.mv (.t 33)),
    ⟨some 35, (some (34, true)), [], false, .fldA 3 (.t 2)⟩,
    ⟨some 36, (some (34, true)), [], false, .loadN 3 (.t 35)⟩,
    ⟨some 37, (some (34, true)), [], false, .call f_sExprValid [(.t 36)]⟩,
    o1 38 (.pick (.t 34) (.t 37) (.c (.b false))),
    o1 39 (.mv (.t 38)),
    ⟨some 40, (some (39, true)), [], false, .fldA 6 (.t 2)⟩,
    ⟨some 41, (some (39, true)), [], false, .load (.t 40)⟩,
    ⟨some 42, (some (39, true)), [], false, .mv (.t 1)⟩,
    ⟨some 43, (some (39, true)), [], false, .bin .sub (.t 42) (.c (.I 1))⟩,
    ⟨some 44, (some (39, true)), [], false, .call f_sl11Blocks [(.t 41), (.t 43)]⟩,
    o1 45 (.pick (.t 39) (.t 44) (.c (.b false))),
    o1 46 (.mv (.t 45)),
    ⟨some 47, (some (46, true)), [], false, .fldA 7 (.t 2)⟩,
    ⟨some 48, (some (46, true)), [], false, .load (.t 47)⟩,
    ⟨some 49, (some (46, true)), [], false, .mv (.t 1)⟩,
    ⟨some 50, (some (46, true)), [], false, .bin .sub (.t 49) (.c (.I 1))⟩,
    ⟨some 51, (some (46, true)), [], false, .call f_sl11Blocks [(.t 48), (.t 50)]⟩,
    o1 52 (.pick (.t 46) (.t 51) (.c (.b false))),
    o1 4 (.mv (.t 52))]) (.keep [4]))
  (.ret)))), [.t 4]⟩

/- loop.example/cothreads/laws.toExprS -/
def c_wtoExprS_l0 : AC := .seq (.seq (.seq (.seq (.ops [o1 8 (.mv (.t 4)),
    o1 9 (.mv (.t 0)),
    o1 10 (.len (.t 9)),
    o1 11 (.bin .lss (.t 8) (.t 10))]) (.keep [0, 3, 4, 11]))
  (.seq (.cond (.t 11)
  (.skip)
  (.exit 0)) (.keep [0, 3, 4])))
  (.seq (.seq (.block 1 (.seq (.ops [o1 14 (.mv (.t 3)),
    o1 15 (.mv (.t 4)),
    o1 16 (.mv (.t 0)),
    o1 17 (.mv (.t 4)),
    o1 18 (.idxA 3 (.t 16) (.t 17)),
    o1 19 (.loadN 3 (.t 18)),
    o1 20 (.call f_wtoExpr [(.t 19)]),
    o1 21 (.idxA 3 (.t 14) (.t 15)),
    o0 (.store 3 (.t 21) (.t 20))]) (.keep [0, 3, 4]))) (.keep [0, 3, 4]))
  (.seq (.ops [o1 12 (.mv (.t 4)),
    o1 13 (.bin .add (.t 12) (.c (.I 1))),
    o1 4 (.mv (.t 13))]) (.keep [0, 3, 4])))) (.keep [0, 3, 4])
def c_wtoExprS : AFn := ⟨1, .seq (.seq (.ops [o1 2 (.mv (.c .nils))]) (.keep [0]))
  (.seq (.seq (.ops [o1 5 (.mv (.t 0)),
    o1 6 (.len (.t 5)),
    o1 7 (.mksl [(.I 0), (.I 0), .nils] (.t 6) (.t 6)),
    o1 3 (.mv (.t 7))]) (.keep [0, 3]))
  (.seq (.seq (.ops [o1 4 (.mv (.c (.I 0)))])
  (.seq (.block 0 (.seq (.keep [0, 3, 4]) (.loop c_wtoExprS_l0))) (.keep [3])))
  (.seq (.seq (.ops [o1 22 (.mv (.t 3)),
    o1 2 (.mv (.t 22))]) (.keep [2]))
  (.ret)))), [.t 2]⟩

/- loop.example/cothreads/impl.WordValid -/
def c_iWordValid : AFn := ⟨1, .seq (.seq (.ops [o1 2 (.mv (.c (.b false)))]) (.keep [0]))
  (.seq (.seq (.ops [o1 3 (.mv (.t 0)),
    o1 4 (.bin .geq (.t 3) (.c (.I (-2147483648)))),
    o1 5 (.mv (.t 4)),
    ⟨some 6, (some (5, true)), [], false, .mv (.t 0)⟩,
    ⟨some 7, (some (5, true)), [], false, .bin .leq (.t 6) (.c (.I 2147483647))⟩,
    o1 8 (.pick (.t 5) (.t 7) (.c (.b false))),
    o1 2 (.mv (.t 8))]) (.keep [2]))
  (.ret)), [.t 2]⟩

/- loop.example/cothreads/impl.blockValid -/
def c_iblockValid_l0 : AC := .seq (.seq (.ops [o1 25 (.bin .lss (.t 24) (.t 23))])
  (.seq (.seq (.cond (.t 25)
  (.skip)
  (.exit 0)) (.keep [0, 1, 2, 3, 23, 24]))
  (.seq (.seq (.block 1 (.seq (.seq (.ops [o1 26 (.mv (.t 24)),
    o1 9 (.mv (.t 26))]) (.keep [0, 1, 2, 3, 9, 23, 24]))
  (.seq (.seq (.ops [o1 27 (.mv (.t 0)),
    o1 28 (.mv (.t 9)),
    o1 29 (.idxA 8 (.t 27) (.t 28)),
    o1 10 (.mv (.t 29))]) (.keep [0, 1, 2, 3, 10, 23, 24]))
  (.seq (.seq (.seq (.ops [o1 30 (.mv (.t 10)),
    o1 31 (.mv (.t 1)),
    o1 32 (.call f_istmtValid [(.t 30), (.t 31)]),
    o1 33 (.un .not (.t 32)),
    o1 34 (.mv (.t 33)),
    ⟨some 35, (some (34, false)), [], false, .mv (.t 2)⟩,
    ⟨some 36, (some (34, false)), [], false, .bin .gtr (.t 35) (.c (.I 3))⟩,
    o1 37 (.pick (.t 34) (.c (.b true)) (.t 36))]) (.keep [0, 1, 2, 3, 10, 23, 24, 37]))
  (.seq (.cond (.t 37)
  (.seq (.ops [o1 8 (.mv (.c (.b false)))])
  (.ret))
  (.skip)) (.keep [0, 1, 2, 3, 10, 23, 24])))
  (.seq (.seq (.seq (.ops [o1 38 (.mv (.t 10)),
    o1 39 (.nilc (.t 38)),
    o1 40 (.fldA 0 (.t 39)),
    o1 41 (.load (.t 40)),
    o1 42 (.bin .neq (.t 41) (.c (.I 2))),
    o1 43 (.mv (.t 42)),
    ⟨some 44, (some (43, true)), [], false, .mv (.t 10)⟩,
    ⟨some 45, (some (43, true)), [], false, .nilc (.t 44)⟩,
    ⟨some 46, (some (43, true)), [], false, .fldA 0 (.t 45)⟩,
    ⟨some 47, (some (43, true)), [], false, .load (.t 46)⟩,
    ⟨some 48, (some (43, true)), [], false, .bin .neq (.t 47) (.c (.I 3))⟩,
    o1 49 (.pick (.t 43) (.t 48) (.c (.b false)))]) (.keep [0, 1, 2, 3, 10, 23, 24, 49]))
  (.seq (.cond (.t 49)
  (.exit 1)
  (.skip)) (.keep [0, 1, 2, 3, 10, 23, 24])))
  (.seq (.seq (.ops [o1 50 (.mv (.t 2)),
    o1 51 (.bin .geq (.t 50) (.c (.I 3))),
    o1 52 (.mv (.t 51)),
    ⟨some 53, (some (52, false)), [], false, .mv (.t 10)⟩,
    ⟨some 54, (some (52, false)), [], false, .nilc (.t 53)⟩,
    ⟨some 55, (some (52, false)), [], false, .fldA 6 (.t 54)⟩,
    ⟨some 56, (some (52, false)), [], false, .load (.t 55)⟩,
    ⟨some 57, (some (52, false)), [], false, .mv (.t 1)⟩,
    ⟨some 58, (some (52, false)), [], false, .mv (.t 2)⟩,
    ⟨some 59, (some (52, false)), [], false, .bin .add (.t 58) (.c (.I 1))⟩,
    ⟨some 60, (some (52, false)), [], false, .mv (.t 3)⟩,
    ⟨some 61, (some (52, false)), [], false, .call f_iblockValid [(.t 56), (.t 57), (.t 59), (.t 60)]⟩,
    ⟨some 62, (some (52, false)), [], false, .un .not (.t 61)⟩,
    o1 63 (.pick (.t 52) (.c (.b true)) (.t 62)),
    o1 64 (.mv (.t 63)),
    ⟨some 65, (some (64, false)), [], false, .mv (.t 10)⟩,
    ⟨some 66, (some (64, false)), [], false, .nilc (.t 65)⟩,
    ⟨some 67, (some (64, false)), [], false, .fldA 7 (.t 66)⟩,
    ⟨some 68, (some (64, false)), [], false, .load (.t 67)⟩,
    ⟨some 69, (some (64, false)), [], false, .mv (.t 1)⟩,
    ⟨some 70, (some (64, false)), [], false, .mv (.t 2)⟩,
    ⟨some 71, (some (64, false)), [], false, .bin .add (.t 70) (.c (.I 1))⟩,
    ⟨some 72, (some (64, false)), [], false, .mv (.t 3)⟩,
    ⟨some 73, (some (64, false)), [], false, .call f_iblockValid [(.t 68), (.t 69), (.t 71), (.t 72)]⟩,
    ⟨some 74, (some (64, false)), [], false, .un .not (.t 73)⟩,
    o1 75 (.pick (.t 64) (.c (.b true)) (.t 74))]) (.keep [0, 1, 2, 3, 23, 24, 75]))
  (.seq (.cond (.t 75)
  (.seq (.ops [o1 8 (.mv (.c (.b false)))])
  (.ret))
  (.skip)) (.keep [0, 1, 2, 3, 23, 24])))))))) (.keep [0, 1, 2, 3, 23, 24]))
  (.seq (.ops [o1 76 (.bin .add (.t 24) (.c (.I 1))),
    o1 24 (.mv (.t 76))]) (.keep [0, 1, 2, 3, 23, 24]))))) (.keep [0, 1, 2, 3, 23, 24])
def c_iblockValid : AFn := ⟨4, .seq (.seq (.ops [o1 8 (.mv (.c (.b false)))]) (.keep [0, 1, 2, 3]))
  (.seq (.seq (.ops [o1 11 (.mv (.t 3)),
    o1 12 (.nilc (.t 11)),
    o1 13 (.load (.t 12)),
    o1 14 (.mv (.t 0)),
    o1 15 (.len (.t 14)),
    o1 16 (.bin .add (.t 13) (.t 15)),
    o1 17 (.nilc (.t 11)),
    o0 (.store 1 (.t 17) (.t 16))]) (.keep [0, 1, 2, 3]))
  (.seq (.seq (.seq (.ops [o1 18 (.mv (.t 3)),
    o1 19 (.nilc (.t 18)),
    o1 20 (.load (.t 19)),
    o1 21 (.bin .gtr (.t 20) (.c (.I 16)))]) (.keep [0, 1, 2, 3, 21]))
  (.seq (.cond (.t 21)
  (.seq (.ops [o1 8 (.mv (.c (.b false)))])
  (.ret))
  (.skip)) (.keep [0, 1, 2, 3])))
  (.seq (.seq (.seq (.ops [o1 22 (.mv (.t 0)),
    o1 23 (.len (.t 22)),
    o1 24 (.mv (.c (.I 0)))]) (.keep [0, 1, 2, 3, 23, 24]))
  (.seq (.block 0 (.seq (.keep [0, 1, 2, 3, 23, 24]) (.loop c_iblockValid_l0))) (.keep [])))
  (.seq (.ops [o1 8 (.mv (.c (.b true)))])
  (.ret))))), [.t 8]⟩

/- loop.example/cothreads/laws.eqExprS -/
def c_weqExprS_l0 : AC := .seq (.seq (.seq (.seq (.ops [o1 11 (.mv (.t 5)),
    o1 12 (.mv (.t 0)),
    o1 13 (.len (.t 12)),
    o1 14 (.bin .lss (.t 11) (.t 13))]) (.keep [0, 1, 5, 14]))
  (.seq (.cond (.t 14)
  (.skip)
  (.exit 0)) (.keep [0, 1, 5])))
  (.seq (.seq (.block 1 (.seq (.seq (.ops [o1 17 (.mv (.t 0)),
    o1 18 (.mv (.t 5)),
    o1 19 (.idxA 3 (.t 17) (.t 18)),
    o1 20 (.loadN 3 (.t 19)),
    o1 21 (.mv (.t 1)),
    o1 22 (.mv (.t 5)),
    o1 23 (.idxA 3 (.t 21) (.t 22)),
    o1 24 (.loadN 3 (.t 23)),
    ⟨some 25, none, [], true, .call f_weqExpr [(.t 20), (.t 24)]⟩,
    o1 26 (.un .not (.t 25))]) (.keep [0, 1, 5, 26]))
  (.seq (.cond (.t 26)
  (.seq (.ops [o1 4 (.mv (.c (.b false)))])
  (.ret))
  (.skip)) (.keep [0, 1, 5])))) (.keep [0, 1, 5]))
  (.seq (.ops [o1 15 (.mv (.t 5)),
    o1 16 (.bin .add (.t 15) (.c (.I 1))),
    o1 5 (.mv (.t 16))]) (.keep [0, 1, 5])))) (.keep [0, 1, 5])
def c_weqExprS : AFn := ⟨2, .seq (.seq (.ops [o1 4 (.mv (.c (.b false)))]) (.keep [0, 1]))
  (.seq (.seq (.seq (.ops [o1 6 (.mv (.t 0)),
    o1 7 (.len (.t 6)),
    o1 8 (.mv (.t 1)),
    o1 9 (.len (.t 8)),
    o1 10 (.bin .neq (.t 7) (.t 9))]) (.keep [0, 1, 10]))
  (.seq (.cond (.t 10)
  (.seq (.ops [o1 4 (.mv (.c (.b false)))])
  (.ret))
  (.skip)) (.keep [0, 1])))
  (.seq (.seq (.ops [o1 5 (.mv (.c (.I 0)))])
  (.seq (.block 0 (.seq (.keep [0, 1, 5]) (.loop c_weqExprS_l0))) (.keep [])))
  (.seq (.ops [o1 4 (.mv (.c (.b true)))])
  (.ret)))), [.t 4]⟩

/- loop.example/cothreads/spec.l11Simple -/
def c_sl11Simple : AFn := ⟨1, .seq (.seq (.ops [o1 1 (.box (.t 0)),
    o1 2 (.mv (.c (.b false)))]) (.keep [1]))
  (.seq (.seq (.seq (.ops [o1 3 (.fldA 6 (.t 1)),
    o1 4 (.load (.t 3)),
    o1 5 (.len (.t 4)),
    o1 6 (.bin .gtr (.t 5) (.c (.I 0))),
    o1 7 (.mv (.t 6)),
    ⟨some 8, (some (7, false)), [], false, .fldA 7 (.t 1)⟩,
    ⟨some 9, (some (7, false)), [], false, .load (.t 8)⟩,
    ⟨some 10, (some (7, false)), [], false, .len (.t 9)⟩,
    ⟨some 11, (some (7, false)), [], false, .bin .gtr (.t 10) (.c (.I 0))⟩,
    o1 12 (.pick (.t 7) (.c (.b true)) (.t 11))]) (.keep [1, 12]))
  (.seq (.cond (.t 12)
  (.seq (.ops [o1 2 (.mv (.c (.b false)))])
  (.ret))
  (.skip)) (.keep [1])))
  (.seq (.seq (.seq (.ops [o1 13 (.fldA 0 (.t 1)),
    o1 14 (.load (.t 13))]) (.keep [1, 14]))
  (.seq (.block 0 (.seq (.seq (.ops [o1 16 (.bin .eql (.t 14) (.c (.I 1))),
    o1 15 (.mv (.t 16))]) (.keep [1, 14, 15]))
  (.seq (.cond (.t 15)
  (.seq (.seq (.ops [o1 17 (.loadN 8 (.t 1)),
    o1 18 (.call f_sl11Var [(.t 17), (.c (.b true))]),
    o1 19 (.mv (.t 18)),
    ⟨some 20, (some (19, true)), [], false, .loadN 8 (.t 1)⟩,
    ⟨some 21, (some (19, true)), [], false, .call f_sl11Box [(.t 20), (.c (.b false))]⟩,
    o1 22 (.pick (.t 19) (.t 21) (.c (.b false))),
    o1 23 (.mv (.t 22)),
    ⟨some 24, (some (23, true)), [], false, .fldA 3 (.t 1)⟩,
    ⟨some 25, (some (23, true)), [], false, .loadN 3 (.t 24)⟩,
    ⟨some 26, (some (23, true)), [], false, .call f_sExprValid [(.t 25)]⟩,
    o1 27 (.pick (.t 23) (.t 26) (.c (.b false))),
    o1 2 (.mv (.t 27))]) (.keep [2]))
  (.ret))
  (.seq (.seq (.ops [o1 29 (.bin .eql (.t 14) (.c (.I 4))),
    o1 28 (.mv (.t 29))]) (.keep [1, 14, 28]))
  (.seq (.cond (.t 28)
  (.seq (.seq (.ops [o1 30 (.loadN 8 (.t 1)),
    o1 31 (.call f_sl11Var [(.t 30), (.c (.b false))]),
    o1 32 (.mv (.t 31)),
    ⟨some 33, (some (32, true)), [], false, .loadN 8 (.t 1)⟩,
    ⟨some 34, (some (32, true)), [], false, .call f_sl11Box [(.t 33), (.c (.b true))]⟩,
    o1 35 (.pick (.t 32) (.t 34) (.c (.b false))),
    o1 36 (.mv (.t 35)),
    ⟨some 37, (some (36, true)), [], false, .fldA 3 (.t 1)⟩,
    ⟨some 38, (some (36, true)), [], false, .loadN 3 (.t 37)⟩,
    ⟨some 39, (some (36, true)), [], false, .call f_sExprValid [(.t 38)]⟩,
    o1 40 (.pick (.t 36) (.t 39) (.c (.b false))),
    o1 2 (.mv (.t 40))]) (.keep [2]))
  (.ret))
  (.seq (.seq (.ops [o1 42 (.bin .eql (.t 14) (.c (.I 5))),
    o1 41 (.mv (.t 42))]) (.keep [1, 14, 41]))
  (.seq (.cond (.t 41)
  (.seq (.seq (.ops [o1 43 (.loadN 8 (.t 1)),
    o1 44 (.call f_sl11Var [(.t 43), (.c (.b true))]),
    o1 45 (.mv (.t 44)),
    ⟨some 46, (some (45, true)), [], false, .loadN 8 (.t 1)⟩,
    ⟨some 47, (some (45, true)), [], false, .call f_sl11Box [(.t 46), (.c (.b true))]⟩,
    o1 48 (.pick (.t 45) (.t 47) (.c (.b false))),
    o1 49 (.mv (.t 48)),
    ⟨some 50, (some (49, true)), [], false, .fldA 3 (.t 1)⟩,
    ⟨some 51, (some (49, true)), [], false, .loadN 3 (.t 50)⟩,
    ⟨some 52, (some (49, true)), [], false, .call f_sl11Plain [(.t 51)]⟩,
    o1 53 (.pick (.t 49) (.t 52) (.c (.b false))),
    o1 2 (.mv (.t 53))]) (.keep [2]))
  (.ret))
  (.seq (.seq (.ops [o1 55 (.bin .eql (.t 14) (.c (.I 6))),
    o1 54 (.mv (.t 55))]) (.keep [1, 14, 54]))
  (.seq (.cond (.t 54)
  (.seq (.seq (.ops [o1 56 (.loadN 8 (.t 1)),
    o1 57 (.call f_sl11Var [(.t 56), (.c (.b false))]),
    o1 58 (.mv (.t 57)),
    ⟨some 59, (some (58, true)), [], false, .loadN 8 (.t 1)⟩,
    ⟨some 60, (some (58, true)), [], false, .call f_sl11Box [(.t 59), (.c (.b false))]⟩,
    o1 61 (.pick (.t 58) (.t 60) (.c (.b false))),
    o1 62 (.mv (.t 61)),
    ⟨some 63, (some (62, true)), [], false, .fldA 3 (.t 1)⟩,
    ⟨some 64, (some (62, true)), [], false, .loadN 3 (.t 63)⟩,
    ⟨some 65, (some (62, true)), [], false, .call f_sl11Plain [(.t 64)]⟩,
    o1 66 (.pick (.t 62) (.t 65) (.c (.b false))),
    o1 2 (.mv (.t 66))]) (.keep [2]))
  (.ret))
  (.seq (.seq (.ops [o1 68 (.bin .eql (.t 14) (.c (.I 7))),
    o1 67 (.mv (.t 68))]) (.keep [1, 67]))
  (.seq (.cond (.t 67)
  (.seq (.seq (.ops [o1 69 (.loadN 8 (.t 1)),
    o1 70 (.call f_sl11Var [(.t 69), (.c (.b false))]),
    o1 71 (.mv (.t 70)),
    ⟨some 72, (some (71, true)), [], false, .loadN 8 (.t 1)⟩,
    ⟨some 73, (some (71, true)), [], false, .call f_sl11Box [(.t 72), (.c (.b false))]⟩,
    o1 74 (.pick (.t 71) (.t 73) (.c (.b false))),
    o1 75 (.mv (.t 74)),
    ⟨some 76, (some (75, true)), [], false, .fldA 3 (.t 1)⟩,
    ⟨some 77, (some (75, true)), [], false, .loadN 3 (.t 76)⟩,
    ⟨some 78, (some (75, true)), [], false, .call f_sExprValid [(.t 77)]⟩,
    o1 79 (.pick (.t 75) (.t 78) (.c (.b false))),
    o1 2 (.mv (.t 79))]) (.keep [2]))
  (.ret))
  (.skip)) (.keep [])))) (.keep [])))) (.keep [])))) (.keep [])))) (.keep [])))) (.keep [])))
  (.seq (.ops [o1 2 (.mv (.c (.b false)))])
  (.ret)))), [.t 2]⟩

/- loop.example/cothreads/spec.l11Var -/
def c_sl11Var : AFn := ⟨2, .seq (.seq (.ops [o1 2 (.box (.t 0)),
    o1 4 (.mv (.c (.b false)))]) (.keep [1, 2]))
  (.seq (.seq (.ops [o1 5 (.mv (.t 1))])
  (.seq (.cond (.t 5)
  (.seq (.seq (.ops [o1 6 (.fldA 1 (.t 2)),
    o1 7 (.load (.t 6)),
    o1 8 (.call f_sl6In [(.t 7), (.c (.I 0)), (.c (.I 3))]),
    o1 4 (.mv (.t 8))]) (.keep [4]))
  (.ret))
  (.skip)) (.keep [2])))
  (.seq (.seq (.ops [o1 9 (.fldA 1 (.t 2)),
    o1 10 (.load (.t 9)),
    o1 11 (.bin .eql (.t 10) (.c (.I 0))),
    o1 4 (.mv (.t 11))]) (.keep [4]))
  (.ret))), [.t 4]⟩

/- loop.example/cothreads/spec.l11Box -/
def c_sl11Box : AFn := ⟨2, .seq (.seq (.ops [o1 2 (.box (.t 0)),
    o1 4 (.mv (.c (.b false)))]) (.keep [1, 2]))
  (.seq (.seq (.ops [o1 5 (.mv (.t 1))])
  (.seq (.cond (.t 5)
  (.seq (.seq (.ops [o1 6 (.fldA 2 (.t 2)),
    o1 7 (.load (.t 6)),
    o1 8 (.call f_sl6In [(.t 7), (.c (.I 0)), (.c (.I 2))]),
    o1 4 (.mv (.t 8))]) (.keep [4]))
  (.ret))
  (.skip)) (.keep [2])))
  (.seq (.seq (.ops [o1 9 (.fldA 2 (.t 2)),
    o1 10 (.load (.t 9)),
    o1 11 (.bin .eql (.t 10) (.c (.I 0))),
    o1 4 (.mv (.t 11))]) (.keep [4]))
  (.ret))), [.t 4]⟩

/- loop.example/cothreads/spec.ExprValid -/
def c_sExprValid : AFn := ⟨1, .seq (.seq (.ops [o1 1 (.box (.t 0)),
    o1 2 (.mv (.c (.b false)))]) (.keep [1]))
  (.seq (.seq (.ops [o1 3 (.loadN 3 (.t 1)),
    o1 4 (.call f_sl4Ok [(.t 3), (.c (.I 5))]),
    o1 2 (.mv (.t 4))]) (.keep [2]))
  (.ret)), [.t 2]⟩

/- loop.example/cothreads/impl.stmtValid -/
def c_istmtValid : AFn := ⟨2, .seq (.seq (.ops [o1 4 (.mv (.c (.b false)))]) (.keep [0, 1]))
  (.seq (.ops [o1 5 (.alloc [(.b false), (.b false), (.b false), (.b false), (.b false)])])
  (.seq (.seq (.seq (.ops [o1 7 (.mv (.t 0)),
    o1 8 (.nilc (.t 7)),
    o1 9 (.fldA 0 (.t 8)),
    o1 10 (.load (.t 9))]) (.keep [0, 1, 5, 10]))
  (.seq (.block 0 (.seq (.seq (.ops [o1 12 (.bin .eql (.t 10) (.c (.I 1))),
    o1 11 (.mv (.t 12))]) (.keep [0, 1, 5, 10, 11]))
  (.seq (.cond (.t 11)
  (.seq (.ops [o1 13 (.fldA 0 (.t 5)),
    o0 (.store 1 (.t 13) (.c (.b true))),
    o1 14 (.fldA 2 (.t 5)),
    o0 (.store 1 (.t 14) (.c (.b true)))]) (.keep [0, 1, 5]))
  (.seq (.seq (.ops [o1 16 (.bin .eql (.t 10) (.c (.I 2))),
    o1 15 (.mv (.t 16))]) (.keep [0, 1, 5, 10, 15]))
  (.seq (.cond (.t 15)
  (.seq (.ops [o1 17 (.fldA 2 (.t 5)),
    o0 (.store 1 (.t 17) (.c (.b true))),
    o1 18 (.fldA 3 (.t 5)),
    o0 (.store 1 (.t 18) (.c (.b true))),
    o1 19 (.fldA 4 (.t 5)),
    o0 (.store 1 (.t 19) (.c (.b true)))]) (.keep [0, 1, 5]))
  (.seq (.seq (.ops [o1 21 (.bin .eql (.t 10) (.c (.I 3))),
    o1 20 (.mv (.t 21))]) (.keep [0, 1, 5, 10, 20]))
  (.seq (.cond (.t 20)
  (.seq (.ops [o1 22 (.fldA 2 (.t 5)),
    o0 (.store 1 (.t 22) (.c (.b true))),
    o1 23 (.fldA 3 (.t 5)),
    o0 (.store 1 (.t 23) (.c (.b true)))]) (.keep [0, 1, 5]))
  (.seq (.seq (.ops [o1 25 (.bin .eql (.t 10) (.c (.I 4))),
    o1 24 (.mv (.t 25))]) (.keep [0, 1, 5, 10, 24]))
  (.seq (.cond (.t 24)
  (.seq (.ops [o1 26 (.fldA 1 (.t 5)),
    o0 (.store 1 (.t 26) (.c (.b true))),
    o1 27 (.fldA 2 (.t 5)),
    o0 (.store 1 (.t 27) (.c (.b true)))]) (.keep [0, 1, 5]))
  (.seq (.seq (.ops [o1 29 (.bin .eql (.t 10) (.c (.I 5))),
    o1 28 (.mv (.t 29))]) (.keep [0, 1, 5, 10, 28]))
  (.seq (.cond (.t 28)
  (.seq (.ops [o1 30 (.fldA 1 (.t 5)),
    o0 (.store 1 (.t 30) (.c (.b true))),
    o1 31 (.fldA 0 (.t 5)),
    o0 (.store 1 (.t 31) (.c (.b true)))]) (.keep [0, 1, 5]))
  (.seq (.seq (.ops [o1 33 (.bin .eql (.t 10) (.c (.I 7))),
    o1 32 (.mv (.t 33))]) (.keep [0, 1, 5, 10, 32]))
  (.seq (.cond (.t 32)
  (.seq (.ops [o1 34 (.fldA 2 (.t 5)),
    o0 (.store 1 (.t 34) (.c (.b true)))]) (.keep [0, 1, 5]))
  (.seq (.seq (.ops [o1 36 (.bin .eql (.t 10) (.c (.I 6))),
    o1 35 (.mv (.t 36))]) (.keep [0, 1, 5, 35]))
  (.seq (.cond (.t 35)
  (.skip)
  (.seq (.ops [o1 4 (.mv (.c (.b false)))])
  (.ret))) (.keep [0, 1, 5])))) (.keep [0, 1, 5])))) (.keep [0, 1, 5])))) (.keep [0, 1, 5])))) (.keep [0, 1, 5])))) (.keep [0, 1, 5])))) (.keep [0, 1, 5])))) (.keep [0, 1, 5])))
  (.seq (.ops [o1 6 (.mv (.c (.fn f_istmtValid_1 [] [])))])
  (.seq (.seq (.seq (.ops [o1 37 (.mv (.t 6)),
    o1 38 (.mv (.t 0)),
    o1 39 (.nilc (.t 38)),
    o1 40 (.fldA 1 (.t 39)),
    o1 41 (.load (.t 40)),
    o1 42 (.fldA 0 (.t 5)),
    o1 43 (.load (.t 42)),
    ⟨some 44, none, [], true, .callv (.t 37) [(.t 41), (.c (.I 4)), (.t 43)]⟩,
    o1 45 (.un .not (.t 44)),
    o1 46 (.mv (.t 45)),
    ⟨some 47, (some (46, false)), [], false, .mv (.t 6)⟩,
    ⟨some 48, (some (46, false)), [], false, .mv (.t 0)⟩,
    ⟨some 49, (some (46, false)), [], false, .nilc (.t 48)⟩,
    ⟨some 50, (some (46, false)), [], false, .fldA 2 (.t 49)⟩,
    ⟨some 51, (some (46, false)), [], false, .load (.t 50)⟩,
    ⟨some 52, (some (46, false)), [], false, .mv (.t 1)⟩,
    ⟨some 53, (some (46, false)), [], false, .fldA 1 (.t 5)⟩,
    ⟨some 54, (some (46, false)), [], false, .load (.t 53)⟩,
    ⟨some 55, (some (46, false)), [], true, .callv (.t 47) [(.t 51), (.t 52), (.t 54)]⟩,
    ⟨some 56, (some (46, false)), [], false, .un .not (.t 55)⟩,
    o1 57 (.pick (.t 46) (.c (.b true)) (.t 56)),
    o1 58 (.mv (.t 57)),
    ⟨some 59, (some (58, false)), [], false, .fldA 1 (.t 5)⟩,
    ⟨some 60, (some (58, false)), [], false, .load (.t 59)⟩,
    ⟨some 61, (some (58, false)), [], false, .mv (.t 60)⟩,
    ⟨some 62, (some (61, true)), [], false, .mv (.t 0)⟩,
    ⟨some 63, (some (61, true)), [], false, .nilc (.t 62)⟩,
    ⟨some 64, (some (61, true)), [], false, .fldA 2 (.t 63)⟩,
    ⟨some 65, (some (61, true)), [], false, .load (.t 64)⟩,
    ⟨some 66, (some (61, true)), [], false, .mv (.t 1)⟩,
    ⟨some 67, (some (61, true)), [], false, .bin .geq (.t 65) (.t 66)⟩,
    ⟨some 68, (some (58, false)), [], false, .pick (.t 61) (.t 67) (.c (.b false))⟩,
    o1 69 (.pick (.t 58) (.c (.b true)) (.t 68))]) (.keep [0, 5, 69]))
  (.seq (.cond (.t 69)
  (.seq (.ops [o1 4 (.mv (.c (.b false)))])
  (.ret))
  (.skip)) (.keep [0, 5])))
  (.seq (.seq (.seq (.ops [o1 70 (.fldA 2 (.t 5)),
    o1 71 (.load (.t 70)),
    o1 72 (.mv (.t 71)),
    ⟨some 73, (some (72, true)), [], false, .mv (.t 0)⟩,
    ⟨some 74, (some (72, true)), [], false, .nilc (.t 73)⟩,
    ⟨some 75, (some (72, true)), [], false, .fldA 3 (.t 74)⟩,
    ⟨some 76, (some (72, true)), [], false, .loadN 3 (.t 75)⟩,
    ⟨some 77, (some (72, true)), [], false, .call f_iExprValid [(.t 76)]⟩,
    ⟨some 78, (some (72, true)), [], false, .un .not (.t 77)⟩,
    o1 79 (.pick (.t 72) (.t 78) (.c (.b false))),
    o1 80 (.mv (.t 79)),
    ⟨some 81, (some (80, false)), [], false, .fldA 2 (.t 5)⟩,
    ⟨some 82, (some (80, false)), [], false, .load (.t 81)⟩,
    ⟨some 83, (some (80, false)), [], false, .un .not (.t 82)⟩,
    ⟨some 84, (some (80, false)), [], false, .mv (.t 83)⟩,
    ⟨some 85, (some (84, true)), [], false, .mv (.t 0)⟩,
    ⟨some 86, (some (84, true)), [], false, .nilc (.t 85)⟩,
    ⟨some 87, (some (84, true)), [], false, .fldA 3 (.t 86)⟩,
    ⟨some 88, (some (84, true)), [], false, .fldA 0 (.t 87)⟩,
    ⟨some 89, (some (84, true)), [], false, .load (.t 88)⟩,
    ⟨some 90, (some (84, true)), [], false, .bin .neq (.t 89) (.c (.I 0))⟩,
    ⟨some 91, (some (84, true)), [], false, .mv (.t 90)⟩,
    ⟨some 92, (some (91, false)), [], false, .mv (.t 0)⟩,
    ⟨some 93, (some (91, false)), [], false, .nilc (.t 92)⟩,
    ⟨some 94, (some (91, false)), [], false, .fldA 3 (.t 93)⟩,
    ⟨some 95, (some (91, false)), [], false, .fldA 1 (.t 94)⟩,
    ⟨some 96, (some (91, false)), [], false, .load (.t 95)⟩,
    ⟨some 97, (some (91, false)), [], false, .bin .neq (.t 96) (.c (.I 0))⟩,
    ⟨some 98, (some (84, true)), [], false, .pick (.t 91) (.c (.b true)) (.t 97)⟩,
    ⟨some 99, (some (84, true)), [], false, .mv (.t 98)⟩,
    ⟨some 100, (some (99, false)), [], false, .mv (.t 0)⟩,
    ⟨some 101, (some (99, false)), [], false, .nilc (.t 100)⟩,
    ⟨some 102, (some (99, false)), [], false, .fldA 3 (.t 101)⟩,
    ⟨some 103, (some (99, false)), [], false, .fldA 2 (.t 102)⟩,
    ⟨some 104, (some (99, false)), [], false, .load (.t 103)⟩,
    ⟨some 105, (some (99, false)), [], false, .len (.t 104)⟩,
    ⟨some 106, (some (99, false)), [], false, .bin .gtr (.t 105) (.c (.I 0))⟩,
    ⟨some 107, (some (84, true)), [], false, .pick (.t 99) (.c (.b true)) (.t 106)⟩,
    ⟨some 108, (some (80, false)), [], false, .pick (.t 84) (.t 107) (.c (.b false))⟩,
    o1 109 (.pick (.t 80) (.c (.b true)) (.t 108))]) (.keep [0, 5, 109]))
  (.seq (.cond (.t 109)
  (.seq (.ops [o1 4 (.mv (.c (.b false)))])
  (.ret))
  (.skip)) (.keep [0, 5])))
  (.seq (.seq (.ops [o1 110 (.fldA 3 (.t 5)),
    o1 111 (.load (.t 110)),
    o1 112 (.mv (.t 111)),
    ⟨some 113, (some (112, false)), [], false, .mv (.t 0)⟩,
    ⟨some 114, (some (112, false)), [], false, .nilc (.t 113)⟩,
    ⟨some 115, (some (112, false)), [], false, .fldA 6 (.t 114)⟩,
    ⟨some 116, (some (112, false)), [], false, .load (.t 115)⟩,
    ⟨some 117, (some (112, false)), [], false, .len (.t 116)⟩,
    ⟨some 118, (some (112, false)), [], false, .bin .eql (.t 117) (.c (.I 0))⟩,
    o1 119 (.pick (.t 112) (.c (.b true)) (.t 118)),
    o1 120 (.mv (.t 119)),
    ⟨some 121, (some (120, true)), [], false, .fldA 4 (.t 5)⟩,
    ⟨some 122, (some (120, true)), [], false, .load (.t 121)⟩,
    ⟨some 123, (some (120, true)), [], false, .mv (.t 122)⟩,
    ⟨some 124, (some (123, false)), [], false, .mv (.t 0)⟩,
    ⟨some 125, (some (123, false)), [], false, .nilc (.t 124)⟩,
    ⟨some 126, (some (123, false)), [], false, .fldA 7 (.t 125)⟩,
    ⟨some 127, (some (123, false)), [], false, .load (.t 126)⟩,
    ⟨some 128, (some (123, false)), [], false, .len (.t 127)⟩,
    ⟨some 129, (some (123, false)), [], false, .bin .eql (.t 128) (.c (.I 0))⟩,
    ⟨some 130, (some (120, true)), [], false, .pick (.t 123) (.c (.b true)) (.t 129)⟩,
    o1 131 (.pick (.t 120) (.t 130) (.c (.b false))),
    o1 4 (.mv (.t 131))]) (.keep [4]))
  (.ret))))))), [.t 4]⟩

/- loop.example/cothreads/impl.OpValid -/
def c_iOpValid : AFn := ⟨1, .seq (.seq (.ops [o1 2 (.mv (.c (.b false)))]) (.keep [0]))
  (.seq (.seq (.ops [o1 3 (.mv (.t 0)),
    o1 4 (.bin .geq (.t 3) (.c (.I 1))),
    o1 5 (.mv (.t 4)),
    ⟨some 6, (some (5, true)), [], false, .mv (.t 0)⟩,
    ⟨some 7, (some (5, true)), [], false, .bin .leq (.t 6) (.c (.I 12))⟩,
    o1 8 (.pick (.t 5) (.t 7) (.c (.b false))),
    o1 2 (.mv (.t 8))]) (.keep [2]))
  (.ret)), [.t 2]⟩

/- loop.example/cothreads/spec.l11Plain -/
def c_sl11Plain : AFn := ⟨1, .seq (.seq (.ops [o1 1 (.box (.t 0)),
    o1 2 (.mv (.c (.b false)))]) (.keep [1]))
  (.seq (.seq (.ops [o1 3 (.fldA 0 (.t 1)),
    o1 4 (.load (.t 3)),
    o1 5 (.bin .eql (.t 4) (.c (.I 0))),
    o1 6 (.mv (.t 5)),
    ⟨some 7, (some (6, true)), [], false, .fldA 1 (.t 1)⟩,
    ⟨some 8, (some (6, true)), [], false, .load (.t 7)⟩,
    ⟨some 9, (some (6, true)), [], false, .bin .eql (.t 8) (.c (.I 0))⟩,
    o1 10 (.pick (.t 6) (.t 9) (.c (.b false))),
    o1 11 (.mv (.t 10)),
    ⟨some 12, (some (11, true)), [], false, .fldA 2 (.t 1)⟩,
    ⟨some 13, (some (11, true)), [], false, .load (.t 12)⟩,
    ⟨some 14, (some (11, true)), [], false, .len (.t 13)⟩,
    ⟨some 15, (some (11, true)), [], false, .bin .eql (.t 14) (.c (.I 0))⟩,
    o1 16 (.pick (.t 11) (.t 15) (.c (.b false))),
    o1 2 (.mv (.t 16))]) (.keep [2]))
  (.ret)), [.t 2]⟩

/- loop.example/cothreads/spec.l4Ok -/
def c_sl4Ok : AFn := ⟨2, .seq (.seq (.ops [o1 2 (.box (.t 0)),
    o1 4 (.mv (.c (.b false)))]) (.keep [1, 2]))
  (.seq (.seq (.seq (.ops [o1 5 (.mv (.t 1)),
    o1 6 (.bin .lss (.t 5) (.c (.I 1)))]) (.keep [1, 2, 6]))
  (.seq (.cond (.t 6)
  (.seq (.ops [o1 4 (.mv (.c (.b false)))])
  (.ret))
  (.skip)) (.keep [1, 2])))
  (.seq (.seq (.seq (.ops [o1 7 (.fldA 0 (.t 2)),
    o1 8 (.load (.t 7)),
    o1 9 (.bin .eql (.t 8) (.c (.I 0)))]) (.keep [1, 2, 9]))
  (.seq (.cond (.t 9)
  (.seq (.seq (.ops [o1 10 (.fldA 1 (.t 2)),
    o1 11 (.load (.t 10)),
    o1 12 (.call f_sl6In [(.t 11), (.c (.I 0)), (.c (.I 99999))]),
    o1 13 (.mv (.t 12)),
    ⟨some 14, (some (13, true)), [], false, .fldA 2 (.t 2)⟩,
    ⟨some 15, (some (13, true)), [], false, .load (.t 14)⟩,
    ⟨some 16, (some (13, true)), [], false, .len (.t 15)⟩,
    ⟨some 17, (some (13, true)), [], false, .bin .eql (.t 16) (.c (.I 0))⟩,
    o1 18 (.pick (.t 13) (.t 17) (.c (.b false))),
    o1 4 (.mv (.t 18))]) (.keep [4]))
  (.ret))
  (.skip)) (.keep [1, 2])))
  (.seq (.seq (.seq (.ops [o1 19 (.fldA 0 (.t 2)),
    o1 20 (.load (.t 19)),
    o1 21 (.bin .eql (.t 20) (.c (.I 13)))]) (.keep [1, 2, 21]))
  (.seq (.cond (.t 21)
  (.seq (.seq (.ops [o1 22 (.fldA 1 (.t 2)),
    o1 23 (.load (.t 22)),
    o1 24 (.call f_sl6In [(.t 23), (.c (.I 0)), (.c (.I 3))]),
    o1 25 (.mv (.t 24)),
    ⟨some 26, (some (25, true)), [], false, .fldA 2 (.t 2)⟩,
    ⟨some 27, (some (25, true)), [], false, .load (.t 26)⟩,
    ⟨some 28, (some (25, true)), [], false, .len (.t 27)⟩,
    ⟨some 29, (some (25, true)), [], false, .bin .eql (.t 28) (.c (.I 0))⟩,
    o1 30 (.pick (.t 25) (.t 29) (.c (.b false))),
    o1 4 (.mv (.t 30))]) (.keep [4]))
  (.ret))
  (.skip)) (.keep [1, 2])))
  (.seq (.seq (.ops [o1 31 (.fldA 0 (.t 2)),
    o1 32 (.load (.t 31)),
    o1 33 (.call f_sOpValid [(.t 32)]),
    o1 34 (.mv (.t 33)),
    ⟨some 35, (some (34, true)), [], false, .fldA 1 (.t 2)⟩,
    ⟨some 36, (some (34, true)), [], false, .load (.t 35)⟩,
    ⟨some 37, (some (34, true)), [], false, .bin .eql (.t 36) (.c (.I 0))⟩,
    o1 38 (.pick (.t 34) (.t 37) (.c (.b false))),
    o1 39 (.mv (.t 38)),
    ⟨some 40, (some (39, true)), [], false, .fldA 2 (.t 2)⟩,
    ⟨some 41, (some (39, true)), [], false, .load (.t 40)⟩,
    ⟨some 42, (some (39, true)), [], false, .len (.t 41)⟩,
    ⟨some 43, (some (39, true)), [], false, .bin .eql (.t 42) (.c (.I 2))⟩,
    o1 44 (.pick (.t 39) (.t 43) (.c (.b false))),
    o1 45 (.mv (.t 44)),
    ⟨some 46, (some (45, true)), [], false, .fldA 2 (.t 2)⟩,
    ⟨some 47, (some (45, true)), [], false, .load (.t 46)⟩,
    ⟨some 48, (some (45, true)), [], false, .idxA 3 (.t 47) (.c (.I 0))⟩,
    ⟨some 49, (some (45, true)), [], false, .loadN 3 (.t 48)⟩,
    ⟨some 50, (some (45, true)), [], false, .mv (.t 1)⟩,
    ⟨some 51, (some (45, true)), [], false, .bin .sub (.t 50) (.c (.I 1))⟩,
    ⟨some 52, (some (45, true)), [], false, .call f_sl4Ok [(.t 49), (.t 51)]⟩,
    o1 53 (.pick (.t 45) (.t 52) (.c (.b false))),
    o1 54 (.mv (.t 53)),
    ⟨some 55, (some (54, true)), [], false, .fldA 2 (.t 2)⟩,
    ⟨some 56, (some (54, true)), [], false, .load (.t 55)⟩,
    ⟨some 57, (some (54, true)), [], false, .idxA 3 (.t 56) (.c (.I 1))⟩,
    ⟨some 58, (some (54, true)), [], false, .loadN 3 (.t 57)⟩,
    ⟨some 59, (some (54, true)), [], false, .mv (.t 1)⟩,
    ⟨some 60, (some (54, true)), [], false, .bin .sub (.t 59) (.c (.I 1))⟩,
    ⟨some 61, (some (54, true)), [], false, .call f_sl4Ok [(.t 58), (.t 60)]⟩,
    o1 62 (.pick (.t 54) (.t 61) (.c (.b false))),
    o1 4 (.mv (.t 62))]) (.keep [4]))
  (.ret))))), [.t 4]⟩

/- loop.example/cothreads/impl.stmtValid$1 -/
def c_istmtValid_1 : AFn := ⟨3, .seq (.seq (.ops [o1 6 (.mv (.c (.b false)))]) (.keep [0, 1, 2]))
  (.seq (.seq (.ops [o1 7 (.mv (.t 0)),
    o1 8 (.bin .eql (.t 7) (.c (.I 0))),
    o1 9 (.mv (.t 8)),
    ⟨some 10, (some (9, false)), [], false, .mv (.t 2)⟩,
    ⟨some 11, (some (9, false)), [], false, .mv (.t 10)⟩,
    ⟨some 12, (some (11, true)), [], false, .mv (.t 0)⟩,
    ⟨some 13, (some (11, true)), [], false, .bin .gtr (.t 12) (.c (.I 0))⟩,
    ⟨some 14, (some (9, false)), [], false, .pick (.t 11) (.t 13) (.c (.b false))⟩,
    ⟨some 15, (some (9, false)), [], false, .mv (.t 14)⟩,
    ⟨some 16, (some (15, true)), [], false, .mv (.t 0)⟩,
    ⟨some 17, (some (15, true)), [], false, .mv (.t 1)⟩,
    ⟨some 18, (some (15, true)), [], false, .bin .lss (.t 16) (.t 17)⟩,
    ⟨some 19, (some (9, false)), [], false, .pick (.t 15) (.t 18) (.c (.b false))⟩,
    o1 20 (.pick (.t 9) (.c (.b true)) (.t 19)),
    o1 6 (.mv (.t 20))]) (.keep [6]))
  (.ret)), [.t 6]⟩

/- loop.example/cothreads/impl.ExprValid -/
def c_iExprValid : AFn := ⟨1, .seq (.seq (.ops [o1 1 (.box (.t 0)),
    o1 2 (.mv (.c (.b false)))]) (.keep [1]))
  (.seq (.seq (.ops [o1 3 (.loadN 3 (.t 1)),
    o1 4 (.call f_iexprValid [(.t 3), (.c (.I 5))]),
    o1 2 (.mv (.t 4))]) (.keep [2]))
  (.ret)), [.t 2]⟩

/- loop.example/cothreads/impl.exprValid -/
def c_iexprValid : AFn := ⟨2, .seq (.seq (.ops [o1 2 (.box (.t 0)),
    o1 4 (.mv (.c (.b false)))]) (.keep [1, 2]))
  (.seq (.seq (.block 0 (.seq (.seq (.ops [o1 6 (.fldA 0 (.t 2)),
    o1 7 (.load (.t 6)),
    o1 8 (.bin .eql (.t 7) (.c (.I 0))),
    o1 5 (.mv (.t 8))]) (.keep [1, 2, 5]))
  (.seq (.cond (.t 5)
  (.seq (.seq (.ops [o1 9 (.fldA 1 (.t 2)),
    o1 10 (.load (.t 9)),
    o1 11 (.bin .geq (.t 10) (.c (.I 0))),
    o1 12 (.mv (.t 11)),
    ⟨some 13, (some (12, true)), [], false, .fldA 1 (.t 2)⟩,
    ⟨some 14, (some (12, true)), [], false, .load (.t 13)⟩,
    ⟨some 15, (some (12, true)), [], false, .bin .leq (.t 14) (.c (.I 99999))⟩,
    o1 16 (.pick (.t 12) (.t 15) (.c (.b false))),
    o1 17 (.mv (.t 16)),
    ⟨some 18, (some (17, true)), [], false, .fldA 2 (.t 2)⟩,
    ⟨some 19, (some (17, true)), [], false, .load (.t 18)⟩,
    ⟨some 20, (some (17, true)), [], false, .len (.t 19)⟩,
    ⟨some 21, (some (17, true)), [], false, .bin .eql (.t 20) (.c (.I 0))⟩,
    o1 22 (.pick (.t 17) (.t 21) (.c (.b false))),
    o1 23 (.mv (.t 22)),
    ⟨some 24, (some (23, true)), [], false, .mv (.t 1)⟩,
    ⟨some 25, (some (23, true)), [], false, .bin .gtr (.t 24) (.c (.I 0))⟩,
    o1 26 (.pick (.t 23) (.t 25) (.c (.b false))),
    o1 4 (.mv (.t 26))]) (.keep [4]))
  (.ret))
  (.seq (.seq (.ops [o1 28 (.fldA 0 (.t 2)),
    o1 29 (.load (.t 28)),
    o1 30 (.bin .eql (.t 29) (.c (.I 13))),
    o1 27 (.mv (.t 30))]) (.keep [1, 2, 27]))
  (.seq (.cond (.t 27)
  (.seq (.seq (.ops [o1 31 (.fldA 1 (.t 2)),
    o1 32 (.load (.t 31)),
    o1 33 (.bin .geq (.t 32) (.c (.I 0))),
    o1 34 (.mv (.t 33)),
    ⟨some 35, (some (34, true)), [], false, .fldA 1 (.t 2)⟩,
    ⟨some 36, (some (34, true)), [], false, .load (.t 35)⟩,
    ⟨some 37, (some (34, true)), [], false, .bin .lss (.t 36) (.c (.I 4))⟩,
    o1 38 (.pick (.t 34) (.t 37) (.c (.b false))),
    o1 39 (.mv (.t 38)),
    ⟨some 40, (some (39, true)), [], false, .fldA 2 (.t 2)⟩,
    ⟨some 41, (some (39, true)), [], false, .load (.t 40)⟩,
    ⟨some 42, (some (39, true)), [], false, .len (.t 41)⟩,
    ⟨some 43, (some (39, true)), [], false, .bin .eql (.t 42) (.c (.I 0))⟩,
    o1 44 (.pick (.t 39) (.t 43) (.c (.b false))),
    o1 45 (.mv (.t 44)),
    ⟨some 46, (some (45, true)), [], false, .mv (.t 1)⟩,
    ⟨some 47, (some (45, true)), [], false, .bin .gtr (.t 46) (.c (.I 0))⟩,
    o1 48 (.pick (.t 45) (.t 47) (.c (.b false))),
    o1 4 (.mv (.t 48))]) (.keep [4]))
  (.ret))
  (.skip)) (.keep [1, 2])))) (.keep [1, 2])))) (.keep [1, 2]))
  (.seq (.seq (.ops [o1 49 (.fldA 0 (.t 2)),
    o1 50 (.load (.t 49)),
    o1 51 (.call f_iOpValid [(.t 50)]),
    o1 52 (.mv (.t 51)),
    ⟨some 53, (some (52, true)), [], false, .fldA 1 (.t 2)⟩,
    ⟨some 54, (some (52, true)), [], false, .load (.t 53)⟩,
    ⟨some 55, (some (52, true)), [], false, .bin .eql (.t 54) (.c (.I 0))⟩,
    o1 56 (.pick (.t 52) (.t 55) (.c (.b false))),
    o1 57 (.mv (.t 56)),
    ⟨some 58, (some (57, true)), [], false, .fldA 2 (.t 2)⟩,
    ⟨some 59, (some (57, true)), [], false, .load (.t 58)⟩,
    ⟨some 60, (some (57, true)), [], false, .len (.t 59)⟩,
    ⟨some 61, (some (57, true)), [], false, .bin .eql (.t 60) (.c (.I 2))⟩,
    o1 62 (.pick (.t 57) (.t 61) (.c (.b false))),
    o1 63 (.mv (.t 62)),
    ⟨some 64, (some (63, true)), [], false, .mv (.t 1)⟩,
    ⟨some 65, (some (63, true)), [], false, .bin .gtr (.t 64) (.c (.I 1))⟩,
    o1 66 (.pick (.t 63) (.t 65) (.c (.b false))),
    o1 67 (.mv (.t 66)),
    ⟨some 68, (some (67, true)), [], false, .fldA 2 (.t 2)⟩,
    ⟨some 69, (some (67, true)), [], false, .load (.t 68)⟩,
    ⟨some 70, (some (67, true)), [], false, .idxA 3 (.t 69) (.c (.I 0))⟩,
    ⟨some 71, (some (67, true)), [], false, .loadN 3 (.t 70)⟩,
    ⟨some 72, (some (67, true)), [], false, .mv (.t 1)⟩,
    ⟨some 73, (some (67, true)), [], false, .bin .sub (.t 72) (.c (.I 1))⟩,
    ⟨some 74, (some (67, true)), [], false, .call f_iexprValid [(.t 71), (.t 73)]⟩,
    o1 75 (.pick (.t 67) (.t 74) (.c (.b false))),
    o1 76 (.mv (.t 75)),
    ⟨some 77, (some (76, true)), [], false, .fldA 2 (.t 2)⟩,
    ⟨some 78, (some (76, true)), [], false, .load (.t 77)⟩,
    ⟨some 79, (some (76, true)), [], false, .idxA 3 (.t 78) (.c (.I 1))⟩,
    ⟨some 80, (some (76, true)), [], false, .loadN 3 (.t 79)⟩,
    ⟨some 81, (some (76, true)), [], false, .mv (.t 1)⟩,
    ⟨some 82, (some (76, true)), [], false, .bin .sub (.t 81) (.c (.I 1))⟩,
    ⟨some 83, (some (76, true)), [], false, .call f_iexprValid [(.t 80), (.t 82)]⟩,
    o1 84 (.pick (.t 76) (.t 83) (.c (.b false))),
    o1 4 (.mv (.t 84))]) (.keep [4]))
  (.ret))), [.t 4]⟩

end Go.Proofs.YtcibjklpaljadaaGreat.AM
