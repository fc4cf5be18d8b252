/-
  NARROWER THAN 'FOR EVERY INPUT', by the rows' own cells (each row's printed sentence says how): FnExactMachineStep: laid · FnExactMachineRun: laid · FnMachineNext: laid · FnMachineStep: laid · FnMachineStill: laid · FnMachineDecode: laid · FnMachineOne: laid · FnMachineAlu: laid · FnMachineRun: laid · FnMachineRunOne: laid.
  DERIVED. THE GIVEN ROWS OF THIS SEAT. 10 by the template 'for every input the law returns true; each argument reads behind the call as it read before'; 0 by the template 'total and deterministic' (their statements: YtdgmihohmkdpjaaDoorTotals.lean).
  GIVEN WITH THE SEED: the statements are not yours to turn. If you find one false, say at which input.
  Laid BY PROGRAM, IN A SANDBOX (cutbox-rows.mjs): the forced cells as the released guide's own fill.sh prints them over the translation f86b457a02e655f2… (all of the seat's roots in one cut). By AI agents, Wed Nov 11 2026. No macro, syntax, notation, axiom, sorry.
-/
import Derived.Test.YtdgmihohmkdpjaaDoorChecked
import GoSem.Claim
import GoSem.ClaimJoined
import GoSem.ClaimMapViews
import Derived.JoinedTies
import Derived.KernelRfl
namespace Go.Proofs.YtdgmihohmkdpjaaDoor
/- THE CELL 'sum', in the pinned program and in every row, IS THE sha256 OF THE DUMP (.gsa) THAT YtdgmihohmkdpjaaDoorProg.lean LOADS. Nothing in Lean hashes anything: it is a label: what it is worth is what the hold of that sum in a sandbox is worth. -/
noncomputable def Tryd.pinned : Pinned := { name := "ytdgmihohmkdpjaadoor", sum := "f86b457a02e655f213e9dcf6df7bc8e8d587930fc6c88d8107064a7dee189386", checked := Tryd.checked }
namespace Rows
def none {H : Type} : Left H := { results := [], args := [] }

/- WHAT THE LISTED PACKAGE-LEVEL VARIABLES READ AS WHEN THE CALL BEGINS. Each datum BY PROGRAM (the guide's laid-datum.mjs) off the statement by which the dump's own 'gosem.cut.vars' lays the variable. In a bare row this is a premise. The card (YtdgmihohmkdpjaaDoorCards.lean) ties it to the program's text. -/
def laid_loop_example_cothreads_impl_instrTable {H : Type} : DataW H := .agg [.agg [.lit (.string [97, 100, 100]), .lit (.int .i64 51), .lit (.int .i64 0), .lit (.int .i64 0)], .agg [.lit (.string [115, 117, 98]), .lit (.int .i64 51), .lit (.int .i64 0), .lit (.int .i64 32)], .agg [.lit (.string [109, 117, 108]), .lit (.int .i64 51), .lit (.int .i64 0), .lit (.int .i64 1)], .agg [.lit (.string [100, 105, 118]), .lit (.int .i64 51), .lit (.int .i64 4), .lit (.int .i64 1)], .agg [.lit (.string [114, 101, 109]), .lit (.int .i64 51), .lit (.int .i64 6), .lit (.int .i64 1)], .agg [.lit (.string [97, 110, 100]), .lit (.int .i64 51), .lit (.int .i64 7), .lit (.int .i64 0)], .agg [.lit (.string [111, 114]), .lit (.int .i64 51), .lit (.int .i64 6), .lit (.int .i64 0)], .agg [.lit (.string [120, 111, 114]), .lit (.int .i64 51), .lit (.int .i64 4), .lit (.int .i64 0)], .agg [.lit (.string [115, 108, 108]), .lit (.int .i64 51), .lit (.int .i64 1), .lit (.int .i64 0)], .agg [.lit (.string [115, 114, 97]), .lit (.int .i64 51), .lit (.int .i64 5), .lit (.int .i64 32)], .agg [.lit (.string [115, 108, 116]), .lit (.int .i64 51), .lit (.int .i64 2), .lit (.int .i64 0)], .agg [.lit (.string [97, 100, 100, 105]), .lit (.int .i64 19), .lit (.int .i64 0), .lit (.int .i64 0)], .agg [.lit (.string [115, 108, 116, 105, 117]), .lit (.int .i64 19), .lit (.int .i64 3), .lit (.int .i64 0)], .agg [.lit (.string [108, 119]), .lit (.int .i64 3), .lit (.int .i64 2), .lit (.int .i64 0)], .agg [.lit (.string [106, 97, 108, 114]), .lit (.int .i64 103), .lit (.int .i64 0), .lit (.int .i64 0)], .agg [.lit (.string [115, 119]), .lit (.int .i64 35), .lit (.int .i64 2), .lit (.int .i64 0)], .agg [.lit (.string [98, 101, 113]), .lit (.int .i64 99), .lit (.int .i64 0), .lit (.int .i64 0)], .agg [.lit (.string [98, 110, 101]), .lit (.int .i64 99), .lit (.int .i64 1), .lit (.int .i64 0)], .agg [.lit (.string [108, 117, 105]), .lit (.int .i64 55), .lit (.int .i64 0), .lit (.int .i64 0)], .agg [.lit (.string [106, 97, 108]), .lit (.int .i64 111), .lit (.int .i64 0), .lit (.int .i64 0)], .agg [.lit (.string [101, 99, 97, 108, 108]), .lit (.int .i64 115), .lit (.int .i64 0), .lit (.int .i64 0)]]
def laid_loop_example_cothreads_impl_machineOps {H : Type} : DataW H := .agg [.lit (.int .i64 8), .lit (.int .i64 9), .lit (.int .i64 10), .lit (.int .i64 11), .lit (.int .i64 12), .lit (.int .i64 3), .lit (.int .i64 1), .lit (.int .i64 2), .lit (.int .i64 6), .lit (.int .i64 7), .lit (.int .i64 5)]

/-- 'laws.FnExactMachineStep': WHATEVER THE INPUT: true; the input reads as it did. -/
def fnExactMachineStepSpec : ChangeSpec := { name := "fnExactMachineStep", vars := ["loop.example/cothreads/impl.machineOps", "loop.example/cothreads/impl.instrTable"], fn := fun _ => fun
  | [d, g1, g2] => { results := [.lit (.bool true)], args := [d], vars := [g1, g2] }
  | _ => none }
def fnExactMachineStepRow : OpenClaim := { program := "ytdgmihohmkdpjaadoor", sum := "f86b457a02e655f213e9dcf6df7bc8e8d587930fc6c88d8107064a7dee189386", func := "loop.example/cothreads/laws.FnExactMachineStep", spec := "fnExactMachineStep", unfollowed := true, recurses := true, named := ["loop.example/cothreads/impl.machineOps", "loop.example/cothreads/impl.instrTable"], apart := false, laid := [("loop.example/cothreads/impl.instrTable", laid_loop_example_cothreads_impl_instrTable), ("loop.example/cothreads/impl.machineOps", laid_loop_example_cothreads_impl_machineOps)] }
def FnExactMachineStepSaid : Prop := fnExactMachineStepRow.holds Tryd.pinned (OpenSpec.ofChange fnExactMachineStepSpec)

/-- ITS FALSE NEIGHBOUR: 'it returns false'. Refute it at one input. -/
def fnExactMachineStepWrong : ChangeSpec := { name := "fnExactMachineStep", vars := ["loop.example/cothreads/impl.machineOps", "loop.example/cothreads/impl.instrTable"], fn := fun _ => fun
  | [d, g1, g2] => { results := [.lit (.bool false)], args := [d], vars := [g1, g2] }
  | _ => none }
def FnExactMachineStepWrongFalsely : Prop := fnExactMachineStepRow.holds Tryd.pinned (OpenSpec.ofChange fnExactMachineStepWrong)

/-- 'laws.FnExactMachineRun': WHATEVER THE INPUT: true; the input reads as it did. -/
def fnExactMachineRunSpec : ChangeSpec := { name := "fnExactMachineRun", vars := ["loop.example/cothreads/impl.machineOps", "loop.example/cothreads/impl.instrTable"], fn := fun _ => fun
  | [d1, d2, g1, g2] => { results := [.lit (.bool true)], args := [d1, d2], vars := [g1, g2] }
  | _ => none }
def fnExactMachineRunRow : OpenClaim := { program := "ytdgmihohmkdpjaadoor", sum := "f86b457a02e655f213e9dcf6df7bc8e8d587930fc6c88d8107064a7dee189386", func := "loop.example/cothreads/laws.FnExactMachineRun", spec := "fnExactMachineRun", unfollowed := true, recurses := true, named := ["loop.example/cothreads/impl.machineOps", "loop.example/cothreads/impl.instrTable"], apart := false, laid := [("loop.example/cothreads/impl.instrTable", laid_loop_example_cothreads_impl_instrTable), ("loop.example/cothreads/impl.machineOps", laid_loop_example_cothreads_impl_machineOps)] }
def FnExactMachineRunSaid : Prop := fnExactMachineRunRow.holds Tryd.pinned (OpenSpec.ofChange fnExactMachineRunSpec)

/-- ITS FALSE NEIGHBOUR: 'it returns false'. Refute it at one input. -/
def fnExactMachineRunWrong : ChangeSpec := { name := "fnExactMachineRun", vars := ["loop.example/cothreads/impl.machineOps", "loop.example/cothreads/impl.instrTable"], fn := fun _ => fun
  | [d1, d2, g1, g2] => { results := [.lit (.bool false)], args := [d1, d2], vars := [g1, g2] }
  | _ => none }
def FnExactMachineRunWrongFalsely : Prop := fnExactMachineRunRow.holds Tryd.pinned (OpenSpec.ofChange fnExactMachineRunWrong)

/-- 'laws.FnMachineNext': WHATEVER THE INPUT: true; the input reads as it did. -/
def fnMachineNextSpec : ChangeSpec := { name := "fnMachineNext", vars := ["loop.example/cothreads/impl.machineOps", "loop.example/cothreads/impl.instrTable"], fn := fun _ => fun
  | [d, g1, g2] => { results := [.lit (.bool true)], args := [d], vars := [g1, g2] }
  | _ => none }
def fnMachineNextRow : OpenClaim := { program := "ytdgmihohmkdpjaadoor", sum := "f86b457a02e655f213e9dcf6df7bc8e8d587930fc6c88d8107064a7dee189386", func := "loop.example/cothreads/laws.FnMachineNext", spec := "fnMachineNext", unfollowed := true, recurses := true, named := ["loop.example/cothreads/impl.machineOps", "loop.example/cothreads/impl.instrTable"], apart := false, laid := [("loop.example/cothreads/impl.instrTable", laid_loop_example_cothreads_impl_instrTable), ("loop.example/cothreads/impl.machineOps", laid_loop_example_cothreads_impl_machineOps)] }
def FnMachineNextSaid : Prop := fnMachineNextRow.holds Tryd.pinned (OpenSpec.ofChange fnMachineNextSpec)

/-- ITS FALSE NEIGHBOUR: 'it returns false'. Refute it at one input. -/
def fnMachineNextWrong : ChangeSpec := { name := "fnMachineNext", vars := ["loop.example/cothreads/impl.machineOps", "loop.example/cothreads/impl.instrTable"], fn := fun _ => fun
  | [d, g1, g2] => { results := [.lit (.bool false)], args := [d], vars := [g1, g2] }
  | _ => none }
def FnMachineNextWrongFalsely : Prop := fnMachineNextRow.holds Tryd.pinned (OpenSpec.ofChange fnMachineNextWrong)

/-- 'laws.FnMachineStep': WHATEVER THE INPUT: true; the input reads as it did. -/
def fnMachineStepSpec : ChangeSpec := { name := "fnMachineStep", vars := ["loop.example/cothreads/impl.machineOps", "loop.example/cothreads/impl.instrTable"], fn := fun _ => fun
  | [d, g1, g2] => { results := [.lit (.bool true)], args := [d], vars := [g1, g2] }
  | _ => none }
def fnMachineStepRow : OpenClaim := { program := "ytdgmihohmkdpjaadoor", sum := "f86b457a02e655f213e9dcf6df7bc8e8d587930fc6c88d8107064a7dee189386", func := "loop.example/cothreads/laws.FnMachineStep", spec := "fnMachineStep", unfollowed := true, recurses := true, named := ["loop.example/cothreads/impl.machineOps", "loop.example/cothreads/impl.instrTable"], apart := false, laid := [("loop.example/cothreads/impl.instrTable", laid_loop_example_cothreads_impl_instrTable), ("loop.example/cothreads/impl.machineOps", laid_loop_example_cothreads_impl_machineOps)] }
def FnMachineStepSaid : Prop := fnMachineStepRow.holds Tryd.pinned (OpenSpec.ofChange fnMachineStepSpec)

/-- ITS FALSE NEIGHBOUR: 'it returns false'. Refute it at one input. -/
def fnMachineStepWrong : ChangeSpec := { name := "fnMachineStep", vars := ["loop.example/cothreads/impl.machineOps", "loop.example/cothreads/impl.instrTable"], fn := fun _ => fun
  | [d, g1, g2] => { results := [.lit (.bool false)], args := [d], vars := [g1, g2] }
  | _ => none }
def FnMachineStepWrongFalsely : Prop := fnMachineStepRow.holds Tryd.pinned (OpenSpec.ofChange fnMachineStepWrong)

/-- 'laws.FnMachineStill': WHATEVER THE INPUT: true; the input reads as it did. -/
def fnMachineStillSpec : ChangeSpec := { name := "fnMachineStill", vars := ["loop.example/cothreads/impl.machineOps", "loop.example/cothreads/impl.instrTable"], fn := fun _ => fun
  | [d, g1, g2] => { results := [.lit (.bool true)], args := [d], vars := [g1, g2] }
  | _ => none }
def fnMachineStillRow : OpenClaim := { program := "ytdgmihohmkdpjaadoor", sum := "f86b457a02e655f213e9dcf6df7bc8e8d587930fc6c88d8107064a7dee189386", func := "loop.example/cothreads/laws.FnMachineStill", spec := "fnMachineStill", unfollowed := true, recurses := true, named := ["loop.example/cothreads/impl.machineOps", "loop.example/cothreads/impl.instrTable"], apart := false, laid := [("loop.example/cothreads/impl.instrTable", laid_loop_example_cothreads_impl_instrTable), ("loop.example/cothreads/impl.machineOps", laid_loop_example_cothreads_impl_machineOps)] }
def FnMachineStillSaid : Prop := fnMachineStillRow.holds Tryd.pinned (OpenSpec.ofChange fnMachineStillSpec)

/-- ITS FALSE NEIGHBOUR: 'it returns false'. Refute it at one input. -/
def fnMachineStillWrong : ChangeSpec := { name := "fnMachineStill", vars := ["loop.example/cothreads/impl.machineOps", "loop.example/cothreads/impl.instrTable"], fn := fun _ => fun
  | [d, g1, g2] => { results := [.lit (.bool false)], args := [d], vars := [g1, g2] }
  | _ => none }
def FnMachineStillWrongFalsely : Prop := fnMachineStillRow.holds Tryd.pinned (OpenSpec.ofChange fnMachineStillWrong)

/-- 'laws.FnMachineDecode': WHATEVER THE INPUT: true; the input reads as it did. -/
def fnMachineDecodeSpec : ChangeSpec := { name := "fnMachineDecode", vars := ["loop.example/cothreads/impl.machineOps", "loop.example/cothreads/impl.instrTable"], fn := fun _ => fun
  | [d, g1, g2] => { results := [.lit (.bool true)], args := [d], vars := [g1, g2] }
  | _ => none }
def fnMachineDecodeRow : OpenClaim := { program := "ytdgmihohmkdpjaadoor", sum := "f86b457a02e655f213e9dcf6df7bc8e8d587930fc6c88d8107064a7dee189386", func := "loop.example/cothreads/laws.FnMachineDecode", spec := "fnMachineDecode", unfollowed := true, recurses := true, named := ["loop.example/cothreads/impl.machineOps", "loop.example/cothreads/impl.instrTable"], apart := false, laid := [("loop.example/cothreads/impl.instrTable", laid_loop_example_cothreads_impl_instrTable), ("loop.example/cothreads/impl.machineOps", laid_loop_example_cothreads_impl_machineOps)] }
def FnMachineDecodeSaid : Prop := fnMachineDecodeRow.holds Tryd.pinned (OpenSpec.ofChange fnMachineDecodeSpec)

/-- ITS FALSE NEIGHBOUR: 'it returns false'. Refute it at one input. -/
def fnMachineDecodeWrong : ChangeSpec := { name := "fnMachineDecode", vars := ["loop.example/cothreads/impl.machineOps", "loop.example/cothreads/impl.instrTable"], fn := fun _ => fun
  | [d, g1, g2] => { results := [.lit (.bool false)], args := [d], vars := [g1, g2] }
  | _ => none }
def FnMachineDecodeWrongFalsely : Prop := fnMachineDecodeRow.holds Tryd.pinned (OpenSpec.ofChange fnMachineDecodeWrong)

/-- 'laws.FnMachineOne': WHATEVER THE INPUT: true; the input reads as it did. -/
def fnMachineOneSpec : ChangeSpec := { name := "fnMachineOne", vars := ["loop.example/cothreads/impl.machineOps", "loop.example/cothreads/impl.instrTable"], fn := fun _ => fun
  | [d, g1, g2] => { results := [.lit (.bool true)], args := [d], vars := [g1, g2] }
  | _ => none }
def fnMachineOneRow : OpenClaim := { program := "ytdgmihohmkdpjaadoor", sum := "f86b457a02e655f213e9dcf6df7bc8e8d587930fc6c88d8107064a7dee189386", func := "loop.example/cothreads/laws.FnMachineOne", spec := "fnMachineOne", unfollowed := true, recurses := true, named := ["loop.example/cothreads/impl.machineOps", "loop.example/cothreads/impl.instrTable"], apart := false, laid := [("loop.example/cothreads/impl.instrTable", laid_loop_example_cothreads_impl_instrTable), ("loop.example/cothreads/impl.machineOps", laid_loop_example_cothreads_impl_machineOps)] }
def FnMachineOneSaid : Prop := fnMachineOneRow.holds Tryd.pinned (OpenSpec.ofChange fnMachineOneSpec)

/-- ITS FALSE NEIGHBOUR: 'it returns false'. Refute it at one input. -/
def fnMachineOneWrong : ChangeSpec := { name := "fnMachineOne", vars := ["loop.example/cothreads/impl.machineOps", "loop.example/cothreads/impl.instrTable"], fn := fun _ => fun
  | [d, g1, g2] => { results := [.lit (.bool false)], args := [d], vars := [g1, g2] }
  | _ => none }
def FnMachineOneWrongFalsely : Prop := fnMachineOneRow.holds Tryd.pinned (OpenSpec.ofChange fnMachineOneWrong)

/-- 'laws.FnMachineAlu': WHATEVER THE INPUT: true; the input reads as it did. -/
def fnMachineAluSpec : ChangeSpec := { name := "fnMachineAlu", vars := ["loop.example/cothreads/impl.machineOps", "loop.example/cothreads/impl.instrTable"], fn := fun _ => fun
  | [d, g1, g2] => { results := [.lit (.bool true)], args := [d], vars := [g1, g2] }
  | _ => none }
def fnMachineAluRow : OpenClaim := { program := "ytdgmihohmkdpjaadoor", sum := "f86b457a02e655f213e9dcf6df7bc8e8d587930fc6c88d8107064a7dee189386", func := "loop.example/cothreads/laws.FnMachineAlu", spec := "fnMachineAlu", unfollowed := true, recurses := true, named := ["loop.example/cothreads/impl.machineOps", "loop.example/cothreads/impl.instrTable"], apart := false, laid := [("loop.example/cothreads/impl.instrTable", laid_loop_example_cothreads_impl_instrTable), ("loop.example/cothreads/impl.machineOps", laid_loop_example_cothreads_impl_machineOps)] }
def FnMachineAluSaid : Prop := fnMachineAluRow.holds Tryd.pinned (OpenSpec.ofChange fnMachineAluSpec)

/-- ITS FALSE NEIGHBOUR: 'it returns false'. Refute it at one input. -/
def fnMachineAluWrong : ChangeSpec := { name := "fnMachineAlu", vars := ["loop.example/cothreads/impl.machineOps", "loop.example/cothreads/impl.instrTable"], fn := fun _ => fun
  | [d, g1, g2] => { results := [.lit (.bool false)], args := [d], vars := [g1, g2] }
  | _ => none }
def FnMachineAluWrongFalsely : Prop := fnMachineAluRow.holds Tryd.pinned (OpenSpec.ofChange fnMachineAluWrong)

/-- 'laws.FnMachineRun': WHATEVER THE INPUT: true; the input reads as it did. -/
def fnMachineRunSpec : ChangeSpec := { name := "fnMachineRun", vars := ["loop.example/cothreads/impl.machineOps", "loop.example/cothreads/impl.instrTable"], fn := fun _ => fun
  | [d1, d2, g1, g2] => { results := [.lit (.bool true)], args := [d1, d2], vars := [g1, g2] }
  | _ => none }
def fnMachineRunRow : OpenClaim := { program := "ytdgmihohmkdpjaadoor", sum := "f86b457a02e655f213e9dcf6df7bc8e8d587930fc6c88d8107064a7dee189386", func := "loop.example/cothreads/laws.FnMachineRun", spec := "fnMachineRun", unfollowed := true, recurses := true, named := ["loop.example/cothreads/impl.machineOps", "loop.example/cothreads/impl.instrTable"], apart := false, laid := [("loop.example/cothreads/impl.instrTable", laid_loop_example_cothreads_impl_instrTable), ("loop.example/cothreads/impl.machineOps", laid_loop_example_cothreads_impl_machineOps)] }
def FnMachineRunSaid : Prop := fnMachineRunRow.holds Tryd.pinned (OpenSpec.ofChange fnMachineRunSpec)

/-- ITS FALSE NEIGHBOUR: 'it returns false'. Refute it at one input. -/
def fnMachineRunWrong : ChangeSpec := { name := "fnMachineRun", vars := ["loop.example/cothreads/impl.machineOps", "loop.example/cothreads/impl.instrTable"], fn := fun _ => fun
  | [d1, d2, g1, g2] => { results := [.lit (.bool false)], args := [d1, d2], vars := [g1, g2] }
  | _ => none }
def FnMachineRunWrongFalsely : Prop := fnMachineRunRow.holds Tryd.pinned (OpenSpec.ofChange fnMachineRunWrong)

/-- 'laws.FnMachineRunOne': WHATEVER THE INPUT: true; the input reads as it did. -/
def fnMachineRunOneSpec : ChangeSpec := { name := "fnMachineRunOne", vars := ["loop.example/cothreads/impl.machineOps", "loop.example/cothreads/impl.instrTable"], fn := fun _ => fun
  | [d, g1, g2] => { results := [.lit (.bool true)], args := [d], vars := [g1, g2] }
  | _ => none }
def fnMachineRunOneRow : OpenClaim := { program := "ytdgmihohmkdpjaadoor", sum := "f86b457a02e655f213e9dcf6df7bc8e8d587930fc6c88d8107064a7dee189386", func := "loop.example/cothreads/laws.FnMachineRunOne", spec := "fnMachineRunOne", unfollowed := true, recurses := true, named := ["loop.example/cothreads/impl.machineOps", "loop.example/cothreads/impl.instrTable"], apart := false, laid := [("loop.example/cothreads/impl.instrTable", laid_loop_example_cothreads_impl_instrTable), ("loop.example/cothreads/impl.machineOps", laid_loop_example_cothreads_impl_machineOps)] }
def FnMachineRunOneSaid : Prop := fnMachineRunOneRow.holds Tryd.pinned (OpenSpec.ofChange fnMachineRunOneSpec)

/-- ITS FALSE NEIGHBOUR: 'it returns false'. Refute it at one input. -/
def fnMachineRunOneWrong : ChangeSpec := { name := "fnMachineRunOne", vars := ["loop.example/cothreads/impl.machineOps", "loop.example/cothreads/impl.instrTable"], fn := fun _ => fun
  | [d, g1, g2] => { results := [.lit (.bool false)], args := [d], vars := [g1, g2] }
  | _ => none }
def FnMachineRunOneWrongFalsely : Prop := fnMachineRunOneRow.holds Tryd.pinned (OpenSpec.ofChange fnMachineRunOneWrong)

/- THE SECOND FORM. 'bulk': how many values and letters a reading holds, each counted each time it is reached (what is shared counts as often as it is met; a slice's spare places count too). A statement '..UptoSaid' is the law's where the arguments, and the package variables that the reading takes, are together of bulk at most 1048576: NARROWER than '..Said'. Prove '..Said' where nothing that the law and all that it calls make is longer than what came in: it says more and counts as full. Else prove '..UptoSaid'. A law counts once. -/
mutual
def uptoBulk {H : Type} : DataW H → Nat
  | .lit (.string bytes) => bytes.length + 1
  | .lit _ => 1
  | .nil => 1
  | .ptr d => uptoBulk d + 1
  | .slice elems spare => uptoBulkAll elems + uptoBulkAll spare + 1
  | .agg parts => uptoBulkAll parts + 1
  | .iface _ d => uptoBulk d + 1
  | .map entries => uptoBulkEntries entries + 1
  | .held _ => 1
def uptoBulkAll {H : Type} : List (DataW H) → Nat
  | [] => 0
  | d :: r => uptoBulk d + uptoBulkAll r
def uptoBulkEntries {H : Type} : List (Lit × DataW H) → Nat
  | [] => 0
  | x :: r => uptoBulkEntry x + uptoBulkEntries r
def uptoBulkEntry {H : Type} : Lit × DataW H → Nat
  | (.string bytes, d) => bytes.length + uptoBulk d + 1
  | (_, d) => uptoBulk d + 1
 end
def uptoSmall : (H : Type) → List (DataW H) → Bool := fun _ ds => decide (uptoBulkAll ds ≤ 1048576)
def OpenSpec.upto (s : _root_.Go.ChangeSpec) : _root_.Go.OpenSpec := { _root_.Go.OpenSpec.ofChange s with cond := some uptoSmall }

/-- 'laws.FnExactMachineStep', WHERE WHAT IT READS IS OF BULK AT MOST 1048576: true; the input reads as it did. -/
def fnExactMachineStepUptoRow : OpenClaim := { program := "ytdgmihohmkdpjaadoor", sum := "f86b457a02e655f213e9dcf6df7bc8e8d587930fc6c88d8107064a7dee189386", func := "loop.example/cothreads/laws.FnExactMachineStep", spec := "fnExactMachineStep", unfollowed := true, recurses := true, named := ["loop.example/cothreads/impl.machineOps", "loop.example/cothreads/impl.instrTable"], apart := false, laid := [("loop.example/cothreads/impl.instrTable", laid_loop_example_cothreads_impl_instrTable), ("loop.example/cothreads/impl.machineOps", laid_loop_example_cothreads_impl_machineOps)], narrowed := true }
def FnExactMachineStepUptoSaid : Prop := fnExactMachineStepUptoRow.holds Tryd.pinned (OpenSpec.upto fnExactMachineStepSpec)

/-- 'laws.FnExactMachineRun', WHERE WHAT IT READS IS OF BULK AT MOST 1048576: true; the input reads as it did. -/
def fnExactMachineRunUptoRow : OpenClaim := { program := "ytdgmihohmkdpjaadoor", sum := "f86b457a02e655f213e9dcf6df7bc8e8d587930fc6c88d8107064a7dee189386", func := "loop.example/cothreads/laws.FnExactMachineRun", spec := "fnExactMachineRun", unfollowed := true, recurses := true, named := ["loop.example/cothreads/impl.machineOps", "loop.example/cothreads/impl.instrTable"], apart := false, laid := [("loop.example/cothreads/impl.instrTable", laid_loop_example_cothreads_impl_instrTable), ("loop.example/cothreads/impl.machineOps", laid_loop_example_cothreads_impl_machineOps)], narrowed := true }
def FnExactMachineRunUptoSaid : Prop := fnExactMachineRunUptoRow.holds Tryd.pinned (OpenSpec.upto fnExactMachineRunSpec)

/-- 'laws.FnMachineNext', WHERE WHAT IT READS IS OF BULK AT MOST 1048576: true; the input reads as it did. -/
def fnMachineNextUptoRow : OpenClaim := { program := "ytdgmihohmkdpjaadoor", sum := "f86b457a02e655f213e9dcf6df7bc8e8d587930fc6c88d8107064a7dee189386", func := "loop.example/cothreads/laws.FnMachineNext", spec := "fnMachineNext", unfollowed := true, recurses := true, named := ["loop.example/cothreads/impl.machineOps", "loop.example/cothreads/impl.instrTable"], apart := false, laid := [("loop.example/cothreads/impl.instrTable", laid_loop_example_cothreads_impl_instrTable), ("loop.example/cothreads/impl.machineOps", laid_loop_example_cothreads_impl_machineOps)], narrowed := true }
def FnMachineNextUptoSaid : Prop := fnMachineNextUptoRow.holds Tryd.pinned (OpenSpec.upto fnMachineNextSpec)

/-- 'laws.FnMachineStep', WHERE WHAT IT READS IS OF BULK AT MOST 1048576: true; the input reads as it did. -/
def fnMachineStepUptoRow : OpenClaim := { program := "ytdgmihohmkdpjaadoor", sum := "f86b457a02e655f213e9dcf6df7bc8e8d587930fc6c88d8107064a7dee189386", func := "loop.example/cothreads/laws.FnMachineStep", spec := "fnMachineStep", unfollowed := true, recurses := true, named := ["loop.example/cothreads/impl.machineOps", "loop.example/cothreads/impl.instrTable"], apart := false, laid := [("loop.example/cothreads/impl.instrTable", laid_loop_example_cothreads_impl_instrTable), ("loop.example/cothreads/impl.machineOps", laid_loop_example_cothreads_impl_machineOps)], narrowed := true }
def FnMachineStepUptoSaid : Prop := fnMachineStepUptoRow.holds Tryd.pinned (OpenSpec.upto fnMachineStepSpec)

/-- 'laws.FnMachineStill', WHERE WHAT IT READS IS OF BULK AT MOST 1048576: true; the input reads as it did. -/
def fnMachineStillUptoRow : OpenClaim := { program := "ytdgmihohmkdpjaadoor", sum := "f86b457a02e655f213e9dcf6df7bc8e8d587930fc6c88d8107064a7dee189386", func := "loop.example/cothreads/laws.FnMachineStill", spec := "fnMachineStill", unfollowed := true, recurses := true, named := ["loop.example/cothreads/impl.machineOps", "loop.example/cothreads/impl.instrTable"], apart := false, laid := [("loop.example/cothreads/impl.instrTable", laid_loop_example_cothreads_impl_instrTable), ("loop.example/cothreads/impl.machineOps", laid_loop_example_cothreads_impl_machineOps)], narrowed := true }
def FnMachineStillUptoSaid : Prop := fnMachineStillUptoRow.holds Tryd.pinned (OpenSpec.upto fnMachineStillSpec)

/-- 'laws.FnMachineDecode', WHERE WHAT IT READS IS OF BULK AT MOST 1048576: true; the input reads as it did. -/
def fnMachineDecodeUptoRow : OpenClaim := { program := "ytdgmihohmkdpjaadoor", sum := "f86b457a02e655f213e9dcf6df7bc8e8d587930fc6c88d8107064a7dee189386", func := "loop.example/cothreads/laws.FnMachineDecode", spec := "fnMachineDecode", unfollowed := true, recurses := true, named := ["loop.example/cothreads/impl.machineOps", "loop.example/cothreads/impl.instrTable"], apart := false, laid := [("loop.example/cothreads/impl.instrTable", laid_loop_example_cothreads_impl_instrTable), ("loop.example/cothreads/impl.machineOps", laid_loop_example_cothreads_impl_machineOps)], narrowed := true }
def FnMachineDecodeUptoSaid : Prop := fnMachineDecodeUptoRow.holds Tryd.pinned (OpenSpec.upto fnMachineDecodeSpec)

/-- 'laws.FnMachineOne', WHERE WHAT IT READS IS OF BULK AT MOST 1048576: true; the input reads as it did. -/
def fnMachineOneUptoRow : OpenClaim := { program := "ytdgmihohmkdpjaadoor", sum := "f86b457a02e655f213e9dcf6df7bc8e8d587930fc6c88d8107064a7dee189386", func := "loop.example/cothreads/laws.FnMachineOne", spec := "fnMachineOne", unfollowed := true, recurses := true, named := ["loop.example/cothreads/impl.machineOps", "loop.example/cothreads/impl.instrTable"], apart := false, laid := [("loop.example/cothreads/impl.instrTable", laid_loop_example_cothreads_impl_instrTable), ("loop.example/cothreads/impl.machineOps", laid_loop_example_cothreads_impl_machineOps)], narrowed := true }
def FnMachineOneUptoSaid : Prop := fnMachineOneUptoRow.holds Tryd.pinned (OpenSpec.upto fnMachineOneSpec)

/-- 'laws.FnMachineAlu', WHERE WHAT IT READS IS OF BULK AT MOST 1048576: true; the input reads as it did. -/
def fnMachineAluUptoRow : OpenClaim := { program := "ytdgmihohmkdpjaadoor", sum := "f86b457a02e655f213e9dcf6df7bc8e8d587930fc6c88d8107064a7dee189386", func := "loop.example/cothreads/laws.FnMachineAlu", spec := "fnMachineAlu", unfollowed := true, recurses := true, named := ["loop.example/cothreads/impl.machineOps", "loop.example/cothreads/impl.instrTable"], apart := false, laid := [("loop.example/cothreads/impl.instrTable", laid_loop_example_cothreads_impl_instrTable), ("loop.example/cothreads/impl.machineOps", laid_loop_example_cothreads_impl_machineOps)], narrowed := true }
def FnMachineAluUptoSaid : Prop := fnMachineAluUptoRow.holds Tryd.pinned (OpenSpec.upto fnMachineAluSpec)

/-- 'laws.FnMachineRun', WHERE WHAT IT READS IS OF BULK AT MOST 1048576: true; the input reads as it did. -/
def fnMachineRunUptoRow : OpenClaim := { program := "ytdgmihohmkdpjaadoor", sum := "f86b457a02e655f213e9dcf6df7bc8e8d587930fc6c88d8107064a7dee189386", func := "loop.example/cothreads/laws.FnMachineRun", spec := "fnMachineRun", unfollowed := true, recurses := true, named := ["loop.example/cothreads/impl.machineOps", "loop.example/cothreads/impl.instrTable"], apart := false, laid := [("loop.example/cothreads/impl.instrTable", laid_loop_example_cothreads_impl_instrTable), ("loop.example/cothreads/impl.machineOps", laid_loop_example_cothreads_impl_machineOps)], narrowed := true }
def FnMachineRunUptoSaid : Prop := fnMachineRunUptoRow.holds Tryd.pinned (OpenSpec.upto fnMachineRunSpec)

/-- 'laws.FnMachineRunOne', WHERE WHAT IT READS IS OF BULK AT MOST 1048576: true; the input reads as it did. -/
def fnMachineRunOneUptoRow : OpenClaim := { program := "ytdgmihohmkdpjaadoor", sum := "f86b457a02e655f213e9dcf6df7bc8e8d587930fc6c88d8107064a7dee189386", func := "loop.example/cothreads/laws.FnMachineRunOne", spec := "fnMachineRunOne", unfollowed := true, recurses := true, named := ["loop.example/cothreads/impl.machineOps", "loop.example/cothreads/impl.instrTable"], apart := false, laid := [("loop.example/cothreads/impl.instrTable", laid_loop_example_cothreads_impl_instrTable), ("loop.example/cothreads/impl.machineOps", laid_loop_example_cothreads_impl_machineOps)], narrowed := true }
def FnMachineRunOneUptoSaid : Prop := fnMachineRunOneUptoRow.holds Tryd.pinned (OpenSpec.upto fnMachineRunOneSpec)

end Rows
end Go.Proofs.YtdgmihohmkdpjaaDoor
