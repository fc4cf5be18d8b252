/-
  No cell of these rows narrows 'for every input' (looked for: loops, veiled, ifaces, maps, wideKeys, modest, calm, conditions, laid).
  DERIVED. THE GIVEN ROWS OF THIS SEAT. 21 by the template 'for every input the law returns true; each argument reads behind the call as it read before'; 0 by the template 'total and deterministic' (their statements: YtfgedlbkgcejhaaTotals.lean).
  GIVEN WITH THE SEED: the statements are not yours to turn. If you find one false, say at which input.
  Laid BY PROGRAM, IN A SANDBOX (cutbox-rows.mjs): the forced cells as the released guide's own fill.sh prints them over the translation f3b979bb11aef69f… (all of the seat's roots in one cut). By AI agents, Wed Nov 11 2026. No macro, syntax, notation, axiom, sorry.
-/
import Derived.Test.YtfgedlbkgcejhaaChecked
import GoSem.Claim
import GoSem.ClaimJoined
import GoSem.ClaimMapViews
import Derived.JoinedTies
import Derived.KernelRfl
namespace Go.Proofs.Ytfgedlbkgcejhaa
/- THE CELL 'sum', in the pinned program and in every row, IS THE sha256 OF THE DUMP (.gsa) THAT YtfgedlbkgcejhaaProg.lean LOADS. Nothing in Lean hashes anything: it is a label: what it is worth is what the hold of that sum in a sandbox is worth. -/
noncomputable def Try.pinned : Pinned := { name := "ytfgedlbkgcejhaa", sum := "f3b979bb11aef69fb702a7e97bf6ed4c22588455541c1f0cfbf3b762ab358530", checked := Try.checked }
namespace Rows
def none {H : Type} : Left H := { results := [], args := [] }

/-- 'laws.FnThreadExpr': WHATEVER THE INPUT: true; the input reads as it did. -/
def fnThreadExprSpec : ChangeSpec := { name := "fnThreadExpr", fn := fun _ => fun
  | [d1, d2] => { results := [.lit (.bool true)], args := [d1, d2] }
  | _ => none }
def fnThreadExprRow : OpenClaim := { program := "ytfgedlbkgcejhaa", sum := "f3b979bb11aef69fb702a7e97bf6ed4c22588455541c1f0cfbf3b762ab358530", func := "loop.example/cothreads/laws.FnThreadExpr", spec := "fnThreadExpr", recurses := true, apart := false }
def FnThreadExprSaid : Prop := fnThreadExprRow.holds Try.pinned (OpenSpec.ofChange fnThreadExprSpec)

/-- ITS FALSE NEIGHBOUR: 'it returns false'. Refute it at one input. -/
def fnThreadExprWrong : ChangeSpec := { name := "fnThreadExpr", fn := fun _ => fun
  | [d1, d2] => { results := [.lit (.bool false)], args := [d1, d2] }
  | _ => none }
def FnThreadExprWrongFalsely : Prop := fnThreadExprRow.holds Try.pinned (OpenSpec.ofChange fnThreadExprWrong)

/-- 'laws.FnWorldRest': WHATEVER THE INPUT: true; the input reads as it did. -/
def fnWorldRestSpec : ChangeSpec := { name := "fnWorldRest", fn := fun _ => fun
  | [d1, d2] => { results := [.lit (.bool true)], args := [d1, d2] }
  | _ => none }
def fnWorldRestRow : OpenClaim := { program := "ytfgedlbkgcejhaa", sum := "f3b979bb11aef69fb702a7e97bf6ed4c22588455541c1f0cfbf3b762ab358530", func := "loop.example/cothreads/laws.FnWorldRest", spec := "fnWorldRest", unfollowed := true, recurses := true, apart := false }
def FnWorldRestSaid : Prop := fnWorldRestRow.holds Try.pinned (OpenSpec.ofChange fnWorldRestSpec)

/-- ITS FALSE NEIGHBOUR: 'it returns false'. Refute it at one input. -/
def fnWorldRestWrong : ChangeSpec := { name := "fnWorldRest", fn := fun _ => fun
  | [d1, d2] => { results := [.lit (.bool false)], args := [d1, d2] }
  | _ => none }
def FnWorldRestWrongFalsely : Prop := fnWorldRestRow.holds Try.pinned (OpenSpec.ofChange fnWorldRestWrong)

/-- 'laws.FnWorldRestWhy': WHATEVER THE INPUT: true; the input reads as it did. -/
def fnWorldRestWhySpec : ChangeSpec := { name := "fnWorldRestWhy", fn := fun _ => fun
  | [d] => { results := [.lit (.bool true)], args := [d] }
  | _ => none }
def fnWorldRestWhyRow : OpenClaim := { program := "ytfgedlbkgcejhaa", sum := "f3b979bb11aef69fb702a7e97bf6ed4c22588455541c1f0cfbf3b762ab358530", func := "loop.example/cothreads/laws.FnWorldRestWhy", spec := "fnWorldRestWhy", unfollowed := true, recurses := true, apart := false }
def FnWorldRestWhySaid : Prop := fnWorldRestWhyRow.holds Try.pinned (OpenSpec.ofChange fnWorldRestWhySpec)

/-- ITS FALSE NEIGHBOUR: 'it returns false'. Refute it at one input. -/
def fnWorldRestWhyWrong : ChangeSpec := { name := "fnWorldRestWhy", fn := fun _ => fun
  | [d] => { results := [.lit (.bool false)], args := [d] }
  | _ => none }
def FnWorldRestWhyWrongFalsely : Prop := fnWorldRestWhyRow.holds Try.pinned (OpenSpec.ofChange fnWorldRestWhyWrong)

/-- 'laws.FnWorldAlone': WHATEVER THE INPUT: true; the input reads as it did. -/
def fnWorldAloneSpec : ChangeSpec := { name := "fnWorldAlone", fn := fun _ => fun
  | [d] => { results := [.lit (.bool true)], args := [d] }
  | _ => none }
def fnWorldAloneRow : OpenClaim := { program := "ytfgedlbkgcejhaa", sum := "f3b979bb11aef69fb702a7e97bf6ed4c22588455541c1f0cfbf3b762ab358530", func := "loop.example/cothreads/laws.FnWorldAlone", spec := "fnWorldAlone", unfollowed := true, recurses := true, apart := false }
def FnWorldAloneSaid : Prop := fnWorldAloneRow.holds Try.pinned (OpenSpec.ofChange fnWorldAloneSpec)

/-- ITS FALSE NEIGHBOUR: 'it returns false'. Refute it at one input. -/
def fnWorldAloneWrong : ChangeSpec := { name := "fnWorldAlone", fn := fun _ => fun
  | [d] => { results := [.lit (.bool false)], args := [d] }
  | _ => none }
def FnWorldAloneWrongFalsely : Prop := fnWorldAloneRow.holds Try.pinned (OpenSpec.ofChange fnWorldAloneWrong)

/-- 'laws.FnTraceRest': WHATEVER THE INPUT: true; the input reads as it did. -/
def fnTraceRestSpec : ChangeSpec := { name := "fnTraceRest", fn := fun _ => fun
  | [d] => { results := [.lit (.bool true)], args := [d] }
  | _ => none }
def fnTraceRestRow : OpenClaim := { program := "ytfgedlbkgcejhaa", sum := "f3b979bb11aef69fb702a7e97bf6ed4c22588455541c1f0cfbf3b762ab358530", func := "loop.example/cothreads/laws.FnTraceRest", spec := "fnTraceRest", unfollowed := true, recurses := true, apart := false }
def FnTraceRestSaid : Prop := fnTraceRestRow.holds Try.pinned (OpenSpec.ofChange fnTraceRestSpec)

/-- ITS FALSE NEIGHBOUR: 'it returns false'. Refute it at one input. -/
def fnTraceRestWrong : ChangeSpec := { name := "fnTraceRest", fn := fun _ => fun
  | [d] => { results := [.lit (.bool false)], args := [d] }
  | _ => none }
def FnTraceRestWrongFalsely : Prop := fnTraceRestRow.holds Try.pinned (OpenSpec.ofChange fnTraceRestWrong)

/-- 'laws.FnWorldPlain': WHATEVER THE INPUT: true; the input reads as it did. -/
def fnWorldPlainSpec : ChangeSpec := { name := "fnWorldPlain", fn := fun _ => fun
  | [d] => { results := [.lit (.bool true)], args := [d] }
  | _ => none }
def fnWorldPlainRow : OpenClaim := { program := "ytfgedlbkgcejhaa", sum := "f3b979bb11aef69fb702a7e97bf6ed4c22588455541c1f0cfbf3b762ab358530", func := "loop.example/cothreads/laws.FnWorldPlain", spec := "fnWorldPlain", unfollowed := true, recurses := true, apart := false }
def FnWorldPlainSaid : Prop := fnWorldPlainRow.holds Try.pinned (OpenSpec.ofChange fnWorldPlainSpec)

/-- ITS FALSE NEIGHBOUR: 'it returns false'. Refute it at one input. -/
def fnWorldPlainWrong : ChangeSpec := { name := "fnWorldPlain", fn := fun _ => fun
  | [d] => { results := [.lit (.bool false)], args := [d] }
  | _ => none }
def FnWorldPlainWrongFalsely : Prop := fnWorldPlainRow.holds Try.pinned (OpenSpec.ofChange fnWorldPlainWrong)

/-- 'laws.FnWorldYield': WHATEVER THE INPUT: true; the input reads as it did. -/
def fnWorldYieldSpec : ChangeSpec := { name := "fnWorldYield", fn := fun _ => fun
  | [d] => { results := [.lit (.bool true)], args := [d] }
  | _ => none }
def fnWorldYieldRow : OpenClaim := { program := "ytfgedlbkgcejhaa", sum := "f3b979bb11aef69fb702a7e97bf6ed4c22588455541c1f0cfbf3b762ab358530", func := "loop.example/cothreads/laws.FnWorldYield", spec := "fnWorldYield", unfollowed := true, recurses := true, apart := false }
def FnWorldYieldSaid : Prop := fnWorldYieldRow.holds Try.pinned (OpenSpec.ofChange fnWorldYieldSpec)

/-- ITS FALSE NEIGHBOUR: 'it returns false'. Refute it at one input. -/
def fnWorldYieldWrong : ChangeSpec := { name := "fnWorldYield", fn := fun _ => fun
  | [d] => { results := [.lit (.bool false)], args := [d] }
  | _ => none }
def FnWorldYieldWrongFalsely : Prop := fnWorldYieldRow.holds Try.pinned (OpenSpec.ofChange fnWorldYieldWrong)

/-- 'laws.FnStep': WHATEVER THE INPUT: true; the input reads as it did. -/
def fnStepSpec : ChangeSpec := { name := "fnStep", fn := fun _ => fun
  | [d] => { results := [.lit (.bool true)], args := [d] }
  | _ => none }
def fnStepRow : OpenClaim := { program := "ytfgedlbkgcejhaa", sum := "f3b979bb11aef69fb702a7e97bf6ed4c22588455541c1f0cfbf3b762ab358530", func := "loop.example/cothreads/laws.FnStep", spec := "fnStep", unfollowed := true, recurses := true, apart := false }
def FnStepSaid : Prop := fnStepRow.holds Try.pinned (OpenSpec.ofChange fnStepSpec)

/-- ITS FALSE NEIGHBOUR: 'it returns false'. Refute it at one input. -/
def fnStepWrong : ChangeSpec := { name := "fnStep", fn := fun _ => fun
  | [d] => { results := [.lit (.bool false)], args := [d] }
  | _ => none }
def FnStepWrongFalsely : Prop := fnStepRow.holds Try.pinned (OpenSpec.ofChange fnStepWrong)

/-- 'laws.FnStepEnd': WHATEVER THE INPUT: true; the input reads as it did. -/
def fnStepEndSpec : ChangeSpec := { name := "fnStepEnd", fn := fun _ => fun
  | [d] => { results := [.lit (.bool true)], args := [d] }
  | _ => none }
def fnStepEndRow : OpenClaim := { program := "ytfgedlbkgcejhaa", sum := "f3b979bb11aef69fb702a7e97bf6ed4c22588455541c1f0cfbf3b762ab358530", func := "loop.example/cothreads/laws.FnStepEnd", spec := "fnStepEnd", unfollowed := true, recurses := true, apart := false }
def FnStepEndSaid : Prop := fnStepEndRow.holds Try.pinned (OpenSpec.ofChange fnStepEndSpec)

/-- ITS FALSE NEIGHBOUR: 'it returns false'. Refute it at one input. -/
def fnStepEndWrong : ChangeSpec := { name := "fnStepEnd", fn := fun _ => fun
  | [d] => { results := [.lit (.bool false)], args := [d] }
  | _ => none }
def FnStepEndWrongFalsely : Prop := fnStepEndRow.holds Try.pinned (OpenSpec.ofChange fnStepEndWrong)

/-- 'laws.FnStepRest': WHATEVER THE INPUT: true; the input reads as it did. -/
def fnStepRestSpec : ChangeSpec := { name := "fnStepRest", fn := fun _ => fun
  | [d] => { results := [.lit (.bool true)], args := [d] }
  | _ => none }
def fnStepRestRow : OpenClaim := { program := "ytfgedlbkgcejhaa", sum := "f3b979bb11aef69fb702a7e97bf6ed4c22588455541c1f0cfbf3b762ab358530", func := "loop.example/cothreads/laws.FnStepRest", spec := "fnStepRest", unfollowed := true, recurses := true, apart := false }
def FnStepRestSaid : Prop := fnStepRestRow.holds Try.pinned (OpenSpec.ofChange fnStepRestSpec)

/-- ITS FALSE NEIGHBOUR: 'it returns false'. Refute it at one input. -/
def fnStepRestWrong : ChangeSpec := { name := "fnStepRest", fn := fun _ => fun
  | [d] => { results := [.lit (.bool false)], args := [d] }
  | _ => none }
def FnStepRestWrongFalsely : Prop := fnStepRestRow.holds Try.pinned (OpenSpec.ofChange fnStepRestWrong)

/-- 'laws.FnStepStill': WHATEVER THE INPUT: true; the input reads as it did. -/
def fnStepStillSpec : ChangeSpec := { name := "fnStepStill", fn := fun _ => fun
  | [d] => { results := [.lit (.bool true)], args := [d] }
  | _ => none }
def fnStepStillRow : OpenClaim := { program := "ytfgedlbkgcejhaa", sum := "f3b979bb11aef69fb702a7e97bf6ed4c22588455541c1f0cfbf3b762ab358530", func := "loop.example/cothreads/laws.FnStepStill", spec := "fnStepStill", unfollowed := true, recurses := true, apart := false }
def FnStepStillSaid : Prop := fnStepStillRow.holds Try.pinned (OpenSpec.ofChange fnStepStillSpec)

/-- ITS FALSE NEIGHBOUR: 'it returns false'. Refute it at one input. -/
def fnStepStillWrong : ChangeSpec := { name := "fnStepStill", fn := fun _ => fun
  | [d] => { results := [.lit (.bool false)], args := [d] }
  | _ => none }
def FnStepStillWrongFalsely : Prop := fnStepStillRow.holds Try.pinned (OpenSpec.ofChange fnStepStillWrong)

/-- 'laws.FnStepWait': WHATEVER THE INPUT: true; the input reads as it did. -/
def fnStepWaitSpec : ChangeSpec := { name := "fnStepWait", fn := fun _ => fun
  | [d] => { results := [.lit (.bool true)], args := [d] }
  | _ => none }
def fnStepWaitRow : OpenClaim := { program := "ytfgedlbkgcejhaa", sum := "f3b979bb11aef69fb702a7e97bf6ed4c22588455541c1f0cfbf3b762ab358530", func := "loop.example/cothreads/laws.FnStepWait", spec := "fnStepWait", unfollowed := true, recurses := true, apart := false }
def FnStepWaitSaid : Prop := fnStepWaitRow.holds Try.pinned (OpenSpec.ofChange fnStepWaitSpec)

/-- ITS FALSE NEIGHBOUR: 'it returns false'. Refute it at one input. -/
def fnStepWaitWrong : ChangeSpec := { name := "fnStepWait", fn := fun _ => fun
  | [d] => { results := [.lit (.bool false)], args := [d] }
  | _ => none }
def FnStepWaitWrongFalsely : Prop := fnStepWaitRow.holds Try.pinned (OpenSpec.ofChange fnStepWaitWrong)

/-- 'laws.FnStepIf': WHATEVER THE INPUT: true; the input reads as it did. -/
def fnStepIfSpec : ChangeSpec := { name := "fnStepIf", fn := fun _ => fun
  | [d] => { results := [.lit (.bool true)], args := [d] }
  | _ => none }
def fnStepIfRow : OpenClaim := { program := "ytfgedlbkgcejhaa", sum := "f3b979bb11aef69fb702a7e97bf6ed4c22588455541c1f0cfbf3b762ab358530", func := "loop.example/cothreads/laws.FnStepIf", spec := "fnStepIf", unfollowed := true, recurses := true, apart := false }
def FnStepIfSaid : Prop := fnStepIfRow.holds Try.pinned (OpenSpec.ofChange fnStepIfSpec)

/-- ITS FALSE NEIGHBOUR: 'it returns false'. Refute it at one input. -/
def fnStepIfWrong : ChangeSpec := { name := "fnStepIf", fn := fun _ => fun
  | [d] => { results := [.lit (.bool false)], args := [d] }
  | _ => none }
def FnStepIfWrongFalsely : Prop := fnStepIfRow.holds Try.pinned (OpenSpec.ofChange fnStepIfWrong)

/-- 'laws.FnStepPrint': WHATEVER THE INPUT: true; the input reads as it did. -/
def fnStepPrintSpec : ChangeSpec := { name := "fnStepPrint", fn := fun _ => fun
  | [d] => { results := [.lit (.bool true)], args := [d] }
  | _ => none }
def fnStepPrintRow : OpenClaim := { program := "ytfgedlbkgcejhaa", sum := "f3b979bb11aef69fb702a7e97bf6ed4c22588455541c1f0cfbf3b762ab358530", func := "loop.example/cothreads/laws.FnStepPrint", spec := "fnStepPrint", unfollowed := true, recurses := true, apart := false }
def FnStepPrintSaid : Prop := fnStepPrintRow.holds Try.pinned (OpenSpec.ofChange fnStepPrintSpec)

/-- ITS FALSE NEIGHBOUR: 'it returns false'. Refute it at one input. -/
def fnStepPrintWrong : ChangeSpec := { name := "fnStepPrint", fn := fun _ => fun
  | [d] => { results := [.lit (.bool false)], args := [d] }
  | _ => none }
def FnStepPrintWrongFalsely : Prop := fnStepPrintRow.holds Try.pinned (OpenSpec.ofChange fnStepPrintWrong)

/-- 'laws.FnStepSet': WHATEVER THE INPUT: true; the input reads as it did. -/
def fnStepSetSpec : ChangeSpec := { name := "fnStepSet", fn := fun _ => fun
  | [d] => { results := [.lit (.bool true)], args := [d] }
  | _ => none }
def fnStepSetRow : OpenClaim := { program := "ytfgedlbkgcejhaa", sum := "f3b979bb11aef69fb702a7e97bf6ed4c22588455541c1f0cfbf3b762ab358530", func := "loop.example/cothreads/laws.FnStepSet", spec := "fnStepSet", unfollowed := true, recurses := true, apart := false }
def FnStepSetSaid : Prop := fnStepSetRow.holds Try.pinned (OpenSpec.ofChange fnStepSetSpec)

/-- ITS FALSE NEIGHBOUR: 'it returns false'. Refute it at one input. -/
def fnStepSetWrong : ChangeSpec := { name := "fnStepSet", fn := fun _ => fun
  | [d] => { results := [.lit (.bool false)], args := [d] }
  | _ => none }
def FnStepSetWrongFalsely : Prop := fnStepSetRow.holds Try.pinned (OpenSpec.ofChange fnStepSetWrong)

/-- 'laws.FnStepWhile': WHATEVER THE INPUT: true; the input reads as it did. -/
def fnStepWhileSpec : ChangeSpec := { name := "fnStepWhile", fn := fun _ => fun
  | [d] => { results := [.lit (.bool true)], args := [d] }
  | _ => none }
def fnStepWhileRow : OpenClaim := { program := "ytfgedlbkgcejhaa", sum := "f3b979bb11aef69fb702a7e97bf6ed4c22588455541c1f0cfbf3b762ab358530", func := "loop.example/cothreads/laws.FnStepWhile", spec := "fnStepWhile", unfollowed := true, recurses := true, apart := false }
def FnStepWhileSaid : Prop := fnStepWhileRow.holds Try.pinned (OpenSpec.ofChange fnStepWhileSpec)

/-- ITS FALSE NEIGHBOUR: 'it returns false'. Refute it at one input. -/
def fnStepWhileWrong : ChangeSpec := { name := "fnStepWhile", fn := fun _ => fun
  | [d] => { results := [.lit (.bool false)], args := [d] }
  | _ => none }
def FnStepWhileWrongFalsely : Prop := fnStepWhileRow.holds Try.pinned (OpenSpec.ofChange fnStepWhileWrong)

/-- 'laws.FnWorldNames': WHATEVER THE INPUT: true; the input reads as it did. -/
def fnWorldNamesSpec : ChangeSpec := { name := "fnWorldNames", fn := fun _ => fun
  | [d] => { results := [.lit (.bool true)], args := [d] }
  | _ => none }
def fnWorldNamesRow : OpenClaim := { program := "ytfgedlbkgcejhaa", sum := "f3b979bb11aef69fb702a7e97bf6ed4c22588455541c1f0cfbf3b762ab358530", func := "loop.example/cothreads/laws.FnWorldNames", spec := "fnWorldNames", unfollowed := true, recurses := true, apart := false }
def FnWorldNamesSaid : Prop := fnWorldNamesRow.holds Try.pinned (OpenSpec.ofChange fnWorldNamesSpec)

/-- ITS FALSE NEIGHBOUR: 'it returns false'. Refute it at one input. -/
def fnWorldNamesWrong : ChangeSpec := { name := "fnWorldNames", fn := fun _ => fun
  | [d] => { results := [.lit (.bool false)], args := [d] }
  | _ => none }
def FnWorldNamesWrongFalsely : Prop := fnWorldNamesRow.holds Try.pinned (OpenSpec.ofChange fnWorldNamesWrong)

/-- 'laws.FnTraceFold': WHATEVER THE INPUT: true; the input reads as it did. -/
def fnTraceFoldSpec : ChangeSpec := { name := "fnTraceFold", fn := fun _ => fun
  | [d] => { results := [.lit (.bool true)], args := [d] }
  | _ => none }
def fnTraceFoldRow : OpenClaim := { program := "ytfgedlbkgcejhaa", sum := "f3b979bb11aef69fb702a7e97bf6ed4c22588455541c1f0cfbf3b762ab358530", func := "loop.example/cothreads/laws.FnTraceFold", spec := "fnTraceFold", unfollowed := true, recurses := true, apart := false }
def FnTraceFoldSaid : Prop := fnTraceFoldRow.holds Try.pinned (OpenSpec.ofChange fnTraceFoldSpec)

/-- ITS FALSE NEIGHBOUR: 'it returns false'. Refute it at one input. -/
def fnTraceFoldWrong : ChangeSpec := { name := "fnTraceFold", fn := fun _ => fun
  | [d] => { results := [.lit (.bool false)], args := [d] }
  | _ => none }
def FnTraceFoldWrongFalsely : Prop := fnTraceFoldRow.holds Try.pinned (OpenSpec.ofChange fnTraceFoldWrong)

/-- 'laws.FnStepRecv': WHATEVER THE INPUT: true; the input reads as it did. -/
def fnStepRecvSpec : ChangeSpec := { name := "fnStepRecv", fn := fun _ => fun
  | [d] => { results := [.lit (.bool true)], args := [d] }
  | _ => none }
def fnStepRecvRow : OpenClaim := { program := "ytfgedlbkgcejhaa", sum := "f3b979bb11aef69fb702a7e97bf6ed4c22588455541c1f0cfbf3b762ab358530", func := "loop.example/cothreads/laws.FnStepRecv", spec := "fnStepRecv", unfollowed := true, recurses := true, apart := false }
def FnStepRecvSaid : Prop := fnStepRecvRow.holds Try.pinned (OpenSpec.ofChange fnStepRecvSpec)

/-- ITS FALSE NEIGHBOUR: 'it returns false'. Refute it at one input. -/
def fnStepRecvWrong : ChangeSpec := { name := "fnStepRecv", fn := fun _ => fun
  | [d] => { results := [.lit (.bool false)], args := [d] }
  | _ => none }
def FnStepRecvWrongFalsely : Prop := fnStepRecvRow.holds Try.pinned (OpenSpec.ofChange fnStepRecvWrong)

/-- 'laws.FnWorldFold': WHATEVER THE INPUT: true; the input reads as it did. -/
def fnWorldFoldSpec : ChangeSpec := { name := "fnWorldFold", fn := fun _ => fun
  | [d] => { results := [.lit (.bool true)], args := [d] }
  | _ => none }
def fnWorldFoldRow : OpenClaim := { program := "ytfgedlbkgcejhaa", sum := "f3b979bb11aef69fb702a7e97bf6ed4c22588455541c1f0cfbf3b762ab358530", func := "loop.example/cothreads/laws.FnWorldFold", spec := "fnWorldFold", unfollowed := true, recurses := true, apart := false }
def FnWorldFoldSaid : Prop := fnWorldFoldRow.holds Try.pinned (OpenSpec.ofChange fnWorldFoldSpec)

/-- ITS FALSE NEIGHBOUR: 'it returns false'. Refute it at one input. -/
def fnWorldFoldWrong : ChangeSpec := { name := "fnWorldFold", fn := fun _ => fun
  | [d] => { results := [.lit (.bool false)], args := [d] }
  | _ => none }
def FnWorldFoldWrongFalsely : Prop := fnWorldFoldRow.holds Try.pinned (OpenSpec.ofChange fnWorldFoldWrong)

/-- 'laws.FnStepSend': WHATEVER THE INPUT: true; the input reads as it did. -/
def fnStepSendSpec : ChangeSpec := { name := "fnStepSend", fn := fun _ => fun
  | [d] => { results := [.lit (.bool true)], args := [d] }
  | _ => none }
def fnStepSendRow : OpenClaim := { program := "ytfgedlbkgcejhaa", sum := "f3b979bb11aef69fb702a7e97bf6ed4c22588455541c1f0cfbf3b762ab358530", func := "loop.example/cothreads/laws.FnStepSend", spec := "fnStepSend", unfollowed := true, recurses := true, apart := false }
def FnStepSendSaid : Prop := fnStepSendRow.holds Try.pinned (OpenSpec.ofChange fnStepSendSpec)

/-- ITS FALSE NEIGHBOUR: 'it returns false'. Refute it at one input. -/
def fnStepSendWrong : ChangeSpec := { name := "fnStepSend", fn := fun _ => fun
  | [d] => { results := [.lit (.bool false)], args := [d] }
  | _ => none }
def FnStepSendWrongFalsely : Prop := fnStepSendRow.holds Try.pinned (OpenSpec.ofChange fnStepSendWrong)

/- THE SECOND FORM. 'bulk': how many values and letters a reading holds, each counted each time it is reached (what is shared counts as often as it is met; a slice's spare places count too). A statement '..UptoSaid' is the law's where the arguments, and the package variables that the reading takes, are together of bulk at most 1048576: NARROWER than '..Said'. Prove '..Said' where nothing that the law and all that it calls make is longer than what came in: it says more and counts as full. Else prove '..UptoSaid'. A law counts once. -/
mutual
def uptoBulk {H : Type} : DataW H → Nat
  | .lit (.string bytes) => bytes.length + 1
  | .lit _ => 1
  | .nil => 1
  | .ptr d => uptoBulk d + 1
  | .slice elems spare => uptoBulkAll elems + uptoBulkAll spare + 1
  | .agg parts => uptoBulkAll parts + 1
  | .iface _ d => uptoBulk d + 1
  | .map entries => uptoBulkEntries entries + 1
  | .held _ => 1
def uptoBulkAll {H : Type} : List (DataW H) → Nat
  | [] => 0
  | d :: r => uptoBulk d + uptoBulkAll r
def uptoBulkEntries {H : Type} : List (Lit × DataW H) → Nat
  | [] => 0
  | x :: r => uptoBulkEntry x + uptoBulkEntries r
def uptoBulkEntry {H : Type} : Lit × DataW H → Nat
  | (.string bytes, d) => bytes.length + uptoBulk d + 1
  | (_, d) => uptoBulk d + 1
 end
def uptoSmall : (H : Type) → List (DataW H) → Bool := fun _ ds => decide (uptoBulkAll ds ≤ 1048576)
def OpenSpec.upto (s : _root_.Go.ChangeSpec) : _root_.Go.OpenSpec := { _root_.Go.OpenSpec.ofChange s with cond := some uptoSmall }

/-- 'laws.FnThreadExpr', WHERE WHAT IT READS IS OF BULK AT MOST 1048576: true; the input reads as it did. -/
def fnThreadExprUptoRow : OpenClaim := { program := "ytfgedlbkgcejhaa", sum := "f3b979bb11aef69fb702a7e97bf6ed4c22588455541c1f0cfbf3b762ab358530", func := "loop.example/cothreads/laws.FnThreadExpr", spec := "fnThreadExpr", recurses := true, apart := false, narrowed := true }
def FnThreadExprUptoSaid : Prop := fnThreadExprUptoRow.holds Try.pinned (OpenSpec.upto fnThreadExprSpec)

/-- 'laws.FnWorldRest', WHERE WHAT IT READS IS OF BULK AT MOST 1048576: true; the input reads as it did. -/
def fnWorldRestUptoRow : OpenClaim := { program := "ytfgedlbkgcejhaa", sum := "f3b979bb11aef69fb702a7e97bf6ed4c22588455541c1f0cfbf3b762ab358530", func := "loop.example/cothreads/laws.FnWorldRest", spec := "fnWorldRest", unfollowed := true, recurses := true, apart := false, narrowed := true }
def FnWorldRestUptoSaid : Prop := fnWorldRestUptoRow.holds Try.pinned (OpenSpec.upto fnWorldRestSpec)

/-- 'laws.FnWorldRestWhy', WHERE WHAT IT READS IS OF BULK AT MOST 1048576: true; the input reads as it did. -/
def fnWorldRestWhyUptoRow : OpenClaim := { program := "ytfgedlbkgcejhaa", sum := "f3b979bb11aef69fb702a7e97bf6ed4c22588455541c1f0cfbf3b762ab358530", func := "loop.example/cothreads/laws.FnWorldRestWhy", spec := "fnWorldRestWhy", unfollowed := true, recurses := true, apart := false, narrowed := true }
def FnWorldRestWhyUptoSaid : Prop := fnWorldRestWhyUptoRow.holds Try.pinned (OpenSpec.upto fnWorldRestWhySpec)

/-- 'laws.FnWorldAlone', WHERE WHAT IT READS IS OF BULK AT MOST 1048576: true; the input reads as it did. -/
def fnWorldAloneUptoRow : OpenClaim := { program := "ytfgedlbkgcejhaa", sum := "f3b979bb11aef69fb702a7e97bf6ed4c22588455541c1f0cfbf3b762ab358530", func := "loop.example/cothreads/laws.FnWorldAlone", spec := "fnWorldAlone", unfollowed := true, recurses := true, apart := false, narrowed := true }
def FnWorldAloneUptoSaid : Prop := fnWorldAloneUptoRow.holds Try.pinned (OpenSpec.upto fnWorldAloneSpec)

/-- 'laws.FnTraceRest', WHERE WHAT IT READS IS OF BULK AT MOST 1048576: true; the input reads as it did. -/
def fnTraceRestUptoRow : OpenClaim := { program := "ytfgedlbkgcejhaa", sum := "f3b979bb11aef69fb702a7e97bf6ed4c22588455541c1f0cfbf3b762ab358530", func := "loop.example/cothreads/laws.FnTraceRest", spec := "fnTraceRest", unfollowed := true, recurses := true, apart := false, narrowed := true }
def FnTraceRestUptoSaid : Prop := fnTraceRestUptoRow.holds Try.pinned (OpenSpec.upto fnTraceRestSpec)

/-- 'laws.FnWorldPlain', WHERE WHAT IT READS IS OF BULK AT MOST 1048576: true; the input reads as it did. -/
def fnWorldPlainUptoRow : OpenClaim := { program := "ytfgedlbkgcejhaa", sum := "f3b979bb11aef69fb702a7e97bf6ed4c22588455541c1f0cfbf3b762ab358530", func := "loop.example/cothreads/laws.FnWorldPlain", spec := "fnWorldPlain", unfollowed := true, recurses := true, apart := false, narrowed := true }
def FnWorldPlainUptoSaid : Prop := fnWorldPlainUptoRow.holds Try.pinned (OpenSpec.upto fnWorldPlainSpec)

/-- 'laws.FnWorldYield', WHERE WHAT IT READS IS OF BULK AT MOST 1048576: true; the input reads as it did. -/
def fnWorldYieldUptoRow : OpenClaim := { program := "ytfgedlbkgcejhaa", sum := "f3b979bb11aef69fb702a7e97bf6ed4c22588455541c1f0cfbf3b762ab358530", func := "loop.example/cothreads/laws.FnWorldYield", spec := "fnWorldYield", unfollowed := true, recurses := true, apart := false, narrowed := true }
def FnWorldYieldUptoSaid : Prop := fnWorldYieldUptoRow.holds Try.pinned (OpenSpec.upto fnWorldYieldSpec)

/-- 'laws.FnStep', WHERE WHAT IT READS IS OF BULK AT MOST 1048576: true; the input reads as it did. -/
def fnStepUptoRow : OpenClaim := { program := "ytfgedlbkgcejhaa", sum := "f3b979bb11aef69fb702a7e97bf6ed4c22588455541c1f0cfbf3b762ab358530", func := "loop.example/cothreads/laws.FnStep", spec := "fnStep", unfollowed := true, recurses := true, apart := false, narrowed := true }
def FnStepUptoSaid : Prop := fnStepUptoRow.holds Try.pinned (OpenSpec.upto fnStepSpec)

/-- 'laws.FnStepEnd', WHERE WHAT IT READS IS OF BULK AT MOST 1048576: true; the input reads as it did. -/
def fnStepEndUptoRow : OpenClaim := { program := "ytfgedlbkgcejhaa", sum := "f3b979bb11aef69fb702a7e97bf6ed4c22588455541c1f0cfbf3b762ab358530", func := "loop.example/cothreads/laws.FnStepEnd", spec := "fnStepEnd", unfollowed := true, recurses := true, apart := false, narrowed := true }
def FnStepEndUptoSaid : Prop := fnStepEndUptoRow.holds Try.pinned (OpenSpec.upto fnStepEndSpec)

/-- 'laws.FnStepRest', WHERE WHAT IT READS IS OF BULK AT MOST 1048576: true; the input reads as it did. -/
def fnStepRestUptoRow : OpenClaim := { program := "ytfgedlbkgcejhaa", sum := "f3b979bb11aef69fb702a7e97bf6ed4c22588455541c1f0cfbf3b762ab358530", func := "loop.example/cothreads/laws.FnStepRest", spec := "fnStepRest", unfollowed := true, recurses := true, apart := false, narrowed := true }
def FnStepRestUptoSaid : Prop := fnStepRestUptoRow.holds Try.pinned (OpenSpec.upto fnStepRestSpec)

/-- 'laws.FnStepStill', WHERE WHAT IT READS IS OF BULK AT MOST 1048576: true; the input reads as it did. -/
def fnStepStillUptoRow : OpenClaim := { program := "ytfgedlbkgcejhaa", sum := "f3b979bb11aef69fb702a7e97bf6ed4c22588455541c1f0cfbf3b762ab358530", func := "loop.example/cothreads/laws.FnStepStill", spec := "fnStepStill", unfollowed := true, recurses := true, apart := false, narrowed := true }
def FnStepStillUptoSaid : Prop := fnStepStillUptoRow.holds Try.pinned (OpenSpec.upto fnStepStillSpec)

/-- 'laws.FnStepWait', WHERE WHAT IT READS IS OF BULK AT MOST 1048576: true; the input reads as it did. -/
def fnStepWaitUptoRow : OpenClaim := { program := "ytfgedlbkgcejhaa", sum := "f3b979bb11aef69fb702a7e97bf6ed4c22588455541c1f0cfbf3b762ab358530", func := "loop.example/cothreads/laws.FnStepWait", spec := "fnStepWait", unfollowed := true, recurses := true, apart := false, narrowed := true }
def FnStepWaitUptoSaid : Prop := fnStepWaitUptoRow.holds Try.pinned (OpenSpec.upto fnStepWaitSpec)

/-- 'laws.FnStepIf', WHERE WHAT IT READS IS OF BULK AT MOST 1048576: true; the input reads as it did. -/
def fnStepIfUptoRow : OpenClaim := { program := "ytfgedlbkgcejhaa", sum := "f3b979bb11aef69fb702a7e97bf6ed4c22588455541c1f0cfbf3b762ab358530", func := "loop.example/cothreads/laws.FnStepIf", spec := "fnStepIf", unfollowed := true, recurses := true, apart := false, narrowed := true }
def FnStepIfUptoSaid : Prop := fnStepIfUptoRow.holds Try.pinned (OpenSpec.upto fnStepIfSpec)

/-- 'laws.FnStepPrint', WHERE WHAT IT READS IS OF BULK AT MOST 1048576: true; the input reads as it did. -/
def fnStepPrintUptoRow : OpenClaim := { program := "ytfgedlbkgcejhaa", sum := "f3b979bb11aef69fb702a7e97bf6ed4c22588455541c1f0cfbf3b762ab358530", func := "loop.example/cothreads/laws.FnStepPrint", spec := "fnStepPrint", unfollowed := true, recurses := true, apart := false, narrowed := true }
def FnStepPrintUptoSaid : Prop := fnStepPrintUptoRow.holds Try.pinned (OpenSpec.upto fnStepPrintSpec)

/-- 'laws.FnStepSet', WHERE WHAT IT READS IS OF BULK AT MOST 1048576: true; the input reads as it did. -/
def fnStepSetUptoRow : OpenClaim := { program := "ytfgedlbkgcejhaa", sum := "f3b979bb11aef69fb702a7e97bf6ed4c22588455541c1f0cfbf3b762ab358530", func := "loop.example/cothreads/laws.FnStepSet", spec := "fnStepSet", unfollowed := true, recurses := true, apart := false, narrowed := true }
def FnStepSetUptoSaid : Prop := fnStepSetUptoRow.holds Try.pinned (OpenSpec.upto fnStepSetSpec)

/-- 'laws.FnStepWhile', WHERE WHAT IT READS IS OF BULK AT MOST 1048576: true; the input reads as it did. -/
def fnStepWhileUptoRow : OpenClaim := { program := "ytfgedlbkgcejhaa", sum := "f3b979bb11aef69fb702a7e97bf6ed4c22588455541c1f0cfbf3b762ab358530", func := "loop.example/cothreads/laws.FnStepWhile", spec := "fnStepWhile", unfollowed := true, recurses := true, apart := false, narrowed := true }
def FnStepWhileUptoSaid : Prop := fnStepWhileUptoRow.holds Try.pinned (OpenSpec.upto fnStepWhileSpec)

/-- 'laws.FnWorldNames', WHERE WHAT IT READS IS OF BULK AT MOST 1048576: true; the input reads as it did. -/
def fnWorldNamesUptoRow : OpenClaim := { program := "ytfgedlbkgcejhaa", sum := "f3b979bb11aef69fb702a7e97bf6ed4c22588455541c1f0cfbf3b762ab358530", func := "loop.example/cothreads/laws.FnWorldNames", spec := "fnWorldNames", unfollowed := true, recurses := true, apart := false, narrowed := true }
def FnWorldNamesUptoSaid : Prop := fnWorldNamesUptoRow.holds Try.pinned (OpenSpec.upto fnWorldNamesSpec)

/-- 'laws.FnTraceFold', WHERE WHAT IT READS IS OF BULK AT MOST 1048576: true; the input reads as it did. -/
def fnTraceFoldUptoRow : OpenClaim := { program := "ytfgedlbkgcejhaa", sum := "f3b979bb11aef69fb702a7e97bf6ed4c22588455541c1f0cfbf3b762ab358530", func := "loop.example/cothreads/laws.FnTraceFold", spec := "fnTraceFold", unfollowed := true, recurses := true, apart := false, narrowed := true }
def FnTraceFoldUptoSaid : Prop := fnTraceFoldUptoRow.holds Try.pinned (OpenSpec.upto fnTraceFoldSpec)

/-- 'laws.FnStepRecv', WHERE WHAT IT READS IS OF BULK AT MOST 1048576: true; the input reads as it did. -/
def fnStepRecvUptoRow : OpenClaim := { program := "ytfgedlbkgcejhaa", sum := "f3b979bb11aef69fb702a7e97bf6ed4c22588455541c1f0cfbf3b762ab358530", func := "loop.example/cothreads/laws.FnStepRecv", spec := "fnStepRecv", unfollowed := true, recurses := true, apart := false, narrowed := true }
def FnStepRecvUptoSaid : Prop := fnStepRecvUptoRow.holds Try.pinned (OpenSpec.upto fnStepRecvSpec)

/-- 'laws.FnWorldFold', WHERE WHAT IT READS IS OF BULK AT MOST 1048576: true; the input reads as it did. -/
def fnWorldFoldUptoRow : OpenClaim := { program := "ytfgedlbkgcejhaa", sum := "f3b979bb11aef69fb702a7e97bf6ed4c22588455541c1f0cfbf3b762ab358530", func := "loop.example/cothreads/laws.FnWorldFold", spec := "fnWorldFold", unfollowed := true, recurses := true, apart := false, narrowed := true }
def FnWorldFoldUptoSaid : Prop := fnWorldFoldUptoRow.holds Try.pinned (OpenSpec.upto fnWorldFoldSpec)

/-- 'laws.FnStepSend', WHERE WHAT IT READS IS OF BULK AT MOST 1048576: true; the input reads as it did. -/
def fnStepSendUptoRow : OpenClaim := { program := "ytfgedlbkgcejhaa", sum := "f3b979bb11aef69fb702a7e97bf6ed4c22588455541c1f0cfbf3b762ab358530", func := "loop.example/cothreads/laws.FnStepSend", spec := "fnStepSend", unfollowed := true, recurses := true, apart := false, narrowed := true }
def FnStepSendUptoSaid : Prop := fnStepSendUptoRow.holds Try.pinned (OpenSpec.upto fnStepSendSpec)

end Rows
end Go.Proofs.Ytfgedlbkgcejhaa
