/-
  No cell of these rows narrows 'for every input' (looked for: loops, veiled, ifaces, maps, wideKeys, modest, calm, conditions, laid).
  DERIVED. THE GIVEN ROWS OF THIS SEAT. 10 by the template 'for every input the law returns true; each argument reads behind the call as it read before'; 0 by the template 'total and deterministic' (their statements: YtmecbehegmgbhaaTotals.lean).
  GIVEN WITH THE SEED: the statements are not yours to turn. If you find one false, say at which input.
  Laid BY PROGRAM, IN A SANDBOX (cutbox-rows.mjs): the forced cells as the released guide's own fill.sh prints them over the translation 6679787464ef1bd3… (all of the seat's roots in one cut). By AI agents, Wed Nov 11 2026. No macro, syntax, notation, axiom, sorry.
-/
import Derived.Test.YtmecbehegmgbhaaChecked
import GoSem.Claim
import GoSem.ClaimJoined
import GoSem.ClaimMapViews
import Derived.JoinedTies
import Derived.KernelRfl
namespace Go.Proofs.Ytmecbehegmgbhaa
/- THE CELL 'sum', in the pinned program and in every row, IS THE sha256 OF THE DUMP (.gsa) THAT YtmecbehegmgbhaaProg.lean LOADS. Nothing in Lean hashes anything: it is a label: what it is worth is what the hold of that sum in a sandbox is worth. -/
noncomputable def Try.pinned : Pinned := { name := "ytmecbehegmgbhaa", sum := "6679787464ef1bd3cc8d9c17be5d2f92f41d58e47144b043d1a86862d99959b8", checked := Try.checked }
namespace Rows
def none {H : Type} : Left H := { results := [], args := [] }

/-- 'laws.FnThreadExpr': WHATEVER THE INPUT: true; the input reads as it did. -/
def fnThreadExprSpec : ChangeSpec := { name := "fnThreadExpr", fn := fun _ => fun
  | [d1, d2] => { results := [.lit (.bool true)], args := [d1, d2] }
  | _ => none }
def fnThreadExprRow : OpenClaim := { program := "ytmecbehegmgbhaa", sum := "6679787464ef1bd3cc8d9c17be5d2f92f41d58e47144b043d1a86862d99959b8", func := "loop.example/cothreads/laws.FnThreadExpr", spec := "fnThreadExpr", recurses := true, apart := false }
def FnThreadExprSaid : Prop := fnThreadExprRow.holds Try.pinned (OpenSpec.ofChange fnThreadExprSpec)

/-- ITS FALSE NEIGHBOUR: 'it returns false'. Refute it at one input. -/
def fnThreadExprWrong : ChangeSpec := { name := "fnThreadExpr", fn := fun _ => fun
  | [d1, d2] => { results := [.lit (.bool false)], args := [d1, d2] }
  | _ => none }
def FnThreadExprWrongFalsely : Prop := fnThreadExprRow.holds Try.pinned (OpenSpec.ofChange fnThreadExprWrong)

/-- 'laws.FnWorldRest': WHATEVER THE INPUT: true; the input reads as it did. -/
def fnWorldRestSpec : ChangeSpec := { name := "fnWorldRest", fn := fun _ => fun
  | [d1, d2] => { results := [.lit (.bool true)], args := [d1, d2] }
  | _ => none }
def fnWorldRestRow : OpenClaim := { program := "ytmecbehegmgbhaa", sum := "6679787464ef1bd3cc8d9c17be5d2f92f41d58e47144b043d1a86862d99959b8", func := "loop.example/cothreads/laws.FnWorldRest", spec := "fnWorldRest", unfollowed := true, recurses := true, apart := false }
def FnWorldRestSaid : Prop := fnWorldRestRow.holds Try.pinned (OpenSpec.ofChange fnWorldRestSpec)

/-- ITS FALSE NEIGHBOUR: 'it returns false'. Refute it at one input. -/
def fnWorldRestWrong : ChangeSpec := { name := "fnWorldRest", fn := fun _ => fun
  | [d1, d2] => { results := [.lit (.bool false)], args := [d1, d2] }
  | _ => none }
def FnWorldRestWrongFalsely : Prop := fnWorldRestRow.holds Try.pinned (OpenSpec.ofChange fnWorldRestWrong)

/-- 'laws.FnWorldRestWhy': WHATEVER THE INPUT: true; the input reads as it did. -/
def fnWorldRestWhySpec : ChangeSpec := { name := "fnWorldRestWhy", fn := fun _ => fun
  | [d] => { results := [.lit (.bool true)], args := [d] }
  | _ => none }
def fnWorldRestWhyRow : OpenClaim := { program := "ytmecbehegmgbhaa", sum := "6679787464ef1bd3cc8d9c17be5d2f92f41d58e47144b043d1a86862d99959b8", func := "loop.example/cothreads/laws.FnWorldRestWhy", spec := "fnWorldRestWhy", unfollowed := true, recurses := true, apart := false }
def FnWorldRestWhySaid : Prop := fnWorldRestWhyRow.holds Try.pinned (OpenSpec.ofChange fnWorldRestWhySpec)

/-- ITS FALSE NEIGHBOUR: 'it returns false'. Refute it at one input. -/
def fnWorldRestWhyWrong : ChangeSpec := { name := "fnWorldRestWhy", fn := fun _ => fun
  | [d] => { results := [.lit (.bool false)], args := [d] }
  | _ => none }
def FnWorldRestWhyWrongFalsely : Prop := fnWorldRestWhyRow.holds Try.pinned (OpenSpec.ofChange fnWorldRestWhyWrong)

/-- 'laws.FnWorldAlone': WHATEVER THE INPUT: true; the input reads as it did. -/
def fnWorldAloneSpec : ChangeSpec := { name := "fnWorldAlone", fn := fun _ => fun
  | [d] => { results := [.lit (.bool true)], args := [d] }
  | _ => none }
def fnWorldAloneRow : OpenClaim := { program := "ytmecbehegmgbhaa", sum := "6679787464ef1bd3cc8d9c17be5d2f92f41d58e47144b043d1a86862d99959b8", func := "loop.example/cothreads/laws.FnWorldAlone", spec := "fnWorldAlone", unfollowed := true, recurses := true, apart := false }
def FnWorldAloneSaid : Prop := fnWorldAloneRow.holds Try.pinned (OpenSpec.ofChange fnWorldAloneSpec)

/-- ITS FALSE NEIGHBOUR: 'it returns false'. Refute it at one input. -/
def fnWorldAloneWrong : ChangeSpec := { name := "fnWorldAlone", fn := fun _ => fun
  | [d] => { results := [.lit (.bool false)], args := [d] }
  | _ => none }
def FnWorldAloneWrongFalsely : Prop := fnWorldAloneRow.holds Try.pinned (OpenSpec.ofChange fnWorldAloneWrong)

/-- 'laws.FnTraceRest': WHATEVER THE INPUT: true; the input reads as it did. -/
def fnTraceRestSpec : ChangeSpec := { name := "fnTraceRest", fn := fun _ => fun
  | [d] => { results := [.lit (.bool true)], args := [d] }
  | _ => none }
def fnTraceRestRow : OpenClaim := { program := "ytmecbehegmgbhaa", sum := "6679787464ef1bd3cc8d9c17be5d2f92f41d58e47144b043d1a86862d99959b8", func := "loop.example/cothreads/laws.FnTraceRest", spec := "fnTraceRest", unfollowed := true, recurses := true, apart := false }
def FnTraceRestSaid : Prop := fnTraceRestRow.holds Try.pinned (OpenSpec.ofChange fnTraceRestSpec)

/-- ITS FALSE NEIGHBOUR: 'it returns false'. Refute it at one input. -/
def fnTraceRestWrong : ChangeSpec := { name := "fnTraceRest", fn := fun _ => fun
  | [d] => { results := [.lit (.bool false)], args := [d] }
  | _ => none }
def FnTraceRestWrongFalsely : Prop := fnTraceRestRow.holds Try.pinned (OpenSpec.ofChange fnTraceRestWrong)

/-- 'laws.FnWorldPlain': WHATEVER THE INPUT: true; the input reads as it did. -/
def fnWorldPlainSpec : ChangeSpec := { name := "fnWorldPlain", fn := fun _ => fun
  | [d] => { results := [.lit (.bool true)], args := [d] }
  | _ => none }
def fnWorldPlainRow : OpenClaim := { program := "ytmecbehegmgbhaa", sum := "6679787464ef1bd3cc8d9c17be5d2f92f41d58e47144b043d1a86862d99959b8", func := "loop.example/cothreads/laws.FnWorldPlain", spec := "fnWorldPlain", unfollowed := true, recurses := true, apart := false }
def FnWorldPlainSaid : Prop := fnWorldPlainRow.holds Try.pinned (OpenSpec.ofChange fnWorldPlainSpec)

/-- ITS FALSE NEIGHBOUR: 'it returns false'. Refute it at one input. -/
def fnWorldPlainWrong : ChangeSpec := { name := "fnWorldPlain", fn := fun _ => fun
  | [d] => { results := [.lit (.bool false)], args := [d] }
  | _ => none }
def FnWorldPlainWrongFalsely : Prop := fnWorldPlainRow.holds Try.pinned (OpenSpec.ofChange fnWorldPlainWrong)

/-- 'laws.FnWorldYield': WHATEVER THE INPUT: true; the input reads as it did. -/
def fnWorldYieldSpec : ChangeSpec := { name := "fnWorldYield", fn := fun _ => fun
  | [d] => { results := [.lit (.bool true)], args := [d] }
  | _ => none }
def fnWorldYieldRow : OpenClaim := { program := "ytmecbehegmgbhaa", sum := "6679787464ef1bd3cc8d9c17be5d2f92f41d58e47144b043d1a86862d99959b8", func := "loop.example/cothreads/laws.FnWorldYield", spec := "fnWorldYield", unfollowed := true, recurses := true, apart := false }
def FnWorldYieldSaid : Prop := fnWorldYieldRow.holds Try.pinned (OpenSpec.ofChange fnWorldYieldSpec)

/-- ITS FALSE NEIGHBOUR: 'it returns false'. Refute it at one input. -/
def fnWorldYieldWrong : ChangeSpec := { name := "fnWorldYield", fn := fun _ => fun
  | [d] => { results := [.lit (.bool false)], args := [d] }
  | _ => none }
def FnWorldYieldWrongFalsely : Prop := fnWorldYieldRow.holds Try.pinned (OpenSpec.ofChange fnWorldYieldWrong)

/-- 'laws.FnWorldNames': WHATEVER THE INPUT: true; the input reads as it did. -/
def fnWorldNamesSpec : ChangeSpec := { name := "fnWorldNames", fn := fun _ => fun
  | [d] => { results := [.lit (.bool true)], args := [d] }
  | _ => none }
def fnWorldNamesRow : OpenClaim := { program := "ytmecbehegmgbhaa", sum := "6679787464ef1bd3cc8d9c17be5d2f92f41d58e47144b043d1a86862d99959b8", func := "loop.example/cothreads/laws.FnWorldNames", spec := "fnWorldNames", unfollowed := true, recurses := true, apart := false }
def FnWorldNamesSaid : Prop := fnWorldNamesRow.holds Try.pinned (OpenSpec.ofChange fnWorldNamesSpec)

/-- ITS FALSE NEIGHBOUR: 'it returns false'. Refute it at one input. -/
def fnWorldNamesWrong : ChangeSpec := { name := "fnWorldNames", fn := fun _ => fun
  | [d] => { results := [.lit (.bool false)], args := [d] }
  | _ => none }
def FnWorldNamesWrongFalsely : Prop := fnWorldNamesRow.holds Try.pinned (OpenSpec.ofChange fnWorldNamesWrong)

/-- 'laws.FnTraceFold': WHATEVER THE INPUT: true; the input reads as it did. -/
def fnTraceFoldSpec : ChangeSpec := { name := "fnTraceFold", fn := fun _ => fun
  | [d] => { results := [.lit (.bool true)], args := [d] }
  | _ => none }
def fnTraceFoldRow : OpenClaim := { program := "ytmecbehegmgbhaa", sum := "6679787464ef1bd3cc8d9c17be5d2f92f41d58e47144b043d1a86862d99959b8", func := "loop.example/cothreads/laws.FnTraceFold", spec := "fnTraceFold", unfollowed := true, recurses := true, apart := false }
def FnTraceFoldSaid : Prop := fnTraceFoldRow.holds Try.pinned (OpenSpec.ofChange fnTraceFoldSpec)

/-- ITS FALSE NEIGHBOUR: 'it returns false'. Refute it at one input. -/
def fnTraceFoldWrong : ChangeSpec := { name := "fnTraceFold", fn := fun _ => fun
  | [d] => { results := [.lit (.bool false)], args := [d] }
  | _ => none }
def FnTraceFoldWrongFalsely : Prop := fnTraceFoldRow.holds Try.pinned (OpenSpec.ofChange fnTraceFoldWrong)

/-- 'laws.FnWorldFold': WHATEVER THE INPUT: true; the input reads as it did. -/
def fnWorldFoldSpec : ChangeSpec := { name := "fnWorldFold", fn := fun _ => fun
  | [d] => { results := [.lit (.bool true)], args := [d] }
  | _ => none }
def fnWorldFoldRow : OpenClaim := { program := "ytmecbehegmgbhaa", sum := "6679787464ef1bd3cc8d9c17be5d2f92f41d58e47144b043d1a86862d99959b8", func := "loop.example/cothreads/laws.FnWorldFold", spec := "fnWorldFold", unfollowed := true, recurses := true, apart := false }
def FnWorldFoldSaid : Prop := fnWorldFoldRow.holds Try.pinned (OpenSpec.ofChange fnWorldFoldSpec)

/-- ITS FALSE NEIGHBOUR: 'it returns false'. Refute it at one input. -/
def fnWorldFoldWrong : ChangeSpec := { name := "fnWorldFold", fn := fun _ => fun
  | [d] => { results := [.lit (.bool false)], args := [d] }
  | _ => none }
def FnWorldFoldWrongFalsely : Prop := fnWorldFoldRow.holds Try.pinned (OpenSpec.ofChange fnWorldFoldWrong)

/- THE SECOND FORM. 'bulk': how many values and letters a reading holds, each counted each time it is reached (what is shared counts as often as it is met; a slice's spare places count too). A statement '..UptoSaid' is the law's where the arguments, and the package variables that the reading takes, are together of bulk at most 1048576: NARROWER than '..Said'. Prove '..Said' where nothing that the law and all that it calls make is longer than what came in: it says more and counts as full. Else prove '..UptoSaid'. A law counts once. -/
mutual
def uptoBulk {H : Type} : DataW H → Nat
  | .lit (.string bytes) => bytes.length + 1
  | .lit _ => 1
  | .nil => 1
  | .ptr d => uptoBulk d + 1
  | .slice elems spare => uptoBulkAll elems + uptoBulkAll spare + 1
  | .agg parts => uptoBulkAll parts + 1
  | .iface _ d => uptoBulk d + 1
  | .map entries => uptoBulkEntries entries + 1
  | .held _ => 1
def uptoBulkAll {H : Type} : List (DataW H) → Nat
  | [] => 0
  | d :: r => uptoBulk d + uptoBulkAll r
def uptoBulkEntries {H : Type} : List (Lit × DataW H) → Nat
  | [] => 0
  | x :: r => uptoBulkEntry x + uptoBulkEntries r
def uptoBulkEntry {H : Type} : Lit × DataW H → Nat
  | (.string bytes, d) => bytes.length + uptoBulk d + 1
  | (_, d) => uptoBulk d + 1
 end
def uptoSmall : (H : Type) → List (DataW H) → Bool := fun _ ds => decide (uptoBulkAll ds ≤ 1048576)
def OpenSpec.upto (s : _root_.Go.ChangeSpec) : _root_.Go.OpenSpec := { _root_.Go.OpenSpec.ofChange s with cond := some uptoSmall }

/-- 'laws.FnThreadExpr', WHERE WHAT IT READS IS OF BULK AT MOST 1048576: true; the input reads as it did. -/
def fnThreadExprUptoRow : OpenClaim := { program := "ytmecbehegmgbhaa", sum := "6679787464ef1bd3cc8d9c17be5d2f92f41d58e47144b043d1a86862d99959b8", func := "loop.example/cothreads/laws.FnThreadExpr", spec := "fnThreadExpr", recurses := true, apart := false, narrowed := true }
def FnThreadExprUptoSaid : Prop := fnThreadExprUptoRow.holds Try.pinned (OpenSpec.upto fnThreadExprSpec)

/-- 'laws.FnWorldRest', WHERE WHAT IT READS IS OF BULK AT MOST 1048576: true; the input reads as it did. -/
def fnWorldRestUptoRow : OpenClaim := { program := "ytmecbehegmgbhaa", sum := "6679787464ef1bd3cc8d9c17be5d2f92f41d58e47144b043d1a86862d99959b8", func := "loop.example/cothreads/laws.FnWorldRest", spec := "fnWorldRest", unfollowed := true, recurses := true, apart := false, narrowed := true }
def FnWorldRestUptoSaid : Prop := fnWorldRestUptoRow.holds Try.pinned (OpenSpec.upto fnWorldRestSpec)

/-- 'laws.FnWorldRestWhy', WHERE WHAT IT READS IS OF BULK AT MOST 1048576: true; the input reads as it did. -/
def fnWorldRestWhyUptoRow : OpenClaim := { program := "ytmecbehegmgbhaa", sum := "6679787464ef1bd3cc8d9c17be5d2f92f41d58e47144b043d1a86862d99959b8", func := "loop.example/cothreads/laws.FnWorldRestWhy", spec := "fnWorldRestWhy", unfollowed := true, recurses := true, apart := false, narrowed := true }
def FnWorldRestWhyUptoSaid : Prop := fnWorldRestWhyUptoRow.holds Try.pinned (OpenSpec.upto fnWorldRestWhySpec)

/-- 'laws.FnWorldAlone', WHERE WHAT IT READS IS OF BULK AT MOST 1048576: true; the input reads as it did. -/
def fnWorldAloneUptoRow : OpenClaim := { program := "ytmecbehegmgbhaa", sum := "6679787464ef1bd3cc8d9c17be5d2f92f41d58e47144b043d1a86862d99959b8", func := "loop.example/cothreads/laws.FnWorldAlone", spec := "fnWorldAlone", unfollowed := true, recurses := true, apart := false, narrowed := true }
def FnWorldAloneUptoSaid : Prop := fnWorldAloneUptoRow.holds Try.pinned (OpenSpec.upto fnWorldAloneSpec)

/-- 'laws.FnTraceRest', WHERE WHAT IT READS IS OF BULK AT MOST 1048576: true; the input reads as it did. -/
def fnTraceRestUptoRow : OpenClaim := { program := "ytmecbehegmgbhaa", sum := "6679787464ef1bd3cc8d9c17be5d2f92f41d58e47144b043d1a86862d99959b8", func := "loop.example/cothreads/laws.FnTraceRest", spec := "fnTraceRest", unfollowed := true, recurses := true, apart := false, narrowed := true }
def FnTraceRestUptoSaid : Prop := fnTraceRestUptoRow.holds Try.pinned (OpenSpec.upto fnTraceRestSpec)

/-- 'laws.FnWorldPlain', WHERE WHAT IT READS IS OF BULK AT MOST 1048576: true; the input reads as it did. -/
def fnWorldPlainUptoRow : OpenClaim := { program := "ytmecbehegmgbhaa", sum := "6679787464ef1bd3cc8d9c17be5d2f92f41d58e47144b043d1a86862d99959b8", func := "loop.example/cothreads/laws.FnWorldPlain", spec := "fnWorldPlain", unfollowed := true, recurses := true, apart := false, narrowed := true }
def FnWorldPlainUptoSaid : Prop := fnWorldPlainUptoRow.holds Try.pinned (OpenSpec.upto fnWorldPlainSpec)

/-- 'laws.FnWorldYield', WHERE WHAT IT READS IS OF BULK AT MOST 1048576: true; the input reads as it did. -/
def fnWorldYieldUptoRow : OpenClaim := { program := "ytmecbehegmgbhaa", sum := "6679787464ef1bd3cc8d9c17be5d2f92f41d58e47144b043d1a86862d99959b8", func := "loop.example/cothreads/laws.FnWorldYield", spec := "fnWorldYield", unfollowed := true, recurses := true, apart := false, narrowed := true }
def FnWorldYieldUptoSaid : Prop := fnWorldYieldUptoRow.holds Try.pinned (OpenSpec.upto fnWorldYieldSpec)

/-- 'laws.FnWorldNames', WHERE WHAT IT READS IS OF BULK AT MOST 1048576: true; the input reads as it did. -/
def fnWorldNamesUptoRow : OpenClaim := { program := "ytmecbehegmgbhaa", sum := "6679787464ef1bd3cc8d9c17be5d2f92f41d58e47144b043d1a86862d99959b8", func := "loop.example/cothreads/laws.FnWorldNames", spec := "fnWorldNames", unfollowed := true, recurses := true, apart := false, narrowed := true }
def FnWorldNamesUptoSaid : Prop := fnWorldNamesUptoRow.holds Try.pinned (OpenSpec.upto fnWorldNamesSpec)

/-- 'laws.FnTraceFold', WHERE WHAT IT READS IS OF BULK AT MOST 1048576: true; the input reads as it did. -/
def fnTraceFoldUptoRow : OpenClaim := { program := "ytmecbehegmgbhaa", sum := "6679787464ef1bd3cc8d9c17be5d2f92f41d58e47144b043d1a86862d99959b8", func := "loop.example/cothreads/laws.FnTraceFold", spec := "fnTraceFold", unfollowed := true, recurses := true, apart := false, narrowed := true }
def FnTraceFoldUptoSaid : Prop := fnTraceFoldUptoRow.holds Try.pinned (OpenSpec.upto fnTraceFoldSpec)

/-- 'laws.FnWorldFold', WHERE WHAT IT READS IS OF BULK AT MOST 1048576: true; the input reads as it did. -/
def fnWorldFoldUptoRow : OpenClaim := { program := "ytmecbehegmgbhaa", sum := "6679787464ef1bd3cc8d9c17be5d2f92f41d58e47144b043d1a86862d99959b8", func := "loop.example/cothreads/laws.FnWorldFold", spec := "fnWorldFold", unfollowed := true, recurses := true, apart := false, narrowed := true }
def FnWorldFoldUptoSaid : Prop := fnWorldFoldUptoRow.holds Try.pinned (OpenSpec.upto fnWorldFoldSpec)

end Rows
end Go.Proofs.Ytmecbehegmgbhaa
