/-
  No cell of these rows narrows 'for every input' (looked for: loops, veiled, ifaces, maps, wideKeys, modest, calm, conditions, laid).
  DERIVED. THE GIVEN ROWS OF THIS SEAT. 6 by the template 'for every input the law returns true; each argument reads behind the call as it read before'; 0 by the template 'total and deterministic' (their statements: YtebnompjkpcgiaaTotals.lean).
  GIVEN WITH THE SEED: the statements are not yours to turn. If you find one false, say at which input.
  Laid BY PROGRAM, IN A SANDBOX (cutbox-rows.mjs): the forced cells as the released guide's own fill.sh prints them over the translation 4184a46e088d08ed… (all of the seat's roots in one cut). By AI agents, Wed Nov 11 2026. No macro, syntax, notation, axiom, sorry.
-/
import Derived.Test.YtebnompjkpcgiaaChecked
import GoSem.Claim
import GoSem.ClaimJoined
import GoSem.ClaimMapViews
import Derived.JoinedTies
import Derived.KernelRfl
namespace Go.Proofs.Ytebnompjkpcgiaa
/- THE CELL 'sum', in the pinned program and in every row, IS THE sha256 OF THE DUMP (.gsa) THAT YtebnompjkpcgiaaProg.lean LOADS. Nothing in Lean hashes anything: it is a label: what it is worth is what the hold of that sum in a sandbox is worth. -/
noncomputable def Try.pinned : Pinned := { name := "ytebnompjkpcgiaa", sum := "4184a46e088d08ede4440e81373de7c3fca7757d2bd100ea3882fcdd26f73b55", checked := Try.checked }
namespace Rows
def none {H : Type} : Left H := { results := [], args := [] }

/-- 'laws.FnExactMachineValid': WHATEVER THE INPUT: true; the input reads as it did. -/
def fnExactMachineValidSpec : ChangeSpec := { name := "fnExactMachineValid", fn := fun _ => fun
  | [d] => { results := [.lit (.bool true)], args := [d] }
  | _ => none }
def fnExactMachineValidRow : OpenClaim := { program := "ytebnompjkpcgiaa", sum := "4184a46e088d08ede4440e81373de7c3fca7757d2bd100ea3882fcdd26f73b55", func := "loop.example/cothreads/laws.FnExactMachineValid", spec := "fnExactMachineValid", apart := false }
def FnExactMachineValidSaid : Prop := fnExactMachineValidRow.holds Try.pinned (OpenSpec.ofChange fnExactMachineValidSpec)

/-- ITS FALSE NEIGHBOUR: 'it returns false'. Refute it at one input. -/
def fnExactMachineValidWrong : ChangeSpec := { name := "fnExactMachineValid", fn := fun _ => fun
  | [d] => { results := [.lit (.bool false)], args := [d] }
  | _ => none }
def FnExactMachineValidWrongFalsely : Prop := fnExactMachineValidRow.holds Try.pinned (OpenSpec.ofChange fnExactMachineValidWrong)

/-- 'laws.FnConstSum': WHATEVER THE INPUT: true; the input reads as it did. -/
def fnConstSumSpec : ChangeSpec := { name := "fnConstSum", fn := fun _ => fun
  | [d] => { results := [.lit (.bool true)], args := [d] }
  | _ => none }
def fnConstSumRow : OpenClaim := { program := "ytebnompjkpcgiaa", sum := "4184a46e088d08ede4440e81373de7c3fca7757d2bd100ea3882fcdd26f73b55", func := "loop.example/cothreads/laws.FnConstSum", spec := "fnConstSum", apart := false }
def FnConstSumSaid : Prop := fnConstSumRow.holds Try.pinned (OpenSpec.ofChange fnConstSumSpec)

/-- ITS FALSE NEIGHBOUR: 'it returns false'. Refute it at one input. -/
def fnConstSumWrong : ChangeSpec := { name := "fnConstSum", fn := fun _ => fun
  | [d] => { results := [.lit (.bool false)], args := [d] }
  | _ => none }
def FnConstSumWrongFalsely : Prop := fnConstSumRow.holds Try.pinned (OpenSpec.ofChange fnConstSumWrong)

/-- 'laws.FnExactConstInstrs': WHATEVER THE INPUT: true; the input reads as it did. -/
def fnExactConstInstrsSpec : ChangeSpec := { name := "fnExactConstInstrs", fn := fun _ => fun
  | [d1, d2] => { results := [.lit (.bool true)], args := [d1, d2] }
  | _ => none }
def fnExactConstInstrsRow : OpenClaim := { program := "ytebnompjkpcgiaa", sum := "4184a46e088d08ede4440e81373de7c3fca7757d2bd100ea3882fcdd26f73b55", func := "loop.example/cothreads/laws.FnExactConstInstrs", spec := "fnExactConstInstrs", apart := false }
def FnExactConstInstrsSaid : Prop := fnExactConstInstrsRow.holds Try.pinned (OpenSpec.ofChange fnExactConstInstrsSpec)

/-- ITS FALSE NEIGHBOUR: 'it returns false'. Refute it at one input. -/
def fnExactConstInstrsWrong : ChangeSpec := { name := "fnExactConstInstrs", fn := fun _ => fun
  | [d1, d2] => { results := [.lit (.bool false)], args := [d1, d2] }
  | _ => none }
def FnExactConstInstrsWrongFalsely : Prop := fnExactConstInstrsRow.holds Try.pinned (OpenSpec.ofChange fnExactConstInstrsWrong)

/-- 'laws.FnConst': WHATEVER THE INPUT: true; the input reads as it did. -/
def fnConstSpec : ChangeSpec := { name := "fnConst", fn := fun _ => fun
  | [d] => { results := [.lit (.bool true)], args := [d] }
  | _ => none }
def fnConstRow : OpenClaim := { program := "ytebnompjkpcgiaa", sum := "4184a46e088d08ede4440e81373de7c3fca7757d2bd100ea3882fcdd26f73b55", func := "loop.example/cothreads/laws.FnConst", spec := "fnConst", apart := false }
def FnConstSaid : Prop := fnConstRow.holds Try.pinned (OpenSpec.ofChange fnConstSpec)

/-- ITS FALSE NEIGHBOUR: 'it returns false'. Refute it at one input. -/
def fnConstWrong : ChangeSpec := { name := "fnConst", fn := fun _ => fun
  | [d] => { results := [.lit (.bool false)], args := [d] }
  | _ => none }
def FnConstWrongFalsely : Prop := fnConstRow.holds Try.pinned (OpenSpec.ofChange fnConstWrong)

/-- 'laws.FnMachine': WHATEVER THE INPUT: true; the input reads as it did. -/
def fnMachineSpec : ChangeSpec := { name := "fnMachine", fn := fun _ => fun
  | [d] => { results := [.lit (.bool true)], args := [d] }
  | _ => none }
def fnMachineRow : OpenClaim := { program := "ytebnompjkpcgiaa", sum := "4184a46e088d08ede4440e81373de7c3fca7757d2bd100ea3882fcdd26f73b55", func := "loop.example/cothreads/laws.FnMachine", spec := "fnMachine", apart := false }
def FnMachineSaid : Prop := fnMachineRow.holds Try.pinned (OpenSpec.ofChange fnMachineSpec)

/-- ITS FALSE NEIGHBOUR: 'it returns false'. Refute it at one input. -/
def fnMachineWrong : ChangeSpec := { name := "fnMachine", fn := fun _ => fun
  | [d] => { results := [.lit (.bool false)], args := [d] }
  | _ => none }
def FnMachineWrongFalsely : Prop := fnMachineRow.holds Try.pinned (OpenSpec.ofChange fnMachineWrong)

/-- 'laws.FnThreadExpr': WHATEVER THE INPUT: true; the input reads as it did. -/
def fnThreadExprSpec : ChangeSpec := { name := "fnThreadExpr", fn := fun _ => fun
  | [d1, d2] => { results := [.lit (.bool true)], args := [d1, d2] }
  | _ => none }
def fnThreadExprRow : OpenClaim := { program := "ytebnompjkpcgiaa", sum := "4184a46e088d08ede4440e81373de7c3fca7757d2bd100ea3882fcdd26f73b55", func := "loop.example/cothreads/laws.FnThreadExpr", spec := "fnThreadExpr", recurses := true, apart := false }
def FnThreadExprSaid : Prop := fnThreadExprRow.holds Try.pinned (OpenSpec.ofChange fnThreadExprSpec)

/-- ITS FALSE NEIGHBOUR: 'it returns false'. Refute it at one input. -/
def fnThreadExprWrong : ChangeSpec := { name := "fnThreadExpr", fn := fun _ => fun
  | [d1, d2] => { results := [.lit (.bool false)], args := [d1, d2] }
  | _ => none }
def FnThreadExprWrongFalsely : Prop := fnThreadExprRow.holds Try.pinned (OpenSpec.ofChange fnThreadExprWrong)

/- THE SECOND FORM. 'bulk': how many values and letters a reading holds, each counted each time it is reached (what is shared counts as often as it is met; a slice's spare places count too). A statement '..UptoSaid' is the law's where the arguments, and the package variables that the reading takes, are together of bulk at most 1048576: NARROWER than '..Said'. Prove '..Said' where nothing that the law and all that it calls make is longer than what came in: it says more and counts as full. Else prove '..UptoSaid'. A law counts once. -/
mutual
def uptoBulk {H : Type} : DataW H → Nat
  | .lit (.string bytes) => bytes.length + 1
  | .lit _ => 1
  | .nil => 1
  | .ptr d => uptoBulk d + 1
  | .slice elems spare => uptoBulkAll elems + uptoBulkAll spare + 1
  | .agg parts => uptoBulkAll parts + 1
  | .iface _ d => uptoBulk d + 1
  | .map entries => uptoBulkEntries entries + 1
  | .held _ => 1
def uptoBulkAll {H : Type} : List (DataW H) → Nat
  | [] => 0
  | d :: r => uptoBulk d + uptoBulkAll r
def uptoBulkEntries {H : Type} : List (Lit × DataW H) → Nat
  | [] => 0
  | x :: r => uptoBulkEntry x + uptoBulkEntries r
def uptoBulkEntry {H : Type} : Lit × DataW H → Nat
  | (.string bytes, d) => bytes.length + uptoBulk d + 1
  | (_, d) => uptoBulk d + 1
 end
def uptoSmall : (H : Type) → List (DataW H) → Bool := fun _ ds => decide (uptoBulkAll ds ≤ 1048576)
def OpenSpec.upto (s : _root_.Go.ChangeSpec) : _root_.Go.OpenSpec := { _root_.Go.OpenSpec.ofChange s with cond := some uptoSmall }

/-- 'laws.FnExactMachineValid', WHERE WHAT IT READS IS OF BULK AT MOST 1048576: true; the input reads as it did. -/
def fnExactMachineValidUptoRow : OpenClaim := { program := "ytebnompjkpcgiaa", sum := "4184a46e088d08ede4440e81373de7c3fca7757d2bd100ea3882fcdd26f73b55", func := "loop.example/cothreads/laws.FnExactMachineValid", spec := "fnExactMachineValid", apart := false, narrowed := true }
def FnExactMachineValidUptoSaid : Prop := fnExactMachineValidUptoRow.holds Try.pinned (OpenSpec.upto fnExactMachineValidSpec)

/-- 'laws.FnConstSum', WHERE WHAT IT READS IS OF BULK AT MOST 1048576: true; the input reads as it did. -/
def fnConstSumUptoRow : OpenClaim := { program := "ytebnompjkpcgiaa", sum := "4184a46e088d08ede4440e81373de7c3fca7757d2bd100ea3882fcdd26f73b55", func := "loop.example/cothreads/laws.FnConstSum", spec := "fnConstSum", apart := false, narrowed := true }
def FnConstSumUptoSaid : Prop := fnConstSumUptoRow.holds Try.pinned (OpenSpec.upto fnConstSumSpec)

/-- 'laws.FnExactConstInstrs', WHERE WHAT IT READS IS OF BULK AT MOST 1048576: true; the input reads as it did. -/
def fnExactConstInstrsUptoRow : OpenClaim := { program := "ytebnompjkpcgiaa", sum := "4184a46e088d08ede4440e81373de7c3fca7757d2bd100ea3882fcdd26f73b55", func := "loop.example/cothreads/laws.FnExactConstInstrs", spec := "fnExactConstInstrs", apart := false, narrowed := true }
def FnExactConstInstrsUptoSaid : Prop := fnExactConstInstrsUptoRow.holds Try.pinned (OpenSpec.upto fnExactConstInstrsSpec)

/-- 'laws.FnConst', WHERE WHAT IT READS IS OF BULK AT MOST 1048576: true; the input reads as it did. -/
def fnConstUptoRow : OpenClaim := { program := "ytebnompjkpcgiaa", sum := "4184a46e088d08ede4440e81373de7c3fca7757d2bd100ea3882fcdd26f73b55", func := "loop.example/cothreads/laws.FnConst", spec := "fnConst", apart := false, narrowed := true }
def FnConstUptoSaid : Prop := fnConstUptoRow.holds Try.pinned (OpenSpec.upto fnConstSpec)

/-- 'laws.FnMachine', WHERE WHAT IT READS IS OF BULK AT MOST 1048576: true; the input reads as it did. -/
def fnMachineUptoRow : OpenClaim := { program := "ytebnompjkpcgiaa", sum := "4184a46e088d08ede4440e81373de7c3fca7757d2bd100ea3882fcdd26f73b55", func := "loop.example/cothreads/laws.FnMachine", spec := "fnMachine", apart := false, narrowed := true }
def FnMachineUptoSaid : Prop := fnMachineUptoRow.holds Try.pinned (OpenSpec.upto fnMachineSpec)

/-- 'laws.FnThreadExpr', WHERE WHAT IT READS IS OF BULK AT MOST 1048576: true; the input reads as it did. -/
def fnThreadExprUptoRow : OpenClaim := { program := "ytebnompjkpcgiaa", sum := "4184a46e088d08ede4440e81373de7c3fca7757d2bd100ea3882fcdd26f73b55", func := "loop.example/cothreads/laws.FnThreadExpr", spec := "fnThreadExpr", recurses := true, apart := false, narrowed := true }
def FnThreadExprUptoSaid : Prop := fnThreadExprUptoRow.holds Try.pinned (OpenSpec.upto fnThreadExprSpec)

end Rows
end Go.Proofs.Ytebnompjkpcgiaa
