/-
  No cell of these rows narrows 'for every input' (looked for: loops, veiled, ifaces, maps, wideKeys, modest, calm, conditions, laid).
  DERIVED. THE GIVEN ROWS OF THIS SEAT. 11 by the template 'for every input the law returns true; each argument reads behind the call as it read before'; 0 by the template 'total and deterministic' (their statements: YtmecbehegmgbhaaGreatTotals.lean).
  GIVEN WITH THE SEED: the statements are not yours to turn. If you find one false, say at which input.
  Laid BY PROGRAM, IN A SANDBOX (cutbox-rows.mjs): the forced cells as the released guide's own fill.sh prints them over the translation ad30125ffe42f5b5… (all of the seat's roots in one cut). By AI agents, Wed Nov 11 2026. No macro, syntax, notation, axiom, sorry.
-/
import Derived.Test.YtmecbehegmgbhaaGreatChecked
import GoSem.Claim
import GoSem.ClaimJoined
import GoSem.ClaimMapViews
import Derived.JoinedTies
import Derived.KernelRfl
namespace Go.Proofs.YtmecbehegmgbhaaGreat
/- THE CELL 'sum', in the pinned program and in every row, IS THE sha256 OF THE DUMP (.gsa) THAT YtmecbehegmgbhaaGreatProg.lean LOADS. Nothing in Lean hashes anything: it is a label: what it is worth is what the hold of that sum in a sandbox is worth. -/
noncomputable def Tryz.pinned : Pinned := { name := "ytmecbehegmgbhaagreat", sum := "ad30125ffe42f5b55ae7377e7f08be981fe7ca6baffc8a489c855b455f440e36", checked := Tryz.checked }
namespace Rows
def none {H : Type} : Left H := { results := [], args := [] }

/-- 'laws.FnCrewAhead': WHATEVER THE INPUT: true; the input reads as it did. -/
def fnCrewAheadSpec : ChangeSpec := { name := "fnCrewAhead", fn := fun _ => fun
  | [d1, d2] => { results := [.lit (.bool true)], args := [d1, d2] }
  | _ => none }
def fnCrewAheadRow : OpenClaim := { program := "ytmecbehegmgbhaagreat", sum := "ad30125ffe42f5b55ae7377e7f08be981fe7ca6baffc8a489c855b455f440e36", func := "loop.example/cothreads/laws.FnCrewAhead", spec := "fnCrewAhead", unfollowed := true, recurses := true, apart := false }
def FnCrewAheadSaid : Prop := fnCrewAheadRow.holds Tryz.pinned (OpenSpec.ofChange fnCrewAheadSpec)

/-- ITS FALSE NEIGHBOUR: 'it returns false'. Refute it at one input. -/
def fnCrewAheadWrong : ChangeSpec := { name := "fnCrewAhead", fn := fun _ => fun
  | [d1, d2] => { results := [.lit (.bool false)], args := [d1, d2] }
  | _ => none }
def FnCrewAheadWrongFalsely : Prop := fnCrewAheadRow.holds Tryz.pinned (OpenSpec.ofChange fnCrewAheadWrong)

/-- 'laws.FnCrewBack': WHATEVER THE INPUT: true; the input reads as it did. -/
def fnCrewBackSpec : ChangeSpec := { name := "fnCrewBack", fn := fun _ => fun
  | [d] => { results := [.lit (.bool true)], args := [d] }
  | _ => none }
def fnCrewBackRow : OpenClaim := { program := "ytmecbehegmgbhaagreat", sum := "ad30125ffe42f5b55ae7377e7f08be981fe7ca6baffc8a489c855b455f440e36", func := "loop.example/cothreads/laws.FnCrewBack", spec := "fnCrewBack", unfollowed := true, recurses := true, apart := false }
def FnCrewBackSaid : Prop := fnCrewBackRow.holds Tryz.pinned (OpenSpec.ofChange fnCrewBackSpec)

/-- ITS FALSE NEIGHBOUR: 'it returns false'. Refute it at one input. -/
def fnCrewBackWrong : ChangeSpec := { name := "fnCrewBack", fn := fun _ => fun
  | [d] => { results := [.lit (.bool false)], args := [d] }
  | _ => none }
def FnCrewBackWrongFalsely : Prop := fnCrewBackRow.holds Tryz.pinned (OpenSpec.ofChange fnCrewBackWrong)

/-- 'laws.FnTraceKinds': WHATEVER THE INPUT: true; the input reads as it did. -/
def fnTraceKindsSpec : ChangeSpec := { name := "fnTraceKinds", fn := fun _ => fun
  | [d] => { results := [.lit (.bool true)], args := [d] }
  | _ => none }
def fnTraceKindsRow : OpenClaim := { program := "ytmecbehegmgbhaagreat", sum := "ad30125ffe42f5b55ae7377e7f08be981fe7ca6baffc8a489c855b455f440e36", func := "loop.example/cothreads/laws.FnTraceKinds", spec := "fnTraceKinds", unfollowed := true, recurses := true, apart := false }
def FnTraceKindsSaid : Prop := fnTraceKindsRow.holds Tryz.pinned (OpenSpec.ofChange fnTraceKindsSpec)

/-- ITS FALSE NEIGHBOUR: 'it returns false'. Refute it at one input. -/
def fnTraceKindsWrong : ChangeSpec := { name := "fnTraceKinds", fn := fun _ => fun
  | [d] => { results := [.lit (.bool false)], args := [d] }
  | _ => none }
def FnTraceKindsWrongFalsely : Prop := fnTraceKindsRow.holds Tryz.pinned (OpenSpec.ofChange fnTraceKindsWrong)

/-- 'laws.FnTraceMore': WHATEVER THE INPUT: true; the input reads as it did. -/
def fnTraceMoreSpec : ChangeSpec := { name := "fnTraceMore", fn := fun _ => fun
  | [d] => { results := [.lit (.bool true)], args := [d] }
  | _ => none }
def fnTraceMoreRow : OpenClaim := { program := "ytmecbehegmgbhaagreat", sum := "ad30125ffe42f5b55ae7377e7f08be981fe7ca6baffc8a489c855b455f440e36", func := "loop.example/cothreads/laws.FnTraceMore", spec := "fnTraceMore", unfollowed := true, recurses := true, apart := false }
def FnTraceMoreSaid : Prop := fnTraceMoreRow.holds Tryz.pinned (OpenSpec.ofChange fnTraceMoreSpec)

/-- ITS FALSE NEIGHBOUR: 'it returns false'. Refute it at one input. -/
def fnTraceMoreWrong : ChangeSpec := { name := "fnTraceMore", fn := fun _ => fun
  | [d] => { results := [.lit (.bool false)], args := [d] }
  | _ => none }
def FnTraceMoreWrongFalsely : Prop := fnTraceMoreRow.holds Tryz.pinned (OpenSpec.ofChange fnTraceMoreWrong)

/-- 'laws.FnTraceAlone': WHATEVER THE INPUT: true; the input reads as it did. -/
def fnTraceAloneSpec : ChangeSpec := { name := "fnTraceAlone", fn := fun _ => fun
  | [d1, d2] => { results := [.lit (.bool true)], args := [d1, d2] }
  | _ => none }
def fnTraceAloneRow : OpenClaim := { program := "ytmecbehegmgbhaagreat", sum := "ad30125ffe42f5b55ae7377e7f08be981fe7ca6baffc8a489c855b455f440e36", func := "loop.example/cothreads/laws.FnTraceAlone", spec := "fnTraceAlone", unfollowed := true, recurses := true, apart := false }
def FnTraceAloneSaid : Prop := fnTraceAloneRow.holds Tryz.pinned (OpenSpec.ofChange fnTraceAloneSpec)

/-- ITS FALSE NEIGHBOUR: 'it returns false'. Refute it at one input. -/
def fnTraceAloneWrong : ChangeSpec := { name := "fnTraceAlone", fn := fun _ => fun
  | [d1, d2] => { results := [.lit (.bool false)], args := [d1, d2] }
  | _ => none }
def FnTraceAloneWrongFalsely : Prop := fnTraceAloneRow.holds Tryz.pinned (OpenSpec.ofChange fnTraceAloneWrong)

/-- 'laws.FnTraceOf': WHATEVER THE INPUT: true; the input reads as it did. -/
def fnTraceOfSpec : ChangeSpec := { name := "fnTraceOf", fn := fun _ => fun
  | [d] => { results := [.lit (.bool true)], args := [d] }
  | _ => none }
def fnTraceOfRow : OpenClaim := { program := "ytmecbehegmgbhaagreat", sum := "ad30125ffe42f5b55ae7377e7f08be981fe7ca6baffc8a489c855b455f440e36", func := "loop.example/cothreads/laws.FnTraceOf", spec := "fnTraceOf", unfollowed := true, recurses := true, apart := false }
def FnTraceOfSaid : Prop := fnTraceOfRow.holds Tryz.pinned (OpenSpec.ofChange fnTraceOfSpec)

/-- ITS FALSE NEIGHBOUR: 'it returns false'. Refute it at one input. -/
def fnTraceOfWrong : ChangeSpec := { name := "fnTraceOf", fn := fun _ => fun
  | [d] => { results := [.lit (.bool false)], args := [d] }
  | _ => none }
def FnTraceOfWrongFalsely : Prop := fnTraceOfRow.holds Tryz.pinned (OpenSpec.ofChange fnTraceOfWrong)

/-- 'laws.FnTraceRoom': WHATEVER THE INPUT: true; the input reads as it did. -/
def fnTraceRoomSpec : ChangeSpec := { name := "fnTraceRoom", fn := fun _ => fun
  | [d] => { results := [.lit (.bool true)], args := [d] }
  | _ => none }
def fnTraceRoomRow : OpenClaim := { program := "ytmecbehegmgbhaagreat", sum := "ad30125ffe42f5b55ae7377e7f08be981fe7ca6baffc8a489c855b455f440e36", func := "loop.example/cothreads/laws.FnTraceRoom", spec := "fnTraceRoom", unfollowed := true, recurses := true, apart := false }
def FnTraceRoomSaid : Prop := fnTraceRoomRow.holds Tryz.pinned (OpenSpec.ofChange fnTraceRoomSpec)

/-- ITS FALSE NEIGHBOUR: 'it returns false'. Refute it at one input. -/
def fnTraceRoomWrong : ChangeSpec := { name := "fnTraceRoom", fn := fun _ => fun
  | [d] => { results := [.lit (.bool false)], args := [d] }
  | _ => none }
def FnTraceRoomWrongFalsely : Prop := fnTraceRoomRow.holds Tryz.pinned (OpenSpec.ofChange fnTraceRoomWrong)

/-- 'laws.FnCrewVars': WHATEVER THE INPUT: true; the input reads as it did. -/
def fnCrewVarsSpec : ChangeSpec := { name := "fnCrewVars", fn := fun _ => fun
  | [d] => { results := [.lit (.bool true)], args := [d] }
  | _ => none }
def fnCrewVarsRow : OpenClaim := { program := "ytmecbehegmgbhaagreat", sum := "ad30125ffe42f5b55ae7377e7f08be981fe7ca6baffc8a489c855b455f440e36", func := "loop.example/cothreads/laws.FnCrewVars", spec := "fnCrewVars", unfollowed := true, recurses := true, apart := false }
def FnCrewVarsSaid : Prop := fnCrewVarsRow.holds Tryz.pinned (OpenSpec.ofChange fnCrewVarsSpec)

/-- ITS FALSE NEIGHBOUR: 'it returns false'. Refute it at one input. -/
def fnCrewVarsWrong : ChangeSpec := { name := "fnCrewVars", fn := fun _ => fun
  | [d] => { results := [.lit (.bool false)], args := [d] }
  | _ => none }
def FnCrewVarsWrongFalsely : Prop := fnCrewVarsRow.holds Tryz.pinned (OpenSpec.ofChange fnCrewVarsWrong)

/-- 'laws.FnTraceOut': WHATEVER THE INPUT: true; the input reads as it did. -/
def fnTraceOutSpec : ChangeSpec := { name := "fnTraceOut", fn := fun _ => fun
  | [d] => { results := [.lit (.bool true)], args := [d] }
  | _ => none }
def fnTraceOutRow : OpenClaim := { program := "ytmecbehegmgbhaagreat", sum := "ad30125ffe42f5b55ae7377e7f08be981fe7ca6baffc8a489c855b455f440e36", func := "loop.example/cothreads/laws.FnTraceOut", spec := "fnTraceOut", unfollowed := true, recurses := true, apart := false }
def FnTraceOutSaid : Prop := fnTraceOutRow.holds Tryz.pinned (OpenSpec.ofChange fnTraceOutSpec)

/-- ITS FALSE NEIGHBOUR: 'it returns false'. Refute it at one input. -/
def fnTraceOutWrong : ChangeSpec := { name := "fnTraceOut", fn := fun _ => fun
  | [d] => { results := [.lit (.bool false)], args := [d] }
  | _ => none }
def FnTraceOutWrongFalsely : Prop := fnTraceOutRow.holds Tryz.pinned (OpenSpec.ofChange fnTraceOutWrong)

/-- 'laws.FnTraceFifo': WHATEVER THE INPUT: true; the input reads as it did. -/
def fnTraceFifoSpec : ChangeSpec := { name := "fnTraceFifo", fn := fun _ => fun
  | [d] => { results := [.lit (.bool true)], args := [d] }
  | _ => none }
def fnTraceFifoRow : OpenClaim := { program := "ytmecbehegmgbhaagreat", sum := "ad30125ffe42f5b55ae7377e7f08be981fe7ca6baffc8a489c855b455f440e36", func := "loop.example/cothreads/laws.FnTraceFifo", spec := "fnTraceFifo", unfollowed := true, recurses := true, apart := false }
def FnTraceFifoSaid : Prop := fnTraceFifoRow.holds Tryz.pinned (OpenSpec.ofChange fnTraceFifoSpec)

/-- ITS FALSE NEIGHBOUR: 'it returns false'. Refute it at one input. -/
def fnTraceFifoWrong : ChangeSpec := { name := "fnTraceFifo", fn := fun _ => fun
  | [d] => { results := [.lit (.bool false)], args := [d] }
  | _ => none }
def FnTraceFifoWrongFalsely : Prop := fnTraceFifoRow.holds Tryz.pinned (OpenSpec.ofChange fnTraceFifoWrong)

/-- 'laws.FnTraceItems': WHATEVER THE INPUT: true; the input reads as it did. -/
def fnTraceItemsSpec : ChangeSpec := { name := "fnTraceItems", fn := fun _ => fun
  | [d] => { results := [.lit (.bool true)], args := [d] }
  | _ => none }
def fnTraceItemsRow : OpenClaim := { program := "ytmecbehegmgbhaagreat", sum := "ad30125ffe42f5b55ae7377e7f08be981fe7ca6baffc8a489c855b455f440e36", func := "loop.example/cothreads/laws.FnTraceItems", spec := "fnTraceItems", unfollowed := true, recurses := true, apart := false }
def FnTraceItemsSaid : Prop := fnTraceItemsRow.holds Tryz.pinned (OpenSpec.ofChange fnTraceItemsSpec)

/-- ITS FALSE NEIGHBOUR: 'it returns false'. Refute it at one input. -/
def fnTraceItemsWrong : ChangeSpec := { name := "fnTraceItems", fn := fun _ => fun
  | [d] => { results := [.lit (.bool false)], args := [d] }
  | _ => none }
def FnTraceItemsWrongFalsely : Prop := fnTraceItemsRow.holds Tryz.pinned (OpenSpec.ofChange fnTraceItemsWrong)

/- THE SECOND FORM. 'bulk': how many values and letters a reading holds, each counted each time it is reached (what is shared counts as often as it is met; a slice's spare places count too). A statement '..UptoSaid' is the law's where the arguments, and the package variables that the reading takes, are together of bulk at most 1048576: NARROWER than '..Said'. Prove '..Said' where nothing that the law and all that it calls make is longer than what came in: it says more and counts as full. Else prove '..UptoSaid'. A law counts once. -/
mutual
def uptoBulk {H : Type} : DataW H → Nat
  | .lit (.string bytes) => bytes.length + 1
  | .lit _ => 1
  | .nil => 1
  | .ptr d => uptoBulk d + 1
  | .slice elems spare => uptoBulkAll elems + uptoBulkAll spare + 1
  | .agg parts => uptoBulkAll parts + 1
  | .iface _ d => uptoBulk d + 1
  | .map entries => uptoBulkEntries entries + 1
  | .held _ => 1
def uptoBulkAll {H : Type} : List (DataW H) → Nat
  | [] => 0
  | d :: r => uptoBulk d + uptoBulkAll r
def uptoBulkEntries {H : Type} : List (Lit × DataW H) → Nat
  | [] => 0
  | x :: r => uptoBulkEntry x + uptoBulkEntries r
def uptoBulkEntry {H : Type} : Lit × DataW H → Nat
  | (.string bytes, d) => bytes.length + uptoBulk d + 1
  | (_, d) => uptoBulk d + 1
 end
def uptoSmall : (H : Type) → List (DataW H) → Bool := fun _ ds => decide (uptoBulkAll ds ≤ 1048576)
def OpenSpec.upto (s : _root_.Go.ChangeSpec) : _root_.Go.OpenSpec := { _root_.Go.OpenSpec.ofChange s with cond := some uptoSmall }

/-- 'laws.FnCrewAhead', WHERE WHAT IT READS IS OF BULK AT MOST 1048576: true; the input reads as it did. -/
def fnCrewAheadUptoRow : OpenClaim := { program := "ytmecbehegmgbhaagreat", sum := "ad30125ffe42f5b55ae7377e7f08be981fe7ca6baffc8a489c855b455f440e36", func := "loop.example/cothreads/laws.FnCrewAhead", spec := "fnCrewAhead", unfollowed := true, recurses := true, apart := false, narrowed := true }
def FnCrewAheadUptoSaid : Prop := fnCrewAheadUptoRow.holds Tryz.pinned (OpenSpec.upto fnCrewAheadSpec)

/-- 'laws.FnCrewBack', WHERE WHAT IT READS IS OF BULK AT MOST 1048576: true; the input reads as it did. -/
def fnCrewBackUptoRow : OpenClaim := { program := "ytmecbehegmgbhaagreat", sum := "ad30125ffe42f5b55ae7377e7f08be981fe7ca6baffc8a489c855b455f440e36", func := "loop.example/cothreads/laws.FnCrewBack", spec := "fnCrewBack", unfollowed := true, recurses := true, apart := false, narrowed := true }
def FnCrewBackUptoSaid : Prop := fnCrewBackUptoRow.holds Tryz.pinned (OpenSpec.upto fnCrewBackSpec)

/-- 'laws.FnTraceKinds', WHERE WHAT IT READS IS OF BULK AT MOST 1048576: true; the input reads as it did. -/
def fnTraceKindsUptoRow : OpenClaim := { program := "ytmecbehegmgbhaagreat", sum := "ad30125ffe42f5b55ae7377e7f08be981fe7ca6baffc8a489c855b455f440e36", func := "loop.example/cothreads/laws.FnTraceKinds", spec := "fnTraceKinds", unfollowed := true, recurses := true, apart := false, narrowed := true }
def FnTraceKindsUptoSaid : Prop := fnTraceKindsUptoRow.holds Tryz.pinned (OpenSpec.upto fnTraceKindsSpec)

/-- 'laws.FnTraceMore', WHERE WHAT IT READS IS OF BULK AT MOST 1048576: true; the input reads as it did. -/
def fnTraceMoreUptoRow : OpenClaim := { program := "ytmecbehegmgbhaagreat", sum := "ad30125ffe42f5b55ae7377e7f08be981fe7ca6baffc8a489c855b455f440e36", func := "loop.example/cothreads/laws.FnTraceMore", spec := "fnTraceMore", unfollowed := true, recurses := true, apart := false, narrowed := true }
def FnTraceMoreUptoSaid : Prop := fnTraceMoreUptoRow.holds Tryz.pinned (OpenSpec.upto fnTraceMoreSpec)

/-- 'laws.FnTraceAlone', WHERE WHAT IT READS IS OF BULK AT MOST 1048576: true; the input reads as it did. -/
def fnTraceAloneUptoRow : OpenClaim := { program := "ytmecbehegmgbhaagreat", sum := "ad30125ffe42f5b55ae7377e7f08be981fe7ca6baffc8a489c855b455f440e36", func := "loop.example/cothreads/laws.FnTraceAlone", spec := "fnTraceAlone", unfollowed := true, recurses := true, apart := false, narrowed := true }
def FnTraceAloneUptoSaid : Prop := fnTraceAloneUptoRow.holds Tryz.pinned (OpenSpec.upto fnTraceAloneSpec)

/-- 'laws.FnTraceOf', WHERE WHAT IT READS IS OF BULK AT MOST 1048576: true; the input reads as it did. -/
def fnTraceOfUptoRow : OpenClaim := { program := "ytmecbehegmgbhaagreat", sum := "ad30125ffe42f5b55ae7377e7f08be981fe7ca6baffc8a489c855b455f440e36", func := "loop.example/cothreads/laws.FnTraceOf", spec := "fnTraceOf", unfollowed := true, recurses := true, apart := false, narrowed := true }
def FnTraceOfUptoSaid : Prop := fnTraceOfUptoRow.holds Tryz.pinned (OpenSpec.upto fnTraceOfSpec)

/-- 'laws.FnTraceRoom', WHERE WHAT IT READS IS OF BULK AT MOST 1048576: true; the input reads as it did. -/
def fnTraceRoomUptoRow : OpenClaim := { program := "ytmecbehegmgbhaagreat", sum := "ad30125ffe42f5b55ae7377e7f08be981fe7ca6baffc8a489c855b455f440e36", func := "loop.example/cothreads/laws.FnTraceRoom", spec := "fnTraceRoom", unfollowed := true, recurses := true, apart := false, narrowed := true }
def FnTraceRoomUptoSaid : Prop := fnTraceRoomUptoRow.holds Tryz.pinned (OpenSpec.upto fnTraceRoomSpec)

/-- 'laws.FnCrewVars', WHERE WHAT IT READS IS OF BULK AT MOST 1048576: true; the input reads as it did. -/
def fnCrewVarsUptoRow : OpenClaim := { program := "ytmecbehegmgbhaagreat", sum := "ad30125ffe42f5b55ae7377e7f08be981fe7ca6baffc8a489c855b455f440e36", func := "loop.example/cothreads/laws.FnCrewVars", spec := "fnCrewVars", unfollowed := true, recurses := true, apart := false, narrowed := true }
def FnCrewVarsUptoSaid : Prop := fnCrewVarsUptoRow.holds Tryz.pinned (OpenSpec.upto fnCrewVarsSpec)

/-- 'laws.FnTraceOut', WHERE WHAT IT READS IS OF BULK AT MOST 1048576: true; the input reads as it did. -/
def fnTraceOutUptoRow : OpenClaim := { program := "ytmecbehegmgbhaagreat", sum := "ad30125ffe42f5b55ae7377e7f08be981fe7ca6baffc8a489c855b455f440e36", func := "loop.example/cothreads/laws.FnTraceOut", spec := "fnTraceOut", unfollowed := true, recurses := true, apart := false, narrowed := true }
def FnTraceOutUptoSaid : Prop := fnTraceOutUptoRow.holds Tryz.pinned (OpenSpec.upto fnTraceOutSpec)

/-- 'laws.FnTraceFifo', WHERE WHAT IT READS IS OF BULK AT MOST 1048576: true; the input reads as it did. -/
def fnTraceFifoUptoRow : OpenClaim := { program := "ytmecbehegmgbhaagreat", sum := "ad30125ffe42f5b55ae7377e7f08be981fe7ca6baffc8a489c855b455f440e36", func := "loop.example/cothreads/laws.FnTraceFifo", spec := "fnTraceFifo", unfollowed := true, recurses := true, apart := false, narrowed := true }
def FnTraceFifoUptoSaid : Prop := fnTraceFifoUptoRow.holds Tryz.pinned (OpenSpec.upto fnTraceFifoSpec)

/-- 'laws.FnTraceItems', WHERE WHAT IT READS IS OF BULK AT MOST 1048576: true; the input reads as it did. -/
def fnTraceItemsUptoRow : OpenClaim := { program := "ytmecbehegmgbhaagreat", sum := "ad30125ffe42f5b55ae7377e7f08be981fe7ca6baffc8a489c855b455f440e36", func := "loop.example/cothreads/laws.FnTraceItems", spec := "fnTraceItems", unfollowed := true, recurses := true, apart := false, narrowed := true }
def FnTraceItemsUptoSaid : Prop := fnTraceItemsUptoRow.holds Tryz.pinned (OpenSpec.upto fnTraceItemsSpec)

end Rows
end Go.Proofs.YtmecbehegmgbhaaGreat
