/-
  What the condition on the two laid tables gives: their cells. No condition.
-/
import Derived.Test.YtdgmihohmkdpjaaDoorRows
import Derived.Test.YtdgmihohmkdpjaaDoorAMzq
import Derived.ProofKit
import Derived.LaidMore
import Derived.MakeChecks
import Derived.LaidHandle
namespace Go.Proofs.YtdgmihohmkdpjaaDoor
open Go.ChangeShapes Go.WideShapes Go.RowKit
def laidL : List (String × DataW Unit) := [("loop.example/cothreads/impl.instrTable", Rows.laid_loop_example_cothreads_impl_instrTable), ("loop.example/cothreads/impl.machineOps", Rows.laid_loop_example_cothreads_impl_machineOps)]
theorem gTab : Tryd.prog.globalNamed "loop.example/cothreads/impl.instrTable" = some 0 := by kernel_rfl
theorem gOps : Tryd.prog.globalNamed "loop.example/cothreads/impl.machineOps" = some 1 := by kernel_rfl
theorem tTab : (Tryd.prog.globals[0]?).map (·.type) = some 64 := by kernel_rfl
theorem tOps : (Tryd.prog.globals[1]?).map (·.type) = some 77 := by kernel_rfl
def nmT (j : Nat) : List UInt8 := ([[97, 100, 100], [115, 117, 98], [109, 117, 108], [100, 105, 118], [114, 101, 109], [97, 110, 100], [111, 114], [120, 111, 114], [115, 108, 108], [115, 114, 97], [115, 108, 116], [97, 100, 100, 105], [115, 108, 116, 105, 117], [108, 119], [106, 97, 108, 114], [115, 119], [98, 101, 113], [98, 110, 101], [108, 117, 105], [106, 97, 108], [101, 99, 97, 108, 108]] : List (List UInt8)).getD j []
theorem tabD : (Rows.laid_loop_example_cothreads_impl_instrTable : DataW Unit) = .agg ((List.range 21).map (AM.rowD nmT)) := by rfl
theorem opsD : (Rows.laid_loop_example_cothreads_impl_machineOps : DataW Unit) = .agg (AM.mops.map fun n => .lit (.int .i64 n)) := by rfl
theorem tab_cells {W : World} (h : laidMetH Tryd.prog laidL W) : AM.TabCells W ∧ 2 ≤ W.heap.size := by
  rw [MakeChecks.laidMetH_plain _ _ _ (by kernel_rfl)] at h
  obtain ⟨ps, ⟨g0, t0, cs0, f0, p0, q0, hg0, ht0, hv0, hd0, ⟨g1, t1, cs1, f1, p1, q1, hg1, ht1, hv1, hd1, _, _⟩, _⟩, _, _⟩ := h
  obtain rfl := Option.some.inj (gTab.symm.trans hg0)
  obtain rfl := Option.some.inj (gOps.symm.trans hg1)
  obtain rfl := Option.some.inj (tTab.symm.trans ht0)
  obtain rfl := Option.some.inj (tOps.symm.trans ht1)
  rw [tabD] at hd0
  rw [opsD] at hd1
  have c0 := World.var?_cell hg0 hv0
  have c1 := World.var?_cell hg1 hv1
  refine ⟨⟨fun j hj => ?_, fun j n hj => ?_⟩, ?_⟩
  · obtain ⟨s, q0, q1, q2, q3⟩ := AM.tab_of Tryd.underlying64 Tryd.underlying63 Tryd.underlying9 Tryd.underlying3 ⟨rfl, rfl⟩ ⟨rfl, rfl⟩ ⟨rfl, rfl⟩ ⟨rfl, rfl⟩ (by kernel_rfl) (by kernel_rfl) (by kernel_rfl) hd0 hj
    exact ⟨s, by rw [c0]; simpa using q0, by rw [c0]; simpa using q1, by rw [c0]; simpa using q2, by rw [c0]; simpa using q3⟩
  · rw [c1]; have := AM.ops_of Tryd.underlying77 Tryd.underlying3 (by kernel_rfl) hd1 hj; simpa using this
  · have := c1 0
    have q := AM.ops_of Tryd.underlying77 Tryd.underlying3 (by kernel_rfl) hd1 (j := 0) (n := 8) rfl
    rw [show cs1[0]? = some (.int .i64 8) by simpa using q] at this
    exact AM.cell_lt this
theorem door_met (os : Os) (args : Array Value) : laidMetH Tryd.prog laidL ((World.doorLaid Tryd.prog 40 os).forCall (fun _ _ => 0) ⟨#[], args, []⟩).memory :=
  laidMetH_of_parts3 (fuel := 8) (laidMet_of_run' 8 (by kernel_rfl) (by kernel_rfl)) (by kernel_rfl) (by kernel_rfl)
end Go.Proofs.YtdgmihohmkdpjaaDoor
