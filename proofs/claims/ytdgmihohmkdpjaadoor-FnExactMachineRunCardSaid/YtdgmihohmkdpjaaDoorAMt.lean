/-
  What InstrValid computes; the law FnConst. No condition.
-/
import Derived.Test.YtdgmihohmkdpjaaDoorAMs
namespace Go.Proofs.YtdgmihohmkdpjaaDoor.AM
set_option linter.unusedSimpArgs false
set_option linter.unusedVariables false
open Go

def isR (n : Int) : Bool := decide (0 ≤ n ∧ n < 32)
def fmtM (op : Int) : Int := if 1 ≤ op ∧ op ≤ 11 then 82 else if 12 ≤ op ∧ op ≤ 15 then 73 else if op = 16 then 83 else if op = 17 ∨ op = 18 then 66 else if op = 19 then 85 else if op = 20 then 74 else if op = 21 then 69 else 32
def shortM (n : Int) : Bool := decide (-2048 ≤ n ∧ n ≤ 2047)
def validM (i : Ins) : Bool :=
  if fmtM i.op = 82 then isR i.rd && isR i.rs && isR i.rt && decide (i.imm = 0)
  else if fmtM i.op = 73 then isR i.rd && isR i.rs && decide (i.rt = 0) && shortM i.imm
  else if fmtM i.op = 83 then decide (i.rd = 0) && isR i.rs && isR i.rt && shortM i.imm
  else if fmtM i.op = 66 then decide (i.rd = 0) && isR i.rs && isR i.rt && decide (-4096 ≤ i.imm) && decide (i.imm ≤ 4094) && decide (i.imm.tmod 2 = 0)
  else if fmtM i.op = 85 then isR i.rd && decide (i.rs = 0) && decide (i.rt = 0) && decide (0 ≤ i.imm) && decide (i.imm ≤ 1048575)
  else if fmtM i.op = 74 then isR i.rd && decide (i.rs = 0) && decide (i.rt = 0) && decide (-1048576 ≤ i.imm) && decide (i.imm ≤ 1048574) && decide (i.imm.tmod 2 = 0)
  else if fmtM i.op = 69 then decide (i = ⟨21, 0, 0, 0, 0⟩)
  else false

theorem fmt82 {n : Int} (h : 1 ≤ n ∧ n ≤ 11) : fmtM n = 82 := by unfold fmtM; rw [if_pos h]
theorem fmt73 {n : Int} (h : 12 ≤ n ∧ n ≤ 15) : fmtM n = 73 := by unfold fmtM; rw [if_neg (fun q => by omega), if_pos h]
theorem fmt83 {n : Int} (h : n = 16) : fmtM n = 83 := by subst h; rfl
theorem fmt66 {n : Int} (h : n = 17 ∨ n = 18) : fmtM n = 66 := by rcases h with rfl | rfl <;> rfl
theorem fmt85 {n : Int} (h : n = 19) : fmtM n = 85 := by subst h; rfl
theorem fmt74 {n : Int} (h : n = 20) : fmtM n = 74 := by subst h; rfl
theorem fmt69 {n : Int} (h : n = 21) : fmtM n = 69 := by subst h; rfl
theorem fmt32 {n : Int} (h : n < 1 ∨ 21 < n) : fmtM n = 32 := by
  unfold fmtM
  rw [if_neg (fun q => by omega), if_neg (fun q => by omega), if_neg (fun q => by omega), if_neg (fun q => by omega), if_neg (fun q => by omega), if_neg (fun q => by omega), if_neg (fun q => by omega)]

section
variable {H : AH} {K : AV → AH → Prop} {n rd : Int} {w : Fk K}
theorem K_iisMachineReg : CallF Cd f_iisMachineReg [.I n] H K w = K (.b (isR n)) H := by
  rw [CallF_eq e_iisMachineReg rfl]
  simp
  repeat' (refine cnd_iff (fun h => ?_) (fun h => ?_) <;> try simp (disch := omega) [*])
  all_goals (refine Kb_fin ?_; simp [isR]; try omega)
theorem K_iformatOf : CallF Cd f_iformatOf [.I n] H K w = K (.i .u8 (fmtM n)) H := by
  rw [CallF_eq e_iformatOf rfl]
  simp
  repeat' (refine cnd_iff (fun h => ?_) (fun h => ?_) <;> try simp (disch := omega) [*])
  all_goals (refine Ki_fin ?_)
  all_goals first | exact (fmt82 (by omega)).symm | exact (fmt73 (by omega)).symm | exact (fmt83 (by omega)).symm | exact (fmt66 (by omega)).symm | exact (fmt85 (by omega)).symm | exact (fmt74 (by omega)).symm | exact (fmt69 (by omega)).symm | exact (fmt32 (by omega)).symm
theorem K_iInstrValid {i : Ins} : CallF Cd f_iInstrValid [.agg i.cs] H K w = K (.b (validM i)) (H.push i.cs) := by
  rw [CallF_eq e_iInstrValid rfl]
  simp [Ins.cs, load_push, loadN_push, K_iisMachineReg]
  repeat' (refine cnd_iff (fun h => ?_) (fun h => ?_) <;> try simp (disch := omega) [*, Ins.cs, load_push, loadN_push, K_iisMachineReg, K_iformatOf])
  all_goals (refine Kb_fin ?_; simp (disch := omega) [*, validM, shortM])
  all_goals (cases i; simp [and_assoc])
end
end Go.Proofs.YtdgmihohmkdpjaaDoor.AM
