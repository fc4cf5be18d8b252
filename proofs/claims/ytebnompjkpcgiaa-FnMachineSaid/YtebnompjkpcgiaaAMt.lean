/-
  What InstrValid computes; the law FnConst. No condition.
-/
import Derived.Test.YtebnompjkpcgiaaAMs
namespace Go.Proofs.Ytebnompjkpcgiaa.AM
set_option linter.unusedSimpArgs false
set_option linter.unusedVariables false
open Go

def isR (n : Int) : Bool := decide (0 ≤ n ∧ n < 32)
def fmtM (op : Int) : Int := if 1 ≤ op ∧ op ≤ 11 then 82 else if 12 ≤ op ∧ op ≤ 15 then 73 else if op = 16 then 83 else if op = 17 ∨ op = 18 then 66 else if op = 19 then 85 else if op = 20 then 74 else if op = 21 then 69 else 32
def shortM (n : Int) : Bool := decide (-2048 ≤ n ∧ n ≤ 2047)
def validM (i : Ins) : Bool :=
  if fmtM i.op = 82 then isR i.rd && isR i.rs && isR i.rt && decide (i.imm = 0)
  else if fmtM i.op = 73 then isR i.rd && isR i.rs && decide (i.rt = 0) && shortM i.imm
  else if fmtM i.op = 83 then decide (i.rd = 0) && isR i.rs && isR i.rt && shortM i.imm
  else if fmtM i.op = 66 then decide (i.rd = 0) && isR i.rs && isR i.rt && decide (-4096 ≤ i.imm) && decide (i.imm ≤ 4094) && decide (i.imm.tmod 2 = 0)
  else if fmtM i.op = 85 then isR i.rd && decide (i.rs = 0) && decide (i.rt = 0) && decide (0 ≤ i.imm) && decide (i.imm ≤ 1048575)
  else if fmtM i.op = 74 then isR i.rd && decide (i.rs = 0) && decide (i.rt = 0) && decide (-1048576 ≤ i.imm) && decide (i.imm ≤ 1048574) && decide (i.imm.tmod 2 = 0)
  else if fmtM i.op = 69 then decide (i = ⟨21, 0, 0, 0, 0⟩)
  else false

theorem fmt82 {n : Int} (h : 1 ≤ n ∧ n ≤ 11) : fmtM n = 82 := by unfold fmtM; rw [if_pos h]
theorem fmt73 {n : Int} (h : 12 ≤ n ∧ n ≤ 15) : fmtM n = 73 := by unfold fmtM; rw [if_neg (fun q => by omega), if_pos h]
theorem fmt83 {n : Int} (h : n = 16) : fmtM n = 83 := by subst h; rfl
theorem fmt66 {n : Int} (h : n = 17 ∨ n = 18) : fmtM n = 66 := by rcases h with rfl | rfl <;> rfl
theorem fmt85 {n : Int} (h : n = 19) : fmtM n = 85 := by subst h; rfl
theorem fmt74 {n : Int} (h : n = 20) : fmtM n = 74 := by subst h; rfl
theorem fmt69 {n : Int} (h : n = 21) : fmtM n = 69 := by subst h; rfl
theorem fmt32 {n : Int} (h : n < 1 ∨ 21 < n) : fmtM n = 32 := by
  unfold fmtM
  rw [if_neg (fun q => by omega), if_neg (fun q => by omega), if_neg (fun q => by omega), if_neg (fun q => by omega), if_neg (fun q => by omega), if_neg (fun q => by omega), if_neg (fun q => by omega)]

section
variable {H : AH} {K : AV → AH → Prop} {n rd : Int} {w : Fk K}
theorem K_iisMachineReg : CallF Cd f_iisMachineReg [.I n] H K w = K (.b (isR n)) H := by
  rw [CallF_eq e_iisMachineReg rfl]
  simp
  repeat' (refine cnd_iff (fun h => ?_) (fun h => ?_) <;> try simp (disch := omega) [*])
  all_goals (refine Kb_fin ?_; simp [isR]; try omega)
theorem K_iformatOf : CallF Cd f_iformatOf [.I n] H K w = K (.i .u8 (fmtM n)) H := by
  rw [CallF_eq e_iformatOf rfl]
  simp
  repeat' (refine cnd_iff (fun h => ?_) (fun h => ?_) <;> try simp (disch := omega) [*])
  all_goals (refine Ki_fin ?_)
  all_goals first | exact (fmt82 (by omega)).symm | exact (fmt73 (by omega)).symm | exact (fmt83 (by omega)).symm | exact (fmt66 (by omega)).symm | exact (fmt85 (by omega)).symm | exact (fmt74 (by omega)).symm | exact (fmt69 (by omega)).symm | exact (fmt32 (by omega)).symm
theorem K_iInstrValid {i : Ins} : CallF Cd f_iInstrValid [.agg i.cs] H K w = K (.b (validM i)) (H.push i.cs) := by
  rw [CallF_eq e_iInstrValid rfl]
  simp [Ins.cs, load_push, loadN_push, K_iisMachineReg]
  repeat' (refine cnd_iff (fun h => ?_) (fun h => ?_) <;> try simp (disch := omega) [*, Ins.cs, load_push, loadN_push, K_iisMachineReg, K_iformatOf])
  all_goals (refine Kb_fin ?_; simp (disch := omega) [*, validM, shortM])
  all_goals (cases i; simp [and_assoc])
theorem law_FnConst {v : AV} {zs : List Int} (h : SlI H .u8 v zs) (hz : ∀ n ∈ zs, 0 ≤ n ∧ n < 256) : CallK Cd f_wFnConst [v] H fun v _ => v = .b true := by
  rw [CallK_F, CallF_eq e_wFnConst rfl]
  simp [h.len]
  refine cnd_mk (fun h1 => ?_) (fun h1 => ?_)
  · simp
  simp
  refine K_sDrawConstInstrs h hz (by omega) fun rd n H1 => ?_
  simp
  refine K_iConstInstrs fun a H2 ha hH2 => ?_
  simp
  refine K_sConstInstrs fun b H3 hb hH3 => ?_
  have ha := ha.ext hH3
  simp [K_wsameInstrs ha hb]
  refine cnd_mk (fun hok => ?_) (fun hok => ?_)
  · have hok : constOk rd n = false := by simpa using hok
    simp [hok, K_wsameInstrs ha hb]
  have hok : constOk rd n = true := by simpa using hok
  have hn : (1 ≤ rd ∧ rd ≤ 31) ∧ -2147483648 ≤ n ∧ n ≤ 2147483647 := by simpa [constOk, isW] using hok
  by_cases hs : -2048 ≤ n ∧ n ≤ 2047
  · have e : constM rd n = [⟨12, rd, 0, 0, n⟩] := by unfold constM constL; rw [if_pos hok, if_pos hs]
    rw [e] at ha
    obtain ⟨b0, o0, s0, hb0, l0⟩ := SeesI.at (H := H3) ha (i := 0) (by simp)
    have q0 := loadN_at l0 (j := 0) (by omega)
    have q1 := loadN_at l0 (j := 1) (by omega)
    simp [Ins.cs] at q0 q1
    simp at l0 s0
    have hlen : alen a = some 1 := ha.1
    have n0 : ¬ b0 = H3.n := by omega
    have v0 : validM ⟨12, rd, 0, 0, n⟩ = true := by simp [validM, fmtM, isR, shortM]; omega
    simp [hok]
    rw [W_loop_as c_wFnConst_l0.eq_1]
    simp [hlen, s0, l0, K_iInstrValid, v0, load_push, n0, q0, q1]
    rw [W_loop_as c_wFnConst_l0.eq_1]
    simp [hlen, s0, l0, K_iInstrValid, v0, load_push, n0, q0, q1, hs.1, hs.2]
  · have e : constM rd n = [⟨19, rd, 0, 0, highM n⟩, ⟨12, rd, rd, 0, lowM n⟩] := by unfold constM constL; rw [if_pos hok, if_neg hs]
    rw [e] at ha
    obtain ⟨b0, o0, s0, hb0, l0⟩ := SeesI.at (H := H3) ha (i := 0) (by simp)
    obtain ⟨b1, o1, s1, _, l1⟩ := SeesI.at (H := H3) ha (i := 1) (by simp)
    rw [s0] at s1
    simp only [Option.some.injEq, Prod.mk.injEq] at s1
    obtain ⟨rfl, rfl, _⟩ := s1
    have q1 := loadN_at l0 (j := 1) (by omega)
    have q5 := loadN_at l1 (j := 0) (by omega)
    have q6 := loadN_at l1 (j := 1) (by omega)
    simp [Ins.cs] at q1 q5 q6
    simp at l0 s0 l1
    have hlen : alen a = some 2 := ha.1
    have n0 : ¬ b0 = H3.n := by omega
    have n1 : ¬ b0 = H3.n + 1 := by omega
    have hh : 0 ≤ highM n ∧ highM n < 1048576 := by
      unfold highM bitsM; split
      · have := @mod_pow_lt (unsM (wrapM (n - lowM n)) / 2 ^ (12:Int).toNat) 20; simpa using this
      · omega
    have hl := @lowM_lt n
    have v0 : validM ⟨19, rd, 0, 0, highM n⟩ = true := by simp [validM, fmtM, isR]; omega
    have v1 : validM ⟨12, rd, rd, 0, lowM n⟩ = true := by simp [validM, fmtM, isR, shortM]; omega
    simp [hok]
    rw [W_loop_as c_wFnConst_l0.eq_1]
    simp [hlen, s0, l0, K_iInstrValid, v0, load_push, loadN_push, n0, q1]
    rw [W_loop_as c_wFnConst_l0.eq_1]
    simp [hlen, s0, l1, K_iInstrValid, v1, load_push, loadN_push, n0, n1, q5, q6]
    rw [W_loop_as c_wFnConst_l0.eq_1]
    simp [hlen, s0, l1, load_push, loadN_push, n0, n1, q5, q6]
    refine cnd_mk (fun h2 => ?_) (fun h2 => ?_)
    · have h3 : ¬ n ≤ 2047 := by omega
      simp [h2, h3, hlen, s0, load_push, loadN_push, n0, n1, q5]
    · simp [h2, hlen, s0, load_push, loadN_push, n0, n1, q5]
end
end Go.Proofs.Ytebnompjkpcgiaa.AM
