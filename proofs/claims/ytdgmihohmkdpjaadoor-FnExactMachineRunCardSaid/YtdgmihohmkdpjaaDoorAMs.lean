/-
  Lists of instructions are compared; the law FnConstSum. No condition.
-/
import Derived.Test.YtdgmihohmkdpjaaDoorAMr
namespace Go.Proofs.YtdgmihohmkdpjaaDoor.AM
set_option linter.unusedSimpArgs false
set_option linter.unusedVariables false
open Go

theorem Ins.eqInts (a b : Ins) : eqInts a.cs b.cs = some (decide (a = b)) := by
  cases a; cases b
  simp [Ins.cs, AM.eqInts]
  rw [Bool.eq_iff_iff]; simp [and_assoc]

section
variable {H : AH} {K : AV → AH → Prop} {n rd : Int} {w : Fk K}
theorem SeesI.at {H : AH} {v : AV} {l : List Ins} (h : SeesI H v l) {i : Nat} (hi : i < l.length) : ∃ b o, asSl v = some (b, o, l.length) ∧ b < H.n ∧ H.loadN b (o + i * 5) 5 = some l[i].cs := by
  obtain ⟨b, o, h1, h2, h3⟩ := h.2.2 i (l[i].cs) (by simp [hi])
  exact ⟨b, o, by simpa using h1, h2, h3⟩
theorem SeesI.len {H : AH} {v : AV} {l : List Ins} (h : SeesI H v l) : alen v = some l.length := by simpa using h.1
theorem SeesI.big {H : AH} {v : AV} {l : List Ins} (h : SeesI H v l) : l.length ≤ 8589934592 := by simpa using h.2.1
theorem const_sum (hn : -2147483648 ≤ n ∧ n ≤ 2147483647) : wrapM (lowM n + highM n * 4096) = n := by
  have e1 : unsM n = n % 4294967296 := by unfold unsM; rw [if_pos hn]
  have e2 : bitsM (unsM n) 0 12 = n % 4294967296 % 4096 := by rw [e1]; unfold bitsM; rw [if_pos (by omega)]; simp
  have e3 : lowM n = if 2048 ≤ n % 4294967296 % 4096 then n % 4294967296 % 4096 - 4096 else n % 4294967296 % 4096 := by
    unfold lowM; rw [e2]; unfold signM; rw [if_pos (by simp; omega)]; simp
  have h4 := @wrapM_lt (n - lowM n)
  have e4 : unsM (wrapM (n - lowM n)) = wrapM (n - lowM n) % 4294967296 := by unfold unsM; rw [if_pos h4]
  have e5 : highM n = wrapM (n - lowM n) % 4294967296 / 4096 % 1048576 := by unfold highM; rw [e4]; unfold bitsM; rw [if_pos (by omega)]; simp
  rw [e5]
  generalize lowM n = low at *
  unfold wrapM at *
  split at e3 <;> omega
theorem ins_imm {H : AH} {b o : Nat} {x : Ins} (h : H.loadN b o 5 = some x.cs) : H.load b (o + 4) = some (.I x.imm) := (loadN_at h (j := 4) (by omega)).trans rfl
end
end Go.Proofs.YtdgmihohmkdpjaaDoor.AM
