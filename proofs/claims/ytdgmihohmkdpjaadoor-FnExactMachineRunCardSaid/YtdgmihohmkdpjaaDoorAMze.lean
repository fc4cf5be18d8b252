/-
  What decoding finds, in plain numbers. No condition.
-/
import Derived.Test.YtdgmihohmkdpjaaDoorAMzd
namespace Go.Proofs.YtdgmihohmkdpjaaDoor.AM
set_option linter.unusedSimpArgs false
set_option linter.unusedVariables false
open Go

theorem cases21 {op : Int} (h : 1 ≤ op ∧ op ≤ 21) : op = 1 ∨ op = 2 ∨ op = 3 ∨ op = 4 ∨ op = 5 ∨ op = 6 ∨ op = 7 ∨ op = 8 ∨ op = 9 ∨ op = 10 ∨ op = 11 ∨ op = 12 ∨ op = 13 ∨ op = 14 ∨ op = 15 ∨ op = 16 ∨ op = 17 ∨ op = 18 ∨ op = 19 ∨ op = 20 ∨ op = 21 := by omega
theorem b5 {u lo : Int} : 0 ≤ bitsM u lo 5 ∧ bitsM u lo 5 < 32 := bits_lt
theorem b1 {u lo : Int} : 0 ≤ bitsM u lo 1 ∧ bitsM u lo 1 < 2 := bits_lt
theorem b3 {u lo : Int} : 0 ≤ bitsM u lo 3 ∧ bitsM u lo 3 < 8 := bits_lt
theorem b4 {u lo : Int} : 0 ≤ bitsM u lo 4 ∧ bitsM u lo 4 < 16 := bits_lt
theorem b6 {u lo : Int} : 0 ≤ bitsM u lo 6 ∧ bitsM u lo 6 < 64 := bits_lt
theorem b7 {u lo : Int} : 0 ≤ bitsM u lo 7 ∧ bitsM u lo 7 < 128 := bits_lt
theorem b8 {u lo : Int} : 0 ≤ bitsM u lo 8 ∧ bitsM u lo 8 < 256 := bits_lt
theorem b10 {u lo : Int} : 0 ≤ bitsM u lo 10 ∧ bitsM u lo 10 < 1024 := bits_lt
theorem b12 {u lo : Int} : 0 ≤ bitsM u lo 12 ∧ bitsM u lo 12 < 4096 := bits_lt
theorem b20 {u lo : Int} : 0 ≤ bitsM u lo 20 ∧ bitsM u lo 20 < 1048576 := bits_lt
theorem fld_near {op u : Int} (h : 1 ≤ op ∧ op ≤ 21) : (fldM op u).near ∧ (fldM op u).op = op := by
  have h7 := @b5 u 7
  have h15 := @b5 u 15
  have h20 := @b5 u 20
  have hi := @b20 u 12
  have s1 := @sign12 (bitsM u 20 12)
  have s2 := @sign12 (bitsM u 25 7 * 32 + bitsM u 7 5)
  have s3 := @sign13 (bitsM u 31 1 * 4096 + bitsM u 7 1 * 2048 + bitsM u 25 6 * 32 + bitsM u 8 4 * 2)
  have s4 := @sign21 (bitsM u 31 1 * 1048576 + bitsM u 12 8 * 4096 + bitsM u 20 1 * 2048 + bitsM u 21 10 * 2)
  unfold fldM Ins.near
  repeat' split
  all_goals (simp; try omega)
theorem fld_valid {op u : Int} (h : 1 ≤ op ∧ op ≤ 21) : validM (fldM op u) = true := by
  have h7 := @b5 u 7
  have h15 := @b5 u 15
  have h20 := @b5 u 20
  have hi := @b20 u 12
  have s1 := @sign12 (bitsM u 20 12)
  have s2 := @sign12 (bitsM u 25 7 * 32 + bitsM u 7 5)
  have s3 := @sign13 (bitsM u 31 1 * 4096 + bitsM u 7 1 * 2048 + bitsM u 25 6 * 32 + bitsM u 8 4 * 2)
  have s4 := @sign21 (bitsM u 31 1 * 1048576 + bitsM u 12 8 * 4096 + bitsM u 20 1 * 2048 + bitsM u 21 10 * 2)
  have t3 := @sign_even (bitsM u 31 1 * 4096 + bitsM u 7 1 * 2048 + bitsM u 25 6 * 32 + bitsM u 8 4 * 2) 13 (by omega) (by omega)
  have t4 := @sign_even (bitsM u 31 1 * 1048576 + bitsM u 12 8 * 4096 + bitsM u 20 1 * 2048 + bitsM u 21 10 * 2) 21 (by omega) (by omega)
  have t3' := Int.tmod_eq_zero_of_dvd (Int.dvd_of_emod_eq_zero t3)
  have t4' := Int.tmod_eq_zero_of_dvd (Int.dvd_of_emod_eq_zero t4)
  rcases cases21 h with rfl | rfl | rfl | rfl | rfl | rfl | rfl | rfl | rfl | rfl | rfl | rfl | rfl | rfl | rfl | rfl | rfl | rfl | rfl | rfl | rfl
  all_goals simp [fldM, validM, fmtM, isR, shortM, h7, h15, h20, s1, s2, t3', t4', s3, s4]
  all_goals (try omega)
theorem match_op {op u : Int} (h : 1 ≤ op ∧ op ≤ 21) (hm : matchM op u = true) : opS u = op := by
  rcases cases21 h with rfl | rfl | rfl | rfl | rfl | rfl | rfl | rfl | rfl | rfl | rfl | rfl | rfl | rfl | rfl | rfl | rfl | rfl | rfl | rfl | rfl
  all_goals simp only [matchM, Bool.and_eq_true, decide_eq_true_eq] at hm
  all_goals simp [opcM, threeM, sevenM] at hm
  all_goals first
    | (obtain ⟨h1, h2, h3⟩ := hm; unfold opS; rw [← h1, ← h2, ← h3]; decide)
    | (obtain ⟨h1, h2⟩ := hm; unfold opS; rw [← h1, ← h2]; simp; done)
    | (unfold opS; rw [← hm]; simp; done)
theorem ops_range {u : Int} (h : opS u ≠ 0) : 1 ≤ opS u ∧ opS u ≤ 21 := by
  unfold opS at h ⊢
  split
  · cases hf : ((List.range 11).map fun (n : Nat) => (n : Int) + 1).find? fun op => decide (bitsM u 12 3 = threeM op ∧ bitsM u 25 7 = sevenM op) with
    | none => rw [hf] at h; simp_all
    | some x =>
      have := List.mem_of_find?_eq_some hf
      simp at this
      obtain ⟨a, ha, rfl⟩ := this
      simp; omega
  · rename_i hb
    rw [if_neg hb] at h
    repeat' (split at h <;> try simp_all)
    all_goals (repeat' split) <;> omega
theorem mod_lt12 {x : Int} : 0 ≤ mod2 (signM x 12) 4096 ∧ mod2 (signM x 12) 4096 < 4096 := by
  have := @sign12 x
  unfold mod2; split <;> omega
theorem ok_match {u : Int} (h : okM u = true) : matchM (opS u) u = true := by
  simp only [okM, Bool.and_eq_true, decide_eq_true_eq, isU] at h
  obtain ⟨⟨hu, h0⟩, he⟩ := h
  have hr := ops_range h0
  have hopc : bitsM u 0 7 = u % 128 := by unfold bitsM; rw [if_pos (by omega)]; simp
  have hf3 : bitsM u 12 3 = u / 4096 % 8 := by unfold bitsM; rw [if_pos (by omega)]; simp
  have hf7 : bitsM u 25 7 = u / 33554432 % 128 := by unfold bitsM; rw [if_pos (by omega)]; simp
  have h7 := @b5 u 7
  have h15 := @b5 u 15
  have h20 := @b5 u 20
  have hi := @b20 u 12
  have hm := @mod_lt12 (bitsM u 20 12)
  generalize opS u = op at *
  rcases cases21 hr with rfl | rfl | rfl | rfl | rfl | rfl | rfl | rfl | rfl | rfl | rfl | rfl | rfl | rfl | rfl | rfl | rfl | rfl | rfl | rfl | rfl
  all_goals simp [fldM, encM, midM, threeM, sevenM, opcM] at he
  all_goals simp [matchM, opcM, threeM, sevenM, hopc, hf3, hf7]
  iterate 15 (first | omega | (clear hm; omega))
  · have q1 := @b7 (mod2 (signM (bitsM u 25 7 * 32 + bitsM u 7 5) 12) 4096) 5
    have q2 := @b5 (mod2 (signM (bitsM u 25 7 * 32 + bitsM u 7 5) 12) 4096) 0
    omega
  · generalize mod2 (signM (bitsM u 31 1 * 4096 + bitsM u 7 1 * 2048 + bitsM u 25 6 * 32 + bitsM u 8 4 * 2) 13) 8192 = mm at he
    have q1 := @b1 mm 12
    have q2 := @b6 mm 5
    have q3 := @b4 mm 1
    have q4 := @b1 mm 11
    omega
  · generalize mod2 (signM (bitsM u 31 1 * 4096 + bitsM u 7 1 * 2048 + bitsM u 25 6 * 32 + bitsM u 8 4 * 2) 13) 8192 = mm at he
    have q1 := @b1 mm 12
    have q2 := @b6 mm 5
    have q3 := @b4 mm 1
    have q4 := @b1 mm 11
    omega
  · omega
  · generalize mod2 (signM (bitsM u 31 1 * 1048576 + bitsM u 12 8 * 4096 + bitsM u 20 1 * 2048 + bitsM u 21 10 * 2) 21) 2097152 = mm at he
    have q1 := @b1 mm 20
    have q2 := @b10 mm 1
    have q3 := @b1 mm 11
    have q4 := @b8 mm 12
    omega
  · omega
end Go.Proofs.YtdgmihohmkdpjaaDoor.AM
