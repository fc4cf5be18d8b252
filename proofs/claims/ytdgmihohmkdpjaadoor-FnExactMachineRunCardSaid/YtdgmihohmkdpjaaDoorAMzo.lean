/-
  What a step of a machine keeps, in plain numbers. No condition.
-/
import Derived.Test.YtdgmihohmkdpjaaDoorAMzn
namespace Go.Proofs.YtdgmihohmkdpjaaDoor.AM
set_option linter.unusedSimpArgs false
set_option linter.unusedVariables false
set_option maxRecDepth 10000
open Go

theorem cntD_self : ∀ {l : List Int}, cntD l l = 0
  | [] => rfl
  | x :: l => by simp [cntD, @cntD_self l]
theorem cntD_set : ∀ {l : List Int} {j : Nat} {x : Int}, cntD (l.set j x) l ≤ 1
  | [], _, _ => by simp [cntD]
  | y :: l, 0, x => by simp only [List.set_cons_zero, cntD, cntD_self]; split <;> omega
  | y :: l, j + 1, x => by simp only [List.set_cons_succ, cntD]; have := @cntD_set l j x; simp; exact this
theorem do_mem {m : Mach} {i : Ins} : (doM m i).1.mem.length = m.mem.length := by
  unfold doM; split
  · rfl
  · split
    · rfl
    · simp only; split <;> simp
theorem do_regs {m : Mach} {i : Ins} : (doM m i).1.regs.length = m.regs.length := by
  unfold doM setR; split
  · rfl
  · split
    · rfl
    · simp only; split
      · rfl
      · split <;> simp
theorem step_mem {m : Mach} : (stepM m).1.mem.length = m.mem.length := by
  unfold stepM; split
  · exact do_mem
  · rfl
theorem all_set {l : List Int} {j : Nat} {x : Int} (h : l.all isW = true) (hx : isW x = true) : (l.set j x).all isW = true := by
  rw [List.all_eq_true] at h ⊢
  intro y hy
  rcases List.mem_or_eq_of_mem_set hy with q | q
  · exact h y q
  · rw [q]; exact hx
theorem w_of {x : Int} (h : -2147483648 ≤ x ∧ x ≤ 2147483647) : isW x = true := by simp [isW]; exact h
theorem val_W {m : Mach} {i : Ins} (hv : validMach m = true) (hi : i.near) (h14 : i.op = 14 → wordOk m (wrapM (regM m i.rs + i.imm)) = true) : isW (valM m i) = true := by
  obtain ⟨n1, n2, n3, n4, n5⟩ := hi
  have r1 := valid_reg hv n3
  have r2 := valid_reg hv n4
  refine w_of ?_
  unfold valM
  refine iteW (fun _ => wrapM_lt) fun _ => iteW (fun _ => iteW (fun _ => by omega) fun _ => by omega) fun _ => iteW (fun h => valid_word hv (h14 h)) fun _ => iteW (fun _ => wrapM_lt) fun _ => iteW (fun _ => wrapM_lt) fun _ => apply_W r1 r2
theorem pc_W {m : Mach} {i : Ins} : isW (pcM m i) = true := by
  refine w_of ?_
  have h := @wrapM_lt (regM m i.rs + i.imm)
  unfold pcM
  refine iteW (fun _ => by omega) fun _ => iteW (fun _ => iteW (fun _ => wrapM_lt) fun _ => wrapM_lt) fun _ => iteW (fun _ => wrapM_lt) fun _ => wrapM_lt
theorem do_valid {m : Mach} {i : Ins} (hv : validMach m = true) (hi : i.near) : validMach (doM m i).1 = true := by
  have hv' := hv
  simp only [validMach, Bool.and_eq_true, decide_eq_true_eq] at hv'
  obtain ⟨⟨⟨⟨⟨v1, v2⟩, v3⟩, v4⟩, v5⟩, v6⟩ := hv'
  by_cases h21 : i.op = 21
  · unfold doM; rw [if_pos h21]; exact hv
  by_cases hq : (i.op = 14 ∨ i.op = 16) ∧ wordOk m (wrapM (regM m i.rs + i.imm)) = false
  · unfold doM; rw [if_neg h21, if_pos hq]; exact hv
  have h14 : i.op = 14 → wordOk m (wrapM (regM m i.rs + i.imm)) = true := fun h => by
    cases hw : wordOk m (wrapM (regM m i.rs + i.imm)) with
    | true => rfl
    | false => exact absurd ⟨.inl h, hw⟩ hq
  have hval := val_W hv hi h14
  have hpc := @pc_W m i
  have hrt := w_of (valid_reg hv hi.2.2.2.1)
  unfold doM; rw [if_neg h21, if_neg hq]
  simp only [validMach, Bool.and_eq_true, decide_eq_true_eq]
  refine ⟨⟨⟨⟨⟨?_, ?_⟩, ?_⟩, hpc⟩, ?_⟩, ?_⟩
  · split
    · exact v1
    · unfold setR; split <;> simp [v1]
  · split
    · exact v2
    · unfold setR; split
      · exact v2
      · exact all_set v2 hval
  · split
    · exact v3
    · unfold setR; split
      · exact v3
      · rename_i h0
        rw [List.getElem?_set_ne (by have := hi.2.1; omega)]; exact v3
  · split
    · simpa using v5
    · exact v5
  · split
    · exact all_set v6 hrt
    · exact v6
theorem step_valid {m : Mach} (hv : validMach m = true) : validMach (stepM m).1 = true := by
  unfold stepM; split
  · rename_i h; exact do_valid hv (dec_near h.2).1
  · exact hv
theorem do_still {m : Mach} {i : Ins} (h : (doM m i).2 ≠ 1) : (doM m i).1 = m := by
  unfold doM at h ⊢
  split
  · rfl
  · split
    · rfl
    · rename_i a b; rw [if_neg a, if_neg b] at h; exact absurd rfl h
theorem step_still {m : Mach} (h : (stepM m).2 ≠ 1) : (stepM m).1 = m := by
  unfold stepM at h ⊢
  split
  · rename_i a; rw [if_pos a] at h; exact do_still h
  · rfl
theorem step_code {m : Mach} : (stepM m).2 = 1 ∨ (stepM m).2 = 2 ∨ (stepM m).2 = 3 := by
  unfold stepM doM; split
  · split
    · exact .inr (.inl rfl)
    · split
      · exact .inr (.inr rfl)
      · exact .inl rfl
  · exact .inr (.inr rfl)
theorem do_one {m : Mach} {i : Ins} : cntD (doM m i).1.regs m.regs + cntD (doM m i).1.mem m.mem ≤ 1 := by
  unfold doM
  split
  · simp [cntD_self]
  · split
    · simp [cntD_self]
    · simp only
      by_cases h16 : i.op = 16
      · simp only [h16, true_or, if_true, cntD_self]
        have := @cntD_set m.mem (wrapM (regM m i.rs + i.imm) / 4).toNat (regM m i.rt)
        omega
      · simp only [h16, false_or, if_false, cntD_self]
        split
        · simp [cntD_self]
        · unfold setR; split
          · simp [cntD_self]
          · exact cntD_set
theorem step_one {m : Mach} : cntD (stepM m).1.regs m.regs + cntD (stepM m).1.mem m.mem ≤ 1 := by
  unfold stepM; split
  · exact do_one
  · simp [cntD_self]
theorem step_ok {m : Mach} (h : (stepM m).2 ≠ 3) : wordOk m m.pc = true ∧ okM (unsM (wordAt m m.pc)) = true ∧ stepM m = doM m (decI (unsM (wordAt m m.pc))) := by
  unfold stepM at h ⊢
  split
  · rename_i a; exact ⟨a.1, a.2, rfl⟩
  · rename_i a; rw [if_neg a] at h; exact absurd rfl h
theorem do_21 {m : Mach} {i : Ins} : (doM m i).2 = 2 ↔ i.op = 21 := by
  unfold doM
  by_cases h : i.op = 21
  · simp [h]
  · rw [if_neg h]; split <;> simp [h]
theorem do_mem_eq {m : Mach} {i : Ins} (h : i.op ≠ 16) : (doM m i).1.mem = m.mem := by
  unfold doM; split
  · rfl
  · split
    · rfl
    · simp [h]
theorem do_go {m : Mach} {i : Ins} (h : (doM m i).2 = 1) : (doM m i).1 = ⟨if i.op = 16 ∨ i.op = 17 ∨ i.op = 18 then m.regs else setR m.regs i.rd (valM m i), pcM m i,
    if i.op = 16 then m.mem.set (wrapM (regM m i.rs + i.imm) / 4).toNat (regM m i.rt) else m.mem⟩ ∧ i.op ≠ 21 := by
  unfold doM at h ⊢
  split
  · rename_i a; rw [if_pos a] at h; cases h
  · split
    · rename_i a b; rw [if_neg a, if_pos b] at h; cases h
    · rename_i a b; exact ⟨rfl, a⟩
theorem word_at {H : AH} {e : AV} {m : Mach} {a : Int} (h : SeesZ H e m.mem) (hk : wordOk m a = true) : ∃ b o, asSl e = some (b, o, m.mem.length) ∧ H.load b (o + (a / 4).toNat) = some (.I (wordAt m a)) ∧ 0 ≤ a ∧ a / 4 < m.mem.length ∧ a.tdiv 4 = a / 4 := by
  have hk' := hk
  simp only [wordOk, decide_eq_true_eq] at hk'
  have hlt : (a / 4).toNat < m.mem.length := by omega
  obtain ⟨b, o, h1, h2, h3⟩ := h.at hlt
  refine ⟨b, o, h1, ?_, hk'.1, hk'.2.2, Int.tdiv_eq_ediv_of_nonneg hk'.1⟩
  rw [h3]; simp [wordAt, hlt]
theorem reg_at {H : AH} {e : AV} {m : Mach} {j : Int} (h : SeesZ H e m.regs) (hl : m.regs.length = 32) (hj : 0 ≤ j ∧ j < 32) : ∃ b o, asSl e = some (b, o, 32) ∧ H.load b (o + j.toNat) = some (.I (regM m j)) := by
  have hlt : j.toNat < m.regs.length := by omega
  obtain ⟨b, o, h1, h2, h3⟩ := h.at hlt
  refine ⟨b, o, by rw [h1, hl], ?_⟩
  rw [h3]; simp [regM, hlt]
theorem stepR_no {m : Mach} (h : validMach m = false) : stepR m = (zeroM, 0) := by unfold stepR; simp [h]
theorem stepR_yes {m : Mach} (h : validMach m = true) : stepR m = stepM m := by unfold stepR; simp [h]
end Go.Proofs.YtdgmihohmkdpjaaDoor.AM
