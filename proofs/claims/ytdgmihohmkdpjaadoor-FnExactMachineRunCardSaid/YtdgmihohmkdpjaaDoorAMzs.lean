/-
  The laws on a run of a machine. No condition.
-/
import Derived.Test.YtdgmihohmkdpjaaDoorAMzr
namespace Go.Proofs.YtdgmihohmkdpjaaDoor.AM
set_option linter.unusedSimpArgs false
set_option linter.unusedVariables false
set_option maxRecDepth 10000
open Go

theorem run_succ {n : Nat} {m : Mach} : runM (n + 1) m = if (stepM m).2 = 1 then ((runM n (stepM m).1).1, (runM n (stepM m).1).2.1 + 1, (runM n (stepM m).1).2.2) else ((stepM m).1, 0, (stepM m).2) := rfl
theorem run_add {k j : Nat} : ∀ {m : Mach}, runM (k + j) m = if (runM k m).2.2 = 1 then ((runM j (runM k m).1).1, (k : Int) + (runM j (runM k m).1).2.1, (runM j (runM k m).1).2.2) else runM k m := by
  induction k with
  | zero => intro m; simp [runM]
  | succ k ih =>
    intro m
    rw [show k + 1 + j = (k + j) + 1 by omega]
    simp only [run_succ]
    by_cases h : (stepM m).2 = 1
    · simp only [if_pos h]
      rw [ih]
      by_cases h2 : (runM k (stepM m).1).2.2 = 1
      · simp only [if_pos h2]
        refine Prod.ext rfl (Prod.ext ?_ rfl)
        simp only
        omega
      · simp only [if_neg h2]
    · simp only [if_neg h]
theorem run_valid {n : Nat} : ∀ {m : Mach}, validMach m = true → validMach (runM n m).1 = true := by
  induction n with
  | zero => intro m h; exact h
  | succ n ih =>
    intro m h
    unfold runM
    split
    · exact ih (step_valid h)
    · exact step_valid h
theorem run_did {n : Nat} : ∀ {m : Mach}, 0 ≤ (runM n m).2.1 ∧ (runM n m).2.1 ≤ n := by
  induction n with
  | zero => intro m; exact ⟨Int.le_refl _, Int.le_refl _⟩
  | succ n ih =>
    intro m
    unfold runM
    split
    · have := @ih (stepM m).1; simp only; omega
    · simp only; omega
theorem run_one {m : Mach} : runM 1 m = ((stepM m).1, if (stepM m).2 = 1 then 1 else 0, (stepM m).2) := by
  unfold runM
  split
  · rename_i h; simp [runM, h]
  · rfl
theorem run_code {n : Nat} : ∀ {m : Mach}, (runM n m).2.2 ≠ 0 := by
  induction n with
  | zero => intro m; simp [runM]
  | succ n ih =>
    intro m
    unfold runM
    split
    · exact ih
    · rcases @step_code m with e | e | e <;> rw [e] <;> decide
theorem runR_yes {m : Mach} {n : Int} (h : validMach m = true ∧ 0 ≤ n ∧ n ≤ 1000000) : runR m n = runM n.toNat m := by unfold runR; rw [if_pos h]
theorem runR_no {m : Mach} {n : Int} (h : ¬ (validMach m = true ∧ 0 ≤ n ∧ n ≤ 1000000)) : runR m n = (zeroM, 0, 0) := by unfold runR; rw [if_neg h]
section
variable {H : AH}
theorem law_FnMachineRunOne {v : AV} {zs : List Int} (hg : Glob H) (h : SlI H .u8 v zs) (hz : ∀ n ∈ zs, 0 ≤ n ∧ n < 256) : CallK Cd f_wFnMachineRunOne [v] H fun v _ => v = .b true := by
  rw [CallK_F, CallF_eq e_wFnMachineRunOne rfl]
  simp [h.len]
  refine cnd_mk (fun h1 => ?_) (fun h1 => ?_)
  · simp
  simp
  refine K_sDrawMachineRun h hz (by omega) fun c m n H1 hM e1 hn => ?_
  obtain ⟨a, b, d, hc⟩ := hM.shape
  have s1 : seg c 0 3 = some c := by rw [hc]; rfl
  have l1 : c.length = 3 := by rw [hc]; rfl
  have M1 := hM.ext (Ext.push H1 c)
  simp [-AM.seg, AH.store, push_put, loadN_push, s1, l1]
  refine K_iMachineRun (hg.ext e1.to_push) M1 fun c2 rb mb H2 hO2 e2 => ?_
  obtain ⟨a2, b2, d2, hc2⟩ := hO2.src.shape
  have s2 : seg c2 0 3 = some c2 := by rw [hc2]; rfl
  have l2 : c2.length = 3 := by rw [hc2]; rfl
  have g1 : (H2.push c2).bk H1.n = some ⟨c, true⟩ := push_old (Nat.lt_of_lt_of_le (Nat.lt_succ_self _) e2.1) ((e2.2 _ (Nat.lt_succ_self _)).trans push_new)
  have x2 : Ext (H1.push c) (H2.push c2) := e2.to_push
  simp [-AM.seg, AH.store, push_put, loadN_bk g1, s1, l2]
  refine K_sMachineRun (M1.ext x2) fun c3 rb3 mb3 H3 hO3 e3 => ?_
  obtain ⟨a3, b3, d3, hc3⟩ := hO3.src.shape
  have s3 : seg c3 0 3 = some c3 := by rw [hc3]; rfl
  have l3 : c3.length = 3 := by rw [hc3]; rfl
  have n23 : H2.n < H3.n := Nat.lt_of_lt_of_le (Nat.lt_succ_self _) e3.1
  have n12 : H1.n < H2.n := Nat.lt_of_lt_of_le (Nat.lt_succ_self _) e2.1
  have g2 : (H3.push c3).bk H2.n = some ⟨c2, true⟩ := push_old n23 ((e3.2 _ (Nat.lt_succ_self _)).trans push_new)
  have g1' : (H3.push c3).bk H1.n = some ⟨c, true⟩ := push_old (by omega) ((e3.2 _ (Nat.lt_succ_of_lt n12)).trans g1)
  have x3 : Ext (H2.push c2) (H3.push c3) := e3.to_push
  have S2 := (hO2.src.ext (Ext.push H2 c2)).ext x3
  have S3 := hO3.src.ext (Ext.push H3 c3)
  have x4 : Ext (H3.push c3) (((H3.push c3).push c2).push c3) := of_eq_true ext_pp
  have S1 := ((M1.ext x2).ext x3).ext x4
  have S2' := S2.ext x4
  have gg := ((hg.ext (e1.to_push (cs := c))).ext (x2.trans x3)).ext x4
  have n1 : H1.n < (H3.push c3).n := by simp only [push_n]; omega
  have n2 : H2.n < (H3.push c3).n := by simp only [push_n]; omega
  have q1 := (x4.2 _ n1).trans g1'
  have q2 := (x4.2 _ n2).trans g2
  have N1 := Nat.lt_of_lt_of_le n1 x4.1
  have N2 := Nat.lt_of_lt_of_le n2 x4.1
  simp [-AM.seg, AH.store, push_put, loadN_bk g2, s2, l3, loadN_push, s3, K_wsameMachine S2.sees S3.sees]
  clear S2 S3 hO2 hO3 x4 x3 x2 e1 e2 e3 g1 g2 g1' M1 hM n1 n2 hc hc2 hc3 s3 l3 l1 l2
  generalize ((H3.push c3).push c2).push c3 = G at *
  by_cases hq : validMach m = true ∧ 0 ≤ n ∧ n ≤ 1000000
  · rw [runR_yes hq] at S2' ⊢
    have hv := hq.1
    have hcode := @run_code n.toNat m
    have hdid := @run_did n.toNat m
    have hdn : (runM n.toNat m).2.1 ≤ n := by omega
    have e1 : runR m 1 = runM 1 m := runR_yes ⟨hv, by omega, by omega⟩
    simp [-AM.seg, hcode, loadN_bk q1, s1]
    refine K_iMachineRun gg S1 fun c4 rb4 mb4 H4 hO4 e4 => ?_
    obtain ⟨a4, b4, d4, hc4⟩ := hO4.src.shape
    have s4 : seg c4 0 3 = some c4 := by rw [hc4]; rfl
    have l4 : c4.length = 3 := by rw [hc4]; rfl
    have x5 := e4.to_push (cs := c4)
    have p1 : (H4.push c4).bk H1.n = some ⟨c, true⟩ := (x5.2 _ N1).trans q1
    simp [-AM.seg, AH.store, push_put, l4, loadN_bk p1, s1]
    refine K_iMachineStep (gg.ext x5) (S1.ext x5) fun c5 rb5 mb5 H5 hO5 e5 => ?_
    obtain ⟨a5, b5, d5, hc5⟩ := hO5.src.shape
    have s5 : seg c5 0 3 = some c5 := by rw [hc5]; rfl
    have l5 : c5.length = 3 := by rw [hc5]; rfl
    have x6 : Ext (H4.push c4) (H5.push c5) := e5.to_push
    have p4 : (H5.push c5).bk H4.n = some ⟨c4, true⟩ := (x6.2 _ (Nat.lt_succ_self _)).trans push_new
    have S4 := (hO4.src.ext (Ext.push H4 c4)).ext x6
    have S5 := hO5.src.ext (Ext.push H5 c5)
    rw [e1, run_one] at S4 ⊢
    rw [stepR_yes hv] at S5 ⊢
    by_cases hs : (stepM m).2 = 1
    · simp [-AM.seg, AH.store, push_put, l5, loadN_bk p4, s4, loadN_push, s5, hs, K_wsameMachine S4.sees S5.sees, hdn]
    · simp [-AM.seg, AH.store, push_put, l5, loadN_bk p4, s4, loadN_push, s5, hs, K_wsameMachine S4.sees S5.sees, hdn]
  · rw [runR_no hq]
    simp
theorem law_FnMachineRun {v v' : AV} {zs zs' : List Int} (hg : Glob H) (h : SlI H .u8 v zs) (hz : ∀ n ∈ zs, 0 ≤ n ∧ n < 256) (h' : SlI H .u8 v' zs') (hz' : ∀ n ∈ zs', 0 ≤ n ∧ n < 256) : CallK Cd f_wFnMachineRun [v, v'] H fun v _ => v = .b true := by
  rw [CallK_F, CallF_eq e_wFnMachineRun rfl]
  by_cases h1 : 1048576 < (zs.length : Int)
  · simp [h.len, h1]
  by_cases h1' : 1048576 < (zs'.length : Int)
  · simp [h.len, h'.len, h1, h1']
  simp [h.len, h'.len, h1, h1']
  refine K_sDrawMachineRun h hz (by omega) fun c m n H1 hM e1 hn => ?_
  obtain ⟨a, b, d, hc⟩ := hM.shape
  have s1 : seg c 0 3 = some c := by rw [hc]; rfl
  have l1 : c.length = 3 := by rw [hc]; rfl
  have M1 := hM.ext (Ext.push H1 c)
  simp [-AM.seg, AH.store, push_put, loadN_push, s1, l1]
  refine K_iMachineRun (hg.ext e1.to_push) M1 fun c2 rb mb H2 hO2 e2 => ?_
  obtain ⟨a2, b2, d2, hc2⟩ := hO2.src.shape
  have s2 : seg c2 0 3 = some c2 := by rw [hc2]; rfl
  have l2 : c2.length = 3 := by rw [hc2]; rfl
  have g1 : (H2.push c2).bk H1.n = some ⟨c, true⟩ := push_old (Nat.lt_of_lt_of_le (Nat.lt_succ_self _) e2.1) ((e2.2 _ (Nat.lt_succ_self _)).trans push_new)
  have x2 : Ext (H1.push c) (H2.push c2) := e2.to_push
  simp [-AM.seg, AH.store, push_put, loadN_bk g1, s1, l2]
  refine K_sMachineRun (M1.ext x2) fun c3 rb3 mb3 H3 hO3 e3 => ?_
  obtain ⟨a3, b3, d3, hc3⟩ := hO3.src.shape
  have s3 : seg c3 0 3 = some c3 := by rw [hc3]; rfl
  have l3 : c3.length = 3 := by rw [hc3]; rfl
  have n23 : H2.n < H3.n := Nat.lt_of_lt_of_le (Nat.lt_succ_self _) e3.1
  have n12 : H1.n < H2.n := Nat.lt_of_lt_of_le (Nat.lt_succ_self _) e2.1
  have g2 : (H3.push c3).bk H2.n = some ⟨c2, true⟩ := push_old n23 ((e3.2 _ (Nat.lt_succ_self _)).trans push_new)
  have g1' : (H3.push c3).bk H1.n = some ⟨c, true⟩ := push_old (by omega) ((e3.2 _ (Nat.lt_succ_of_lt n12)).trans g1)
  have x3 : Ext (H2.push c2) (H3.push c3) := e3.to_push
  have S2 := (hO2.src.ext (Ext.push H2 c2)).ext x3
  have S3 := hO3.src.ext (Ext.push H3 c3)
  have x4 : Ext (H3.push c3) (((H3.push c3).push c2).push c3) := of_eq_true ext_pp
  have S1 := ((M1.ext x2).ext x3).ext x4
  have S2' := S2.ext x4
  have gg := ((hg.ext (e1.to_push (cs := c))).ext (x2.trans x3)).ext x4
  have n1 : H1.n < (H3.push c3).n := by simp only [push_n]; omega
  have n2 : H2.n < (H3.push c3).n := by simp only [push_n]; omega
  have q1 := (x4.2 _ n1).trans g1'
  have q2 := (x4.2 _ n2).trans g2
  have N1 := Nat.lt_of_lt_of_le n1 x4.1
  have N2 := Nat.lt_of_lt_of_le n2 x4.1
  simp [-AM.seg, AH.store, push_put, loadN_bk g2, s2, l3, loadN_push, s3, K_wsameMachine S2.sees S3.sees]
  clear S2 S3 hO2 hO3 x4 x3 x2 e1 e2 e3 g1 g2 g1' M1 hM n1 n2 hc hc2 hc3 s3 l3 l1 l2
  generalize ((H3.push c3).push c2).push c3 = G at *
  by_cases hq : validMach m = true ∧ 0 ≤ n ∧ n ≤ 1000000
  · rw [runR_yes hq] at S2' ⊢
    have hv := hq.1
    have hcode := @run_code n.toNat m
    have hk0 := tmod_lt (a := (zs'.length : Int)) (b := n + 1) (by omega) (by omega)
    have hn1 : n + 1 ≠ 0 := by omega
    generalize hkk : (zs'.length : Int).tmod (n + 1) = kk at *
    have e1 : runR m kk = runM kk.toNat m := runR_yes ⟨hv, by omega, by omega⟩
    simp (disch := omega) [-AM.seg, hcode, h'.len, hkk, loadN_bk q1, s1]
    refine K_iMachineRun gg S1 fun c4 rb4 mb4 H4 hO4 e4 => ?_
    obtain ⟨a4, b4, d4, hc4⟩ := hO4.src.shape
    have s4 : seg c4 0 3 = some c4 := by rw [hc4]; rfl
    have l4 : c4.length = 3 := by rw [hc4]; rfl
    have x5 := e4.to_push (cs := c4)
    have p2 : (H4.push c4).bk H2.n = some ⟨c2, true⟩ := (x5.2 _ N2).trans q2
    simp (disch := omega) [-AM.seg, AH.store, push_put, l4, loadN_push, s4]
    refine K_iMachineRun (gg.ext x5) (hO4.src.ext (Ext.push H4 c4)) fun c5 rb5 mb5 H5 hO5 e5 => ?_
    obtain ⟨a5, b5, d5, hc5⟩ := hO5.src.shape
    have s5 : seg c5 0 3 = some c5 := by rw [hc5]; rfl
    have l5 : c5.length = 3 := by rw [hc5]; rfl
    have x6 : Ext (H4.push c4) (H5.push c5) := e5.to_push
    have p4 : (H5.push c5).bk H4.n = some ⟨c4, true⟩ := (x6.2 _ (Nat.lt_succ_self _)).trans push_new
    have N24 : H2.n < (H4.push c4).n := Nat.lt_of_lt_of_le N2 x5.1
    have p2' : (H5.push c5).bk H2.n = some ⟨c2, true⟩ := (x6.2 _ N24).trans p2
    have S4 := (hO4.src.ext (Ext.push H4 c4)).ext x6
    have S5 := hO5.src.ext (Ext.push H5 c5)
    have S22 := (S2'.ext x5).ext x6
    rw [e1] at S4 S5 ⊢
    have hv4 := run_valid (n := kk.toNat) hv
    have e5' : runR (runM kk.toNat m).1 (n - kk) = runM (n - kk).toNat (runM kk.toNat m).1 := runR_yes ⟨hv4, by omega, by omega⟩
    rw [e5'] at S5 ⊢
    have hadd := @run_add kk.toNat (n - kk).toNat m
    rw [show kk.toNat + (n - kk).toNat = n.toNat by omega] at hadd
    rw [hadd] at S22 ⊢
    by_cases hb : (runM kk.toNat m).2.2 = 1
    · have hd := run_go hb
      rw [if_pos hb] at S22 ⊢
      have hkz : (runM kk.toNat m).2.1 = kk := by omega
      have hkz' : ((kk.toNat : Nat) : Int) = kk := by omega
      have hdid := @run_did (n - kk).toNat (runM kk.toNat m).1
      simp (disch := omega) [-AM.seg, AH.store, push_put, l5, loadN_bk p4, s4, loadN_bk p2', s2, loadN_push, s5, hb, hkz, hkz', K_wsameMachine S5.sees S22.sees]
    · rw [if_neg hb] at S22 ⊢
      simp (disch := omega) [-AM.seg, AH.store, push_put, l5, loadN_bk p4, s4, loadN_bk p2', s2, loadN_push, s5, hb, K_wsameMachine S4.sees S22.sees]
  · rw [runR_no hq]
    simp
end
end Go.Proofs.YtdgmihohmkdpjaaDoor.AM
