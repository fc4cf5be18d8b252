/-
  The laws on a step of a machine. No condition.
-/
import Derived.Test.YtdgmihohmkdpjaaDoorAMzo
namespace Go.Proofs.YtdgmihohmkdpjaaDoor.AM
set_option linter.unusedSimpArgs false
set_option linter.unusedVariables false
set_option maxRecDepth 10000
open Go

section
variable {H : AH}
theorem law_FnMachineStep {v : AV} {zs : List Int} (hg : Glob H) (h : SlI H .u8 v zs) (hz : ∀ n ∈ zs, 0 ≤ n ∧ n < 256) : CallK Cd f_wFnMachineStep [v] H fun v _ => v = .b true := by
  rw [CallK_F, CallF_eq e_wFnMachineStep rfl]
  simp [h.len]
  refine cnd_mk (fun h1 => ?_) (fun h1 => ?_)
  · simp
  simp
  refine K_sDrawMachineStep h hz (by omega) fun c m H1 hM e1 => ?_
  obtain ⟨a, b, d, hc⟩ := hM.shape
  have s1 : seg c 0 3 = some c := by rw [hc]; rfl
  have l1 : c.length = 3 := by rw [hc]; rfl
  have M1 := hM.ext (Ext.push H1 c)
  simp [-AM.seg, AH.store, push_put, loadN_push, s1, l1]
  refine K_iMachineStep (hg.ext e1.to_push) M1 fun c2 rb mb H2 hO2 e2 => ?_
  obtain ⟨a2, b2, d2, hc2⟩ := hO2.src.shape
  have s2 : seg c2 0 3 = some c2 := by rw [hc2]; rfl
  have l2 : c2.length = 3 := by rw [hc2]; rfl
  have g1 : (H2.push c2).bk H1.n = some ⟨c, true⟩ := push_old (Nat.lt_of_lt_of_le (Nat.lt_succ_self _) e2.1) ((e2.2 _ (Nat.lt_succ_self _)).trans push_new)
  have x2 : Ext (H1.push c) (H2.push c2) := e2.to_push
  simp [-AM.seg, AH.store, push_put, loadN_bk g1, s1, l2]
  refine K_sMachineStep (M1.ext x2) fun c3 rb3 mb3 H3 hO3 e3 => ?_
  obtain ⟨a3, b3, d3, hc3⟩ := hO3.src.shape
  have s3 : seg c3 0 3 = some c3 := by rw [hc3]; rfl
  have l3 : c3.length = 3 := by rw [hc3]; rfl
  have n23 : H2.n < H3.n := Nat.lt_of_lt_of_le (Nat.lt_succ_self _) e3.1
  have n12 : H1.n < H2.n := Nat.lt_of_lt_of_le (Nat.lt_succ_self _) e2.1
  have g2 : (H3.push c3).bk H2.n = some ⟨c2, true⟩ := push_old n23 ((e3.2 _ (Nat.lt_succ_self _)).trans push_new)
  have g1' : (H3.push c3).bk H1.n = some ⟨c, true⟩ := push_old (by omega) ((e3.2 _ (Nat.lt_succ_of_lt n12)).trans g1)
  have x3 : Ext (H2.push c2) (H3.push c3) := e3.to_push
  have S2 := (hO2.src.ext (Ext.push H2 c2)).ext x3
  have S3 := hO3.src.ext (Ext.push H3 c3)
  have x4 : Ext (H3.push c3) (((H3.push c3).push c2).push c3) := of_eq_true ext_pp
  have S1 := ((M1.ext x2).ext x3).ext x4
  have S2' := S2.ext x4
  have gg := ((hg.ext (e1.to_push (cs := c))).ext (x2.trans x3)).ext x4
  have n1 : H1.n < (H3.push c3).n := by simp only [push_n]; omega
  have n2 : H2.n < (H3.push c3).n := by simp only [push_n]; omega
  have q1 := (x4.2 _ n1).trans g1'
  have q2 := (x4.2 _ n2).trans g2
  have N1 := Nat.lt_of_lt_of_le n1 x4.1
  have N2 := Nat.lt_of_lt_of_le n2 x4.1
  simp [-AM.seg, AH.store, push_put, loadN_bk g2, s2, l3, loadN_push, s3, K_wsameMachine S2.sees S3.sees]
  clear S2 S3 hO2 hO3 x4 x3 x2 e1 e2 e3 g1 g2 g1' M1 hM n1 n2 hc hc2 hc3 s3 l3 l1 l2
  generalize ((H3.push c3).push c2).push c3 = G at *
  cases hv : validMach m with
  | false =>
    simp [stepR_no hv]
  | true =>
  rw [stepR_yes hv] at S2' ⊢
  obtain ⟨ra, ea, hc, Sa, Sd⟩ := id S1
  obtain ⟨ra2, ea2, hc2, Sa2, Sd2⟩ := id S2'
  have c0 : c[0]? = some ra := by rw [hc]; rfl
  have c1 : c[1]? = some (.I m.pc) := by rw [hc]; rfl
  have c2' : c[2]? = some ea := by rw [hc]; rfl
  have d0 : c2[0]? = some ra2 := by rw [hc2]; rfl
  have d1 : c2[1]? = some (.I (stepM m).1.pc) := by rw [hc2]; rfl
  have d2' : c2[2]? = some ea2 := by rw [hc2]; rfl
  have al := Sd.sees.1
  have al2 := Sd2.sees.1
  have hc0 : ¬ (stepM m).2 = 0 := by rcases @step_code m with e | e | e <;> rw [e] <;> decide
  have p1 : (G.push c2).bk H1.n = some ⟨c, true⟩ := push_old N1 q1
  have p2 : (G.push c2).bk H2.n = some ⟨c2, true⟩ := push_old N2 q2
  simp [-AM.seg, hc0, loadN_bk q2, s2, K_iMachineValid S2'.sees, step_valid hv, load_bk p1, load_bk p2, c2', d2', al, al2, step_mem]
theorem law_FnMachineStill {v : AV} {zs : List Int} (hg : Glob H) (h : SlI H .u8 v zs) (hz : ∀ n ∈ zs, 0 ≤ n ∧ n < 256) : CallK Cd f_wFnMachineStill [v] H fun v _ => v = .b true := by
  rw [CallK_F, CallF_eq e_wFnMachineStill rfl]
  simp [h.len]
  refine cnd_mk (fun h1 => ?_) (fun h1 => ?_)
  · simp
  simp
  refine K_sDrawMachineStep h hz (by omega) fun c m H1 hM e1 => ?_
  obtain ⟨a, b, d, hc⟩ := hM.shape
  have s1 : seg c 0 3 = some c := by rw [hc]; rfl
  have l1 : c.length = 3 := by rw [hc]; rfl
  have M1 := hM.ext (Ext.push H1 c)
  simp [-AM.seg, AH.store, push_put, loadN_push, s1, l1]
  refine K_iMachineStep (hg.ext e1.to_push) M1 fun c2 rb mb H2 hO2 e2 => ?_
  obtain ⟨a2, b2, d2, hc2⟩ := hO2.src.shape
  have s2 : seg c2 0 3 = some c2 := by rw [hc2]; rfl
  have l2 : c2.length = 3 := by rw [hc2]; rfl
  have g1 : (H2.push c2).bk H1.n = some ⟨c, true⟩ := push_old (Nat.lt_of_lt_of_le (Nat.lt_succ_self _) e2.1) ((e2.2 _ (Nat.lt_succ_self _)).trans push_new)
  have x2 : Ext (H1.push c) (H2.push c2) := e2.to_push
  simp [-AM.seg, AH.store, push_put, loadN_bk g1, s1, l2]
  refine K_sMachineStep (M1.ext x2) fun c3 rb3 mb3 H3 hO3 e3 => ?_
  obtain ⟨a3, b3, d3, hc3⟩ := hO3.src.shape
  have s3 : seg c3 0 3 = some c3 := by rw [hc3]; rfl
  have l3 : c3.length = 3 := by rw [hc3]; rfl
  have n23 : H2.n < H3.n := Nat.lt_of_lt_of_le (Nat.lt_succ_self _) e3.1
  have n12 : H1.n < H2.n := Nat.lt_of_lt_of_le (Nat.lt_succ_self _) e2.1
  have g2 : (H3.push c3).bk H2.n = some ⟨c2, true⟩ := push_old n23 ((e3.2 _ (Nat.lt_succ_self _)).trans push_new)
  have g1' : (H3.push c3).bk H1.n = some ⟨c, true⟩ := push_old (by omega) ((e3.2 _ (Nat.lt_succ_of_lt n12)).trans g1)
  have x3 : Ext (H2.push c2) (H3.push c3) := e3.to_push
  have S2 := (hO2.src.ext (Ext.push H2 c2)).ext x3
  have S3 := hO3.src.ext (Ext.push H3 c3)
  have x4 : Ext (H3.push c3) (((H3.push c3).push c2).push c3) := of_eq_true ext_pp
  have S1 := ((M1.ext x2).ext x3).ext x4
  have S2' := S2.ext x4
  have gg := ((hg.ext (e1.to_push (cs := c))).ext (x2.trans x3)).ext x4
  have n1 : H1.n < (H3.push c3).n := by simp only [push_n]; omega
  have n2 : H2.n < (H3.push c3).n := by simp only [push_n]; omega
  have q1 := (x4.2 _ n1).trans g1'
  have q2 := (x4.2 _ n2).trans g2
  have N1 := Nat.lt_of_lt_of_le n1 x4.1
  have N2 := Nat.lt_of_lt_of_le n2 x4.1
  simp [-AM.seg, AH.store, push_put, loadN_bk g2, s2, l3, loadN_push, s3, K_wsameMachine S2.sees S3.sees]
  clear S2 S3 hO2 hO3 x4 x3 x2 e1 e2 e3 g1 g2 g1' M1 hM n1 n2 hc hc2 hc3 s3 l3 l1 l2
  generalize ((H3.push c3).push c2).push c3 = G at *
  cases hv : validMach m with
  | false =>
    simp [stepR_no hv]
  | true =>
  rw [stepR_yes hv] at S2' ⊢
  obtain ⟨ra, ea, hc, Sa, Sd⟩ := id S1
  obtain ⟨ra2, ea2, hc2, Sa2, Sd2⟩ := id S2'
  have c0 : c[0]? = some ra := by rw [hc]; rfl
  have c1 : c[1]? = some (.I m.pc) := by rw [hc]; rfl
  have c2' : c[2]? = some ea := by rw [hc]; rfl
  have d0 : c2[0]? = some ra2 := by rw [hc2]; rfl
  have d1 : c2[1]? = some (.I (stepM m).1.pc) := by rw [hc2]; rfl
  have d2' : c2[2]? = some ea2 := by rw [hc2]; rfl
  have al := Sd.sees.1
  have al2 := Sd2.sees.1
  by_cases h2 : (stepM m).2 = 1
  · simp [h2]
  have hs := step_still h2
  rw [hs] at S2'
  have h23 : (stepM m).2 = 2 ∨ (stepM m).2 = 3 := by rcases @step_code m with e | e | e <;> omega
  rcases h23 with h3 | h3
  all_goals simp [-AM.seg, h3, loadN_bk q2, loadN_bk q1, s2, s1, K_wsameMachine S2'.sees S1.sees]
theorem law_FnMachineOne {v : AV} {zs : List Int} (hg : Glob H) (h : SlI H .u8 v zs) (hz : ∀ n ∈ zs, 0 ≤ n ∧ n < 256) : CallK Cd f_wFnMachineOne [v] H fun v _ => v = .b true := by
  rw [CallK_F, CallF_eq e_wFnMachineOne rfl]
  simp [h.len]
  refine cnd_mk (fun h1 => ?_) (fun h1 => ?_)
  · simp
  simp
  refine K_sDrawMachineStep h hz (by omega) fun c m H1 hM e1 => ?_
  obtain ⟨a, b, d, hc⟩ := hM.shape
  have s1 : seg c 0 3 = some c := by rw [hc]; rfl
  have l1 : c.length = 3 := by rw [hc]; rfl
  have M1 := hM.ext (Ext.push H1 c)
  simp [-AM.seg, AH.store, push_put, loadN_push, s1, l1]
  refine K_iMachineStep (hg.ext e1.to_push) M1 fun c2 rb mb H2 hO2 e2 => ?_
  obtain ⟨a2, b2, d2, hc2⟩ := hO2.src.shape
  have s2 : seg c2 0 3 = some c2 := by rw [hc2]; rfl
  have l2 : c2.length = 3 := by rw [hc2]; rfl
  have g1 : (H2.push c2).bk H1.n = some ⟨c, true⟩ := push_old (Nat.lt_of_lt_of_le (Nat.lt_succ_self _) e2.1) ((e2.2 _ (Nat.lt_succ_self _)).trans push_new)
  have x2 : Ext (H1.push c) (H2.push c2) := e2.to_push
  simp [-AM.seg, AH.store, push_put, loadN_bk g1, s1, l2]
  refine K_sMachineStep (M1.ext x2) fun c3 rb3 mb3 H3 hO3 e3 => ?_
  obtain ⟨a3, b3, d3, hc3⟩ := hO3.src.shape
  have s3 : seg c3 0 3 = some c3 := by rw [hc3]; rfl
  have l3 : c3.length = 3 := by rw [hc3]; rfl
  have n23 : H2.n < H3.n := Nat.lt_of_lt_of_le (Nat.lt_succ_self _) e3.1
  have n12 : H1.n < H2.n := Nat.lt_of_lt_of_le (Nat.lt_succ_self _) e2.1
  have g2 : (H3.push c3).bk H2.n = some ⟨c2, true⟩ := push_old n23 ((e3.2 _ (Nat.lt_succ_self _)).trans push_new)
  have g1' : (H3.push c3).bk H1.n = some ⟨c, true⟩ := push_old (by omega) ((e3.2 _ (Nat.lt_succ_of_lt n12)).trans g1)
  have x3 : Ext (H2.push c2) (H3.push c3) := e3.to_push
  have S2 := (hO2.src.ext (Ext.push H2 c2)).ext x3
  have S3 := hO3.src.ext (Ext.push H3 c3)
  have x4 : Ext (H3.push c3) (((H3.push c3).push c2).push c3) := of_eq_true ext_pp
  have S1 := ((M1.ext x2).ext x3).ext x4
  have S2' := S2.ext x4
  have gg := ((hg.ext (e1.to_push (cs := c))).ext (x2.trans x3)).ext x4
  have n1 : H1.n < (H3.push c3).n := by simp only [push_n]; omega
  have n2 : H2.n < (H3.push c3).n := by simp only [push_n]; omega
  have q1 := (x4.2 _ n1).trans g1'
  have q2 := (x4.2 _ n2).trans g2
  have N1 := Nat.lt_of_lt_of_le n1 x4.1
  have N2 := Nat.lt_of_lt_of_le n2 x4.1
  simp [-AM.seg, AH.store, push_put, loadN_bk g2, s2, l3, loadN_push, s3, K_wsameMachine S2.sees S3.sees]
  clear S2 S3 hO2 hO3 x4 x3 x2 e1 e2 e3 g1 g2 g1' M1 hM n1 n2 hc hc2 hc3 s3 l3 l1 l2
  generalize ((H3.push c3).push c2).push c3 = G at *
  cases hv : validMach m with
  | false =>
    simp [stepR_no hv]
  | true =>
  rw [stepR_yes hv] at S2' ⊢
  obtain ⟨ra, ea, hc, Sa, Sd⟩ := id S1
  obtain ⟨ra2, ea2, hc2, Sa2, Sd2⟩ := id S2'
  have c0 : c[0]? = some ra := by rw [hc]; rfl
  have c1 : c[1]? = some (.I m.pc) := by rw [hc]; rfl
  have c2' : c[2]? = some ea := by rw [hc]; rfl
  have d0 : c2[0]? = some ra2 := by rw [hc2]; rfl
  have d1 : c2[1]? = some (.I (stepM m).1.pc) := by rw [hc2]; rfl
  have d2' : c2[2]? = some ea2 := by rw [hc2]; rfl
  have al := Sd.sees.1
  have al2 := Sd2.sees.1
  have h1' := @step_one m
  by_cases h2 : (stepM m).2 = 1
  · have hq : ((cntD (stepM m).1.regs m.regs : Nat) : Int) + (cntD (stepM m).1.mem m.mem : Nat) ≤ 1 := by omega
    simp (disch := omega) [h2, load_bk q2, load_bk q1, c0, c2', d0, d2', K_wdiffers Sa2.sees Sa.sees, K_wdiffers Sd2.sees Sd.sees, hq]
  · simp [h2]
theorem law_FnMachineDecode {v : AV} {zs : List Int} (hg : Glob H) (h : SlI H .u8 v zs) (hz : ∀ n ∈ zs, 0 ≤ n ∧ n < 256) : CallK Cd f_wFnMachineDecode [v] H fun v _ => v = .b true := by
  rw [CallK_F, CallF_eq e_wFnMachineDecode rfl]
  simp [h.len]
  refine cnd_mk (fun h1 => ?_) (fun h1 => ?_)
  · simp
  simp
  refine K_sDrawMachineStep h hz (by omega) fun c m H1 hM e1 => ?_
  obtain ⟨a, b, d, hc⟩ := hM.shape
  have s1 : seg c 0 3 = some c := by rw [hc]; rfl
  have l1 : c.length = 3 := by rw [hc]; rfl
  have M1 := hM.ext (Ext.push H1 c)
  simp [-AM.seg, AH.store, push_put, loadN_push, s1, l1]
  refine K_iMachineStep (hg.ext e1.to_push) M1 fun c2 rb mb H2 hO2 e2 => ?_
  obtain ⟨a2, b2, d2, hc2⟩ := hO2.src.shape
  have s2 : seg c2 0 3 = some c2 := by rw [hc2]; rfl
  have l2 : c2.length = 3 := by rw [hc2]; rfl
  have g1 : (H2.push c2).bk H1.n = some ⟨c, true⟩ := push_old (Nat.lt_of_lt_of_le (Nat.lt_succ_self _) e2.1) ((e2.2 _ (Nat.lt_succ_self _)).trans push_new)
  have x2 : Ext (H1.push c) (H2.push c2) := e2.to_push
  simp [-AM.seg, AH.store, push_put, loadN_bk g1, s1, l2]
  refine K_sMachineStep (M1.ext x2) fun c3 rb3 mb3 H3 hO3 e3 => ?_
  obtain ⟨a3, b3, d3, hc3⟩ := hO3.src.shape
  have s3 : seg c3 0 3 = some c3 := by rw [hc3]; rfl
  have l3 : c3.length = 3 := by rw [hc3]; rfl
  have n23 : H2.n < H3.n := Nat.lt_of_lt_of_le (Nat.lt_succ_self _) e3.1
  have n12 : H1.n < H2.n := Nat.lt_of_lt_of_le (Nat.lt_succ_self _) e2.1
  have g2 : (H3.push c3).bk H2.n = some ⟨c2, true⟩ := push_old n23 ((e3.2 _ (Nat.lt_succ_self _)).trans push_new)
  have g1' : (H3.push c3).bk H1.n = some ⟨c, true⟩ := push_old (by omega) ((e3.2 _ (Nat.lt_succ_of_lt n12)).trans g1)
  have x3 : Ext (H2.push c2) (H3.push c3) := e3.to_push
  have S2 := (hO2.src.ext (Ext.push H2 c2)).ext x3
  have S3 := hO3.src.ext (Ext.push H3 c3)
  have x4 : Ext (H3.push c3) (((H3.push c3).push c2).push c3) := of_eq_true ext_pp
  have S1 := ((M1.ext x2).ext x3).ext x4
  have S2' := S2.ext x4
  have gg := ((hg.ext (e1.to_push (cs := c))).ext (x2.trans x3)).ext x4
  have n1 : H1.n < (H3.push c3).n := by simp only [push_n]; omega
  have n2 : H2.n < (H3.push c3).n := by simp only [push_n]; omega
  have q1 := (x4.2 _ n1).trans g1'
  have q2 := (x4.2 _ n2).trans g2
  have N1 := Nat.lt_of_lt_of_le n1 x4.1
  have N2 := Nat.lt_of_lt_of_le n2 x4.1
  simp [-AM.seg, AH.store, push_put, loadN_bk g2, s2, l3, loadN_push, s3, K_wsameMachine S2.sees S3.sees]
  clear S2 S3 hO2 hO3 x4 x3 x2 e1 e2 e3 g1 g2 g1' M1 hM n1 n2 hc hc2 hc3 s3 l3 l1 l2
  generalize ((H3.push c3).push c2).push c3 = G at *
  cases hv : validMach m with
  | false =>
    simp [stepR_no hv]
  | true =>
  rw [stepR_yes hv] at S2' ⊢
  obtain ⟨ra, ea, hc, Sa, Sd⟩ := id S1
  obtain ⟨ra2, ea2, hc2, Sa2, Sd2⟩ := id S2'
  have c0 : c[0]? = some ra := by rw [hc]; rfl
  have c1 : c[1]? = some (.I m.pc) := by rw [hc]; rfl
  have c2' : c[2]? = some ea := by rw [hc]; rfl
  have d0 : c2[0]? = some ra2 := by rw [hc2]; rfl
  have d1 : c2[1]? = some (.I (stepM m).1.pc) := by rw [hc2]; rfl
  have d2' : c2[2]? = some ea2 := by rw [hc2]; rfl
  have al := Sd.sees.1
  have al2 := Sd2.sees.1
  by_cases h3' : (stepM m).2 = 3
  · simp [h3']
  have h2 : (stepM m).2 = 1 ∨ (stepM m).2 = 2 := by rcases @step_code m with e | e | e <;> omega
  rcases h2 with h2 | h2
  · skip
    have h3 : (stepM m).2 ≠ 3 := by omega
    obtain ⟨hk, ho, hs⟩ := step_ok h3
    obtain ⟨hn, hvi⟩ := dec_near ho
    obtain ⟨w1, w2, w3, w4, w5, w6, w7⟩ := word_at Sd.sees hk
    have hml : m.mem.length ≤ 10000 := by simp only [validMach, Bool.and_eq_true, decide_eq_true_eq] at hv; exact hv.1.2
    have hww := valid_word hv hk
    simp (disch := omega) [-AM.seg, h2, load_bk q1, c1, c2', w7, w3, w4, K_iUnsigned]
    refine K_iInstrDecode gg fun H5 e5 => ?_
    simp only [hs] at S2' Sa2 Sd2 d1 h2 al2
    have N15 := Nat.lt_of_lt_of_le N1 e5.1
    have N25 := Nat.lt_of_lt_of_le N2 e5.1
    have x6 := fun i : Ins => e5.to_push (cs := i.cs)
    simp [ho, AH.store, push_put]
    generalize decI (unsM (wordAt m m.pc)) = i at *
    have x6 := x6 i
    have p1 : (H5.push i.cs).bk H1.n = some ⟨c, true⟩ := push_old N15 ((e5.2 _ N1).trans q1)
    have p2 : (H5.push i.cs).bk H2.n = some ⟨c2, true⟩ := push_old N25 ((e5.2 _ N2).trans q2)
    have pi : (H5.push i.cs).bk H5.n = some ⟨i.cs, true⟩ := push_new
    have Ta2 := Sa2.ext x6
    have Td2 := Sd2.ext x6
    have Ta := Sa.ext x6
    have Td := Sd.ext x6
    have nI : H5.n < (H5.push i.cs).n := Nat.lt_succ_self _
    generalize H5.push i.cs = G5 at *
    obtain ⟨n1, n2, n3, n4, n5⟩ := id hn
    have h21 : i.op ≠ 21 := fun q => by have := (do_21 (m := m)).2 q; omega
    by_cases h16 : i.op = 16
    · simp [load_bk pi, h16]
    · have hm := do_mem_eq (m := m) h16
      simp [load_bk pi, h16, h21, load_bk p1, load_bk p2, c2', d2', K_wdiffers Td2.sees Td.sees, hm, cntD_self]
  · skip
    have h3 : (stepM m).2 ≠ 3 := by omega
    obtain ⟨hk, ho, hs⟩ := step_ok h3
    obtain ⟨hn, hvi⟩ := dec_near ho
    obtain ⟨w1, w2, w3, w4, w5, w6, w7⟩ := word_at Sd.sees hk
    have hml : m.mem.length ≤ 10000 := by simp only [validMach, Bool.and_eq_true, decide_eq_true_eq] at hv; exact hv.1.2
    have hww := valid_word hv hk
    simp (disch := omega) [-AM.seg, h2, load_bk q1, c1, c2', w7, w3, w4, K_iUnsigned]
    refine K_iInstrDecode gg fun H5 e5 => ?_
    simp only [hs] at S2' Sa2 Sd2 d1 h2 al2
    have N15 := Nat.lt_of_lt_of_le N1 e5.1
    have N25 := Nat.lt_of_lt_of_le N2 e5.1
    have x6 := fun i : Ins => e5.to_push (cs := i.cs)
    simp [ho, AH.store, push_put]
    generalize decI (unsM (wordAt m m.pc)) = i at *
    have x6 := x6 i
    have p1 : (H5.push i.cs).bk H1.n = some ⟨c, true⟩ := push_old N15 ((e5.2 _ N1).trans q1)
    have p2 : (H5.push i.cs).bk H2.n = some ⟨c2, true⟩ := push_old N25 ((e5.2 _ N2).trans q2)
    have pi : (H5.push i.cs).bk H5.n = some ⟨i.cs, true⟩ := push_new
    have Ta2 := Sa2.ext x6
    have Td2 := Sd2.ext x6
    have Ta := Sa.ext x6
    have Td := Sd.ext x6
    have nI : H5.n < (H5.push i.cs).n := Nat.lt_succ_self _
    generalize H5.push i.cs = G5 at *
    obtain ⟨n1, n2, n3, n4, n5⟩ := id hn
    have h21 : i.op = 21 := do_21.1 h2
    have hm := do_mem_eq (m := m) (i := i) (by omega)
    simp [load_bk pi, h21, load_bk p1, load_bk p2, c2', d2', K_wdiffers Td2.sees Td.sees, hm, cntD_self]
theorem law_FnMachineAlu {v : AV} {zs : List Int} (hg : Glob H) (h : SlI H .u8 v zs) (hz : ∀ n ∈ zs, 0 ≤ n ∧ n < 256) : CallK Cd f_wFnMachineAlu [v] H fun v _ => v = .b true := by
  rw [CallK_F, CallF_eq e_wFnMachineAlu rfl]
  simp [h.len]
  refine cnd_mk (fun h1 => ?_) (fun h1 => ?_)
  · simp
  simp
  refine K_sDrawMachineStep h hz (by omega) fun c m H1 hM e1 => ?_
  obtain ⟨a, b, d, hc⟩ := hM.shape
  have s1 : seg c 0 3 = some c := by rw [hc]; rfl
  have l1 : c.length = 3 := by rw [hc]; rfl
  have M1 := hM.ext (Ext.push H1 c)
  simp [-AM.seg, AH.store, push_put, loadN_push, s1, l1]
  refine K_iMachineStep (hg.ext e1.to_push) M1 fun c2 rb mb H2 hO2 e2 => ?_
  obtain ⟨a2, b2, d2, hc2⟩ := hO2.src.shape
  have s2 : seg c2 0 3 = some c2 := by rw [hc2]; rfl
  have l2 : c2.length = 3 := by rw [hc2]; rfl
  have g1 : (H2.push c2).bk H1.n = some ⟨c, true⟩ := push_old (Nat.lt_of_lt_of_le (Nat.lt_succ_self _) e2.1) ((e2.2 _ (Nat.lt_succ_self _)).trans push_new)
  have x2 : Ext (H1.push c) (H2.push c2) := e2.to_push
  simp [-AM.seg, AH.store, push_put, loadN_bk g1, s1, l2]
  refine K_sMachineStep (M1.ext x2) fun c3 rb3 mb3 H3 hO3 e3 => ?_
  obtain ⟨a3, b3, d3, hc3⟩ := hO3.src.shape
  have s3 : seg c3 0 3 = some c3 := by rw [hc3]; rfl
  have l3 : c3.length = 3 := by rw [hc3]; rfl
  have n23 : H2.n < H3.n := Nat.lt_of_lt_of_le (Nat.lt_succ_self _) e3.1
  have n12 : H1.n < H2.n := Nat.lt_of_lt_of_le (Nat.lt_succ_self _) e2.1
  have g2 : (H3.push c3).bk H2.n = some ⟨c2, true⟩ := push_old n23 ((e3.2 _ (Nat.lt_succ_self _)).trans push_new)
  have g1' : (H3.push c3).bk H1.n = some ⟨c, true⟩ := push_old (by omega) ((e3.2 _ (Nat.lt_succ_of_lt n12)).trans g1)
  have x3 : Ext (H2.push c2) (H3.push c3) := e3.to_push
  have S2 := (hO2.src.ext (Ext.push H2 c2)).ext x3
  have S3 := hO3.src.ext (Ext.push H3 c3)
  have x4 : Ext (H3.push c3) (((H3.push c3).push c2).push c3) := of_eq_true ext_pp
  have S1 := ((M1.ext x2).ext x3).ext x4
  have S2' := S2.ext x4
  have gg := ((hg.ext (e1.to_push (cs := c))).ext (x2.trans x3)).ext x4
  have n1 : H1.n < (H3.push c3).n := by simp only [push_n]; omega
  have n2 : H2.n < (H3.push c3).n := by simp only [push_n]; omega
  have q1 := (x4.2 _ n1).trans g1'
  have q2 := (x4.2 _ n2).trans g2
  have N1 := Nat.lt_of_lt_of_le n1 x4.1
  have N2 := Nat.lt_of_lt_of_le n2 x4.1
  simp [-AM.seg, AH.store, push_put, loadN_bk g2, s2, l3, loadN_push, s3, K_wsameMachine S2.sees S3.sees]
  clear S2 S3 hO2 hO3 x4 x3 x2 e1 e2 e3 g1 g2 g1' M1 hM n1 n2 hc hc2 hc3 s3 l3 l1 l2
  generalize ((H3.push c3).push c2).push c3 = G at *
  cases hv : validMach m with
  | false =>
    simp [stepR_no hv]
  | true =>
  rw [stepR_yes hv] at S2' ⊢
  obtain ⟨ra, ea, hc, Sa, Sd⟩ := id S1
  obtain ⟨ra2, ea2, hc2, Sa2, Sd2⟩ := id S2'
  have c0 : c[0]? = some ra := by rw [hc]; rfl
  have c1 : c[1]? = some (.I m.pc) := by rw [hc]; rfl
  have c2' : c[2]? = some ea := by rw [hc]; rfl
  have d0 : c2[0]? = some ra2 := by rw [hc2]; rfl
  have d1 : c2[1]? = some (.I (stepM m).1.pc) := by rw [hc2]; rfl
  have d2' : c2[2]? = some ea2 := by rw [hc2]; rfl
  have al := Sd.sees.1
  have al2 := Sd2.sees.1
  by_cases h2 : (stepM m).2 = 1
  · skip
    have h3 : (stepM m).2 ≠ 3 := by omega
    obtain ⟨hk, ho, hs⟩ := step_ok h3
    obtain ⟨hn, hvi⟩ := dec_near ho
    obtain ⟨w1, w2, w3, w4, w5, w6, w7⟩ := word_at Sd.sees hk
    have hml : m.mem.length ≤ 10000 := by simp only [validMach, Bool.and_eq_true, decide_eq_true_eq] at hv; exact hv.1.2
    have hww := valid_word hv hk
    simp (disch := omega) [-AM.seg, h2, load_bk q1, c1, c2', w7, w3, w4, K_iUnsigned]
    refine K_iInstrDecode gg fun H5 e5 => ?_
    simp only [hs] at S2' Sa2 Sd2 d1 h2 al2
    have N15 := Nat.lt_of_lt_of_le N1 e5.1
    have N25 := Nat.lt_of_lt_of_le N2 e5.1
    have x6 := fun i : Ins => e5.to_push (cs := i.cs)
    simp [ho, AH.store, push_put]
    generalize decI (unsM (wordAt m m.pc)) = i at *
    have x6 := x6 i
    have p1 : (H5.push i.cs).bk H1.n = some ⟨c, true⟩ := push_old N15 ((e5.2 _ N1).trans q1)
    have p2 : (H5.push i.cs).bk H2.n = some ⟨c2, true⟩ := push_old N25 ((e5.2 _ N2).trans q2)
    have pi : (H5.push i.cs).bk H5.n = some ⟨i.cs, true⟩ := push_new
    have Ta2 := Sa2.ext x6
    have Td2 := Sd2.ext x6
    have Ta := Sa.ext x6
    have Td := Sd.ext x6
    have nI : H5.n < (H5.push i.cs).n := Nat.lt_succ_self _
    generalize H5.push i.cs = G5 at *
    obtain ⟨n1, n2, n3, n4, n5⟩ := id hn
    by_cases h11 : i.op ≤ 11
    · obtain ⟨hd, h21⟩ := do_go h2
      have hpp := sl44_pc hk hml
      have hl : i.op.toNat - 1 < mops.length := by simp [mops]; omega
      have gop : (Ints mops)[i.op.toNat - 1]? = some (.I (mops.getD (i.op.toNat - 1) 0)) := by simp [Ints, hl]
      have hr : 1 ≤ mops.getD (i.op.toNat - 1) 0 ∧ mops.getD (i.op.toNat - 1) 0 ≤ 12 := by
        have : ∀ x ∈ mops, 1 ≤ x ∧ x ≤ 12 := by decide
        have := this _ (List.getElem_mem hl)
        rw [List.getD_eq_getElem?_getD, List.getElem?_eq_getElem hl]; exact this
      have hval : valM m i = applyM (mops.getD (i.op.toNat - 1) 0) (regM m i.rs) (regM m i.rt) := by
        have e1 : (i.op - 1).toNat = i.op.toNat - 1 := by omega
        unfold valM
        rw [if_neg (by omega), if_neg (by omega), if_neg (by omega), if_neg (by omega), if_neg (by omega), e1]
      have hregs : (doM m i).1.regs = setR m.regs i.rd (valM m i) := by rw [hd]; simp only; rw [if_neg (by omega)]
      have hpcv : (doM m i).1.pc = m.pc + 4 := by
        rw [hd]; simp only; unfold pcM; rw [if_neg (by omega), if_neg (by omega), if_neg (by omega), hpp.1.symm]
      generalize mops.getD (i.op.toNat - 1) 0 = op at *
      have rl : m.regs.length = 32 := by have := hv; simp only [validMach, Bool.and_eq_true, decide_eq_true_eq] at this; exact this.1.1.1.1.1
      have r0 : m.regs[0]? = some 0 := by have := hv; simp only [validMach, Bool.and_eq_true, decide_eq_true_eq] at this; exact this.1.1.1.2
      have rl2 : (doM m i).1.regs.length = 32 := by rw [do_regs, rl]
      obtain ⟨k1, k2, k3, k4⟩ := reg_at (Ta.ext (Ext.push G5 (Ints mops))).sees rl n3
      obtain ⟨k5, k6, k7, k8⟩ := reg_at (Ta.ext (Ext.push G5 (Ints mops))).sees rl n4
      obtain ⟨k9, k10, k11, k12⟩ := reg_at (m := (doM m i).1) (Ta2.ext (Ext.push G5 (Ints mops))).sees rl2 n2
      obtain ⟨k13, k14, k15, k16⟩ := reg_at (m := (doM m i).1) (j := 0) (Ta2.ext (Ext.push G5 (Ints mops))).sees rl2 (by omega)
      rw [k3] at k7
      simp only [Option.some.injEq, Prod.mk.injEq, and_true] at k7
      obtain ⟨rfl, rfl⟩ := k7
      rw [k11] at k15
      simp only [Option.some.injEq, Prod.mk.injEq, and_true] at k15
      obtain ⟨rfl, rfl⟩ := k15
      have wrs := valid_reg hv n3
      have wrt := valid_reg hv n4
      have z0 : regM (doM m i).1 0 = 0 := by
        unfold regM; rw [hregs]; unfold setR; split
        · simp [r0]
        · rw [List.getD_eq_getElem?_getD, List.getElem?_set_ne (by omega)]; simp [r0]
      have zr : i.rd ≠ 0 → regM (doM m i).1 i.rd = applyM op (regM m i.rs) (regM m i.rt) := fun h0 => by
        unfold regM; rw [hregs]; unfold setR; rw [if_neg h0, hval, List.getD_eq_getElem?_getD, List.getElem?_set_self (by omega)]; rfl
      rw [z0] at k16
      simp only [Int.toNat_zero, Nat.add_zero] at k16
      have P1 := push_old (cs := Ints mops) (by have := x6.1; omega) p1
      have P2 := push_old (cs := Ints mops) (by have := x6.1; omega) p2
      have PI := push_old (cs := Ints mops) nI pi
      simp only [Ints, mops, List.map_cons, List.map_nil] at P1 P2 PI gop k4 k8 k12 k16
      have hng : ¬ 11 < i.op := by omega
      have gl : ∀ cs, (G5.push cs).bk G5.n = some ⟨cs, true⟩ := fun cs => push_new
      have nG : ∀ cs, (G5.push cs).load G5.n (i.op.toNat - 1) = cs[i.op.toNat - 1]? := fun cs => load_bk (gl cs)
      simp (disch := omega) [load_bk pi, hng, nG, gop, load_bk P1, load_bk P2, load_bk PI, c0, c1, d0, d1, k3, k4, k8, k11, k12, k16, K_iApply hr wrs wrt, z0, hpcv]
      by_cases h0 : i.rd = 0
      · simp (disch := omega) [h0, load_bk P2, d0, d1, k11, k16, z0, hpcv, load_bk P1, c1]
      · simp (disch := omega) [h0, load_bk P2, load_bk PI, d0, d1, k11, k12, k16, z0, zr h0, hpcv, load_bk P1, c1]
    · have h11' : 11 < i.op := by omega
      simp [load_bk pi, h11']
  · simp [h2]
theorem law_FnMachineNext {v : AV} {zs : List Int} (hg : Glob H) (h : SlI H .u8 v zs) (hz : ∀ n ∈ zs, 0 ≤ n ∧ n < 256) : CallK Cd f_wFnMachineNext [v] H fun v _ => v = .b true := by
  rw [CallK_F, CallF_eq e_wFnMachineNext rfl]
  simp [h.len]
  refine cnd_mk (fun h1 => ?_) (fun h1 => ?_)
  · simp
  simp
  refine K_sDrawMachineStep h hz (by omega) fun c m H1 hM e1 => ?_
  obtain ⟨a, b, d, hc⟩ := hM.shape
  have s1 : seg c 0 3 = some c := by rw [hc]; rfl
  have l1 : c.length = 3 := by rw [hc]; rfl
  have M1 := hM.ext (Ext.push H1 c)
  simp [-AM.seg, AH.store, push_put, loadN_push, s1, l1]
  refine K_iMachineStep (hg.ext e1.to_push) M1 fun c2 rb mb H2 hO2 e2 => ?_
  obtain ⟨a2, b2, d2, hc2⟩ := hO2.src.shape
  have s2 : seg c2 0 3 = some c2 := by rw [hc2]; rfl
  have l2 : c2.length = 3 := by rw [hc2]; rfl
  have g1 : (H2.push c2).bk H1.n = some ⟨c, true⟩ := push_old (Nat.lt_of_lt_of_le (Nat.lt_succ_self _) e2.1) ((e2.2 _ (Nat.lt_succ_self _)).trans push_new)
  have x2 : Ext (H1.push c) (H2.push c2) := e2.to_push
  simp [-AM.seg, AH.store, push_put, loadN_bk g1, s1, l2]
  refine K_sMachineStep (M1.ext x2) fun c3 rb3 mb3 H3 hO3 e3 => ?_
  obtain ⟨a3, b3, d3, hc3⟩ := hO3.src.shape
  have s3 : seg c3 0 3 = some c3 := by rw [hc3]; rfl
  have l3 : c3.length = 3 := by rw [hc3]; rfl
  have n23 : H2.n < H3.n := Nat.lt_of_lt_of_le (Nat.lt_succ_self _) e3.1
  have n12 : H1.n < H2.n := Nat.lt_of_lt_of_le (Nat.lt_succ_self _) e2.1
  have g2 : (H3.push c3).bk H2.n = some ⟨c2, true⟩ := push_old n23 ((e3.2 _ (Nat.lt_succ_self _)).trans push_new)
  have g1' : (H3.push c3).bk H1.n = some ⟨c, true⟩ := push_old (by omega) ((e3.2 _ (Nat.lt_succ_of_lt n12)).trans g1)
  have x3 : Ext (H2.push c2) (H3.push c3) := e3.to_push
  have S2 := (hO2.src.ext (Ext.push H2 c2)).ext x3
  have S3 := hO3.src.ext (Ext.push H3 c3)
  have x4 : Ext (H3.push c3) (((H3.push c3).push c2).push c3) := of_eq_true ext_pp
  have S1 := ((M1.ext x2).ext x3).ext x4
  have S2' := S2.ext x4
  have gg := ((hg.ext (e1.to_push (cs := c))).ext (x2.trans x3)).ext x4
  have n1 : H1.n < (H3.push c3).n := by simp only [push_n]; omega
  have n2 : H2.n < (H3.push c3).n := by simp only [push_n]; omega
  have q1 := (x4.2 _ n1).trans g1'
  have q2 := (x4.2 _ n2).trans g2
  have N1 := Nat.lt_of_lt_of_le n1 x4.1
  have N2 := Nat.lt_of_lt_of_le n2 x4.1
  simp [-AM.seg, AH.store, push_put, loadN_bk g2, s2, l3, loadN_push, s3, K_wsameMachine S2.sees S3.sees]
  clear S2 S3 hO2 hO3 x4 x3 x2 e1 e2 e3 g1 g2 g1' M1 hM n1 n2 hc hc2 hc3 s3 l3 l1 l2
  generalize ((H3.push c3).push c2).push c3 = G at *
  cases hv : validMach m with
  | false =>
    simp [stepR_no hv]
  | true =>
  rw [stepR_yes hv] at S2' ⊢
  obtain ⟨ra, ea, hc, Sa, Sd⟩ := id S1
  obtain ⟨ra2, ea2, hc2, Sa2, Sd2⟩ := id S2'
  have c0 : c[0]? = some ra := by rw [hc]; rfl
  have c1 : c[1]? = some (.I m.pc) := by rw [hc]; rfl
  have c2' : c[2]? = some ea := by rw [hc]; rfl
  have d0 : c2[0]? = some ra2 := by rw [hc2]; rfl
  have d1 : c2[1]? = some (.I (stepM m).1.pc) := by rw [hc2]; rfl
  have d2' : c2[2]? = some ea2 := by rw [hc2]; rfl
  have al := Sd.sees.1
  have al2 := Sd2.sees.1
  by_cases h2 : (stepM m).2 = 1
  · skip
    have h3 : (stepM m).2 ≠ 3 := by omega
    obtain ⟨hk, ho, hs⟩ := step_ok h3
    obtain ⟨hn, hvi⟩ := dec_near ho
    obtain ⟨w1, w2, w3, w4, w5, w6, w7⟩ := word_at Sd.sees hk
    have hml : m.mem.length ≤ 10000 := by simp only [validMach, Bool.and_eq_true, decide_eq_true_eq] at hv; exact hv.1.2
    have hww := valid_word hv hk
    simp (disch := omega) [-AM.seg, h2, load_bk q1, c1, c2', w7, w3, w4, K_iUnsigned]
    refine K_iInstrDecode gg fun H5 e5 => ?_
    simp only [hs] at S2' Sa2 Sd2 d1 h2 al2
    have N15 := Nat.lt_of_lt_of_le N1 e5.1
    have N25 := Nat.lt_of_lt_of_le N2 e5.1
    have x6 := fun i : Ins => e5.to_push (cs := i.cs)
    simp [ho, AH.store, push_put]
    generalize decI (unsM (wordAt m m.pc)) = i at *
    have x6 := x6 i
    have p1 : (H5.push i.cs).bk H1.n = some ⟨c, true⟩ := push_old N15 ((e5.2 _ N1).trans q1)
    have p2 : (H5.push i.cs).bk H2.n = some ⟨c2, true⟩ := push_old N25 ((e5.2 _ N2).trans q2)
    have pi : (H5.push i.cs).bk H5.n = some ⟨i.cs, true⟩ := push_new
    have Ta2 := Sa2.ext x6
    have Td2 := Sd2.ext x6
    have Ta := Sa.ext x6
    have Td := Sd.ext x6
    have nI : H5.n < (H5.push i.cs).n := Nat.lt_succ_self _
    generalize H5.push i.cs = G5 at *
    obtain ⟨n1, n2, n3, n4, n5⟩ := id hn
    obtain ⟨hd, h21⟩ := do_go h2
    have hpp := sl44_pc hk hml
    have hpc : (doM m i).1.pc = pcM m i := by rw [hd]
    rw [hpc] at d1
    by_cases b15 : i.op = 15
    · have hp : (pcM m i).tmod 2 = 0 := by
        have w := @wrapM_lt (regM m i.rs + i.imm)
        unfold pcM; rw [if_pos b15]
        exact Int.tmod_eq_zero_of_dvd (Int.dvd_of_emod_eq_zero (by omega))
      simp [load_bk pi, b15, load_bk p2, d1, hp]
    have q1 : i.op = 17 ∨ i.op = 18 → pcM m i = m.pc + 4 ∨ pcM m i = wrapM (m.pc + i.imm) := fun q => by
      unfold pcM; rw [if_neg b15, if_pos q]; split
      · exact .inr rfl
      · exact .inl hpp.1.symm
    have q2 : i.op = 20 → pcM m i = wrapM (m.pc + i.imm) := fun q => by
      unfold pcM; rw [if_neg b15, if_neg (by omega), if_pos q]
    have q3 : ¬ (i.op = 17 ∨ i.op = 18 ∨ i.op = 20) → pcM m i = m.pc + 4 := fun q => by
      unfold pcM; rw [if_neg b15, if_neg (by omega), if_neg (by omega), hpp.1.symm]
    by_cases b17 : i.op = 17
    · by_cases e : pcM m i = m.pc + 4
      · simp (disch := omega) [load_bk pi, b17, load_bk p2, load_bk p1, c1, d1, e]
      · have e' := (q1 (.inl b17)).resolve_left e
        have e2 : ¬ wrapM (m.pc + i.imm) = m.pc + 4 := by rw [← e']; exact e
        simp (disch := omega) [load_bk pi, b17, load_bk p2, load_bk p1, c1, d1, e', e2, K_iWrap]
    by_cases b18 : i.op = 18
    · by_cases e : pcM m i = m.pc + 4
      · simp (disch := omega) [load_bk pi, b18, load_bk p2, load_bk p1, c1, d1, e]
      · have e' := (q1 (.inr b18)).resolve_left e
        have e2 : ¬ wrapM (m.pc + i.imm) = m.pc + 4 := by rw [← e']; exact e
        simp (disch := omega) [load_bk pi, b18, load_bk p2, load_bk p1, c1, d1, e', e2, K_iWrap]
    by_cases b20 : i.op = 20
    · simp (disch := omega) [load_bk pi, b20, load_bk p2, load_bk p1, c1, d1, q2 b20, K_iWrap]
    · simp (disch := omega) [load_bk pi, b15, b17, b18, b20, load_bk p2, load_bk p1, c1, d1, q3 (by omega)]
  · simp [h2]
end
end Go.Proofs.YtdgmihohmkdpjaaDoor.AM
