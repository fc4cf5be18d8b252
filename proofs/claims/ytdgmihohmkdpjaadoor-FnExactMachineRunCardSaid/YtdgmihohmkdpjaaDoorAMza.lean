/-
  Draws of machines. No condition.
-/
import Derived.Test.YtdgmihohmkdpjaaDoorAMz
namespace Go.Proofs.YtdgmihohmkdpjaaDoor.AM
set_option linter.unusedSimpArgs false
set_option linter.unusedVariables false
open Go

section
variable {H : AH} {K : AV → AH → Prop} {n a b : Int} {r : Nat} {w : Fk K}
theorem K_sl94Near {m : Int} (h : Rdx H r m) (hm : m ≤ 999999999900)
    (k : ∀ (i : Ins) H', (1 ≤ i.op ∧ i.op ≤ 21) → Rdx H' r (m + 11) → St r H H' → K (.agg i.cs) H') : CallF Cd f_sl94Near [.ptr r 0] H K w := by
  rw [CallF_eq e_sl94Near rfl]
  simp
  refine K_sl94Instr h.push (by omega) fun i H1 hi hR1 hS1 => ?_
  obtain ⟨op, rd, rs, rt, imm⟩ := i
  obtain ⟨ho, hrd, hrs, hrt, him⟩ := hi
  simp only at ho hrd hrs hrt him
  have hrn := h.lt
  have n1 : H.n < H1.n := Nat.lt_of_lt_of_le (Nat.lt_succ_self _) hS1.1
  have cA : H1.bk H.n = some ⟨[.I 0, .I 0, .I 0, .I 0, .I 0], true⟩ := hS1.at (Nat.lt_succ_self _) (by omega) (by simp)
  have nAB : ¬ H.n = H1.n := by omega
  have nrB : ¬ H1.n = r := by omega
  have hS : St r H H1 := (St.push St.refl).trans hS1
  have fin : ∀ (rd rs rt imm : Int) G, Rdx G r (m + 11) → St r H G → K (.agg [.I op, .I rd, .I rs, .I rt, .I imm]) (G.put H.n (some ⟨[.I op, .I rd, .I rs, .I rt, .I imm], true⟩)) := fun rd rs rt imm G hR hG =>
    k ⟨op, rd, rs, rt, imm⟩ _ ho (hR.put hrn) (hG.put (Nat.le_refl _))
  simp [Ins.cs, AH.store, push_put, AH.load]
  generalize rd.tmod 8 = rd at *
  generalize rs.tmod 8 = rs at *
  generalize rt.tmod 8 = rt at *
  refine cnd_mk (fun q => ?_) (fun q => ?_)
  · simp [q]
    rw [q] at fin
    refine P_pick hR1.push (by omega) (by omega) fun x H2 hx hR2 hS2 => ?_
    have cA2 : H2.bk H.n = some ⟨[.I 0, .I 0, .I 0, .I 0, .I 0], true⟩ := ((St.push St.refl).trans hS2).at n1 (by omega) cA
    have cB2 := hS2.at (Nat.lt_succ_self _) (by omega) (push_bk.trans (if_pos rfl))
    have hS12 : St r H H2 := hS.trans ((St.push St.refl).trans hS2)
    simp (disch := omega) [AH.store, AH.loadN, cB2, cA2, put_put, nAB, Ne.symm nAB]
    exact fin _ 0 _ (4 * x) _ ((hR2.up (by omega)).put (by omega)) (hS12.put (by omega))
  simp [q]
  refine cnd_mk (fun q => ?_) (fun q => ?_)
  · simp [q]
    rw [q] at fin
    refine P_pick hR1.push (by omega) (by omega) fun x H2 hx hR2 hS2 => ?_
    have cA2 : H2.bk H.n = some ⟨[.I 0, .I 0, .I 0, .I 0, .I 0], true⟩ := ((St.push St.refl).trans hS2).at n1 (by omega) cA
    have cB2 := hS2.at (Nat.lt_succ_self _) (by omega) (push_bk.trans (if_pos rfl))
    have hS12 : St r H H2 := hS.trans ((St.push St.refl).trans hS2)
    simp (disch := omega) [AH.store, AH.loadN, cB2, cA2, put_put, nAB, Ne.symm nAB]
    exact fin _ 0 _ (4 * x) _ ((hR2.up (by omega)).put (by omega)) (hS12.put (by omega))
  simp [q]
  refine cnd_mk (fun q => ?_) (fun q => ?_)
  · simp [q]
    rw [q] at fin
    refine P_pick hR1.push (by omega) (by omega) fun x H2 hx hR2 hS2 => ?_
    have cA2 : H2.bk H.n = some ⟨[.I 0, .I 0, .I 0, .I 0, .I 0], true⟩ := ((St.push St.refl).trans hS2).at n1 (by omega) cA
    have cB2 := hS2.at (Nat.lt_succ_self _) (by omega) (push_bk.trans (if_pos rfl))
    have hS12 : St r H H2 := hS.trans ((St.push St.refl).trans hS2)
    simp (disch := omega) [AH.store, AH.loadN, cB2, cA2, put_put, nAB, Ne.symm nAB]
    exact fin _ _ _ (4 * x - 8) _ ((hR2.up (by omega)).put (by omega)) (hS12.put (by omega))
  simp [q]
  refine cnd_mk (fun q => ?_) (fun q => ?_)
  · simp [q]
    rw [q] at fin
    refine P_pick hR1.push (by omega) (by omega) fun x H2 hx hR2 hS2 => ?_
    have cA2 : H2.bk H.n = some ⟨[.I 0, .I 0, .I 0, .I 0, .I 0], true⟩ := ((St.push St.refl).trans hS2).at n1 (by omega) cA
    have cB2 := hS2.at (Nat.lt_succ_self _) (by omega) (push_bk.trans (if_pos rfl))
    have hS12 : St r H H2 := hS.trans ((St.push St.refl).trans hS2)
    simp (disch := omega) [AH.store, AH.loadN, cB2, cA2, put_put, nAB, Ne.symm nAB]
    exact fin _ _ _ (4 * x - 8) _ ((hR2.up (by omega)).put (by omega)) (hS12.put (by omega))
  simp [q]
  refine cnd_mk (fun q => ?_) (fun q => ?_)
  · simp [q]
    rw [q] at fin
    refine P_pick hR1.push (by omega) (by omega) fun x H2 hx hR2 hS2 => ?_
    have cA2 : H2.bk H.n = some ⟨[.I 0, .I 0, .I 0, .I 0, .I 0], true⟩ := ((St.push St.refl).trans hS2).at n1 (by omega) cA
    have cB2 := hS2.at (Nat.lt_succ_self _) (by omega) (push_bk.trans (if_pos rfl))
    have hS12 : St r H H2 := hS.trans ((St.push St.refl).trans hS2)
    simp (disch := omega) [AH.store, AH.loadN, cB2, cA2, put_put, nAB, Ne.symm nAB]
    exact fin _ _ _ (4 * x - 8) _ ((hR2.up (by omega)).put (by omega)) (hS12.put (by omega))
  simp [q]
  refine cnd_mk (fun q => ?_) (fun q => ?_)
  · simp [q]
    rw [q] at fin
    refine P_pick hR1.push (by omega) (by omega) fun x H2 hx hR2 hS2 => ?_
    have cA2 : H2.bk H.n = some ⟨[.I 0, .I 0, .I 0, .I 0, .I 0], true⟩ := ((St.push St.refl).trans hS2).at n1 (by omega) cA
    have cB2 := hS2.at (Nat.lt_succ_self _) (by omega) (push_bk.trans (if_pos rfl))
    have hS12 : St r H H2 := hS.trans ((St.push St.refl).trans hS2)
    simp (disch := omega) [AH.store, AH.loadN, cB2, cA2, put_put, nAB, Ne.symm nAB]
    exact fin _ 0 _ (4 * x) _ ((hR2.up (by omega)).put (by omega)) (hS12.put (by omega))
  simp [q]
  simp [AH.store, AH.loadN, cA, nAB, Ne.symm nAB]
  exact fin _ _ _ _ _ (hR1.push.up (by omega)) (hS.trans (St.push St.refl))
end
end Go.Proofs.YtdgmihohmkdpjaaDoor.AM
