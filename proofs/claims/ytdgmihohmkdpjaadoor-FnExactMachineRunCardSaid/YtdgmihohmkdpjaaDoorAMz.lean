/-
  Encodings in draws: some number; nothing that was there is written. No condition.
-/
import Derived.Test.YtdgmihohmkdpjaaDoorAMy
namespace Go.Proofs.YtdgmihohmkdpjaaDoor.AM
set_option linter.unusedSimpArgs false
set_option linter.unusedVariables false
open Go

section
variable {H : AH} {K : AV → AH → Prop} {n a b : Int} {w : Fk K}
theorem K_sl42Mod : CallF Cd f_sl42Mod [.I a, .I b] H K w = K (.I (if a < 0 then IntKind.i64.wrap (a + b) else a)) H := by
  rw [CallF_eq e_sl42Mod rfl]
  simp
  refine cnd_iff (fun h => ?_) (fun h => ?_)
  · simp [h]
  · simp [h]
theorem K_sl42Put (h : 0 ≤ n ∧ n ≤ 62) : CallF Cd f_sl42Put [.I a, .I n] H K w = K (.I (IntKind.i64.wrap (a * 2 ^ n.toNat))) H := by
  rw [CallF_eq e_sl42Put rfl]
  simp (disch := omega) [K_sl1Power]
theorem E_sl42Three (h : 1 ≤ n ∧ n ≤ 21) (k : ∀ x H', Ext H H' → K (.I x) H') : CallF Cd f_sl42Three [.I n] H K w := by
  rw [CallF_eq e_sl42Three rfl]
  obtain ⟨y, hy, e⟩ := @Ints_get [0, 0, 0, 4, 6, 7, 6, 4, 1, 5, 2, 0, 3, 2, 0, 2, 0, 1, 0, 0, 0] (n - 1) 21 (by omega) rfl
  rw [show (n - 1).toNat = n.toNat - 1 by omega] at e
  simp only [Ints, List.map_cons, List.map_nil] at e
  simp (disch := omega) [load_push, e]
  exact k _ _ (Ext.push _ _)
theorem E_sl42Seven (h : 1 ≤ n ∧ n ≤ 11) (k : ∀ x H', Ext H H' → K (.I x) H') : CallF Cd f_sl42Seven [.I n] H K w := by
  rw [CallF_eq e_sl42Seven rfl]
  obtain ⟨y, hy, e⟩ := @Ints_get [0, 32, 1, 1, 1, 0, 0, 0, 0, 32, 0] (n - 1) 11 (by omega) rfl
  rw [show (n - 1).toNat = n.toNat - 1 by omega] at e
  simp only [Ints, List.map_cons, List.map_nil] at e
  simp (disch := omega) [load_push, e]
  exact k _ _ (Ext.push _ _)
theorem E_sl42Mid {i : Ins} (h : 1 ≤ i.op ∧ i.op ≤ 21) (k : ∀ x H', Ext H H' → K (.I x) H') : CallF Cd f_sl42Mid [.agg i.cs, .I n] H K w := by
  rw [CallF_eq e_sl42Mid rfl]
  simp (disch := omega) [Ins.cs, load_push, K_sl42Put]
  refine E_sl42Three h fun x H1 hE => ?_
  simp (disch := omega) [hE, K_sl42Put]
  exact k _ _ ((Ext.push _ _).trans hE)
theorem E_sl42Imm {i : Ins} (h : 1 ≤ i.op ∧ i.op ≤ 21) (k : ∀ x H', Ext H H' → K (.I x) H') : CallF Cd f_sl42Imm [.agg i.cs, .I n] H K w := by
  rw [CallF_eq e_sl42Imm rfl]
  simp (disch := omega) [Ins.cs, load_push, loadN_push, K_sl42Mod, K_sl42Put]
  refine E_sl42Mid (i := i) h fun x H1 hE => ?_
  have e1 : H1.load H.n 1 = some (.I i.rd) := by rw [load_ext hE (Nat.lt_succ_self _), load_push, if_pos rfl]; rfl
  simp (disch := omega) [hE, e1, K_sl42Put]
  exact k _ _ ((Ext.push _ _).trans hE)
theorem E_sl42Branch {i : Ins} (h : 1 ≤ i.op ∧ i.op ≤ 21) (k : ∀ x H', Ext H H' → K (.I x) H') : CallF Cd f_sl42Branch [.agg i.cs] H K w := by
  rw [CallF_eq e_sl42Branch rfl]
  simp (disch := omega) [Ins.cs, load_push, loadN_push, K_sl42Mod, K_sl42Put, K_sBits]
  refine E_sl42Mid (i := i) h fun x H1 hE => ?_
  simp (disch := omega) [hE, K_sl42Put, K_sBits]
  exact k _ _ ((Ext.push _ _).trans hE)
theorem E_sl42Jump {i : Ins} (k : ∀ x H', Ext H H' → K (.I x) H') : CallF Cd f_sl42Jump [.agg i.cs] H K w := by
  rw [CallF_eq e_sl42Jump rfl]
  simp (disch := omega) [Ins.cs, load_push, loadN_push, K_sl42Mod, K_sl42Put, K_sBits]
  exact k _ _ (Ext.push _ _)
theorem E_sl42Encode {i : Ins} (h : 1 ≤ i.op ∧ i.op ≤ 21) (k : ∀ x H', Ext H H' → K (.I x) H') : CallF Cd f_sl42Encode [.agg i.cs] H K w := by
  rw [CallF_eq e_sl42Encode rfl]
  have fin : ∀ x H', Ext (H.push i.cs) H' → K (.I x) H' := fun x H' hE => k x H' ((Ext.push _ _).trans hE)
  have e0 : (H.push i.cs).load H.n 0 = some (.I i.op) := by rw [load_push, if_pos rfl]; rfl
  have e1 : (H.push i.cs).load H.n 1 = some (.I i.rd) := by rw [load_push, if_pos rfl]; rfl
  have e3 : (H.push i.cs).load H.n 3 = some (.I i.rt) := by rw [load_push, if_pos rfl]; rfl
  have e4 : (H.push i.cs).load H.n 4 = some (.I i.imm) := by rw [load_push, if_pos rfl]; rfl
  have eN : (H.push i.cs).loadN H.n 0 5 = some i.cs := by rw [loadN_push, if_pos rfl]; rfl
  have hc : i.cs = [.I i.op, .I i.rd, .I i.rs, .I i.rt, .I i.imm] := rfl
  generalize i.cs = c at *
  simp [e0]
  refine cnd_mk (fun b => ?_) (fun b => ?_)
  · simp [b, eN]
    subst hc
    exact E_sl42Imm (i := i) h fun x H1 hE => by simp; exact fin _ _ hE
  simp [b, e0]
  refine cnd_mk (fun b => ?_) (fun b => ?_)
  · simp [b, eN]
    subst hc
    exact E_sl42Imm (i := i) h fun x H1 hE => by simp; exact fin _ _ hE
  simp [b, e0]
  refine cnd_mk (fun b => ?_) (fun b => ?_)
  · simp [b, eN]
    subst hc
    exact E_sl42Imm (i := i) h fun x H1 hE => by simp; exact fin _ _ hE
  simp [b, e0]
  refine cnd_mk (fun b => ?_) (fun b => ?_)
  · simp [b, eN]
    subst hc
    exact E_sl42Imm (i := i) h fun x H1 hE => by simp; exact fin _ _ hE
  simp [b, e0]
  refine cnd_mk (fun b => ?_) (fun b => ?_)
  · simp (disch := omega) [b, e0, e1, e3, e4, eN, K_sl42Mod, K_sl42Put, K_sBits]
    subst hc
    refine E_sl42Mid (i := i) h fun x H1 hE => ?_
    simp (disch := omega) [hE, K_sl42Put, K_sBits]
    exact fin _ _ hE
  simp [b, e0]
  refine cnd_mk (fun b => ?_) (fun b => ?_)
  · simp [b, eN]
    subst hc
    exact E_sl42Branch (i := i) h fun x H1 hE => by simp; exact fin _ _ hE
  simp [b, e0]
  refine cnd_mk (fun b => ?_) (fun b => ?_)
  · simp [b, eN]
    subst hc
    exact E_sl42Branch (i := i) h fun x H1 hE => by simp; exact fin _ _ hE
  simp [b, e0]
  refine cnd_mk (fun b => ?_) (fun b => ?_)
  · simp (disch := omega) [b, e0, e1, e3, e4, eN, K_sl42Put]
    exact fin _ _ (Ext.refl _)
  simp [b, e0]
  refine cnd_mk (fun b => ?_) (fun b => ?_)
  · simp [b, eN]
    subst hc
    exact E_sl42Jump (i := i) fun x H1 hE => by simp; exact fin _ _ hE
  simp [b, e0]
  refine cnd_mk (fun b => ?_) (fun b => ?_)
  · simp
    exact fin _ _ (Ext.refl _)
  simp [e0]
  refine E_sl42Seven (by omega) fun x H1 hE => ?_
  have f1 : H1.load H.n 1 = some (.I i.rd) := (load_ext hE (Nat.lt_succ_self _)).trans e1
  have f3 : H1.load H.n 3 = some (.I i.rt) := (load_ext hE (Nat.lt_succ_self _)).trans e3
  have fN : H1.loadN H.n 0 5 = some c := (loadN_ext hE (Nat.lt_succ_self _)).trans eN
  simp (disch := omega) [hE, f1, f3, fN, K_sl42Put]
  subst hc
  refine E_sl42Mid (i := i) h fun x H2 hE2 => ?_
  have g1 : H2.load H.n 1 = some (.I i.rd) := (load_ext hE2 (Nat.lt_of_lt_of_le (Nat.lt_succ_self _) hE.1)).trans f1
  simp (disch := omega) [hE2, g1, K_sl42Put]
  exact fin _ _ (hE.trans hE2)
end
end Go.Proofs.YtdgmihohmkdpjaaDoor.AM
