/-
  MachineStep and MachineRun, the program's and the spec's. No condition.
-/
import Derived.Test.YtdgmihohmkdpjaaDoorAMzl
namespace Go.Proofs.YtdgmihohmkdpjaaDoor.AM
set_option linter.unusedSimpArgs false
set_option linter.unusedVariables false
set_option maxRecDepth 10000
open Go

def zeroM : Mach := ⟨[], 0, []⟩
def stepR (m : Mach) : Mach × Int := if validMach m = true then stepM m else (zeroM, 0)
theorem OwnM.zero {base b : Nat} {H : AH} (hb : base ≤ b) : OwnM base H [.nils, .I 0, .nils] b (b + 1) zeroM :=
  ⟨_, _, rfl, ⟨by simp [zeroM], .inl ⟨rfl, rfl⟩⟩, ⟨by simp [zeroM], .inl ⟨rfl, rfl⟩⟩, by omega, by omega, by omega⟩
theorem OwnM.at {base : Nat} {H : AH} {c rb mb m} (h : OwnM base H c rb mb m) (hv : validMach m = true) (hb : base ≤ H.n) : ∃ c1 e mb', c = [.sl rb 0 32 c1, .I m.pc, e] ∧ base ≤ mb' ∧ base ≤ rb ∧ MAt (H.push c) H.n rb mb' c1 e m := by
  obtain ⟨r, e, rfl, hr, he, h1, h2, h3⟩ := h
  simp only [validMach, Bool.and_eq_true, decide_eq_true_eq] at hv
  obtain ⟨⟨⟨⟨⟨v1, v2⟩, v3⟩, v4⟩, v5⟩, v6⟩ := hv
  obtain ⟨_, ⟨_, hn⟩ | ⟨c1, rfl, hrb, hrn⟩⟩ := hr
  · rw [hn] at v1; cases v1
  have hn1 : ¬ H.n = rb := by omega
  rcases id he with ⟨hl, ⟨rfl, hm⟩ | ⟨c2, rfl, hmb, hmn⟩⟩
  · refine ⟨c1, .nils, H.n + 1, by rw [v1], by omega, h1, push_new.trans (by rw [v1]), push_old hrn hrb, v1, ⟨hl, .inl ⟨rfl, hm⟩⟩, by omega, by omega, hn1, Nat.lt_succ_self _, Nat.lt_succ_of_lt hrn, v5⟩
  · refine ⟨c1, .sl mb 0 m.mem.length c2, mb, by rw [v1], h2, h1, push_new.trans (by rw [v1]), push_old hrn hrb, v1, he.ext (Ext.push _ _), by omega, fun e => h3 e.symm, hn1, Nat.lt_succ_self _, Nat.lt_succ_of_lt hrn, v5⟩
theorem MAt.own' {base : Nat} {H : AH} {P rb mb c1 e m} (h : MAt H P rb mb c1 e m) (h1 : base ≤ rb) (h2 : base ≤ mb) : OwnM base H [.sl rb 0 32 c1, .I m.pc, e] rb mb m :=
  ⟨_, _, rfl, ⟨by rw [h.rl]; omega, .inr ⟨c1, by rw [h.rl], h.r, h.rn⟩⟩, h.own, h1, h2, fun e => h.mr e.symm⟩
theorem OwnM.only {base H H' c rb mb m bs} (h : OwnM base H c rb mb m) (k : Only bs H H') (hb : rb ∉ bs ∧ mb ∉ bs) : OwnM base H' c rb mb m := let ⟨r, e, h1, h2, h3, h4⟩ := h; ⟨r, e, h1, h2.only k hb.1, h3.only k hb.2, h4⟩
theorem OwnM.base {base base' H c rb mb m} (h : OwnM base H c rb mb m) (k : base' ≤ base) : OwnM base' H c rb mb m := let ⟨r, e, h1, h2, h3, h4, h5, h6⟩ := h; ⟨r, e, h1, h2, h3, by omega, by omega, h6⟩
/-- Blocks that are all newer than what was there. -/
theorem Only.new {bs H0 H H'} (k : Only bs H H') (h : Ext H0 H) (hb : ∀ b ∈ bs, H0.n ≤ b) : Ext H0 H' := ⟨Nat.le_trans h.1 k.1, fun b hbn => (k.2 b (Nat.lt_of_lt_of_le hbn h.1) (fun hm => by have := hb b hm; omega)).trans (h.2 b hbn)⟩
theorem SrcM.shape {H : AH} {c : List AV} {m : Mach} (h : SrcM H c m) : ∃ a b d, c = [a, b, d] := by obtain ⟨r, e, rfl, _⟩ := h; exact ⟨_, _, _, rfl⟩
section
variable {H : AH} {K : AV → AH → Prop} {w : Fk K} {m : Mach} {c : List AV}
theorem K_iMachineStep (hg : Glob H) (h : SrcM H c m) (k : ∀ c' rb mb H', OwnM H.n H' c' rb mb (stepR m).1 → Ext H H' → K (.tup [.agg c', .I (stepR m).2]) H') : CallF Cd f_iMachineStep [.agg c] H K w := by
  rw [CallF_eq e_iMachineStep rfl]
  obtain ⟨a, b, d, hc⟩ := h.shape
  have x1 : Ext H ((H.push c).push [.nils, .I 0, .nils]) := of_eq_true ext_pp
  have s1 : seg c 0 3 = some c := by rw [hc]; rfl
  have sM := (h.ext x1).sees
  simp [-AM.seg, loadN_push, s1, K_iMachineValid sM]
  cases hv : validMach m with
  | false =>
    have e1 : stepR m = (zeroM, 0) := by unfold stepR; simp [hv]
    rw [e1] at k
    have g1 : (((H.push c).push [AV.nils, AV.I 0, AV.nils]).push c).bk (H.n + 1) = some ⟨[.nils, .I 0, .nils], true⟩ := push_old (by simp) push_new
    have st := store_bk (o := 0) (vs := [.nils, .I 0, .nils]) g1 (by simp)
    simp [st, loadN_put]
    exact k _ _ _ _ (OwnM.zero (b := H.n) (Nat.le_refl _)) ((x1.trans (Ext.push _ _)).put (by omega))
  | true =>
    have e1 : stepR m = stepM m := by unfold stepR; simp [hv]
    rw [e1] at k
    have x2 := x1.trans (Ext.push _ c)
    have gA : (((H.push c).push [.nils, .I 0, .nils]).push c).bk (H.n + 1) = some ⟨[.nils, .I 0, .nils], true⟩ := push_old (by simp) push_new
    simp [-AM.seg, loadN_push, s1]
    refine K_imachineCopy (h.ext x2) fun c' rb mb H3 hO x3 => ?_
    have n3 := x3.1
    simp only [push_n] at n3
    obtain ⟨c1, e, mb', rfl, hb1, hb2, hM⟩ := hO.at hv x3.1
    simp only [push_n] at hb1 hb2
    have gA3 := push_old (cs := [.sl rb 0 32 c1, .I m.pc, e]) (by omega) ((x3.2 (H.n + 1) (by simp)).trans gA)
    have x4 := (x2.trans x3).trans (Ext.push _ [.sl rb 0 32 c1, .I m.pc, e])
    simp [AH.store, push_put]
    refine K_iMachine_step hM hv (hg.ext x4) fun H4 hM4 hO4 => ?_
    have gA4 := hO4.bk (by simp only [push_n]; omega) (by simp; omega) gA3
    have st := store_bk (o := 0) (vs := [.sl rb 0 32 c1, .I (stepM m).1.pc, e]) gA4 (by simp)
    have nP : ¬ H.n + 1 = H3.n := by omega
    simp [loadN_bk hM4.p, st, loadN_bk put_same]
    have x5 : Ext H H4 := hO4.new x4 (by simp; omega)
    exact k _ rb mb' _ (((hM4.own' (base := H.n) (by omega) (by omega)).only (bs := [H.n + 1]) (Only.refl.put (by simp)) (by simp; omega))) (x5.put (by omega))
theorem K_sMachineStep (h : SrcM H c m) (k : ∀ c' rb mb H', OwnM H.n H' c' rb mb (stepR m).1 → Ext H H' → K (.tup [.agg c', .I (stepR m).2]) H') : CallF Cd f_sMachineStep [.agg c] H K w := by
  rw [CallF_eq e_sMachineStep rfl]
  obtain ⟨a, b, d, hc⟩ := h.shape
  have x1 : Ext H ((H.push c).push [.nils, .I 0, .nils]) := of_eq_true ext_pp
  have s1 : seg c 0 3 = some c := by rw [hc]; rfl
  have sM := (h.ext x1).sees
  simp [-AM.seg, loadN_push, s1, K_sMachineValid sM]
  cases hv : validMach m with
  | false =>
    have e1 : stepR m = (zeroM, 0) := by unfold stepR; simp [hv]
    rw [e1] at k
    have g1 : (((H.push c).push [AV.nils, AV.I 0, AV.nils]).push c).bk (H.n + 1) = some ⟨[.nils, .I 0, .nils], true⟩ := push_old (by simp) push_new
    have st := store_bk (o := 0) (vs := [.nils, .I 0, .nils]) g1 (by simp)
    simp [st, loadN_put]
    exact k _ _ _ _ (OwnM.zero (b := H.n) (Nat.le_refl _)) ((x1.trans (Ext.push _ _)).put (by omega))
  | true =>
    have e1 : stepR m = stepM m := by unfold stepR; simp [hv]
    rw [e1] at k
    have x2 := x1.trans (Ext.push _ c)
    have gA : (((H.push c).push [.nils, .I 0, .nils]).push c).bk (H.n + 1) = some ⟨[.nils, .I 0, .nils], true⟩ := push_old (by simp) push_new
    simp [-AM.seg, loadN_push, s1]
    refine K_sl44Copy (h.ext x2) fun c' rb mb H3 hO x3 => ?_
    have n3 := x3.1
    simp only [push_n] at n3
    obtain ⟨c1, e, mb', rfl, hb1, hb2, hM⟩ := hO.at hv x3.1
    simp only [push_n] at hb1 hb2
    have gA3 := push_old (cs := [.sl rb 0 32 c1, .I m.pc, e]) (by omega) ((x3.2 (H.n + 1) (by simp)).trans gA)
    have x4 := (x2.trans x3).trans (Ext.push _ [.sl rb 0 32 c1, .I m.pc, e])
    simp [AH.store, push_put]
    refine K_sl44Step hM hv fun H4 hM4 hO4 => ?_
    have gA4 := hO4.bk (by simp only [push_n]; omega) (by simp; omega) gA3
    have st := store_bk (o := 0) (vs := [.sl rb 0 32 c1, .I (stepM m).1.pc, e]) gA4 (by simp)
    have nP : ¬ H.n + 1 = H3.n := by omega
    simp [loadN_bk hM4.p, st, loadN_bk put_same]
    have x5 : Ext H H4 := hO4.new x4 (by simp; omega)
    exact k _ rb mb' _ (((hM4.own' (base := H.n) (by omega) (by omega)).only (bs := [H.n + 1]) (Only.refl.put (by simp)) (by simp; omega))) (x5.put (by omega))
end
end Go.Proofs.YtdgmihohmkdpjaaDoor.AM
