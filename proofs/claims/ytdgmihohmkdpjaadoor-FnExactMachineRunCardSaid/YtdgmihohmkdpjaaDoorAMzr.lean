/-
  MachineRun, the program's and the spec's. No condition.
-/
import Derived.Test.YtdgmihohmkdpjaaDoorAMzo
namespace Go.Proofs.YtdgmihohmkdpjaaDoor.AM
set_option linter.unusedSimpArgs false
set_option linter.unusedVariables false
set_option maxRecDepth 10000
open Go

/-- A run: the machine, how many steps went, the last code. -/
def runM : Nat → Mach → Mach × Int × Int
  | 0, m => (m, 0, 1)
  | n + 1, m => if (stepM m).2 = 1 then ((runM n (stepM m).1).1, (runM n (stepM m).1).2.1 + 1, (runM n (stepM m).1).2.2) else ((stepM m).1, 0, (stepM m).2)
def runR (m : Mach) (n : Int) : Mach × Int × Int := if validMach m = true ∧ 0 ≤ n ∧ n ≤ 1000000 then runM n.toNat m else (zeroM, 0, 0)
theorem Glob.only {H H' : AH} {bs} (h : Glob H) (k : Only bs H H') (hb : ∀ b ∈ bs, 2 ≤ b) : Glob H' := by
  obtain ⟨h0, ⟨ns, q, h1⟩, q', h2⟩ := h
  exact ⟨Nat.le_trans h0 k.1, ⟨ns, q, k.bk (by omega) (fun hm => by have := hb 0 hm; omega) h1⟩, q', k.bk (by omega) (fun hm => by have := hb 1 hm; omega) h2⟩
theorem Only.more {A P rb mb : Nat} {G G1 : AH} (h : Only [P, rb, mb] G G1) : Only [P, rb, mb, A] G G1 := ⟨h.1, fun x hx hr => h.2 x hx (by simp at hr ⊢; omega)⟩
theorem run_go {n : Nat} : ∀ {m : Mach}, (runM n m).2.2 = 1 → (runM n m).2.1 = n := by
  induction n with
  | zero => intro m _; rfl
  | succ n ih =>
    intro m h
    unfold runM at h ⊢
    split
    · rename_i h1; rw [if_pos h1] at h; have := ih h; simp only at this ⊢; omega
    · rename_i h1; rw [if_neg h1] at h; exact absurd h h1
section
variable {H : AH} {K : AV → AH → Prop} {w : Fk K} {m : Mach} {c : List AV}
theorem K_iMachineRun_l {A P rb mb : Nat} {c1 : ACap} {e : AV} {n : Int} {Q : Out → Env → AH → Prop} (hP : 2 ≤ P ∧ 2 ≤ rb ∧ 2 ≤ mb) (hA : A ≠ P ∧ A ≠ rb ∧ A ≠ mb) (hn : n ≤ 1000000) (k i : Nat) (hk : (i : Int) + k = n) {G : AH} {m : Mach}
    (hg : Glob G) (hv : validMach m = true) (h : MAt G P rb mb c1 e m) (hAn : A < G.n) (gA : G.bk A = some ⟨[.nils, .I 0, .nils], true⟩)
    (h1 : ∀ G', (runM k m).2.2 = 1 → MAt G' P rb mb c1 e (runM k m).1 → Only [P, rb, mb] G G' → Q (.brk 0) [(26, .b false), (1, .I n), (4, .ptr A 0), (7, .ptr P 0), (24, .I n), (25, .I n)] G')
    (h2 : ∀ G', (runM k m).2.2 ≠ 1 → MAt G' P rb mb c1 e (runM k m).1 → Only [P, rb, mb, A] G G' → G'.bk A = some ⟨[.sl rb 0 32 c1, .I (runM k m).1.pc, e], true⟩ → Q .ret [(4, .ptr A 0), (5, .I (i + (runM k m).2.1)), (6, .I (runM k m).2.2)] G') :
    W Cd (.loop c_iMachineRun_l0) [(1, .I n), (4, .ptr A 0), (7, .ptr P 0), (24, .I n), (25, .I i)] G Q := by
  induction k generalizing i G m with
  | zero =>
    rw [W_loop_as c_iMachineRun_l0.eq_1]
    have hi : (i : Int) = n := by omega
    simp [hi]
    exact h1 G rfl h Only.refl
  | succ k ih =>
    rw [W_loop_as c_iMachineRun_l0.eq_1]
    have hlt : (i : Int) < n := by omega
    simp [hlt]
    refine K_iMachine_step h hv hg fun G1 hM1 hO1 => ?_
    have gA1 := hO1.bk hAn (by simp; omega) gA
    have A1 := Nat.lt_of_lt_of_le hAn hO1.1
    have hg1 := hg.only hO1 (by simp; omega)
    have hv1 := step_valid hv
    simp
    refine cnd_mk (fun b => ?_) (fun b => ?_)
    · have b : (stepM m).2 ≠ 1 := by simpa using b
      have e1 : runM (k + 1) m = ((stepM m).1, 0, (stepM m).2) := by unfold runM; rw [if_neg b]
      rw [e1] at h2
      have st := store_bk (o := 0) (vs := [.sl rb 0 32 c1, .I (stepM m).1.pc, e]) gA1 (by simp)
      have hM2 := hM1.only (bs := [A]) (H' := G1.put A (some ⟨[.sl rb 0 32 c1, .I (stepM m).1.pc, e], true⟩)) (Only.refl.put (by simp)) (by simp; omega)
      simp [loadN_bk hM1.p, st]
      have := h2 _ b hM2 ((hO1.more (A := A)).put (by simp)) put_same
      simpa using this
    · have b : (stepM m).2 = 1 := by simpa using b
      have e1 : runM (k + 1) m = ((runM k (stepM m).1).1, (runM k (stepM m).1).2.1 + 1, (runM k (stepM m).1).2.2) := by
        show (if (stepM m).2 = 1 then _ else _) = _
        rw [if_pos b]
      rw [e1] at h1 h2
      simp (disch := omega)
      have := ih (i + 1) (by omega) (G := G1) (m := (stepM m).1) hg1 hv1 hM1 A1 gA1 (fun G' q1 q2 q3 => h1 G' q1 q2 (hO1.trans q3)) (fun G' q1 q2 q3 q4 => by
        have := h2 G' q1 q2 ((hO1.more (A := A)).trans q3) q4
        rw [show ((i : Int) + ((runM k (stepM m).1).2.1 + 1)) = ((i + 1 : Nat) : Int) + (runM k (stepM m).1).2.1 by omega] at this
        exact this)
      simpa using this
theorem K_iMachineRun {n : Int} (hg : Glob H) (h : SrcM H c m) (k : ∀ c' rb mb H', OwnM H.n H' c' rb mb (runR m n).1 → Ext H H' → K (.tup [.agg c', .I (runR m n).2.1, .I (runR m n).2.2]) H') : CallF Cd f_iMachineRun [.agg c, .I n] H K w := by
  rw [CallF_eq e_iMachineRun rfl]
  obtain ⟨a, b, d, hc⟩ := h.shape
  have x1 : Ext H ((H.push c).push [.nils, .I 0, .nils]) := of_eq_true ext_pp
  have s1 : seg c 0 3 = some c := by rw [hc]; rfl
  have sM := (h.ext x1).sees
  have g1 : (((H.push c).push [AV.nils, AV.I 0, AV.nils]).push c).bk (H.n + 1) = some ⟨[.nils, .I 0, .nils], true⟩ := push_old (by simp) push_new
  have st0 := store_bk (o := 0) (vs := [.nils, .I 0, .nils]) g1 (by simp)
  have no : ¬ (validMach m = true ∧ 0 ≤ n ∧ n ≤ 1000000) → K (.tup [.agg [.nils, .I 0, .nils], .I 0, .I 0]) ((((H.push c).push [AV.nils, AV.I 0, AV.nils]).push c).put (H.n + 1) (some ⟨[.nils, .I 0, .nils], true⟩)) := fun q => by
    have e1 : runR m n = (zeroM, 0, 0) := by unfold runR; rw [if_neg q]
    rw [e1] at k
    exact k _ _ _ _ (OwnM.zero (b := H.n) (Nat.le_refl _)) ((x1.trans (Ext.push _ _)).put (by omega))
  have st0' : splice [AV.nils, .I 0, .nils] 0 [.nils, .I 0, .nils] = [.nils, .I 0, .nils] := rfl
  rw [st0'] at st0
  have sz : seg [AV.nils, .I 0, .nils] 0 3 = some [.nils, .I 0, .nils] := rfl
  by_cases hq : validMach m = true ∧ 0 ≤ n ∧ n ≤ 1000000
  · obtain ⟨hv, hn0, hn1⟩ := hq
    have e1 : runR m n = runM n.toNat m := by unfold runR; rw [if_pos ⟨hv, hn0, hn1⟩]
    rw [e1] at k
    have x2 := x1.trans (Ext.push _ c)
    have h0 : ¬ n < 0 := by omega
    have h1 : ¬ 1000000 < n := by omega
    simp [-AM.seg, loadN_push, s1, K_iMachineValid sM, hv, h0, h1]
    refine K_imachineCopy (h.ext x2) fun c' rb mb H3 hO x3 => ?_
    have n3 := x3.1
    simp only [push_n] at n3
    obtain ⟨c1, e, mb', rfl, hb1, hb2, hM⟩ := hO.at hv x3.1
    simp only [push_n] at hb1 hb2
    have gA3 := push_old (cs := [.sl rb 0 32 c1, .I m.pc, e]) (by omega) ((x3.2 (H.n + 1) (by simp)).trans g1)
    have x4 := (x2.trans x3).trans (Ext.push _ [.sl rb 0 32 c1, .I m.pc, e])
    have hh := hg.1
    simp [AH.store, push_put]
    have hni : ((0 : Nat) : Int) + n.toNat = n := by omega
    refine K_iMachineRun_l (i := 0) (by omega) (by omega) hn1 n.toNat hni (hg.ext x4) hv hM (by simp only [push_n]; omega) gA3 (fun G' q1 q2 q3 => ?_) (fun G' q1 q2 q3 q4 => ?_)
    · have gA4 := q3.bk (by simp only [push_n]; omega) (by simp; omega) gA3
      have st := store_bk (o := 0) (vs := [.sl rb 0 32 c1, .I (runM n.toNat m).1.pc, e]) gA4 (by simp)
      have hd := run_go q1
      have hd' : (runM n.toNat m).2.1 = n := by omega
      rw [hd', q1] at k
      simp [loadN_bk q2.p, st, loadN_bk put_same]
      have x5 : Ext H G' := q3.new x4 (by simp; omega)
      exact k _ rb mb' _ (((q2.own' (base := H.n) (by omega) (by omega)).only (bs := [H.n + 1]) (Only.refl.put (by simp)) (by simp; omega))) (x5.put (by omega))
    · simp [loadN_bk q4]
      have x5 : Ext H G' := q3.new x4 (by simp; omega)
      exact k _ rb mb' _ (q2.own' (base := H.n) (by omega) (by omega)) x5
  · have no := no hq
    cases hv : validMach m with
    | false =>
      simp [-AM.seg, loadN_push, s1, K_iMachineValid sM, hv, st0, loadN_bk put_same, sz]
      exact no
    | true =>
      by_cases h0 : n < 0
      · simp [-AM.seg, loadN_push, s1, K_iMachineValid sM, hv, h0, st0, loadN_bk put_same, sz]
        exact no
      · have h1 : 1000000 < n := by
          rcases Int.lt_or_le 1000000 n with q | q
          · exact q
          · exact absurd ⟨hv, by omega, q⟩ hq
        simp [-AM.seg, loadN_push, s1, K_iMachineValid sM, hv, h0, h1, st0, loadN_bk put_same, sz]
        exact no
theorem K_sMachineRun_l {A P rb mb : Nat} {c1 : ACap} {e : AV} {n : Int} {Q : Out → Env → AH → Prop} (hA : A ≠ P ∧ A ≠ rb ∧ A ≠ mb) (hn : n ≤ 1000000) (k i : Nat) (hk : (i : Int) + k = n) {G : AH} {m : Mach}
    (hv : validMach m = true) (h : MAt G P rb mb c1 e m) (hAn : A < G.n) (gA : G.bk A = some ⟨[.nils, .I 0, .nils], true⟩)
    (h1 : ∀ ev G', (runM k m).2.2 = 1 → MAt G' P rb mb c1 e (runM k m).1 → Only [P, rb, mb] G G' → Q (.brk 0) ([(1, .I n), (4, .ptr A 0), (7, .ptr P 0)] ++ ev) G')
    (h2 : ∀ G', (runM k m).2.2 ≠ 1 → MAt G' P rb mb c1 e (runM k m).1 → Only [P, rb, mb, A] G G' → G'.bk A = some ⟨[.sl rb 0 32 c1, .I (runM k m).1.pc, e], true⟩ → Q .ret [(4, .ptr A 0), (5, .I (i + (runM k m).2.1)), (6, .I (runM k m).2.2)] G') :
    W Cd (.loop c_sMachineRun_l0) [(1, .I n), (4, .ptr A 0), (7, .ptr P 0), (8, .I i)] G Q := by
  induction k generalizing i G m with
  | zero =>
    rw [W_loop_as c_sMachineRun_l0.eq_1]
    have hi : (i : Int) = n := by omega
    simp [hi]
    exact h1 [(8, .I n), (23, .b false)] G rfl h Only.refl
  | succ k ih =>
    rw [W_loop_as c_sMachineRun_l0.eq_1]
    have hlt : (i : Int) < n := by omega
    simp [hlt]
    refine K_sl44Step h hv fun G1 hM1 hO1 => ?_
    have gA1 := hO1.bk hAn (by simp; omega) gA
    have A1 := Nat.lt_of_lt_of_le hAn hO1.1
    have hv1 := step_valid hv
    simp
    refine cnd_mk (fun b => ?_) (fun b => ?_)
    · have b : (stepM m).2 ≠ 1 := by simpa using b
      have e1 : runM (k + 1) m = ((stepM m).1, 0, (stepM m).2) := by unfold runM; rw [if_neg b]
      rw [e1] at h2
      have st := store_bk (o := 0) (vs := [.sl rb 0 32 c1, .I (stepM m).1.pc, e]) gA1 (by simp)
      have hM2 := hM1.only (bs := [A]) (H' := G1.put A (some ⟨[.sl rb 0 32 c1, .I (stepM m).1.pc, e], true⟩)) (Only.refl.put (by simp)) (by simp; omega)
      simp [loadN_bk hM1.p, st]
      have := h2 _ b hM2 ((hO1.more (A := A)).put (by simp)) put_same
      simpa using this
    · have b : (stepM m).2 = 1 := by simpa using b
      have e1 : runM (k + 1) m = ((runM k (stepM m).1).1, (runM k (stepM m).1).2.1 + 1, (runM k (stepM m).1).2.2) := by
        show (if (stepM m).2 = 1 then _ else _) = _
        rw [if_pos b]
      rw [e1] at h1 h2
      simp (disch := omega)
      have := ih (i + 1) (by omega) (G := G1) (m := (stepM m).1) hv1 hM1 A1 gA1 (fun ev G' q1 q2 q3 => h1 ev G' q1 q2 (hO1.trans q3)) (fun G' q1 q2 q3 q4 => by
        have := h2 G' q1 q2 ((hO1.more (A := A)).trans q3) q4
        rw [show ((i : Int) + ((runM k (stepM m).1).2.1 + 1)) = ((i + 1 : Nat) : Int) + (runM k (stepM m).1).2.1 by omega] at this
        exact this)
      simpa using this
theorem K_sMachineRun {n : Int} (h : SrcM H c m) (k : ∀ c' rb mb H', OwnM H.n H' c' rb mb (runR m n).1 → Ext H H' → K (.tup [.agg c', .I (runR m n).2.1, .I (runR m n).2.2]) H') : CallF Cd f_sMachineRun [.agg c, .I n] H K w := by
  rw [CallF_eq e_sMachineRun rfl]
  obtain ⟨a, b, d, hc⟩ := h.shape
  have x1 : Ext H ((H.push c).push [.nils, .I 0, .nils]) := of_eq_true ext_pp
  have s1 : seg c 0 3 = some c := by rw [hc]; rfl
  have sM := (h.ext x1).sees
  have g1 : (((H.push c).push [AV.nils, AV.I 0, AV.nils]).push c).bk (H.n + 1) = some ⟨[.nils, .I 0, .nils], true⟩ := push_old (by simp) push_new
  have st0 := store_bk (o := 0) (vs := [.nils, .I 0, .nils]) g1 (by simp)
  have no : ¬ (validMach m = true ∧ 0 ≤ n ∧ n ≤ 1000000) → K (.tup [.agg [.nils, .I 0, .nils], .I 0, .I 0]) ((((H.push c).push [AV.nils, AV.I 0, AV.nils]).push c).put (H.n + 1) (some ⟨[.nils, .I 0, .nils], true⟩)) := fun q => by
    have e1 : runR m n = (zeroM, 0, 0) := by unfold runR; rw [if_neg q]
    rw [e1] at k
    exact k _ _ _ _ (OwnM.zero (b := H.n) (Nat.le_refl _)) ((x1.trans (Ext.push _ _)).put (by omega))
  have st0' : splice [AV.nils, .I 0, .nils] 0 [.nils, .I 0, .nils] = [.nils, .I 0, .nils] := rfl
  rw [st0'] at st0
  have sz : seg [AV.nils, .I 0, .nils] 0 3 = some [.nils, .I 0, .nils] := rfl
  by_cases hq : validMach m = true ∧ 0 ≤ n ∧ n ≤ 1000000
  · obtain ⟨hv, hn0, hn1⟩ := hq
    have e1 : runR m n = runM n.toNat m := by unfold runR; rw [if_pos ⟨hv, hn0, hn1⟩]
    rw [e1] at k
    have x2 := x1.trans (Ext.push _ c)
    simp [-AM.seg, loadN_push, s1, K_sMachineValid sM, hv, K_sl6In, hn0, hn1]
    refine K_sl44Copy (h.ext x2) fun c' rb mb H3 hO x3 => ?_
    have n3 := x3.1
    simp only [push_n] at n3
    obtain ⟨c1, e, mb', rfl, hb1, hb2, hM⟩ := hO.at hv x3.1
    simp only [push_n] at hb1 hb2
    have gA3 := push_old (cs := [.sl rb 0 32 c1, .I m.pc, e]) (by omega) ((x3.2 (H.n + 1) (by simp)).trans g1)
    have x4 := (x2.trans x3).trans (Ext.push _ [.sl rb 0 32 c1, .I m.pc, e])
    simp [AH.store, push_put]
    have hni : ((0 : Nat) : Int) + n.toNat = n := by omega
    refine K_sMachineRun_l (i := 0) (by omega) hn1 n.toNat hni hv hM (by simp only [push_n]; omega) gA3 (fun ev G' q1 q2 q3 => ?_) (fun G' q1 q2 q3 q4 => ?_)
    · have gA4 := q3.bk (by simp only [push_n]; omega) (by simp; omega) gA3
      have st := store_bk (o := 0) (vs := [.sl rb 0 32 c1, .I (runM n.toNat m).1.pc, e]) gA4 (by simp)
      have hd := run_go q1
      have hd' : (runM n.toNat m).2.1 = n := by omega
      rw [hd', q1] at k
      simp [loadN_bk q2.p, st, loadN_bk put_same]
      have x5 : Ext H G' := q3.new x4 (by simp; omega)
      exact k _ rb mb' _ (((q2.own' (base := H.n) (by omega) (by omega)).only (bs := [H.n + 1]) (Only.refl.put (by simp)) (by simp; omega))) (x5.put (by omega))
    · simp [loadN_bk q4]
      have x5 : Ext H G' := q3.new x4 (by simp; omega)
      exact k _ rb mb' _ (q2.own' (base := H.n) (by omega) (by omega)) x5
  · have no := no hq
    cases hv : validMach m with
    | false =>
      simp [-AM.seg, loadN_push, s1, K_sMachineValid sM, hv, st0, loadN_bk put_same, sz]
      exact no
    | true =>
      have hf : ¬ (0 ≤ n ∧ n ≤ 1000000) := fun q => hq ⟨hv, q⟩
      have hf' : decide (0 ≤ n ∧ n ≤ 1000000) = false := by simp only [decide_eq_false_iff_not]; exact hf
      simp [-AM.seg, loadN_push, s1, K_sMachineValid sM, hv, K_sl6In, -Bool.decide_and, hf', st0, loadN_bk put_same, sz]
      exact no
end
end Go.Proofs.YtdgmihohmkdpjaaDoor.AM
