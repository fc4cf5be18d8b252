/-
  Draws of instructions and machines. No condition.
-/
import Derived.Test.YtdgmihohmkdpjaaDoorAMx
namespace Go.Proofs.YtdgmihohmkdpjaaDoor.AM
set_option linter.unusedSimpArgs false
set_option linter.unusedVariables false
open Go

section
variable {H : AH} {K : AV → AH → Prop} {n p : Int} {r : Nat} {w : Fk K}
theorem K_sl94X {m : Int} (h : Rdx H r m) (hm : m ≤ 1099511627776)
    (k : ∀ x H', 0 ≤ x ∧ x < 32 → Rdx H' r (m + 1) → St r H H' → K (.I x) H') : CallF Cd f_sl94X [.ptr r 0] H K w := by
  rw [CallF_eq e_sl94X rfl]
  simp
  refine P_pick h hm (by omega) fun x H1 hx hR hS => ?_
  simp
  exact k _ _ hx hR hS
theorem K_sl94Imm {m : Int} (h : Rdx H r m) (hm : m ≤ 1099511627000)
    (k : ∀ x H', -2048 ≤ x ∧ x ≤ 2047 → Rdx H' r (m + 2) → St r H H' → K (.I x) H') : CallF Cd f_sl94Imm [.ptr r 0] H K w := by
  rw [CallF_eq e_sl94Imm rfl]
  simp
  refine P_pick h (by omega) (by omega) fun x0 H0 hx0 hR0 hS0 => ?_
  simp
  refine cnd_mk (fun _ => ?_) (fun _ => ?_)
  · simp
    refine P_pick hR0.push (by omega) (by omega) fun x1 H1 hx1 hR1 hS1 => ?_
    obtain ⟨y, hy, e⟩ := @Ints_get [-2048, 2047, -1, 0, 1] x1 5 (by omega) rfl
    have eb : H1.bk H0.n = some ⟨Ints [-2048, 2047, -1, 0, 1], true⟩ := hS1.at (Nat.lt_succ_self _) (Nat.ne_of_gt hR0.lt) (by simp; rfl)
    simp (disch := omega) [load_eq, eb, e]
    refine k _ _ ?_ (hR1.up (by omega)) (hS0.trans ((St.push St.refl).trans hS1))
    simp at hy; omega
  simp
  refine P_pick hR0 (by omega) (by omega) fun x1 H1 hx1 hR1 hS1 => ?_
  simp (disch := omega)
  exact k _ _ (by omega) (hR1.up (by omega)) (hS0.trans hS1)
/-- A write into a block that is newer than the reader leaves the reader. -/
theorem Rdx.put {m : Int} {b : Nat} {o : Option Blk} (h : Rdx H r m) (hb : r < b) : Rdx (H.put b o) r m := by
  obtain ⟨p, h1, h2, h3, s, l, h4, h5⟩ := h
  refine ⟨p, h1, h2, h3, s, l, ?_, h5.1, h5.2.1, fun i x hx => ?_⟩
  · simp only [put_bk]; rw [if_neg (by omega)]; exact h4
  · obtain ⟨q1, b', o', q2, q3, q4, q5⟩ := h5.2.2 i x hx
    exact ⟨q1, b', o', q2, q3, q4, by simp only [put_bk]; rw [if_neg (by omega)]; exact q5⟩
theorem St.put {a b : AH} {x : Nat} {o : Option Blk} (h : St r a b) (hx : a.n ≤ x) : St r a (b.put x o) :=
  ⟨h.1, fun y hy hr => by simp only [put_bk]; rw [if_neg (by omega)]; exact h.2 y hy hr⟩
def Ins.near (i : Ins) : Prop := (1 ≤ i.op ∧ i.op ≤ 21) ∧ (0 ≤ i.rd ∧ i.rd < 32) ∧ (0 ≤ i.rs ∧ i.rs < 32) ∧ (0 ≤ i.rt ∧ i.rt < 32) ∧ -1048576 ≤ i.imm ∧ i.imm ≤ 1048575
theorem K_sl94Instr {m : Int} (h : Rdx H r m) (hm : m ≤ 1000000000000)
    (k : ∀ (i : Ins) H', i.near → Rdx H' r (m + 10) → St r H H' → K (.agg i.cs) H') : CallF Cd f_sl94Instr [.ptr r 0] H K w := by
  rw [CallF_eq e_sl94Instr rfl]
  simp
  refine P_pick h.push (by omega) (by omega) fun x0 H0 hx0 hR0 hS0 => ?_
  simp (disch := omega)
  refine K_sl94X hR0 (by omega) fun x1 H1 hx1 hR1 hS1 => ?_
  simp
  refine K_sl94X hR1 (by omega) fun x2 H2 hx2 hR2 hS2 => ?_
  simp
  refine K_sl94X hR2 (by omega) fun x3 H3 hx3 hR3 hS3 => ?_
  simp [AH.store, push_put]
  refine P_pick hR3.push (by omega) (by omega) fun x4 H4 hx4 hR4 hS4 => ?_
  have hS : St r H H4 := (St.push St.refl).trans (hS0.trans (hS1.trans (hS2.trans (hS3.trans ((St.push St.refl).trans hS4)))))
  have hrn := h.lt
  have n0 : H.n < H0.n := Nat.lt_of_lt_of_le (Nat.lt_succ_self _) hS0.1
  have n3 : H0.n ≤ H3.n := Nat.le_trans hS1.1 (Nat.le_trans hS2.1 hS3.1)
  have n4 : H3.n < H4.n := Nat.lt_of_lt_of_le (Nat.lt_succ_self _) hS4.1
  have cA : H4.bk H.n = some ⟨[.I 0, .I 0, .I 0, .I 0, .I 0], true⟩ := by
    have q0 : H0.bk H.n = some ⟨[.I 0, .I 0, .I 0, .I 0, .I 0], true⟩ := hS0.at (Nat.lt_succ_self _) (by omega) (by simp)
    have q3 : H3.bk H.n = some ⟨[.I 0, .I 0, .I 0, .I 0, .I 0], true⟩ := (hS1.trans (hS2.trans hS3)).at n0 (by omega) q0
    exact ((St.push St.refl).trans hS4).at (by omega) (by omega) q3
  have cB : H4.bk H3.n = some ⟨Ins.cs ⟨1 + x0, x1, x2, x3, 0⟩, true⟩ := hS4.at (Nat.lt_succ_self _) (by omega) (by simp; rfl)
  simp only [Ins.cs] at cB
  have nAB : ¬ H3.n = H.n := by omega
  have fin : ∀ (i : Ins) G, i.near → Rdx G r (m + 10) → St r H4 G → K (.agg i.cs) (G.put H.n (some ⟨i.cs, true⟩)) := fun i G hi hR hG =>
    k i _ hi (hR.put hrn) ((hS.trans hG).put (Nat.le_refl _))
  simp
  refine cnd_mk (fun b1 => ?_) (fun b1 => ?_)
  · simp [AH.store, AH.loadN, cA, cB]
    exact fin ⟨1 + x0, x1, x2, x3, 0⟩ H4 ⟨by simp; omega, hx1, hx2, hx3, by simp⟩ (hR4.up (by omega)) St.refl
  simp
  refine cnd_mk (fun b2 => ?_) (fun b2 => ?_)
  · simp [AH.load, cB]
    refine K_sl94Imm hR4 (by omega) fun x5 H5 hx5 hR5 hS5 => ?_
    have cA5 := hS5.at (by omega) (by omega) cA
    have cB5 := hS5.at (by omega) (by omega) cB
    have g : H5.bk H3.n = H4.bk H3.n := hS5.2 _ (by omega) (by omega)
    simp [AH.store, AH.loadN, cA5, cB5, cB, g]
    exact fin ⟨1 + x0, x1, x2, 0, x5⟩ H5 ⟨by simp; omega, hx1, hx2, by simp, by simp; omega⟩ (hR5.up (by omega)) hS5
  simp
  refine cnd_mk (fun b3 => ?_) (fun b3 => ?_)
  · simp [AH.load, cB]
    refine K_sl94Imm hR4 (by omega) fun x5 H5 hx5 hR5 hS5 => ?_
    have cA5 := hS5.at (by omega) (by omega) cA
    have cB5 := hS5.at (by omega) (by omega) cB
    have g : H5.bk H3.n = H4.bk H3.n := hS5.2 _ (by omega) (by omega)
    simp [AH.store, AH.loadN, cA5, cB5, cB, g]
    exact fin ⟨1 + x0, 0, x2, x3, x5⟩ H5 ⟨by simp; omega, by simp, hx2, hx3, by simp; omega⟩ (hR5.up (by omega)) hS5
  simp
  refine cnd_mk (fun b4 => ?_) (fun b4 => ?_)
  · simp [AH.load, cB, b4]
    refine K_sl94Imm hR4 (by omega) fun x5 H5 hx5 hR5 hS5 => ?_
    have cA5 := hS5.at (by omega) (by omega) cA
    have cB5 := hS5.at (by omega) (by omega) cB
    have g : H5.bk H3.n = H4.bk H3.n := hS5.2 _ (by omega) (by omega)
    simp (disch := omega) [AH.store, AH.loadN, cA5, cB5, cB, g]
    exact fin ⟨17, 0, x2, x3, 2 * x5⟩ H5 ⟨by simp, by simp, hx2, hx3, by simp; omega⟩ (hR5.up (by omega)) hS5
  simp [b4]
  refine cnd_mk (fun b5 => ?_) (fun b5 => ?_)
  · simp [AH.load, cB, b5]
    refine K_sl94Imm hR4 (by omega) fun x5 H5 hx5 hR5 hS5 => ?_
    have cA5 := hS5.at (by omega) (by omega) cA
    have cB5 := hS5.at (by omega) (by omega) cB
    have g : H5.bk H3.n = H4.bk H3.n := hS5.2 _ (by omega) (by omega)
    simp (disch := omega) [AH.store, AH.loadN, cA5, cB5, cB, g]
    exact fin ⟨18, 0, x2, x3, 2 * x5⟩ H5 ⟨by simp, by simp, hx2, hx3, by simp; omega⟩ (hR5.up (by omega)) hS5
  simp
  by_cases b6 : 1 + x0 = 19
  · simp [b6]
    refine cnd_mk (fun b7 => ?_) (fun b7 => ?_)
    · simp [AH.load, cB]
      refine P_pick hR4 (by omega) (by omega) fun x5 H5 hx5 hR5 hS5 => ?_
      have g5 : H5.bk H3.n = H4.bk H3.n := hS5.2 _ (by omega) (by omega)
      have m5 := hS5.1
      simp (disch := omega) [g5, cB]
      refine P_pick hR5 (by omega) (by omega) fun x6 H6 hx6 hR6 hS6 => ?_
      have g6 : H6.bk H3.n = H5.bk H3.n := hS6.2 _ (by omega) (by omega)
      have m6 := hS6.1
      simp (disch := omega) [g5, g6, cB]
      refine P_pick hR6 (by omega) (by omega) fun x7 H7 hx7 hR7 hS7 => ?_
      have g7 : H7.bk H3.n = H6.bk H3.n := hS7.2 _ (by omega) (by omega)
      have hS47 := hS5.trans (hS6.trans hS7)
      have cA7 := hS47.at (by omega) (by omega) cA
      simp (disch := omega) [AH.store, AH.loadN, cA7, g5, g6, g7, cB]
      exact fin ⟨19, x1, 0, 0, x5 * 4096 + x6 * 16 + x7⟩ H7 ⟨by simp, hx1, by simp, by simp, by simp; omega⟩ (hR7.up (by omega)) hS47
    · simp [AH.load, cB]
      refine P_pick hR4 (by omega) (by omega) fun x5 H5 hx5 hR5 hS5 => ?_
      have cA5 := hS5.at (by omega) (by omega) cA
      have g5 : H5.bk H3.n = H4.bk H3.n := hS5.2 _ (by omega) (by omega)
      simp (disch := omega) [AH.store, AH.loadN, cA5, g5, cB]
      exact fin ⟨19, x1, 0, 0, x5⟩ H5 ⟨by simp, hx1, by simp, by simp, by simp; omega⟩ (hR5.up (by omega)) hS5
  by_cases b8 : 1 + x0 = 20
  · simp [b8]
    refine cnd_mk (fun b7 => ?_) (fun b7 => ?_)
    · simp [AH.load, cB]
      refine P_pick hR4 (by omega) (by omega) fun x5 H5 hx5 hR5 hS5 => ?_
      have g5 : H5.bk H3.n = H4.bk H3.n := hS5.2 _ (by omega) (by omega)
      have m5 := hS5.1
      simp (disch := omega) [g5, cB]
      refine P_pick hR5 (by omega) (by omega) fun x6 H6 hx6 hR6 hS6 => ?_
      have g6 : H6.bk H3.n = H5.bk H3.n := hS6.2 _ (by omega) (by omega)
      have m6 := hS6.1
      simp (disch := omega) [g5, g6, cB]
      refine P_pick hR6 (by omega) (by omega) fun x7 H7 hx7 hR7 hS7 => ?_
      have g7 : H7.bk H3.n = H6.bk H3.n := hS7.2 _ (by omega) (by omega)
      have hS47 := hS5.trans (hS6.trans hS7)
      have cA7 := hS47.at (by omega) (by omega) cA
      simp (disch := omega) [AH.store, AH.loadN, cA7, g5, g6, g7, cB]
      exact fin ⟨20, x1, 0, 0, (x5 * 4096 + x6 * 16 + x7) * 2 - 1048576⟩ H7 ⟨by simp, hx1, by simp, by simp, by simp; omega⟩ (hR7.up (by omega)) hS47
    · simp [AH.load, cB]
      refine K_sl94Imm hR4 (by omega) fun x5 H5 hx5 hR5 hS5 => ?_
      have cA5 := hS5.at (by omega) (by omega) cA
      have g5 : H5.bk H3.n = H4.bk H3.n := hS5.2 _ (by omega) (by omega)
      simp (disch := omega) [AH.store, AH.loadN, cA5, g5, cB]
      exact fin ⟨20, x1, 0, 0, 2 * x5⟩ H5 ⟨by simp, hx1, by simp, by simp, by simp; omega⟩ (hR5.up (by omega)) hS5
  simp [b6, b8, AH.store, AH.loadN, cA]
  exact fin ⟨1 + x0, 0, 0, 0, 0⟩ H4 ⟨by simp; omega, by simp, by simp, by simp, by simp⟩ (hR4.up (by omega)) St.refl
end
end Go.Proofs.YtdgmihohmkdpjaaDoor.AM
