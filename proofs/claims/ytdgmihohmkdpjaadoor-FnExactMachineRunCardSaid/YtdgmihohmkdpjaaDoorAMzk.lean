/-
  A step of the spec's machine. No condition.
-/
import Derived.Test.YtdgmihohmkdpjaaDoorAMzj
namespace Go.Proofs.YtdgmihohmkdpjaaDoor.AM
set_option linter.unusedSimpArgs false
set_option linter.unusedVariables false
set_option maxRecDepth 10000
open Go

section
variable {H : AH} {K : AV → AH → Prop} {w : Fk K} {P rb mb : Nat} {c1 : ACap} {e : AV} {m : Mach} {i : Ins}
theorem K_sl44Alu {op a b : Int} (h : 1 ≤ op ∧ op ≤ 11) (ha : -2147483648 ≤ a ∧ a ≤ 2147483647) (hb : -2147483648 ≤ b ∧ b ≤ 2147483647) (k : ∀ H', Ext H H' → K (.I (applyM (mops.getD (op.toNat - 1) 0) a b)) H') : CallF Cd f_sl44Alu [.I op, .I a, .I b] H K w := by
  rw [CallF_eq e_sl44Alu rfl]
  have hl : op.toNat - 1 < mops.length := by simp [mops]; omega
  have gop : (Ints mops)[op.toNat - 1]? = some (.I (mops.getD (op.toNat - 1) 0)) := by
    simp [Ints, hl]
  have hr : 1 ≤ mops.getD (op.toNat - 1) 0 ∧ mops.getD (op.toNat - 1) 0 ≤ 12 := by
    have : ∀ x ∈ mops, 1 ≤ x ∧ x ≤ 12 := by decide
    have := this _ (List.getElem_mem hl)
    rw [List.getD_eq_getElem?_getD, List.getElem?_eq_getElem hl]; exact this
  generalize mops.getD (op.toNat - 1) 0 = x at *
  have gop' := gop
  simp only [Ints, mops, List.map_cons, List.map_nil] at gop'
  simp (disch := omega) [load_push, gop', K_sApply hr ha hb]
  exact k _ (Ext.push _ _)
theorem sl44_pc {m : Mach} (h : wordOk m m.pc = true) (hl : m.mem.length ≤ 10000) : m.pc + 4 = wrapM (m.pc + 4) ∧ 0 ≤ m.pc ∧ m.pc ≤ 40000 := by
  simp only [wordOk, decide_eq_true_eq] at h
  unfold wrapM; omega
theorem K_sl44Load (h : MAt H P rb mb c1 e m) (hv : validMach m = true) (hi : i.near) (hk : wordOk m m.pc = true) (ho : i.op = 14 ∨ i.op = 16)
    (k : ∀ H', MAt H' P rb mb c1 e (doM m i).1 → Only [P, rb, mb] H H' → K (.b (decide ((doM m i).2 = 1))) H') : CallF Cd f_sl44Load [.ptr P 0, .agg i.cs] H K w := by
  rw [CallF_eq e_sl44Load rfl]
  obtain ⟨n1, n2, n3, n4, n5⟩ := id hi
  have hpc := sl44_pc hk h.ml
  have h2 := h.ext (Ext.push H i.cs)
  have gB : (H.push i.cs).bk H.n = some ⟨i.cs, true⟩ := push_new
  have B0 : H.n < (H.push i.cs).n := Nat.lt_succ_self _
  have x1 : Ext H (H.push i.cs) := Ext.push _ _
  have P1 := h.pn
  have R1 := h.rn
  obtain ⟨⟨c2, rfl⟩, gm, nm, _⟩ := h.em (ok_ne hk)
  have gmm := (h2.em (ok_ne hk)).2.1
  have hB : H.n ∉ [rb] := by simp; omega
  have hB2 : H.n ∉ [mb] := by simp; omega
  simp (disch := omega)
  generalize H.push i.cs = G at *
  have hrs := regs_get h2.rl n3
  have hrt := regs_get h2.rl n4
  have wrs := valid_reg hv n3
  have wrt := valid_reg hv n4
  have b1 : ¬ i.op = 21 := by omega
  have fin : ∀ (G' : AH) (r' : List Int) (m' : List Int) (nx : Int), MAt G' P rb mb c1 (.sl mb 0 m.mem.length c2) ⟨r', m.pc, m'⟩ → Only [P, rb, mb] G G' → (⟨r', nx, m'⟩, (1 : Int)) = doM m i → K (.b true) (G'.put P (some ⟨[.sl rb 0 32 c1, .I nx, .sl mb 0 m.mem.length c2], true⟩)) := by
    intro G' r' m' nx q1 q2 q3
    rw [← q3] at k
    exact k _ (q1.setPc nx) ((x1.only.trans q2).put (.inr (by simp)))
  have o3 : ∀ {G' : AH}, Only [rb] G G' → Only [P, rb, mb] G G' := fun q => ⟨q.1, fun b hb hr => q.2 b hb (by simp at hr ⊢; exact hr.2.1)⟩
  have hwp := @wrapM_lt (regM m i.rs + i.imm)
  simp (disch := omega) [load_bk h2.p, load_bk gB, load_bk h2.r, hrs, K_sWrap]
  simp (disch := omega) [K_sl44Word h2 hwp]
  cases hk2 : wordOk m (wrapM (regM m i.rs + i.imm)) with
  | false =>
    have hd : doM m i = (m, 3) := by unfold doM; rw [if_neg b1, if_pos ⟨ho, hk2⟩]
    rw [hd] at k
    simp
    exact k _ h2 x1.only
  | true =>
    have hp0 : 0 ≤ wrapM (regM m i.rs + i.imm) ∧ (wrapM (regM m i.rs + i.imm) / 4) < m.mem.length := by simp only [wordOk, decide_eq_true_eq] at hk2; omega
    have t2 : (wrapM (regM m i.rs + i.imm)).tdiv 4 = wrapM (regM m i.rs + i.imm) / 4 := Int.tdiv_eq_ediv_of_nonneg (by omega)
    have hml := h.ml
    by_cases b4 : i.op = 14
    · simp (disch := omega) [load_bk gB, b4, load_bk h2.p, t2, load_bk gmm, mem_get hk2]
      refine K_sl44Set h2 n2 fun G2 hM2 hO2 hN2 => ?_
      simp (disch := omega) [load_bk hM2.p, store_bk (o := 1) (vs := [.I (m.pc + 4)]) hM2.p (by simp)]
      exact fin _ _ _ _ hM2 (o3 hO2) (by simp [doM, b4, valM, pcM, hk2, hpc.1.symm])
    · have b5 : i.op = 16 := by omega
      have hj : (wrapM (regM m i.rs + i.imm) / 4).toNat < m.mem.length := by omega
      have st := store_bk (o := (wrapM (regM m i.rs + i.imm) / 4).toNat) (vs := [.I (regM m i.rt)]) gmm (by rw [Ints_len]; simp; omega)
      rw [Ints_set hj] at st
      have hM2 := h2.setMem (ok_ne hk) (wrapM (regM m i.rs + i.imm) / 4).toNat (regM m i.rt)
      simp (disch := omega) [load_bk gB, b5, t2, load_bk h2.p, load_bk h2.r, hrt, st]
      simp (disch := omega) [load_bk hM2.p, store_bk (o := 1) (vs := [.I (m.pc + 4)]) hM2.p (by simp)]
      exact fin _ _ _ _ hM2 (Only.refl.put (.inr (by simp))) (by simp [doM, b5, valM, pcM, hk2, hpc.1.symm])
theorem K_sl44Jump (h : MAt H P rb mb c1 e m) (hv : validMach m = true) (hi : i.near) (ho : i.op = 15 ∨ i.op = 17 ∨ i.op = 18 ∨ i.op = 20)
    (k : ∀ H', MAt H' P rb mb c1 e (doM m i).1 → Only [P, rb, mb] H H' → K (.tup []) H') : CallF Cd f_sl44Jump [.ptr P 0, .agg i.cs] H K w := by
  rw [CallF_eq e_sl44Jump rfl]
  obtain ⟨n1, n2, n3, n4, n5⟩ := id hi
  have hpc := valid_pc hv
  have h2 := h.ext (Ext.push H i.cs)
  have gB : (H.push i.cs).bk H.n = some ⟨i.cs, true⟩ := push_new
  have B0 : H.n < (H.push i.cs).n := Nat.lt_succ_self _
  have x1 : Ext H (H.push i.cs) := Ext.push _ _
  have P1 := h.pn
  have R1 := h.rn
  have hB : H.n ∉ [rb] := by simp; omega
  simp (disch := omega)
  generalize H.push i.cs = G at *
  have hrs := regs_get h2.rl n3
  have hrt := regs_get h2.rl n4
  have wrs := valid_reg hv n3
  have wrt := valid_reg hv n4
  have b1 : ¬ i.op = 21 := by omega
  have fin : ∀ (G' : AH) (r' : List Int) (nx : Int), MAt G' P rb mb c1 e ⟨r', m.pc, m.mem⟩ → Only [P, rb, mb] G G' → (⟨r', nx, m.mem⟩, (1 : Int)) = doM m i → K (.tup []) (G'.put P (some ⟨[.sl rb 0 32 c1, .I nx, e], true⟩)) := by
    intro G' r' nx q1 q2 q3
    rw [← q3] at k
    exact k _ (q1.setPc nx) ((x1.only.trans q2).put (.inr (by simp)))
  have o3 : ∀ {G' : AH}, Only [rb] G G' → Only [P, rb, mb] G G' := fun q => ⟨q.1, fun b hb hr => q.2 b hb (by simp at hr ⊢; exact hr.2.1)⟩
  simp (disch := omega) [load_bk h2.p, load_bk gB, load_bk h2.r, hrs, hrt, K_sWrap]
  refine cnd_mk (fun b6 => ?_) (fun b6 => ?_)
  · have wl := @wrapM_lt (regM m i.rs + i.imm)
    simp (disch := omega) [load_bk gB, load_bk h2.p, load_bk h2.r, hrs, K_sWrap]
    refine K_sl44Set h2 n2 fun G2 hM2 hO2 hN2 => ?_
    simp (disch := omega) [ibits_andV, and_1 wl]
    simp (disch := omega) [store_bk (o := 1) (vs := [.I (wrapM (regM m i.rs + i.imm) - wrapM (regM m i.rs + i.imm) % 2)]) hM2.p (by simp)]
    exact fin _ _ _ hM2 (o3 hO2) (by simp [doM, b6, valM, pcM])
  simp [load_bk gB]
  refine cnd_mk (fun b7 => ?_) (fun b7 => ?_)
  · simp (disch := omega) [load_bk gB]
    refine K_sl44Set h2 n2 fun G2 hM2 hO2 hN2 => ?_
    have gB2 := hO2.bk B0 hB gB
    simp (disch := omega) [load_bk hM2.p, load_bk gB2, K_sWrap]
    simp [store_bk (o := 1) (vs := [.I (wrapM (m.pc + i.imm))]) hM2.p (by simp)]
    exact fin _ _ _ hM2 (o3 hO2) (by simp [doM, b7, valM, pcM])
  simp [load_bk gB]
  have bb : i.op = 17 ∨ i.op = 18 := by omega
  refine cnd_mk (fun c => ?_) (fun c => ?_)
  · simp (disch := omega) [load_bk h2.p, load_bk gB, K_sWrap]
    simp [store_bk (o := 1) (vs := [.I (wrapM (m.pc + i.imm))]) h2.p (by simp)]
    exact fin _ _ _ h2 Only.refl (by rcases bb with bb | bb <;> simp [bb] at c <;> simp [doM, bb, valM, pcM, c])
  · simp
    simp [store_bk (o := 1) (vs := [.I (wrapM (m.pc + 4))]) h2.p (by simp)]
    exact fin _ _ _ h2 Only.refl (by rcases bb with bb | bb <;> simp [bb] at c <;> simp [doM, bb, valM, pcM, c])
theorem K_sl44Do (h : MAt H P rb mb c1 e m) (hv : validMach m = true) (hi : i.near) (hk : wordOk m m.pc = true) (ho : i.op ≠ 21)
    (k : ∀ H', MAt H' P rb mb c1 e (doM m i).1 → Only [P, rb, mb] H H' → K (.b (decide ((doM m i).2 = 1))) H') : CallF Cd f_sl44Do [.ptr P 0, .agg i.cs] H K w := by
  rw [CallF_eq e_sl44Do rfl]
  obtain ⟨n1, n2, n3, n4, n5⟩ := id hi
  have hpc := sl44_pc hk h.ml
  have h2 := h.ext (Ext.push H i.cs)
  have gB : (H.push i.cs).bk H.n = some ⟨i.cs, true⟩ := push_new
  have x1 : Ext H (H.push i.cs) := Ext.push _ _
  simp (disch := omega)
  generalize H.push i.cs = G at *
  have hrs := regs_get h2.rl n3
  have hrt := regs_get h2.rl n4
  have wrs := valid_reg hv n3
  have wrt := valid_reg hv n4
  have eN : G.loadN H.n 0 5 = some i.cs := by rw [loadN_bk gB]; rfl
  have k' : ∀ G', MAt G' P rb mb c1 e (doM m i).1 → Only [P, rb, mb] G G' → K (.b (decide ((doM m i).2 = 1))) G' := fun G' q1 q2 => k G' q1 (x1.only.trans q2)
  have fin : ∀ (G' : AH) (r' : List Int) (nx : Int), MAt G' P rb mb c1 e ⟨r', m.pc, m.mem⟩ → Only [rb] G G' → (⟨r', nx, m.mem⟩, (1 : Int)) = doM m i → K (.b true) (G'.put P (some ⟨[.sl rb 0 32 c1, .I nx, e], true⟩)) := by
    intro G' r' nx q1 q2 q3
    rw [← q3] at k'
    have o3 : Only [P, rb, mb] G G' := ⟨q2.1, fun b hb hr => q2.2 b hb (by simp at hr ⊢; exact hr.2.1)⟩
    exact k' _ (q1.setPc nx) (o3.put (.inr (by simp)))
  simp (disch := omega) [load_bk h2.p, load_bk gB, load_bk h2.r, hrs]
  by_cases b4 : i.op = 14
  · simp [b4, eN]
    refine K_sl44Load h2 hv hi hk (.inl b4) fun G2 hM2 hO2 => ?_
    simp
    exact k' _ hM2 hO2
  by_cases b5 : i.op = 16
  · simp [b5, eN]
    refine K_sl44Load h2 hv hi hk (.inr b5) fun G2 hM2 hO2 => ?_
    simp
    exact k' _ hM2 hO2
  have d1 : (i.op = 15 ∨ i.op = 17 ∨ i.op = 18 ∨ i.op = 20) → (doM m i).2 = 1 := fun q => by unfold doM; rw [if_neg ho, if_neg (by omega)]
  simp [b4, b5]
  by_cases bj : i.op = 15 ∨ i.op = 17 ∨ i.op = 18 ∨ i.op = 20
  · have jj : ∀ (K' : AV → AH → Prop) (w : Fk K'), (∀ G', K (.b true) G' → K' (.tup []) G') → CallF Cd f_sl44Jump [.ptr P 0, .agg i.cs] G K' w := fun K' w hK => by
      refine K_sl44Jump h2 hv hi bj fun G2 hM2 hO2 => ?_
      refine hK _ ?_
      have := k' _ hM2 hO2
      simpa [d1 bj] using this
    rcases bj with b | b | b | b
    all_goals simp [b, eN]
    all_goals (refine jj _ _ fun G' hG' => ?_; simp; exact hG')
  have c1' : ¬ i.op = 15 := by omega
  have c2' : ¬ i.op = 17 := by omega
  have c3' : ¬ i.op = 18 := by omega
  have c4' : ¬ i.op = 20 := by omega
  simp [c1', c2', c3', c4']
  refine cnd_mk (fun b => ?_) (fun b => ?_)
  · simp (disch := omega) [load_bk gB, K_sWrap]
    refine K_sl44Set h2 n2 fun G2 hM2 hO2 hN2 => ?_
    simp (disch := omega) [load_bk hM2.p, store_bk (o := 1) (vs := [.I (m.pc + 4)]) hM2.p (by simp)]
    exact fin _ _ _ hM2 hO2 (by simp [doM, b, valM, pcM, hpc.1.symm])
  simp
  refine cnd_mk (fun b => ?_) (fun b => ?_)
  · simp (disch := omega) [load_bk gB, K_sUnsigned, K_sl2Flag]
    refine K_sl44Set h2 n2 fun G2 hM2 hO2 hN2 => ?_
    simp (disch := omega) [load_bk hM2.p, store_bk (o := 1) (vs := [.I (m.pc + 4)]) hM2.p (by simp)]
    exact fin _ _ _ hM2 hO2 (by simp [doM, b, valM, pcM, hpc.1.symm])
  simp
  refine cnd_mk (fun b => ?_) (fun b => ?_)
  · simp (disch := omega) [load_bk gB, K_sWrap]
    refine K_sl44Set h2 n2 fun G2 hM2 hO2 hN2 => ?_
    simp (disch := omega) [load_bk hM2.p, store_bk (o := 1) (vs := [.I (m.pc + 4)]) hM2.p (by simp)]
    exact fin _ _ _ hM2 hO2 (by simp [doM, b, valM, pcM, hpc.1.symm])
  have hop : 1 ≤ i.op ∧ i.op ≤ 11 := by omega
  simp (disch := omega) [load_bk gB, load_bk h2.p, load_bk h2.r, hrt]
  refine K_sl44Alu hop wrs wrt fun G1 hE1 => ?_
  have h3 := h2.ext hE1
  simp [hE1]
  refine K_sl44Set h3 n2 fun G2 hM2 hO2 hN2 => ?_
  simp (disch := omega) [load_bk hM2.p, store_bk (o := 1) (vs := [.I (m.pc + 4)]) hM2.p (by simp)]
  refine fin _ _ _ hM2 (hE1.only.trans hO2) ?_
  have e1 : (i.op - 1).toNat = i.op.toNat - 1 := by omega
  have q1 : ¬ i.op = 12 := by omega
  have q2 : ¬ i.op = 13 := by omega
  have q3 : ¬ i.op = 19 := by omega
  simp [doM, ho, b4, b5, c1', c2', c3', c4', valM, pcM, e1, q1, q2, q3, hpc.1.symm]
theorem K_sl44Step (h : MAt H P rb mb c1 e m) (hv : validMach m = true) (k : ∀ H', MAt H' P rb mb c1 e (stepM m).1 → Only [P, rb, mb] H H' → K (.I (stepM m).2) H') : CallF Cd f_sl44Step [.ptr P 0] H K w := by
  rw [CallF_eq e_sl44Step rfl]
  have hpc := valid_pc hv
  simp (disch := omega) [load_bk h.p, K_sl44Word h hpc]
  cases hk : wordOk m m.pc with
  | false =>
    have hs : stepM m = (m, 3) := by unfold stepM; simp [hk]
    rw [hs] at k
    simp
    exact k H h Only.refl
  | true =>
  obtain ⟨⟨c2, rfl⟩, gm, nm, _⟩ := h.em (ok_ne hk)
  have hw := valid_word hv hk
  have hpp := sl44_pc hk h.ml
  have hp0 : 0 ≤ m.pc ∧ m.pc / 4 < m.mem.length := by have := hk; simp only [wordOk, decide_eq_true_eq] at this; omega
  have t2 : m.pc.tdiv 4 = m.pc / 4 := Int.tdiv_eq_ediv_of_nonneg (by omega)
  simp (disch := omega) [load_bk h.p, t2, load_bk gm, mem_get hk, K_sUnsigned]
  refine K_sInstrDecode fun H1 hE1 => ?_
  have h1 := h.ext hE1
  have h2 := h1.ext (Ext.push H1 (decI (unsM (wordAt m m.pc))).cs)
  have x1 : Ext H (H1.push (decI (unsM (wordAt m m.pc))).cs) := hE1.to_push
  have gB : (H1.push (decI (unsM (wordAt m m.pc))).cs).bk H1.n = some ⟨(decI (unsM (wordAt m m.pc))).cs, true⟩ := push_new
  simp [hE1, AH.store, push_put]
  cases ho : okM (unsM (wordAt m m.pc)) with
  | false =>
    have hs : stepM m = (m, 3) := by unfold stepM; simp [ho]
    rw [hs] at k
    simp
    exact k _ h2 x1.only
  | true =>
  have hs : stepM m = doM m (decI (unsM (wordAt m m.pc))) := by unfold stepM; simp [ho, hk]
  rw [hs] at k
  obtain ⟨hn, hvi⟩ := dec_near ho
  generalize hi : decI (unsM (wordAt m m.pc)) = i at *
  generalize H1.push i.cs = G at *
  have eN : G.loadN H1.n 0 5 = some i.cs := by rw [loadN_bk gB]; rfl
  simp [load_bk gB]
  refine cnd_mk (fun b1 => ?_) (fun b1 => ?_)
  · have hd : doM m i = (m, 2) := by unfold doM; rw [if_pos b1]
    rw [hd] at k
    simp
    exact k _ h2 x1.only
  simp [eN]
  refine K_sl44Do h2 hv hn hk b1 fun G2 hM2 hO2 => ?_
  have k := k _ hM2 (x1.only.trans hO2)
  have d13 : (doM m i).2 = 1 ∨ (doM m i).2 = 3 := by
    unfold doM; rw [if_neg b1]; split
    · exact .inr rfl
    · exact .inl rfl
  rcases d13 with d | d
  · rw [d] at k ⊢; simp; exact k
  · rw [d] at k ⊢; simp; exact k
end
end Go.Proofs.YtdgmihohmkdpjaaDoor.AM
