/-
  A step of the program's machine. No condition.
-/
import Derived.Test.YtdgmihohmkdpjaaDoorAMzi
namespace Go.Proofs.YtdgmihohmkdpjaaDoor.AM
set_option linter.unusedSimpArgs false
set_option linter.unusedVariables false
set_option maxRecDepth 10000
open Go

theorem valid_reg {m : Mach} (h : validMach m = true) {j : Int} (hj : 0 ≤ j ∧ j < 32) : -2147483648 ≤ regM m j ∧ regM m j ≤ 2147483647 := by
  simp only [validMach, Bool.and_eq_true, decide_eq_true_eq] at h
  obtain ⟨⟨⟨⟨⟨v1, v2⟩, v3⟩, v4⟩, v5⟩, v6⟩ := h
  have hlt : j.toNat < m.regs.length := by omega
  have := List.all_eq_true.1 v2 (m.regs[j.toNat]) (List.getElem_mem hlt)
  simp only [isW, decide_eq_true_eq] at this
  simp only [regM, List.getD_eq_getElem?_getD, List.getElem?_eq_getElem hlt, Option.getD_some]
  exact this
theorem valid_word {m : Mach} (h : validMach m = true) {a : Int} (ha : wordOk m a = true) : -2147483648 ≤ wordAt m a ∧ wordAt m a ≤ 2147483647 := by
  simp only [validMach, Bool.and_eq_true, decide_eq_true_eq] at h
  obtain ⟨⟨⟨⟨⟨v1, v2⟩, v3⟩, v4⟩, v5⟩, v6⟩ := h
  simp only [wordOk, decide_eq_true_eq] at ha
  have hlt : (a / 4).toNat < m.mem.length := by omega
  have := List.all_eq_true.1 v6 (m.mem[(a / 4).toNat]) (List.getElem_mem hlt)
  simp only [isW, decide_eq_true_eq] at this
  simp only [wordAt, List.getD_eq_getElem?_getD, List.getElem?_eq_getElem hlt, Option.getD_some]
  exact this
theorem valid_pc {m : Mach} (h : validMach m = true) : -2147483648 ≤ m.pc ∧ m.pc ≤ 2147483647 := by
  simp only [validMach, Bool.and_eq_true, decide_eq_true_eq] at h
  simpa [isW] using h.1.1.2
theorem dec_near {u : Int} (h : okM u = true) : (decI u).near ∧ validM (decI u) = true := by
  have h0 : opS u ≠ 0 := by simp only [okM, Bool.and_eq_true, decide_eq_true_eq] at h; exact h.1.2
  have hr := ops_range h0
  unfold decI; rw [if_pos h]
  exact ⟨(fld_near hr).1, fld_valid hr⟩
section
variable {H : AH} {K : AV → AH → Prop} {w : Fk K} {P rb mb : Nat} {c1 : ACap} {e : AV} {m : Mach}
theorem K_iMachine_step (h : MAt H P rb mb c1 e m) (hv : validMach m = true) (hg : Glob H) (k : ∀ H', MAt H' P rb mb c1 e (stepM m).1 → Only [P, rb, mb] H H' → K (.I (stepM m).2) H') : CallF Cd f_iMachine_step [.ptr P 0] H K w := by
  rw [CallF_eq e_iMachine_step rfl]
  have hpc := valid_pc hv
  cases hk : wordOk m m.pc with
  | false =>
    have hs : stepM m = (m, 3) := by unfold stepM; simp [hk]
    rw [hs] at k
    simp (disch := omega) [load_bk h.p, K_iMachine_word h, hk]
    exact k H h Only.refl
  | true =>
  obtain ⟨⟨c2, rfl⟩, gm, nm, _⟩ := h.em (ok_ne hk)
  have hw := valid_word hv hk
  simp (disch := omega) [load_bk h.p, K_iMachine_word h, hk, load_bk gm, mem_get hk, K_iUnsigned]
  refine K_iInstrDecode hg fun H1 hE1 => ?_
  have h1 := h.ext hE1
  have h2 := h1.ext (Ext.push H1 (decI (unsM (wordAt m m.pc))).cs)
  have x1 : Ext H (H1.push (decI (unsM (wordAt m m.pc))).cs) := hE1.to_push
  have gB : (H1.push (decI (unsM (wordAt m m.pc))).cs).bk H1.n = some ⟨(decI (unsM (wordAt m m.pc))).cs, true⟩ := push_new
  simp [AH.store, push_put]
  cases ho : okM (unsM (wordAt m m.pc)) with
  | false =>
    have hs : stepM m = (m, 3) := by unfold stepM; simp [ho]
    rw [hs] at k
    simp
    exact k _ h2 x1.only
  | true =>
  have hs : stepM m = doM m (decI (unsM (wordAt m m.pc))) := by unfold stepM; simp [ho, hk]
  rw [hs] at k
  obtain ⟨hn, hvi⟩ := dec_near ho
  generalize hi : decI (unsM (wordAt m m.pc)) = i at *
  obtain ⟨n1, n2, n3, n4, n5⟩ := id hn
  have B0 : H1.n < (H1.push i.cs).n := Nat.lt_succ_self _
  have P1 := h1.pn
  have R1 := h1.rn
  have M1 : mb < H1.n := Nat.lt_of_lt_of_le nm hE1.1
  have gmm := (h2.em (ok_ne hk)).2.1
  generalize H1.push i.cs = G at *
  have hB : H1.n ∉ [rb] := by simp; omega
  have hB2 : H1.n ∉ [mb] := by simp; omega
  have hgG := hg.ext x1
  have hrs := regs_get h2.rl n3
  have hrt := regs_get h2.rl n4
  have wrs := valid_reg hv n3
  have wrt := valid_reg hv n4
  have fin : ∀ (G' : AH) (r' : List Int) (m' : List Int) (nx : Int), MAt G' P rb mb c1 (.sl mb 0 m.mem.length c2) ⟨r', m.pc, m'⟩ → Only [P, rb, mb] G G' → (⟨r', nx, m'⟩, (1 : Int)) = doM m i → K (.I 1) (G'.put P (some ⟨[.sl rb 0 32 c1, .I nx, .sl mb 0 m.mem.length c2], true⟩)) := by
    intro G' r' m' nx q1 q2 q3
    rw [← q3] at k
    exact k _ (q1.setPc nx) ((x1.only.trans q2).put (.inr (by simp)))
  have o3 : ∀ {G' : AH}, Only [rb] G G' → Only [P, rb, mb] G G' := fun q => ⟨q.1, fun b hb hr => q.2 b hb (by simp at hr ⊢; exact hr.2.1)⟩
  simp (disch := omega) [load_bk h2.p, load_bk gB, load_bk h2.r, hrs, hrt, K_iWrap]
  refine cnd_mk (fun b1 => ?_) (fun b1 => ?_)
  · have hd : doM m i = (m, 2) := by unfold doM; rw [if_pos b1]
    rw [hd] at k
    simp
    exact k _ h2 x1.only
  simp
  refine cnd_mk (fun b2 => ?_) (fun b2 => ?_)
  · simp (disch := omega) [load_bk gB, K_iWrap]
    refine K_iMachine_set h2 n2 fun G2 hM2 hO2 hN2 => ?_
    simp [store_bk (o := 1) (vs := [.I (wrapM (m.pc + 4))]) hM2.p (by simp)]
    exact fin _ _ _ _ hM2 (o3 hO2) (by simp [doM, b2, valM, pcM])
  simp
  refine cnd_mk (fun b3 => ?_) (fun b3 => ?_)
  · simp (disch := omega) [load_bk gB, K_iUnsigned, K_itruth]
    refine K_iMachine_set h2 n2 fun G2 hM2 hO2 hN2 => ?_
    simp [store_bk (o := 1) (vs := [.I (wrapM (m.pc + 4))]) hM2.p (by simp)]
    exact fin _ _ _ _ hM2 (o3 hO2) (by simp [doM, b3, valM, pcM])
  by_cases b4 : i.op = 14
  · simp (disch := omega) [b4, load_bk gB, K_iWrap]
    simp (disch := omega) [K_iMachine_word h2 wrapM_lt]
    cases hk2 : wordOk m (wrapM (regM m i.rs + i.imm)) with
    | false =>
      have hd : doM m i = (m, 3) := by unfold doM; rw [if_neg b1, if_pos ⟨.inl b4, hk2⟩]
      rw [hd] at k
      simp
      exact k _ h2 x1.only
    | true =>
      simp (disch := omega) [load_bk gB, b4, load_bk gmm, mem_get hk2]
      refine K_iMachine_set h2 n2 fun G2 hM2 hO2 hN2 => ?_
      simp [store_bk (o := 1) (vs := [.I (wrapM (m.pc + 4))]) hM2.p (by simp)]
      exact fin _ _ _ _ hM2 (o3 hO2) (by simp [doM, b4, valM, pcM, hk2])
  by_cases b5 : i.op = 16
  · simp (disch := omega) [b5, load_bk gB, K_iWrap]
    simp (disch := omega) [K_iMachine_word h2 wrapM_lt]
    cases hk2 : wordOk m (wrapM (regM m i.rs + i.imm)) with
    | false =>
      have hd : doM m i = (m, 3) := by unfold doM; rw [if_neg b1, if_pos ⟨.inr b5, hk2⟩]
      rw [hd] at k
      simp
      exact k _ h2 x1.only
    | true =>
      have hj : (wrapM (regM m i.rs + i.imm) / 4).toNat < m.mem.length := by simp only [wordOk, decide_eq_true_eq] at hk2; omega
      have st := store_bk (o := (wrapM (regM m i.rs + i.imm) / 4).toNat) (vs := [.I (regM m i.rt)]) gmm (by rw [Ints_len]; simp; omega)
      rw [Ints_set hj] at st
      have hM2 := h2.setMem (ok_ne hk) (wrapM (regM m i.rs + i.imm) / 4).toNat (regM m i.rt)
      simp (disch := omega) [load_bk gB, b5, st]
      simp [store_bk (o := 1) (vs := [.I (wrapM (m.pc + 4))]) hM2.p (by simp)]
      exact fin _ _ _ _ hM2 (Only.refl.put (.inr (by simp))) (by simp [doM, b5, valM, pcM, hk2])
  simp [b4, b5]
  refine cnd_mk (fun b6 => ?_) (fun b6 => ?_)
  · simp (disch := omega) [load_bk gB, K_iWrap]
    refine K_iMachine_set h2 n2 fun G2 hM2 hO2 hN2 => ?_
    have gB2 := hO2.bk B0 hB gB
    simp (disch := omega) [load_bk gB2, K_iWrap, ibits_notV, andNot_1 wrapM_lt]
    have wl := @wrapM_lt (regM m i.rs + i.imm)
    simp [store_bk (o := 1) (vs := [.I (wrapM (regM m i.rs + i.imm) - wrapM (regM m i.rs + i.imm) % 2)]) hM2.p (by simp)]
    exact fin _ _ _ _ hM2 (o3 hO2) (by simp [doM, b6, valM, pcM])
  by_cases b7 : i.op = 17
  · simp (disch := omega) [b7, load_bk gB, K_iWrap]
    refine cnd_mk (fun c => ?_) (fun c => ?_)
    · simp (disch := omega) [load_bk h2.p, load_bk gB, K_iWrap]
      simp [store_bk (o := 1) (vs := [.I (wrapM (m.pc + i.imm))]) h2.p (by simp)]
      exact fin _ _ _ _ h2 Only.refl (by simp [doM, b7, valM, pcM, c])
    · simp
      simp [store_bk (o := 1) (vs := [.I (wrapM (m.pc + 4))]) h2.p (by simp)]
      exact fin _ _ _ _ h2 Only.refl (by simp [doM, b7, valM, pcM, c])
  by_cases b8 : i.op = 18
  · simp (disch := omega) [b8, load_bk gB, K_iWrap]
    refine cnd_mk (fun c => ?_) (fun c => ?_)
    · simp (disch := omega) [load_bk h2.p, load_bk gB, K_iWrap]
      simp [store_bk (o := 1) (vs := [.I (wrapM (m.pc + i.imm))]) h2.p (by simp)]
      exact fin _ _ _ _ h2 Only.refl (by simp [doM, b8, valM, pcM, c])
    · simp
      simp [store_bk (o := 1) (vs := [.I (wrapM (m.pc + 4))]) h2.p (by simp)]
      exact fin _ _ _ _ h2 Only.refl (by simp [doM, b8, valM, pcM, c])
  simp [b6, b7, b8]
  refine cnd_mk (fun b9 => ?_) (fun b9 => ?_)
  · simp (disch := omega) [load_bk gB, K_iWrap]
    refine K_iMachine_set h2 n2 fun G2 hM2 hO2 hN2 => ?_
    simp [store_bk (o := 1) (vs := [.I (wrapM (m.pc + 4))]) hM2.p (by simp)]
    exact fin _ _ _ _ hM2 (o3 hO2) (by simp [doM, b9, valM, pcM])
  simp
  refine cnd_mk (fun b10 => ?_) (fun b10 => ?_)
  · simp (disch := omega) [load_bk gB, K_iWrap]
    refine K_iMachine_set h2 n2 fun G2 hM2 hO2 hN2 => ?_
    have gB2 := hO2.bk B0 hB gB
    simp (disch := omega) [load_bk gB2, load_bk hM2.p, K_iWrap]
    simp [store_bk (o := 1) (vs := [.I (wrapM (m.pc + i.imm))]) hM2.p (by simp)]
    exact fin _ _ _ _ hM2 (o3 hO2) (by simp [doM, b10, valM, pcM])
  have hop : 1 ≤ i.op ∧ i.op ≤ 11 := by omega
  obtain ⟨_, _, q1, g1⟩ := hgG
  have gop : (Ints mops)[i.op.toNat - 1]? = some (.I (mops.getD (i.op.toNat - 1) 0)) := by
    have : i.op.toNat - 1 < mops.length := by simp [mops]; omega
    simp [Ints, this]
  simp (disch := omega) [load_bk gB, load_bk g1, gop, K_iapply wrs wrt]
  refine K_iMachine_set h2 n2 fun G2 hM2 hO2 hN2 => ?_
  simp [store_bk (o := 1) (vs := [.I (wrapM (m.pc + 4))]) hM2.p (by simp)]
  refine fin _ _ _ _ hM2 (o3 hO2) ?_
  have e1 : (i.op - 1).toNat = i.op.toNat - 1 := by omega
  simp [doM, b1, b2, b3, b4, b5, b6, b7, b8, b9, b10, valM, pcM, e1]
end
end Go.Proofs.YtdgmihohmkdpjaaDoor.AM
