/-
  The law FnMachine. No condition.
-/
import Derived.Test.YtebnompjkpcgiaaAMzb
namespace Go.Proofs.Ytebnompjkpcgiaa.AM
set_option linter.unusedSimpArgs false
set_option linter.unusedVariables false
open Go

theorem SlI.ext {H H' : AH} {k : IntKind} {v : AV} {zs : List Int} (h : SlI H k v zs) (e : Ext H H') : SlI H' k v zs := by
  rcases h with ⟨rfl, rfl⟩ | ⟨rfl, rfl⟩ | ⟨b, rest, hb, rfl, h⟩
  · exact .inl ⟨rfl, rfl⟩
  · exact .inr (.inl ⟨rfl, rfl⟩)
  · exact .inr (.inr ⟨b, rest, Nat.lt_of_lt_of_le hb e.1, rfl, (e.2 b hb).trans h⟩)
theorem SeesZ.loadN {H : AH} {b o n : Nat} {cap : ACap} {l : List Int} (h : SeesZ H (.sl b o n cap) l) (hn : n = l.length) (hl : 0 < l.length) : H.loadN b o n = some (Ints l) := by
  have q : ∀ i (hi : i < l.length), H.load b (o + i) = some (.I l[i]) := fun i hi => by
    obtain ⟨b1, o1, q1, q2, q3⟩ := h.at hi
    simp at q1
    obtain ⟨rfl, rfl, _⟩ := q1
    exact q3
  unfold AH.loadN AH.load at *
  cases hb : H.bk b with
  | none => have := q 0 hl; rw [hb] at this; cases this
  | some k =>
    rw [hb] at q
    simp only [Option.bind_some] at q ⊢
    have q1 := q (l.length - 1) (by omega)
    have q2 := (List.getElem?_eq_some_iff.1 q1).1
    unfold seg
    rw [if_pos (by omega), hn]
    congr 1
    apply List.ext_getElem?
    intro i
    by_cases hi : i < l.length
    · rw [List.getElem?_take, if_pos hi, List.getElem?_drop, q i hi]; simp [Ints, hi]
    · rw [List.getElem?_take, if_neg hi, List.getElem?_eq_none (by rw [Ints_len]; omega)]
section
variable {H : AH} {K : AV → AH → Prop} {w : Fk K}
theorem K_sDrawMachineValid {v : AV} {zs : List Int} (h : SlI H .u8 v zs) (hz : ∀ n ∈ zs, 0 ≤ n ∧ n < 256) (hl : zs.length ≤ 1048576)
    (k : ∀ c x H', SeesM H' c x → Regs H.n c x → H.n ≤ H'.n → K (.agg c) H') : CallF Cd f_sDrawMachineValid [v] H K w := by
  rw [CallF_eq e_sDrawMachineValid rfl]
  simp
  refine K_l6Open (h.ext (Ext.push _ _)) hz hl fun H1 hR hS => ?_
  have hR' : Rdx H1 (H.n + 1) 0 := ⟨0, by omega, by omega, hR⟩
  have n1 := hR.1
  have n1' := hS.1
  simp only [push_n] at n1 n1'
  simp
  refine K_sl94Machine hR' (by omega) fun c x H2 hM hG hR2 hS2 => ?_
  have n2 := hS2.1
  have gA1 : H1.bk H.n = some ⟨[.nils, .I 0, .nils], true⟩ := hS.at (Nat.lt_succ_self _) (by simp only [push_n]; omega) push_new
  have gA2 := hS2.at (by omega) (by omega) gA1
  have hM' := hG.put (o := some ⟨c, true⟩) hM (show H.n < H1.n by omega)
  obtain ⟨b, o, e, rfl, g1, g2⟩ := hG
  simp [store_bk gA2, loadN_bk put_same]
  exact k _ _ _ hM' ⟨b, o, e, rfl, by omega, fun b' o' n' q => by have := g2 _ _ _ q; omega⟩ (by simp only [put_n]; omega)
theorem law_FnMachine {v : AV} {zs : List Int} (h : SlI H .u8 v zs) (hz : ∀ n ∈ zs, 0 ≤ n ∧ n < 256) : CallK Cd f_wFnMachine [v] H fun v _ => v = .b true := by
  rw [CallK_F, CallF_eq e_wFnMachine rfl]
  simp [h.len]
  refine cnd_mk (fun h1 => ?_) (fun h1 => ?_)
  · simp
  simp
  refine K_sDrawMachineValid h hz (by omega) fun c m H1 hM hG hn => ?_
  have hM1 := hM.ext (Ext.push H1 c)
  have hM2 := hM1.ext (Ext.push (H1.push c) c)
  obtain ⟨b, o, e, rfl, hb, he⟩ := hG
  obtain ⟨r', e', hc, hr, hm, _, _⟩ := hM
  simp only [List.cons.injEq, and_true, true_and] at hc
  obtain ⟨rfl, rfl⟩ := hc
  by_cases hv : validMach m = true
  · have hv' := hv
    simp only [validMach, Bool.and_eq_true, decide_eq_true_eq] at hv'
    obtain ⟨⟨⟨⟨⟨v1, v2⟩, v3⟩, v4⟩, v5⟩, v6⟩ := hv'
    obtain ⟨regs, pc, mem⟩ := m
    obtain ⟨x0, t, rfl⟩ : ∃ x0 t, regs = x0 :: t := by cases regs with | nil => simp at v1 | cons a b => exact ⟨_, _, rfl⟩
    simp only [List.length_cons, Nat.reduceEqDiff] at v1
    simp only [List.getElem?_cons_zero, Option.some.injEq] at v3
    subst v3
    simp only at v2 v4 v5 v6
    have hr1 : SeesZ H1 (.sl b (o + 1) 31 (.ex 31)) t := ⟨by simp [v1], by omega, fun i x hx => by
      obtain ⟨b1, o1, q1, q2, q3⟩ := hr.2.2 (i + 1) x (by simpa using hx)
      simp at q1
      obtain ⟨rfl, rfl⟩ := q1
      exact ⟨b, o + 1, by simp [v1], q2, by rw [← q3]; congr 1; omega⟩⟩
    have lt := hr1.loadN v1.symm (by omega)
    have nb : b < H1.n := by obtain ⟨b1, o1, q1, q2, q3⟩ := hr1.at (i := 0) (by omega); simp at q1; omega
    have nb1 : ¬ b = H1.n := by omega
    have nb2 : ¬ b = H1.n + 1 := by omega
    have nb3 : ¬ b = H1.n + 1 + 1 := by omega
    have nb4 : ¬ b = H1.n + 1 + 1 + 1 := by omega
    have nb5 : ¬ b = H1.n + 1 + 1 + 1 + 1 := by omega
    simp only [List.length_cons, v1] at hM1 hM2 hr ⊢
    simp [AH.store, push_put, K_iMachineValid hM1, loadN_push, K_sMachineValid hM2, hv, push_put1, push_put2, push_put3, load_push, aslice, bnd, aint, nb1, nb2, nb3, nb4, nb5, lt, aapp]
    generalize hG : AH.put _ (H1.n + 1 + 1 + 1) _ = G
    have eG : Ext H1 G := by
      rw [← hG]
      repeat' first | exact Ext.refl _ | apply Ext.to_push | omega | (simp only [push_n, put_n]; omega) | refine Ext.put ?_ ?_
    have nG : G.n = H1.n + 6 := by rw [← hG]; simp
    have g0 : G.bk H1.n = some ⟨[.sl b o 32 (.ex 32), .I pc, e], true⟩ := by rw [← hG]; simp
    have g3 : G.bk (H1.n + 3) = some ⟨[.sl (H1.n + 5) 0 32 (.lb 32 1), .I pc, e], true⟩ := by rw [← hG]; simp
    have g5 : G.bk (H1.n + 5) = some ⟨Ints (5 :: t), true⟩ := by rw [← hG]; simp; rfl
    clear hG
    have p0 : ∀ {x cs}, (G.push cs).put G.n (some ⟨x, true⟩) = G.push x := push_put
    have n3 : ¬ H1.n + 3 = G.n := by omega
    have n0 : ¬ H1.n = G.n := by omega
    have n0' : ¬ H1.n = G.n + 1 := by omega
    have n3' : ¬ H1.n + 3 = G.n + 1 := by omega
    have n3'' : ¬ H1.n + 1 + 1 = G.n := by omega
    have e1 : ∀ a c, Ext H1 ((G.push a).push c) := fun a c => eG.trans (of_eq_true ext_pp)
    have s1 : ∀ a c, SeesM ((G.push a).push c) [.sl (H1.n + 5) 0 32 (.lb 32 1), .I pc, e] ⟨5 :: t, pc, mem⟩ := fun a c =>
      ⟨_, _, rfl, by have := @SeesZ.of ((G.push a).push c) (5 :: t) (.lb 32 1) (H1.n + 5) true (by simp; omega) (by simp; omega) (push_old (by simp; omega) (push_old (by omega) g5)); simpa [v1] using this, hm.ext (e1 _ _), rfl, by assumption⟩
    have s2 : ∀ a c d, SeesM (((G.push a).push c).push d) [.sl b (o + 1) 31 (.ex 31), .I pc, e] ⟨t, pc, mem⟩ := fun a c d => ⟨_, _, rfl, hr1.ext ((e1 _ _).trans (Ext.push _ _)), hm.ext ((e1 _ _).trans (Ext.push _ _)), rfl, by assumption⟩
    have s3 : ∀ a c d f, SeesM ((((G.push a).push c).push d).push f) [.sl b o 32 (.ex 32), .I (-2147483647), e] ⟨0 :: t, -2147483647, mem⟩ := fun a c d f => ⟨_, _, rfl, by simpa [v1] using hr.ext ((e1 _ _).trans (of_eq_true ext_pp)), hm.ext ((e1 _ _).trans (of_eq_true ext_pp)), rfl, by assumption⟩
    have w1 : validMach ⟨5 :: t, pc, mem⟩ = false := by simp [validMach]
    have w2 : validMach ⟨t, pc, mem⟩ = false := by simp [validMach, v1]
    have w3 : validMach ⟨0 :: t, -2147483647, mem⟩ = true := by simp [validMach, v1, v2, v5, v6] <;> simp [isW]
    simp [loadN_bk g0, load_bk g0, AH.store, p0, loadN_push, load_push, n3, n0, n0', n3', n3'', aslice, bnd, aint, push_put1, loadN_bk g3, K_iMachineValid (s1 _ _), w1, K_iMachineValid (s2 _ _ _), w2, K_iMachineValid (s3 _ _ _ _), w3]
  · simp [AH.store, push_put, K_iMachineValid hM1, loadN_push, K_sMachineValid hM2, hv]
end
end Go.Proofs.Ytebnompjkpcgiaa.AM
