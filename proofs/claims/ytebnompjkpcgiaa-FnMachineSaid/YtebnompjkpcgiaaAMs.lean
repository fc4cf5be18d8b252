/-
  Lists of instructions are compared; the law FnConstSum. No condition.
-/
import Derived.Test.YtebnompjkpcgiaaAMr
namespace Go.Proofs.Ytebnompjkpcgiaa.AM
set_option linter.unusedSimpArgs false
set_option linter.unusedVariables false
open Go

theorem Ins.eqInts (a b : Ins) : eqInts a.cs b.cs = some (decide (a = b)) := by
  cases a; cases b
  simp [Ins.cs, AM.eqInts]
  rw [Bool.eq_iff_iff]; simp [and_assoc]

section
variable {H : AH} {K : AV → AH → Prop} {n rd : Int} {w : Fk K}
theorem SeesI.at {H : AH} {v : AV} {l : List Ins} (h : SeesI H v l) {i : Nat} (hi : i < l.length) : ∃ b o, asSl v = some (b, o, l.length) ∧ b < H.n ∧ H.loadN b (o + i * 5) 5 = some l[i].cs := by
  obtain ⟨b, o, h1, h2, h3⟩ := h.2.2 i (l[i].cs) (by simp [hi])
  exact ⟨b, o, by simpa using h1, h2, h3⟩
theorem SeesI.len {H : AH} {v : AV} {l : List Ins} (h : SeesI H v l) : alen v = some l.length := by simpa using h.1
theorem SeesI.big {H : AH} {v : AV} {l : List Ins} (h : SeesI H v l) : l.length ≤ 8589934592 := by simpa using h.2.1
theorem K_wsameInstrs_l {a b : AV} {la lb : List Ins} (ha : SeesI H a la) (hb : SeesI H b lb) (he : la.length = lb.length) {Q : Out → Env → AH → Prop}
    (h1 : ∀ e H, Q (.brk 0) e H = K (.b true) H) (h2 : ∀ e H, Q .ret e H = bindO (get e 4) fun v => K v H) (m i : Nat) (hm : i + m = la.length) :
    W Cd (.loop c_wsameInstrs_l0) [(0, a), (1, b), (5, .I i)] H Q ↔ K (.b (decide (la.drop i = lb.drop i))) H := by
  have hbig := ha.big
  induction m generalizing i with
  | zero =>
    rw [W_loop_as c_wsameInstrs_l0.eq_1]
    have : ¬ (i : Int) < la.length := by omega
    simp [this, h1, ha.len]
    rw [List.drop_eq_nil_of_le (by omega), List.drop_eq_nil_of_le (by omega)]
    simp
  | succ m ih =>
    rw [W_loop_as c_wsameInstrs_l0.eq_1]
    have hi : i < la.length := by omega
    have hi' : i < lb.length := by omega
    obtain ⟨b1, o1, s1, _, l1⟩ := ha.at hi
    obtain ⟨b2, o2, s2, _, l2⟩ := hb.at hi'
    have hlt : (i : Int) < la.length := by omega
    have hlen : la[i].cs.length = 5 := rfl
    have hlen' : lb[i].cs.length = 5 := rfl
    have hr := ih (i + 1) (by omega)
    have d1 := List.drop_eq_getElem_cons hi
    have d2 := List.drop_eq_getElem_cons hi'
    simp (disch := omega) [hlt, ha.len, s1, s2, l1, l2, hlen, hlen', Ins.eqInts]
    refine cnd_iff (fun h => ?_) (fun h => ?_)
    · simp [h, h2]
      exact Kb_false (by rw [d1, d2]; simp only [decide_eq_false_iff_not, List.cons.injEq]; exact fun q => h q.1)
    · simp (disch := omega) [h]
      rw [show decide (la.drop i = lb.drop i) = decide (la.drop (i + 1) = lb.drop (i + 1)) from by
        rw [d1, d2, Bool.eq_iff_iff]; simp only [decide_eq_true_eq, List.cons.injEq]; exact ⟨fun q => q.2, fun q => ⟨Decidable.of_not_not h, q⟩⟩]
      simpa using hr
theorem K_wsameInstrs {a b : AV} {la lb : List Ins} (ha : SeesI H a la) (hb : SeesI H b lb) : CallF Cd f_wsameInstrs [a, b] H K w = K (.b (decide (la = lb))) H := by
  rw [CallF_eq e_wsameInstrs rfl]
  simp [ha.len, hb.len]
  refine cnd_iff (fun h => ?_) (fun h => ?_)
  · simp
    have : la ≠ lb := fun e => h (by rw [e])
    simp [this]
  · have he : la.length = lb.length := by omega
    simp
    have := K_wsameInstrs_l (K := K) ha hb he (Q := ?_) ?_ ?_ la.length 0 (by omega)
    · simpa using this
    · intros; simp
    · intros; simp
theorem const_sum (hn : -2147483648 ≤ n ∧ n ≤ 2147483647) : wrapM (lowM n + highM n * 4096) = n := by
  have e1 : unsM n = n % 4294967296 := by unfold unsM; rw [if_pos hn]
  have e2 : bitsM (unsM n) 0 12 = n % 4294967296 % 4096 := by rw [e1]; unfold bitsM; rw [if_pos (by omega)]; simp
  have e3 : lowM n = if 2048 ≤ n % 4294967296 % 4096 then n % 4294967296 % 4096 - 4096 else n % 4294967296 % 4096 := by
    unfold lowM; rw [e2]; unfold signM; rw [if_pos (by simp; omega)]; simp
  have h4 := @wrapM_lt (n - lowM n)
  have e4 : unsM (wrapM (n - lowM n)) = wrapM (n - lowM n) % 4294967296 := by unfold unsM; rw [if_pos h4]
  have e5 : highM n = wrapM (n - lowM n) % 4294967296 / 4096 % 1048576 := by unfold highM; rw [e4]; unfold bitsM; rw [if_pos (by omega)]; simp
  rw [e5]
  generalize lowM n = low at *
  unfold wrapM at *
  split at e3 <;> omega
theorem ins_imm {H : AH} {b o : Nat} {x : Ins} (h : H.loadN b o 5 = some x.cs) : H.load b (o + 4) = some (.I x.imm) := (loadN_at h (j := 4) (by omega)).trans rfl
theorem law_FnConstSum {v : AV} {zs : List Int} (h : SlI H .u8 v zs) (hz : ∀ n ∈ zs, 0 ≤ n ∧ n < 256) : CallK Cd f_wFnConstSum [v] H fun v _ => v = .b true := by
  rw [CallK_F, CallF_eq e_wFnConstSum rfl]
  simp [h.len]
  refine cnd_mk (fun h1 => ?_) (fun h1 => ?_)
  · simp
  simp
  refine K_sDrawConstInstrs h hz (by omega) fun rd n H1 => ?_
  simp
  refine K_iConstInstrs fun a H2 ha hH2 => ?_
  simp
  refine K_sConstInstrs fun b H3 hb hH3 => ?_
  have ha := ha.ext hH3
  simp [K_wsameInstrs ha hb]
  refine cnd_mk (fun hok => ?_) (fun hok => ?_)
  · have hok : constOk rd n = false := by simpa using hok
    simp [hok, K_wsameInstrs ha hb]
  have hok : constOk rd n = true := by simpa using hok
  have hn : -2147483648 ≤ n ∧ n ≤ 2147483647 := by simp [constOk, isW] at hok; omega
  by_cases hs : -2048 ≤ n ∧ n ≤ 2047
  · have e : constM rd n = [⟨12, rd, 0, 0, n⟩] := by unfold constM constL; rw [if_pos hok, if_pos hs]
    rw [e] at ha
    obtain ⟨b0, o0, s0, _, l0⟩ := SeesI.at (H := H3) ha (i := 0) (by simp)
    have l0 := ins_imm l0
    simp at l0 s0
    have hlen : alen a = some 1 := ha.1
    have := @wrapM_lt n
    have hw : wrapM n = n := by unfold wrapM; omega
    simp [hok, hlen, s0, l0, K_iWrap, hw]
  · have e : constM rd n = [⟨19, rd, 0, 0, highM n⟩, ⟨12, rd, rd, 0, lowM n⟩] := by unfold constM constL; rw [if_pos hok, if_neg hs]
    rw [e] at ha
    obtain ⟨b0, o0, s0, _, l0⟩ := SeesI.at (H := H3) ha (i := 0) (by simp)
    obtain ⟨b1, o1, s1, _, l1⟩ := SeesI.at (H := H3) ha (i := 1) (by simp)
    have l0 := ins_imm l0
    have l1 := ins_imm l1
    rw [s0] at s1
    simp only [Option.some.injEq, Prod.mk.injEq] at s1
    obtain ⟨rfl, rfl, _⟩ := s1
    simp at l0 l1 s0
    have hlen : alen a = some 2 := ha.1
    have hh : 0 ≤ highM n ∧ highM n < 1048576 := by
      unfold highM bitsM; split
      · have := @mod_pow_lt (unsM (wrapM (n - lowM n)) / 2 ^ (12:Int).toNat) 20; simpa using this
      · omega
    have hl := @lowM_lt n
    simp (disch := omega) [hok, hlen, s0, l0, l1, K_iWrap, const_sum hn]
end
end Go.Proofs.Ytebnompjkpcgiaa.AM
