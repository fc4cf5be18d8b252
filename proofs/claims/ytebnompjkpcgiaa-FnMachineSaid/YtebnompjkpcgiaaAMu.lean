/-
  The law FnExactConstInstrs: the lists are the same, and the memory is new. No condition.
-/
import Derived.Test.YtebnompjkpcgiaaAMt
namespace Go.Proofs.Ytebnompjkpcgiaa.AM
set_option linter.unusedSimpArgs false
set_option linter.unusedVariables false
open Go

theorem put_put {H : AH} {b : Nat} {x y : Option Blk} : (H.put b x).put b y = H.put b y := by
  unfold AH.put; congr 1; funext c; by_cases h : c = b <;> simp [h]
theorem ext_pp {H : AH} {a b : List AV} : Ext H ((H.push a).push b) = True := eq_true ((Ext.push _ _).trans (Ext.push _ _))

section
variable {H : AH} {K : AV → AH → Prop} {n rd rs imm : Int} {w : Fk K}
theorem K_weqInstr {a b : Ins} : CallF Cd f_weqInstr [.agg a.cs, .agg b.cs] H K w = K (.b (decide (a = b))) ((H.push a.cs).push b.cs) := by
  rw [CallF_eq e_weqInstr rfl]
  simp [Ins.cs, load_push]
  repeat' (refine cnd_iff (fun h => ?_) (fun h => ?_) <;> try simp (disch := omega) [*, Ins.cs, load_push])
  all_goals refine Kb_fin ?_
  all_goals (cases a; cases b; simp_all)
theorem K_weqInstrS_l {a b : AV} {la lb : List Ins} (H0 : AH) (ha : SeesI H0 a la) (hb : SeesI H0 b lb) (he : la.length = lb.length) {Q : Out → Env → AH → Prop}
    (h1 : ∀ e H', Ext H0 H' → (la = lb) → Q (.brk 0) e H') (h2 : ∀ e H', Ext H0 H' → get e 4 = some (.b false) → la ≠ lb → Q .ret e H') (m i : Nat) (hm : i + m = la.length) (hd : la.take i = lb.take i) (hE : Ext H0 H) :
    W Cd (.loop c_weqInstrS_l0) [(0, a), (1, b), (5, .I i)] H Q := by
  have hbig := ha.big
  induction m generalizing i H with
  | zero =>
    rw [W_loop_as c_weqInstrS_l0.eq_1]
    have : ¬ (i : Int) < la.length := by omega
    simp [this, ha.len]
    rw [List.take_of_length_le (by omega), List.take_of_length_le (by omega)] at hd
    exact h1 _ _ hE hd
  | succ m ih =>
    rw [W_loop_as c_weqInstrS_l0.eq_1]
    have hi : i < la.length := by omega
    have hi' : i < lb.length := by omega
    obtain ⟨b1, o1, s1, k1, l1⟩ := ha.at hi
    obtain ⟨b2, o2, s2, k2, l2⟩ := hb.at hi'
    have l1 : H.loadN b1 (o1 + i * 5) 5 = some la[i].cs := (loadN_ext hE k1).trans l1
    have l2 : H.loadN b2 (o2 + i * 5) 5 = some lb[i].cs := (loadN_ext hE k2).trans l2
    have hlt : (i : Int) < la.length := by omega
    simp (disch := omega) [hlt, ha.len, s1, s2, l1, l2, K_weqInstr, ext_pp]
    refine cnd_mk (fun h => ?_) (fun h => ?_)
    · simp
      refine h2 _ _ (hE.trans (of_eq_true ext_pp)) (by simp) (fun q => ?_)
      subst q; exact absurd rfl h
    · simp (disch := omega)
      have h : la[i] = lb[i] := Decidable.of_not_not h
      have := @ih _ (i + 1) (by omega) (by rw [List.take_succ_eq_append_getElem hi, List.take_succ_eq_append_getElem hi', hd, h]) (hE.trans (of_eq_true (ext_pp (a := la[i].cs) (b := lb[i].cs))))
      simpa using this
theorem K_weqInstrS {a b : AV} {la lb : List Ins} (ha : SeesI H a la) (hb : SeesI H b lb) (k : ∀ H', Ext H H' → K (.b (decide (la = lb))) H') : CallF Cd f_weqInstrS [a, b] H K w := by
  rw [CallF_eq e_weqInstrS rfl]
  simp [ha.len, hb.len]
  refine cnd_mk (fun h => ?_) (fun h => ?_)
  · simp
    have : la ≠ lb := fun e => h (by rw [e])
    have := k _ (Ext.refl _)
    simpa [*] using this
  · have he : la.length = lb.length := by omega
    simp
    refine K_weqInstrS_l H ha hb he ?_ ?_ la.length 0 (by omega) rfl (Ext.refl _)
    · intro e H' hE hq
      simp
      simpa [hq] using k H' hE
    · intro e H' hE hg hq
      simp [hg]
      simpa [hq] using k H' hE
theorem N_iconstInstrs (hn : -2147483648 ≤ n ∧ n ≤ 2147483647) (k : ∀ b cap H', Ext H H' → H.n ≤ b → b < H'.n → H'.bk b = some ⟨((constL rd n).map Ins.cs).flatten, true⟩ → K (.sl b 0 (constL rd n).length cap) H') : CallF Cd f_iconstInstrs [.I rd, .I n] H K w := by
  rw [CallF_eq e_iconstInstrs rfl]
  have hlo := @signM_lt (bitsM (unsM n) 0 12)
  simp
  by_cases h : -2048 ≤ n ∧ n ≤ 2047
  · simp [h.1, h.2]
    refine K_iaddi fun H1 hH1 => ?_
    simp
    unfold constL at k
    rw [if_pos h] at k
    exact k H1.n _ _ (hH1.trans (Ext.push _ _)) hH1.1 (Nat.lt_succ_self _) (by simp; rfl)
  · unfold constL at k
    rw [if_neg h] at k
    refine cnd_mk (fun h1 => ?_) (fun h1 => ?_)
    · have h2 : ¬ n ≤ 2047 := by omega
      simp (disch := omega) [h1, h2, K_iUnsigned, K_iBits, K_iSignExtend, K_iWrap]
      refine K_iaddi fun H1 hH1 => ?_
      simp
      exact k H1.n _ _ (hH1.trans (Ext.push _ _)) hH1.1 (Nat.lt_succ_self _) (by simp; rfl)
    · simp (disch := omega) [h1, K_iUnsigned, K_iBits, K_iSignExtend, K_iWrap]
      refine K_iaddi fun H1 hH1 => ?_
      simp
      exact k H1.n _ _ (hH1.trans (Ext.push _ _)) hH1.1 (Nat.lt_succ_self _) (by simp; rfl)
theorem N_iConstInstrs (k0 : constOk rd n = false → K (.tup [.nils, .b false]) H)
    (k1 : constOk rd n = true → ∀ b cap H', Ext H H' → H.n ≤ b → b < H'.n → H'.bk b = some ⟨((constL rd n).map Ins.cs).flatten, true⟩ → K (.tup [.sl b 0 (constL rd n).length cap, .b true]) H') : CallF Cd f_iConstInstrs [.I rd, .I n] H K w := by
  rw [CallF_eq e_iConstInstrs rfl]
  simp
  refine cnd_mk (fun h1 => ?_) (fun h1 => ?_)
  · simp [h1]
    exact k0 (by simp [constOk]; omega)
  simp [h1]
  refine cnd_mk (fun h2 => ?_) (fun h2 => ?_)
  · simp [h2]
    exact k0 (by simp [constOk]; omega)
  simp [h2, K_iWordValid]
  refine cnd_mk (fun h3 => ?_) (fun h3 => ?_)
  · simp
    exact k0 (by simp [constOk, h3])
  simp
  have hw : isW n = true := by simpa using h3
  have hok : constOk rd n = true := by simp [constOk, hw]; omega
  refine N_iconstInstrs (by simpa [isW] using hw) fun b cap H1 hE e1 e2 e3 => ?_
  simp
  exact k1 hok b cap H1 hE e1 e2 e3
theorem NewI.sees {H : AH} {b : Nat} {cap : ACap} {l : List Ins} (hb : b < H.n) (h : H.bk b = some ⟨(l.map Ins.cs).flatten, true⟩) (hl : l.length ≤ 8589934592) : SeesI H (.sl b 0 l.length cap) l := by
  refine ⟨by simp [alen], by simpa using hl, fun i x hx => ⟨b, 0, by simp [asSl], hb, ?_⟩⟩
  unfold AH.loadN
  rw [h, Nat.zero_add]
  exact seg_flatten (fun y hy => by obtain ⟨j, _, rfl⟩ := List.mem_map.1 hy; rfl) hx
theorem K_mark0 {k : Int} : CallF Cd f_wmarkInstrS [.nils, .I k] H K w = K (.I k) H := by
  rw [CallF_eq e_wmarkInstrS rfl]
  simp
  rw [W_loop_as c_wmarkInstrS_l0.eq_1]
  simp
theorem K_held0 {k : Int} : CallF Cd f_wheldInstrS [.nils, .I k] H K w = K (.I k) H := by
  rw [CallF_eq e_wheldInstrS rfl]
  simp
  rw [W_loop_as c_wheldInstrS_l0.eq_1]
  simp
theorem K_mark1 {b : Nat} {cap : ACap} {i : Ins} (h : H.bk b = some ⟨i.cs, true⟩) : CallF Cd f_wmarkInstrS [.sl b 0 1 cap, .I 1] H K w = K (.I 6) (H.put b (some ⟨[.I 1, .I 2, .I 3, .I 4, .I 5], true⟩)) := by
  simp only [Ins.cs] at h
  rw [CallF_eq e_wmarkInstrS rfl]
  simp
  rw [W_loop_as c_wmarkInstrS_l0.eq_1]
  simp [AH.store, h, put_put]
  rw [W_loop_as c_wmarkInstrS_l0.eq_1]
  simp
theorem K_mark2 {b : Nat} {cap : ACap} {i j : Ins} (h : H.bk b = some ⟨i.cs ++ j.cs, true⟩) : CallF Cd f_wmarkInstrS [.sl b 0 2 cap, .I 1] H K w = K (.I 11) (H.put b (some ⟨[.I 1, .I 2, .I 3, .I 4, .I 5, .I 6, .I 7, .I 8, .I 9, .I 10], true⟩)) := by
  simp only [Ins.cs, List.cons_append, List.nil_append] at h
  rw [CallF_eq e_wmarkInstrS rfl]
  simp
  rw [W_loop_as c_wmarkInstrS_l0.eq_1]
  simp [AH.store, h, put_put]
  rw [W_loop_as c_wmarkInstrS_l0.eq_1]
  simp [AH.store, h, put_put]
  rw [W_loop_as c_wmarkInstrS_l0.eq_1]
  simp
theorem K_held1 {b : Nat} {cap : ACap} (h : H.bk b = some ⟨[.I 1, .I 2, .I 3, .I 4, .I 5], true⟩) : CallF Cd f_wheldInstrS [.sl b 0 1 cap, .I 1] H K w = K (.I 6) H := by
  rw [CallF_eq e_wheldInstrS rfl]
  simp
  rw [W_loop_as c_wheldInstrS_l0.eq_1]
  simp [AH.load, h]
  rw [W_loop_as c_wheldInstrS_l0.eq_1]
  simp
theorem K_held2 {b : Nat} {cap : ACap} (h : H.bk b = some ⟨[.I 1, .I 2, .I 3, .I 4, .I 5, .I 6, .I 7, .I 8, .I 9, .I 10], true⟩) : CallF Cd f_wheldInstrS [.sl b 0 2 cap, .I 1] H K w = K (.I 11) H := by
  rw [CallF_eq e_wheldInstrS rfl]
  simp
  rw [W_loop_as c_wheldInstrS_l0.eq_1]
  simp [AH.load, h]
  rw [W_loop_as c_wheldInstrS_l0.eq_1]
  simp [AH.load, h]
  rw [W_loop_as c_wheldInstrS_l0.eq_1]
  simp
theorem law_FnExactConstInstrs {H : AH} {rd n : Int} : CallK Cd f_wFnExactConstInstrs [.I rd, .I n] H fun v _ => v = .b true := by
  rw [CallK_F, CallF_eq e_wFnExactConstInstrs rfl]
  simp
  refine K_sConstInstrs fun a H1 ha hH1 => ?_
  simp
  refine N_iConstInstrs (fun hok => ?_) fun hok b cap H2 hE e1 e2 e3 => ?_
  · have e : constM rd n = [] := by unfold constM; simp [hok]
    rw [e] at ha
    simp
    refine K_weqInstrS (la := []) (SeesN.nil rfl) ha fun H2 hH2 => ?_
    simp [hok, K_mark0, K_held0]
    refine N_iConstInstrs (fun hok => ?_) fun hok' => by rw [hok] at hok'; cases hok'
    simp
    refine K_weqInstrS (la := []) (SeesN.nil rfl) (ha.ext hH2) fun H3 hH3 => ?_
    simp [hok, K_held0]
  · have e : constM rd n = constL rd n := by unfold constM; simp [hok]
    rw [e] at ha
    have hl : (constL rd n).length ≤ 2 := by unfold constL; split <;> simp
    simp
    refine K_weqInstrS (NewI.sees e2 e3 (by omega)) (ha.ext hE) fun H3 hH3 => ?_
    have e4 : H3.bk b = some ⟨((constL rd n).map Ins.cs).flatten, true⟩ := by rw [hH3.2 b e2]; exact e3
    have hbn : b < H3.n := Nat.lt_of_lt_of_le e2 hH3.1
    have hext : ∀ o, Ext H1 (H3.put b o) := fun o => ⟨Nat.le_trans hE.1 hH3.1, fun x hx => by
      simp only [put_bk]; rw [if_neg (by omega), hH3.2 x (Nat.lt_of_lt_of_le hx hE.1), hE.2 x hx]⟩
    simp [hok]
    by_cases hs : -2048 ≤ n ∧ n ≤ 2047
    · have ec : constL rd n = [⟨12, rd, 0, 0, n⟩] := by unfold constL; rw [if_pos hs]
      rw [ec] at e4
      have e4 : H3.bk b = some ⟨Ins.cs ⟨12, rd, 0, 0, n⟩, true⟩ := by simpa using e4
      have el : (constL rd n).length = 1 := by rw [ec]; rfl
      simp [el, K_mark1 e4, K_held1]
      refine N_iConstInstrs (fun hok' => by rw [hok] at hok'; cases hok') fun _ b' cap' H4 hE' f1 f2 f3 => ?_
      simp
      refine K_weqInstrS (NewI.sees f2 f3 (by omega)) (ha.ext ((hext _).trans hE')) fun H5 hH5 => ?_
      have f4 : H5.bk b = some ⟨[.I 1, .I 2, .I 3, .I 4, .I 5], true⟩ := by
        rw [hH5.2 b (Nat.lt_of_lt_of_le hbn hE'.1), hE'.2 b hbn]; simp
      simp [hok, el, K_held1 f4]
    · have ec : constL rd n = [⟨19, rd, 0, 0, highM n⟩, ⟨12, rd, rd, 0, lowM n⟩] := by unfold constL; rw [if_neg hs]
      rw [ec] at e4
      have e4 : H3.bk b = some ⟨Ins.cs ⟨19, rd, 0, 0, highM n⟩ ++ Ins.cs ⟨12, rd, rd, 0, lowM n⟩, true⟩ := by simpa using e4
      have el : (constL rd n).length = 2 := by rw [ec]; rfl
      simp [el, K_mark2 e4, K_held2]
      refine N_iConstInstrs (fun hok' => by rw [hok] at hok'; cases hok') fun _ b' cap' H4 hE' f1 f2 f3 => ?_
      simp
      refine K_weqInstrS (NewI.sees f2 f3 (by omega)) (ha.ext ((hext _).trans hE')) fun H5 hH5 => ?_
      have f4 : H5.bk b = some ⟨[.I 1, .I 2, .I 3, .I 4, .I 5, .I 6, .I 7, .I 8, .I 9, .I 10], true⟩ := by
        rw [hH5.2 b (Nat.lt_of_lt_of_le hbn hE'.1), hE'.2 b hbn]; simp
      simp [hok, el, K_held2 f4]
end
end Go.Proofs.Ytebnompjkpcgiaa.AM
