/-
  What the functions on lists of integers and on machines compute. No condition.
-/
import Derived.Test.YtdgmihohmkdpjaaDoorAMu
namespace Go.Proofs.YtdgmihohmkdpjaaDoor.AM
set_option linter.unusedSimpArgs false
set_option linter.unusedVariables false
open Go

/-- What a slice of integers reads as. -/
def SeesZ (H : AH) (v : AV) (l : List Int) : Prop := alen v = some l.length ∧ l.length ≤ 8589934592 ∧
  ∀ (i : Nat) x, l[i]? = some x → ∃ b o, asSl v = some (b, o, l.length) ∧ b < H.n ∧ H.load b (o + i) = some (.I x)
theorem SeesZ.ext {H H' : AH} {v l} (h : SeesZ H v l) (k : Ext H H') : SeesZ H' v l :=
  ⟨h.1, h.2.1, fun i x hx => let ⟨b, o, h1, h2, h3⟩ := h.2.2 i x hx; ⟨b, o, h1, Nat.lt_of_lt_of_le h2 k.1, by rw [load_ext k h2]; exact h3⟩⟩
theorem SeesZ.at {H : AH} {v : AV} {l : List Int} (h : SeesZ H v l) {i : Nat} (hi : i < l.length) : ∃ b o, asSl v = some (b, o, l.length) ∧ b < H.n ∧ H.load b (o + i) = some (.I l[i]) :=
  h.2.2 i l[i] (by simp [hi])
theorem SeesZ.nil {H : AH} {v : AV} (h : alen v = some 0) : SeesZ H v [] := ⟨h, by simp, fun i x hx => by simp at hx⟩

section
variable {H : AH} {K : AV → AH → Prop} {n : Int} {w : Fk K}
theorem K_iareWords_l {v : AV} {l : List Int} (h : SeesZ H v l) {Q : Out → Env → AH → Prop}
    (h1 : ∀ e H, Q (.brk 0) e H = K (.b true) H) (h2 : ∀ e H, Q .ret e H = bindO (get e 2) fun v => K v H) (m i : Nat) (hm : i + m = l.length) :
    W Cd (.loop c_iareWords_l0) [(5, v), (6, .I l.length), (7, .I i)] H Q ↔ K (.b ((l.drop i).all isW)) H := by
  have hbig := h.2.1
  induction m generalizing i with
  | zero =>
    rw [W_loop_as c_iareWords_l0.eq_1]
    have : ¬ (i : Int) < l.length := by omega
    simp [this, h1]
    rw [List.drop_eq_nil_of_le (by omega)]; rfl
  | succ m ih =>
    rw [W_loop_as c_iareWords_l0.eq_1]
    have hi : i < l.length := by omega
    obtain ⟨b, o, s1, _, l1⟩ := h.at hi
    have hlt : (i : Int) < l.length := by omega
    have hr := ih (i + 1) (by omega)
    have d1 := List.drop_eq_getElem_cons hi
    simp (disch := omega) [hlt, s1, l1, K_iWordValid]
    refine cnd_iff (fun h => ?_) (fun h => ?_)
    · simp [h2]
      refine Kb_false ?_
      rw [d1, List.all_cons]; simp [h]
    · simp (disch := omega)
      have e : (l.drop i).all isW = (l.drop (i + 1)).all isW := by rw [d1, List.all_cons]; simp at h; simp [h]
      rw [e]
      simpa using hr
theorem K_iareWords {v : AV} {l : List Int} (h : SeesZ H v l) : CallF Cd f_iareWords [v] H K w = K (.b (l.all isW)) H := by
  rw [CallF_eq e_iareWords rfl]
  simp [h.1]
  have := K_iareWords_l (K := K) h (Q := ?_) ?_ ?_ l.length 0 (by omega)
  · simpa using this
  · intros; simp
  · intros; simp
theorem K_sl4Words_l {v : AV} {l : List Int} (h : SeesZ H v l) {Q : Out → Env → AH → Prop}
    (h1 : ∀ e H, Q (.brk 0) e H = K (.b true) H) (h2 : ∀ e H, Q .ret e H = bindO (get e 4) fun v => K v H) (m i : Nat) (hm : i + m = l.length) :
    W Cd (.loop c_sl4Words_l0) [(0, v), (5, .I i)] H Q ↔ K (.b ((l.drop i).all isW)) H := by
  have hbig := h.2.1
  induction m generalizing i with
  | zero =>
    rw [W_loop_as c_sl4Words_l0.eq_1]
    have : ¬ (i : Int) < l.length := by omega
    simp [this, h1, h.1]
    rw [List.drop_eq_nil_of_le (by omega)]; rfl
  | succ m ih =>
    rw [W_loop_as c_sl4Words_l0.eq_1]
    have hi : i < l.length := by omega
    obtain ⟨b, o, s1, _, l1⟩ := h.at hi
    have hlt : (i : Int) < l.length := by omega
    have hr := ih (i + 1) (by omega)
    have d1 := List.drop_eq_getElem_cons hi
    simp (disch := omega) [hlt, s1, l1, K_sWordValid, h.1]
    refine cnd_iff (fun h => ?_) (fun h => ?_)
    · simp [h2]
      refine Kb_false ?_
      rw [d1, List.all_cons]; simp [h]
    · simp (disch := omega)
      have e : (l.drop i).all isW = (l.drop (i + 1)).all isW := by rw [d1, List.all_cons]; simp at h; simp [h]
      rw [e]
      simpa using hr
theorem K_sl4Words {v : AV} {l : List Int} (h : SeesZ H v l) : CallF Cd f_sl4Words [v, .I n] H K w = K (.b (decide ((l.length : Int) = n) && l.all isW)) H := by
  rw [CallF_eq e_sl4Words rfl]
  simp [h.1]
  refine cnd_iff (fun hn => ?_) (fun hn => ?_)
  · simp [hn]
  · simp
    have := K_sl4Words_l (K := K) h (Q := ?_) ?_ ?_ l.length 0 (by omega)
    · have hn : (l.length : Int) = n := Decidable.of_not_not hn
      simpa [hn] using this
    · intros; simp
    · intros; simp
theorem K_weqIntS_l {a b : AV} {la lb : List Int} (ha : SeesZ H a la) (hb : SeesZ H b lb) (he : la.length = lb.length) {Q : Out → Env → AH → Prop}
    (h1 : ∀ e H, Q (.brk 0) e H = K (.b true) H) (h2 : ∀ e H, Q .ret e H = bindO (get e 4) fun v => K v H) (m i : Nat) (hm : i + m = la.length) :
    W Cd (.loop c_weqIntS_l0) [(0, a), (1, b), (5, .I i)] H Q ↔ K (.b (decide (la.drop i = lb.drop i))) H := by
  have hbig := ha.2.1
  induction m generalizing i with
  | zero =>
    rw [W_loop_as c_weqIntS_l0.eq_1]
    have : ¬ (i : Int) < la.length := by omega
    simp [this, h1, ha.1]
    rw [List.drop_eq_nil_of_le (by omega), List.drop_eq_nil_of_le (by omega)]
    simp
  | succ m ih =>
    rw [W_loop_as c_weqIntS_l0.eq_1]
    have hi : i < la.length := by omega
    have hi' : i < lb.length := by omega
    obtain ⟨b1, o1, s1, _, l1⟩ := ha.at hi
    obtain ⟨b2, o2, s2, _, l2⟩ := hb.at hi'
    have hlt : (i : Int) < la.length := by omega
    have hr := ih (i + 1) (by omega)
    have d1 := List.drop_eq_getElem_cons hi
    have d2 := List.drop_eq_getElem_cons hi'
    simp (disch := omega) [hlt, ha.1, s1, s2, l1, l2]
    refine cnd_iff (fun h => ?_) (fun h => ?_)
    · simp [h, h2]
      exact Kb_false (by rw [d1, d2]; simp only [decide_eq_false_iff_not, List.cons.injEq]; exact fun q => h q.1)
    · simp (disch := omega) [h]
      rw [show decide (la.drop i = lb.drop i) = decide (la.drop (i + 1) = lb.drop (i + 1)) from by
        rw [d1, d2, Bool.eq_iff_iff]; simp only [decide_eq_true_eq, List.cons.injEq]; exact ⟨fun q => q.2, fun q => ⟨Decidable.of_not_not h, q⟩⟩]
      simpa using hr
theorem K_weqIntS {a b : AV} {la lb : List Int} (ha : SeesZ H a la) (hb : SeesZ H b lb) : CallF Cd f_weqIntS [a, b] H K w = K (.b (decide (la = lb))) H := by
  rw [CallF_eq e_weqIntS rfl]
  simp [ha.1, hb.1]
  refine cnd_iff (fun h => ?_) (fun h => ?_)
  · simp
    have : la ≠ lb := fun e => h (by rw [e])
    simp [this]
  · have he : la.length = lb.length := by omega
    simp
    have := K_weqIntS_l (K := K) ha hb he (Q := ?_) ?_ ?_ la.length 0 (by omega)
    · simpa using this
    · intros; simp
    · intros; simp
theorem K_wszIntS {v : AV} {l : List Int} (h : SeesZ H v l) (hn : -1 ≤ n ∧ n ≤ 1048576) : CallF Cd f_wszIntS [v, .I n] H K w = K (.I (if n - l.length < 0 then -1 else n - l.length)) H := by
  have hbig := h.2.1
  rw [CallF_eq e_wszIntS rfl]
  simp (disch := omega) [h.1]
  refine cnd_iff (fun hn => ?_) (fun hn => ?_)
  · simp; exact Ki_fin (by rw [if_pos (by omega)])
  · simp; exact Ki_fin (by rw [if_neg (by omega)])

/-- A machine. -/
structure Mach where
  regs : List Int
  pc : Int
  mem : List Int
deriving DecidableEq
def SeesM (H : AH) (c : List AV) (m : Mach) : Prop := ∃ r e, c = [r, .I m.pc, e] ∧ SeesZ H r m.regs ∧ SeesZ H e m.mem ∧ r.flat = true ∧ e.flat = true
theorem SeesM.ext {H H' : AH} {c m} (h : SeesM H c m) (k : Ext H H') : SeesM H' c m := let ⟨r, e, h1, h2, h3, h4, h5⟩ := h; ⟨r, e, h1, h2.ext k, h3.ext k, h4, h5⟩
def validMach (m : Mach) : Bool := decide (m.regs.length = 32) && m.regs.all isW && decide (m.regs[0]? = some 0) && isW m.pc && decide (m.mem.length ≤ 10000) && m.mem.all isW
theorem K_iMachineValid {c : List AV} {m : Mach} (h : SeesM H c m) : CallF Cd f_iMachineValid [.agg c] H K w = K (.b (validMach m)) (H.push c) := by
  obtain ⟨r, e, rfl, hr, he, _, _⟩ := h
  have hr' := hr.ext (Ext.push H [r, .I m.pc, e])
  have he' := he.ext (Ext.push H [r, .I m.pc, e])
  obtain ⟨A, hA⟩ : ∃ A, A = m.regs.all isW := ⟨_, rfl⟩
  obtain ⟨B, hB⟩ : ∃ B, B = m.mem.all isW := ⟨_, rfl⟩
  have fin : validMach m = (decide (m.regs.length = 32) && A && decide (m.regs[0]? = some 0) && isW m.pc && decide (m.mem.length ≤ 10000) && B) := by rw [hA, hB]; rfl
  have a1 := fun (K : AV → AH → Prop) (w : Fk K) => K_iareWords (K := K) (w := w) hr'
  have a2 := fun (K : AV → AH → Prop) (w : Fk K) => K_iareWords (K := K) (w := w) he'
  rw [← hA] at a1; rw [← hB] at a2
  have hrl := hr.1
  have hel := he.1
  rw [fin, CallF_eq e_iMachineValid rfl]
  clear fin hA hB
  by_cases c1 : m.regs.length = 32
  · obtain ⟨b0, o0, s0, k0, l0⟩ := hr.at (i := 0) (by omega)
    have e0 : m.regs[0]? = some m.regs[0] := by simp
    have nb : ¬ b0 = H.n := by omega
    simp at l0
    rw [e0]
    generalize m.regs[0] = x0 at *
    clear hr he hr' he' e0
    simp [hrl, load_push, c1, a1, s0, nb, l0]
    repeat' (refine cnd_iff (fun h => ?_) (fun h => ?_) <;> try simp [*, load_push, K_iWordValid])
    all_goals (refine Kb_fin ?_; simp [*]; try omega)
  · simp [hrl, load_push, c1, a1]
    try (repeat' (refine cnd_iff (fun h => ?_) (fun h => ?_) <;> try simp [*, load_push]))
    all_goals (try omega)
theorem K_sMachineValid {c : List AV} {m : Mach} (h : SeesM H c m) : CallF Cd f_sMachineValid [.agg c] H K w = K (.b (validMach m)) (H.push c) := by
  obtain ⟨r, e, rfl, hr, he, _, _⟩ := h
  have hr' := hr.ext (Ext.push H [r, .I m.pc, e])
  have he' := he.ext (Ext.push H [r, .I m.pc, e])
  obtain ⟨A, hA⟩ : ∃ A, A = m.regs.all isW := ⟨_, rfl⟩
  obtain ⟨B, hB⟩ : ∃ B, B = m.mem.all isW := ⟨_, rfl⟩
  have fin : validMach m = (decide (m.regs.length = 32) && A && decide (m.regs[0]? = some 0) && isW m.pc && decide (m.mem.length ≤ 10000) && B) := by rw [hA, hB]; rfl
  have a1 := fun n (K : AV → AH → Prop) (w : Fk K) => K_sl4Words (n := n) (K := K) (w := w) hr'
  have a2 := fun n (K : AV → AH → Prop) (w : Fk K) => K_sl4Words (n := n) (K := K) (w := w) he'
  simp only [← hA] at a1; simp only [← hB] at a2
  have hrl := hr.1
  have hel := he.1
  rw [fin, CallF_eq e_sMachineValid rfl]
  clear fin hA hB
  by_cases c1 : m.regs.length = 32
  · obtain ⟨b0, o0, s0, k0, l0⟩ := hr.at (i := 0) (by omega)
    have e0 : m.regs[0]? = some m.regs[0] := by simp
    have nb : ¬ b0 = H.n := by omega
    simp at l0
    rw [e0]
    generalize m.regs[0] = x0 at *
    clear hr he hr' he' e0
    simp [hrl, load_push, c1, a1, s0, nb, l0]
    repeat' (refine cnd_iff (fun h => ?_) (fun h => ?_) <;> try simp [*, load_push, K_sWordValid])
    all_goals (refine Kb_fin ?_; simp [*]; try omega)
  · simp [hrl, load_push, c1, a1]
    try (repeat' (refine cnd_iff (fun h => ?_) (fun h => ?_) <;> try simp [*, load_push]))
    all_goals (try omega)
theorem push_put {H : AH} {cs cs' : List AV} : (H.push cs).put H.n (some ⟨cs', true⟩) = H.push cs' := by
  unfold AH.push AH.put; congr 1; funext c; by_cases h : c = H.n <;> simp [h]
theorem splice_at {A B : List AV} {x y : AV} : splice (A ++ x :: B) A.length [y] = A ++ y :: B := by
  simp [splice]
/-- The cells while the first i of l are copied. -/
def copied (l : List Int) (i : Nat) : List AV := Ints (l.take i) ++ List.replicate (l.length - i) (.I 0)
theorem copied_len {l : List Int} {i : Nat} (h : i ≤ l.length) : (copied l i).length = l.length := by simp [copied, Ints]; omega
theorem copied_step {l : List Int} {i : Nat} (h : i < l.length) : splice (copied l i) i [.I l[i]] = copied l (i + 1) := by
  have e1 : List.replicate (l.length - i) (AV.I 0) = AV.I 0 :: List.replicate (l.length - (i + 1)) (AV.I 0) := by
    rw [show l.length - i = (l.length - (i + 1)) + 1 by omega, List.replicate_succ]
  have e2 : (Ints (l.take i)).length = i := by simp [Ints]; omega
  have e3 : Ints (l.take (i + 1)) = Ints (l.take i) ++ [.I l[i]] := by
    rw [List.take_succ_eq_append_getElem h]; unfold Ints; rw [List.map_append]; rfl
  have := @splice_at (Ints (l.take i)) (List.replicate (l.length - (i + 1)) (AV.I 0)) (AV.I 0) (AV.I l[i])
  rw [e2] at this
  unfold copied
  rw [e1, this, e3]; simp
theorem K_wtoIntS_l {v : AV} {l : List Int} (h : SeesZ H v l) {Q : Out → Env → AH → Prop} (m i : Nat) (hm : i + m = l.length)
    (h1 : ∀ e, Q (.brk 0) ([(0, v), (3, .sl H.n 0 l.length (.ex l.length)), (4, .I l.length)] ++ e) (H.push (Ints l))) :
    W Cd (.loop c_wtoIntS_l0) [(0, v), (3, .sl H.n 0 l.length (.ex l.length)), (4, .I i)] (H.push (copied l i)) Q := by
  have hbig := h.2.1
  induction m generalizing i with
  | zero =>
    rw [W_loop_as c_wtoIntS_l0.eq_1]
    have hi : i = l.length := by omega
    have hc : copied l i = Ints l := by unfold copied; rw [List.take_of_length_le (by omega)]; simp [hi]
    subst hi
    rw [hc]
    simp [h.1]
    exact h1 [(11, .b false)]
  | succ m ih =>
    rw [W_loop_as c_wtoIntS_l0.eq_1]
    have hi : i < l.length := by omega
    obtain ⟨b, o, s1, k1, l1⟩ := h.at hi
    have hlt : (i : Int) < l.length := by omega
    have nb : ¬ b = H.n := by omega
    have hcl := copied_len (l := l) (i := i) (by omega)
    have hst : (H.push (copied l i)).store H.n i [.I l[i]] = some (H.push (copied l (i + 1))) := by
      simp only [AH.store, push_bk, if_true]
      rw [if_pos ⟨trivial, by simp [hcl]; omega⟩, push_put, copied_step hi]
    have hr := ih (i + 1) (by omega)
    simp (disch := omega) [hlt, h.1, s1, l1, load_push, nb, hst]
    simpa using hr
theorem K_wtoIntS {v : AV} {l : List Int} (h : SeesZ H v l) (k : K (.sl H.n 0 l.length (.ex l.length)) (H.push (Ints l))) : CallF Cd f_wtoIntS [v] H K w := by
  have hbig := h.2.1
  rw [CallF_eq e_wtoIntS rfl]
  simp (disch := omega) [h.1]
  have e0 : copied l 0 = List.replicate l.length (.I 0) := by simp [copied, Ints]
  rw [← e0]
  refine K_wtoIntS_l (i := 0) h l.length (by omega) (fun e => ?_)
  simp
  exact k
end
end Go.Proofs.YtdgmihohmkdpjaaDoor.AM
