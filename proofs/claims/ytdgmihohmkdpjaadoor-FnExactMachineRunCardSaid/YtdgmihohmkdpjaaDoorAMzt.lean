/-
  Machines are copied, marked and looked at once more. No condition.
-/
import Derived.Test.YtdgmihohmkdpjaaDoorAMzs
namespace Go.Proofs.YtdgmihohmkdpjaaDoor.AM
set_option linter.unusedSimpArgs false
set_option linter.unusedVariables false
set_option maxRecDepth 10000
open Go

def nums (k : Int) (n : Nat) : List Int := (List.range n).map fun (i : Nat) => k + i
theorem nums_len {k : Int} {n : Nat} : (nums k n).length = n := by simp [nums]
theorem nums_get {k : Int} {n i : Nat} (h : i < n) : (nums k n)[i]? = some (k + i) := by simp [nums, h]
def marked (k : Int) (l : List Int) (i : Nat) : List Int := (nums k l.length).take i ++ l.drop i
theorem marked_len {k : Int} {l : List Int} {i : Nat} (h : i ≤ l.length) : (marked k l i).length = l.length := by simp [marked, nums_len]; omega
theorem marked_zero {k : Int} {l : List Int} : marked k l 0 = l := by simp [marked]
theorem marked_end {k : Int} {l : List Int} : marked k l l.length = nums k l.length := by
  unfold marked; rw [List.take_of_length_le (by rw [nums_len]; omega), List.drop_eq_nil_of_le (by omega), List.append_nil]
theorem marked_set {k : Int} {l : List Int} {i : Nat} (h : i < l.length) : (marked k l i).set i (k + i) = marked k l (i + 1) := by
  unfold marked
  have e1 : ((nums k l.length).take i).length = i := by rw [List.length_take, nums_len]; omega
  rw [List.set_append_right _ _ (by omega), e1, Nat.sub_self, List.drop_eq_getElem_cons h, List.set_cons_zero]
  have e2 : (nums k l.length).take (i + 1) = (nums k l.length).take i ++ [k + i] := by
    rw [List.take_add_one, nums_get h]; rfl
  rw [e2, List.append_assoc]; rfl
section
variable {H : AH} {K : AV → AH → Prop} {w : Fk K} {m : Mach} {c : List AV}
theorem K_wmarkIntS_l {b len : Nat} {cap : ACap} {l : List Int} {k : Int} (hl : l.length ≤ 8589934592) (hk : 0 ≤ k ∧ k ≤ 1099511627776) (hlen : len = l.length) {Q : Out → Env → AH → Prop} (n i : Nat) (hn : i + n = l.length) {G : AH} (hG : G.bk b = some ⟨Ints (marked k l i), true⟩) (hO : Only [b] H G)
    (h1 : ∀ G', G'.bk b = some ⟨Ints (nums k l.length), true⟩ → Only [b] H G' → Q (.brk 0) [(0, .sl b 0 len cap), (1, .I (k + len)), (5, .I len), (9, .b false)] G') :
    W Cd (.loop c_wmarkIntS_l0) [(0, .sl b 0 len cap), (1, .I (k + i)), (5, .I i)] G Q := by
  subst hlen
  induction n generalizing i G with
  | zero =>
    rw [W_loop_as c_wmarkIntS_l0.eq_1]
    have hi : i = l.length := by omega
    subst hi
    rw [marked_end] at hG
    simp
    exact h1 G hG hO
  | succ n ih =>
    rw [W_loop_as c_wmarkIntS_l0.eq_1]
    have hi : i < l.length := by omega
    have hlt : (i : Int) < l.length := by omega
    have hml := marked_len (k := k) (l := l) (i := i) (by omega)
    have st := store_bk (o := i) (vs := [.I (k + i)]) hG (by rw [Ints_len, hml]; simp; omega)
    rw [Ints_set (by omega), marked_set hi] at st
    have hr := ih (i + 1) (by omega) (G := G.put b (some ⟨Ints (marked k l (i + 1)), true⟩)) put_same (hO.put (by simp))
    simp (disch := omega) [hlt, st]
    rw [show k + (i : Int) + 1 = k + ((i + 1 : Nat) : Int) by omega]
    simpa using hr
theorem K_wmarkIntS {v : AV} {b : Nat} {l : List Int} {k : Int} (h : Own H v b l) (hk : 0 ≤ k ∧ k ≤ 1099511627776)
    (h1 : ∀ H' bs, Own H' v b (nums k l.length) → Only bs H H' → (∀ x ∈ bs, x = b ∧ v ≠ .nils) → K (.I (k + l.length)) H') : CallF Cd f_wmarkIntS [v, .I k] H K w := by
  rw [CallF_eq e_wmarkIntS rfl]
  obtain ⟨hl, ⟨rfl, rfl⟩ | ⟨c, rfl, hb, hn⟩⟩ := h
  · simp
    rw [W_loop_as c_wmarkIntS_l0.eq_1]
    simp
    have := h1 H [] ⟨by simp [nums], .inl ⟨rfl, rfl⟩⟩ Only.refl (by simp)
    simpa using this
  · simp
    have := K_wmarkIntS_l (H := H) (b := b) (cap := c) (l := l) (k := k) (len := l.length) hl hk rfl (Q := blockK 0 (seqK Cd (.keep [1]) (seqK Cd (((AC.ops [o1 18 (.mv (.t 1)), o1 4 (.mv (.t 18))]).seq (.keep [4])).seq .ret) (retK [.t 4] K)))) l.length 0 (by omega) (G := H) (by rw [marked_zero]; exact hb) Only.refl (fun G' q1 q2 => by
      simp
      exact h1 G' [b] ⟨by rw [nums_len]; exact hl, .inr ⟨c, by rw [nums_len], q1, Nat.lt_of_lt_of_le hn q2.1⟩⟩ q2 (by simp))
    simpa using this
theorem K_wheldIntS_l {v : AV} {l : List Int} {k : Int} (h : SeesZ H v (nums k l.length)) (hk : 0 ≤ k ∧ k ≤ 1099511627776) {Q : Out → Env → AH → Prop} (n i : Nat) (hn : i + n = l.length)
    (h1 : ∀ e, Q (.brk 0) ([(0, v), (1, .I (k + l.length))] ++ e) H) :
    W Cd (.loop c_wheldIntS_l0) [(0, v), (1, .I (k + i)), (5, .I i)] H Q := by
  have hl := h.2.1
  have al := h.1
  rw [nums_len] at hl al
  induction n generalizing i with
  | zero =>
    rw [W_loop_as c_wheldIntS_l0.eq_1]
    have hi : i = l.length := by omega
    subst hi
    simp [al]
    exact h1 [(5, .I l.length), (9, .b false)]
  | succ n ih =>
    rw [W_loop_as c_wheldIntS_l0.eq_1]
    have hi : i < l.length := by omega
    have hlt : (i : Int) < l.length := by omega
    obtain ⟨b, o, s1, _, l1⟩ := h.at (i := i) (by rw [nums_len]; exact hi)
    rw [nums_len] at s1
    have hx : (nums k l.length)[i]'(by rw [nums_len]; exact hi) = k + i := by simp [nums]
    rw [hx] at l1
    have hr := ih (i + 1) (by omega)
    simp (disch := omega) [hlt, al, s1, l1]
    rw [show k + (i : Int) + 1 = k + ((i + 1 : Nat) : Int) by omega]
    simpa using hr
theorem K_wheldIntS {v : AV} {l : List Int} {k : Int} (h : SeesZ H v (nums k l.length)) (hk : 0 ≤ k ∧ k ≤ 1099511627776) (h1 : K (.I (k + l.length)) H) : CallF Cd f_wheldIntS [v, .I k] H K w := by
  rw [CallF_eq e_wheldIntS rfl]
  simp
  have := K_wheldIntS_l h hk (Q := blockK 0 (seqK Cd (.keep [1]) (seqK Cd (((AC.ops [o1 20 (.mv (.t 1)), o1 4 (.mv (.t 20))]).seq (.keep [4])).seq .ret) (retK [.t 4] K)))) l.length 0 (by omega) (fun e => by simp; exact h1)
  simpa using this
/-- A machine of marks. -/
def marksM (m : Mach) (k : Int) : Mach := ⟨nums k m.regs.length, m.pc, nums (k + m.regs.length) m.mem.length⟩
theorem Own.lt {v : AV} {b : Nat} {l : List Int} (h : Own H v b l) : (v = .nils ∧ l = []) ∨ b < H.n := by
  obtain ⟨_, h | ⟨_, _, _, h⟩⟩ := h
  · exact .inl h
  · exact .inr h
theorem Own.in {v : AV} {b : Nat} {l : List Int} (h : Own H v b l) (k : v ≠ .nils) : b < H.n := by
  obtain ⟨_, ⟨h, _⟩ | ⟨_, _, _, h⟩⟩ := h
  · exact absurd h k
  · exact h
theorem K_wmarkMachine {base rb mb : Nat} {k : Int} {H0 : AH} {m0 : Mach} (h : OwnM base H c rb mb m) (h0 : OwnM base H0 c rb mb m0) (hk : 0 ≤ k ∧ k ≤ 1000)
    (h1 : ∀ H' bs, OwnM base H' c rb mb (marksM m k) → Only bs H H' → (∀ x ∈ bs, base ≤ x ∧ x < H0.n) → K (.I (k + m.regs.length + m.mem.length)) H') : CallF Cd f_wmarkMachine [.agg c, .I k] H K w := by
  obtain ⟨r, e, rfl, hr, he, b1, b2, b3⟩ := h
  rw [CallF_eq e_wmarkMachine rfl]
  have rl := hr.1
  have el := he.1
  have xp := Ext.push H [r, .I m.pc, e]
  simp [load_push]
  refine K_wmarkIntS (hr.ext xp) (by omega) fun H1 bs1 o1 x1 hb1 => ?_
  have z1 : H.n ∉ bs1 := fun hm => by have := hb1 _ hm; have := hr.in this.2; omega
  have q1 : H1.bk H.n = some ⟨[r, .I m.pc, e], true⟩ := x1.bk (Nat.lt_succ_self _) z1 push_new
  have e1 : Own H1 e mb m.mem := (he.ext xp).only x1 (fun hm => b3 (hb1 _ hm).1.symm)
  simp [load_bk q1]
  refine K_wmarkIntS e1 (by omega) fun H2 bs2 o2 x2 hb2 => ?_
  have r2 : Own H2 r rb (nums k m.regs.length) := o1.only x2 (fun hm => b3 (hb2 _ hm).1)
  simp
  refine h1 H2 (bs1 ++ bs2) ⟨r, e, rfl, r2, o2, b1, b2, b3⟩ ?_ (fun x hx => ?_)
  · refine (xp.only (bs := bs1 ++ bs2)).trans (Only.trans (b := H1) ⟨x1.1, fun b hb hr => x1.2 b hb (fun hm => hr (List.mem_append_left _ hm))⟩ ⟨x2.1, fun b hb hr => x2.2 b hb (fun hm => hr (List.mem_append_right _ hm))⟩)
  · obtain ⟨r', e', hc', p1, p2, _⟩ := h0
    simp only [List.cons.injEq, and_true] at hc'
    obtain ⟨rfl, _, rfl⟩ := hc'
    rcases List.mem_append.1 hx with hx | hx
    · rw [(hb1 _ hx).1]; exact ⟨b1, p1.in (hb1 _ hx).2⟩
    · rw [(hb2 _ hx).1]; exact ⟨b2, p2.in (hb2 _ hx).2⟩
theorem K_wheldMachine {k : Int} (h : SeesM H c (marksM m k)) (hk : 0 ≤ k ∧ k ≤ 1000) (hl : m.regs.length ≤ 8589934592 ∧ m.mem.length ≤ 8589934592) (h1 : K (.I (k + m.regs.length + m.mem.length)) (H.push c)) : CallF Cd f_wheldMachine [.agg c, .I k] H K w := by
  obtain ⟨r, e, hc, hr, he, _, _⟩ := h
  rw [CallF_eq e_wheldMachine rfl]
  have hc' : c = [r, .I m.pc, e] := hc
  subst hc'
  have hr' := hr.ext (Ext.push H [r, .I m.pc, e])
  have he' := he.ext (Ext.push H [r, .I m.pc, e])
  simp [load_push]
  refine K_wheldIntS (l := m.regs) hr' (by omega) ?_
  have q1 : ¬ k + (m.regs.length : Int) < 0 := by omega
  simp [q1, load_push]
  refine K_wheldIntS (l := m.mem) he' (by omega) ?_
  have q2 : ¬ k + (m.regs.length : Int) + (m.mem.length : Int) < 0 := by omega
  simp [q2]
  exact h1
theorem K_wtoMachine' (h : SeesM H c m) (k : ∀ c' rb mb H', OwnM H.n H' c' rb mb m → Ext H H' → K (.agg c') H') : CallF Cd f_wtoMachine [.agg c] H K w := by
  obtain ⟨r, e, rfl, hr, he, _, _⟩ := h
  have x1 : Ext H (((H.push [r, .I m.pc, e]).push [.nils, .I 0, .nils]).push [.nils, .I 0, .nils]) := (Ext.push _ _).trans ((Ext.push _ _).trans (Ext.push _ _))
  rw [CallF_eq e_wtoMachine rfl]
  simp [load_push]
  refine K_wtoIntS (hr.ext x1) ?_
  simp [load_push, load_put, AH.store]
  refine K_wtoIntS (he.ext ?_) ?_
  · repeat' first | exact Ext.refl _ | apply Ext.to_push | omega | (simp only [push_n, put_n]; omega) | refine Ext.put ?_ ?_
  simp [load_push, load_put, loadN_push, loadN_put, AH.store]
  refine k _ (H.n + 1 + 1 + 1) (H.n + 1 + 1 + 1 + 1) _ ⟨_, _, rfl, ⟨hr.2.1, .inr ⟨_, rfl, ?_, ?_⟩⟩, ⟨he.2.1, .inr ⟨_, rfl, ?_, ?_⟩⟩, by omega, by omega, by omega⟩ ?_
  · simp
  · simp only [push_n, put_n]; omega
  · simp
  · simp only [push_n, put_n]; omega
  · repeat' first | exact Ext.refl _ | apply Ext.to_push | omega | (simp only [push_n, put_n]; omega) | refine Ext.put ?_ ?_
end
end Go.Proofs.YtdgmihohmkdpjaaDoor.AM
