/-
  Machines are copied and compared; the law FnExactMachineValid. No condition.
-/
import Derived.Test.YtdgmihohmkdpjaaDoorAMv
namespace Go.Proofs.YtdgmihohmkdpjaaDoor.AM
set_option linter.unusedSimpArgs false
set_option linter.unusedVariables false
open Go

theorem nf2 {a : Nat} : (a = a + 1 + 1) = False := eq_false (by omega)
theorem ng2 {a : Nat} : (a + 1 + 1 = a) = False := eq_false (by omega)
theorem nf3 {a : Nat} : (a = a + 1 + 1 + 1) = False := eq_false (by omega)
theorem ng3 {a : Nat} : (a + 1 + 1 + 1 = a) = False := eq_false (by omega)
theorem nf4 {a : Nat} : (a = a + 1 + 1 + 1 + 1) = False := eq_false (by omega)
theorem ng4 {a : Nat} : (a + 1 + 1 + 1 + 1 = a) = False := eq_false (by omega)
theorem nf5 {a : Nat} : (a = a + 1 + 1 + 1 + 1 + 1) = False := eq_false (by omega)
theorem ng5 {a : Nat} : (a + 1 + 1 + 1 + 1 + 1 = a) = False := eq_false (by omega)
theorem nf6 {a : Nat} : (a = a + 1 + 1 + 1 + 1 + 1 + 1) = False := eq_false (by omega)
theorem ng6 {a : Nat} : (a + 1 + 1 + 1 + 1 + 1 + 1 = a) = False := eq_false (by omega)
theorem nf7 {a : Nat} : (a = a + 1 + 1 + 1 + 1 + 1 + 1 + 1) = False := eq_false (by omega)
theorem ng7 {a : Nat} : (a + 1 + 1 + 1 + 1 + 1 + 1 + 1 = a) = False := eq_false (by omega)
attribute [simp] nf2 ng2 nf3 ng3 nf4 ng4 nf5 ng5 nf6 ng6 nf7 ng7

section
variable {H : AH} {K : AV → AH → Prop} {n : Int} {w : Fk K}
theorem SeesZ.new {H : AH} {l : List Int} {cap : ACap} (hl : l.length ≤ 8589934592) : SeesZ (H.push (Ints l)) (.sl H.n 0 l.length cap) l :=
  ⟨rfl, hl, fun i x hx => ⟨H.n, 0, rfl, Nat.lt_succ_self _, by rw [load_push, if_pos rfl, Nat.zero_add]; simp [Ints, hx]⟩⟩
theorem SeesZ.of {H : AH} {l : List Int} {cap : ACap} {b : Nat} {q : Bool} (hl : l.length ≤ 8589934592) (hb : b < H.n) (h : H.bk b = some ⟨Ints l, q⟩) : SeesZ H (.sl b 0 l.length cap) l :=
  ⟨rfl, hl, fun i x hx => ⟨b, 0, rfl, hb, by unfold AH.load; rw [h, Nat.zero_add]; simp [Ints, hx]⟩⟩
theorem Ext.put {H G : AH} {b : Nat} {o : Option Blk} (h : Ext H G) (hb : H.n ≤ b) : Ext H (G.put b o) := ⟨h.1, fun x hx => by simp only [put_bk]; rw [if_neg (by omega)]; exact h.2 x hx⟩
theorem Ext.to_push {H G : AH} {cs} (h : Ext H G) : Ext H (G.push cs) := h.trans (Ext.push _ _)
theorem K_wtoMachine {c : List AV} {m : Mach} (h : SeesM H c m) (k : ∀ c' H', SeesM H' c' m → Ext H H' → K (.agg c') H') : CallF Cd f_wtoMachine [.agg c] H K w := by
  obtain ⟨r, e, rfl, hr, he, _, _⟩ := h
  have x1 : Ext H (((H.push [r, .I m.pc, e]).push [.nils, .I 0, .nils]).push [.nils, .I 0, .nils]) := (Ext.push _ _).trans ((Ext.push _ _).trans (Ext.push _ _))
  rw [CallF_eq e_wtoMachine rfl]
  simp [load_push]
  refine K_wtoIntS (hr.ext x1) ?_
  simp [load_push, load_put, AH.store]
  refine K_wtoIntS (he.ext ?_) ?_
  · repeat' first | exact Ext.refl _ | apply Ext.to_push | omega | (simp only [push_n, put_n]; omega) | refine Ext.put ?_ ?_
  simp [load_push, load_put, loadN_push, loadN_put, AH.store]
  refine k _ _ ⟨_, _, rfl, SeesZ.of (q := true) hr.2.1 ?_ ?_, SeesZ.of (q := true) he.2.1 ?_ ?_, rfl, rfl⟩ ?_
  · simp only [push_n, put_n]; omega
  · simp
  · simp only [push_n, put_n]; omega
  · simp
  · repeat' first | exact Ext.refl _ | apply Ext.to_push | omega | (simp only [push_n, put_n]; omega) | refine Ext.put ?_ ?_
theorem K_weqMachine {c c' : List AV} {m m' : Mach} (h : SeesM H c m) (h' : SeesM H c' m') : CallF Cd f_weqMachine [.agg c, .agg c'] H K w = K (.b (decide (m = m'))) ((H.push c).push c') := by
  obtain ⟨r, e, rfl, hr, he, _, _⟩ := h
  obtain ⟨r', e', rfl, hr', he', _, _⟩ := h'
  have x1 : Ext H ((H.push [r, .I m.pc, e]).push [r', .I m'.pc, e']) := of_eq_true ext_pp
  have a1 := fun (K : AV → AH → Prop) (w : Fk K) => K_weqIntS (K := K) (w := w) (hr.ext x1) (hr'.ext x1)
  have a2 := fun (K : AV → AH → Prop) (w : Fk K) => K_weqIntS (K := K) (w := w) (he.ext x1) (he'.ext x1)
  rw [CallF_eq e_weqMachine rfl]
  simp [load_push, a1]
  repeat' (refine cnd_iff (fun h => ?_) (fun h => ?_) <;> try simp (disch := omega) [*, load_push, a2])
  all_goals refine Kb_fin ?_
  all_goals (cases m; cases m'; simp_all)
theorem K_wszIntS' {v : AV} {k : Nat} (h : alen v = some k) (hk : k ≤ 9223372036854775807) (hn : -1 ≤ n ∧ n ≤ 1048576) : CallF Cd f_wszIntS [v, .I n] H K w = K (.I (if n - k < 0 then -1 else n - k)) H := by
  rw [CallF_eq e_wszIntS rfl]
  simp (disch := omega) [h]
  refine cnd_iff (fun hn => ?_) (fun hn => ?_)
  · simp; exact Ki_fin (by rw [if_pos (by omega)])
  · simp; exact Ki_fin (by rw [if_neg (by omega)])
/-- What the machine of the law's argument reads as; its lengths have no bound yet. -/
def ArgZ (H : AH) (v : AV) (l : List Int) : Prop := alen v = some l.length ∧ l.length ≤ 9223372036854775807 ∧ v.flat = true ∧
  ∀ (i : Nat) x, l[i]? = some x → ∃ b o, asSl v = some (b, o, l.length) ∧ b < H.n ∧ H.load b (o + i) = some (.I x)
theorem ArgZ.sees {v l} (h : ArgZ H v l) (k : l.length ≤ 8589934592) : SeesZ H v l := ⟨h.1, k, h.2.2.2⟩
theorem K_wszMachine {r e : AV} {pc : Int} {k1 k2 : Nat} (h1 : alen r = some k1) (hk1 : k1 ≤ 9223372036854775807) (h2 : alen e = some k2) (hk2 : k2 ≤ 9223372036854775807)
    (k : ∀ x : Int, (0 ≤ x → k1 ≤ 1048576 ∧ k2 ≤ 1048576) → K (.I x) (H.push [r, .I pc, e])) : CallF Cd f_wszMachine [.agg [r, .I pc, e], .I 1048576] H K w := by
  rw [CallF_eq e_wszMachine rfl]
  simp (disch := omega) [load_push, K_wszIntS' h1 hk1]
  refine cnd_mk (fun h => ?_) (fun h => ?_)
  · simp
    exact k _ (by omega)
  · have hq : ¬ (1048576 : Int) - k1 < 0 := by split at h <;> omega
    simp only [hq, if_false] at h ⊢
    simp (disch := omega) [load_push, K_wszIntS' h2 hk2]
    refine cnd_mk (fun h' => ?_) (fun h' => ?_)
    · simp; exact k _ (by omega)
    · have hq' : ¬ (1048576 : Int) - k1 - k2 < 0 := by split at h' <;> omega
      simp
      exact k _ (by split <;> omega)
end
end Go.Proofs.YtdgmihohmkdpjaaDoor.AM
