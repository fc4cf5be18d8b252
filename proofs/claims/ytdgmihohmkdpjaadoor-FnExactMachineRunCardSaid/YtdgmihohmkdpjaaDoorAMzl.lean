/-
  Machines are copied; a step of a machine, as both functions give it. No condition.
-/
import Derived.Test.YtdgmihohmkdpjaaDoorAMzk
namespace Go.Proofs.YtdgmihohmkdpjaaDoor.AM
set_option linter.unusedSimpArgs false
set_option linter.unusedVariables false
set_option maxRecDepth 10000
open Go

/-- A machine in its own blocks. -/
def OwnM (base : Nat) (H : AH) (c : List AV) (rb mb : Nat) (m : Mach) : Prop := ∃ r e, c = [r, .I m.pc, e] ∧ Own H r rb m.regs ∧ Own H e mb m.mem ∧ base ≤ rb ∧ base ≤ mb ∧ rb ≠ mb
theorem OwnM.src {base H c rb mb m} (h : OwnM base H c rb mb m) : SrcM H c m := let ⟨r, e, h1, h2, h3, _⟩ := h; ⟨r, e, h1, h2.src, h3.src⟩
theorem OwnM.ext {base H H' c rb mb m} (h : OwnM base H c rb mb m) (k : Ext H H') : OwnM base H' c rb mb m := let ⟨r, e, h1, h2, h3, h4⟩ := h; ⟨r, e, h1, h2.ext k, h3.ext k, h4⟩
theorem app_new {H : AH} {b : Nat} {l : List Int} (hb : H.bk b = some ⟨[], true⟩) (hbn : b < H.n) (hl : l.length ≤ 8589934592) : ∃ v H', aapp H 1 (.sl b 0 0 (.ex 0)) l.length (Ints l) = some (v, H') ∧ Ext H H' ∧ ∃ b', Own H' v b' l ∧ (b' = b ∨ b' = H.n) := by
  by_cases h0 : l.length = 0
  · have : l = [] := List.eq_nil_of_length_eq_zero h0
    subst this
    exact ⟨.sl b 0 0 (.ex 0), H, by simp [aapp], Ext.refl _, b, ⟨by simp, .inr ⟨.ex 0, rfl, hb, hbn⟩⟩, .inl rfl⟩
  · refine ⟨.sl H.n 0 l.length (.lb l.length 1), H.push (Ints l), ?_, Ext.push _ _, H.n, ⟨hl, .inr ⟨_, rfl, push_new, Nat.lt_succ_self _⟩⟩, .inr rfl⟩
    unfold aapp
    simp only [if_neg h0, Nat.zero_add, Nat.zero_mul]
    rw [if_neg (show ¬ big < l.length by unfold big; omega)]
    have hs : H.loadN b 0 0 = some [] := by rw [loadN_bk hb]; rfl
    simp only [hs, List.nil_append]
    rw [if_neg (by omega)]
section
variable {H : AH} {K : AV → AH → Prop} {w : Fk K} {m : Mach}
theorem K_clone {v : AV} {l : List Int} (h : Src H v l) (k : ∀ v' b H', Own H' v' b l → Ext H H' → H.n ≤ b → v'.flat = true → K v' H') : CallF Cd f_slices_Clone_int_int [v] H K w := by
  rw [CallF_eq e_slices_Clone_int_int rfl]
  have e1 := (h.ext (Ext.push H [])).elems
  have e2 := h.sees.1
  obtain ⟨h0, ⟨rfl, rfl⟩ | h'⟩ := h
  · simp
    exact k _ H.n _ ⟨h0, .inl ⟨rfl, rfl⟩⟩ (Ext.refl _) (Nat.le_refl _) rfl
  · obtain ⟨v', H', a1, a2, b, a3, a4⟩ := app_new (l := l) (push_new (H := H) (cs := [])) (Nat.lt_succ_self _) h0
    have hb : H.n ≤ b := by rcases a4 with rfl | rfl <;> simp
    have a5 := a3.flat
    rcases h' with ⟨rfl, rfl⟩ | ⟨b1, o1, c1, rfl, _⟩
    · simp only [List.length_nil] at a1
      simp [-AM.elems, e1, e2, a1]
      exact k _ b _ a3 ((Ext.push _ _).trans a2) hb a5
    · simp [-AM.elems, e1, e2, a1]
      exact k _ b _ a3 ((Ext.push _ _).trans a2) hb a5
theorem K_imachineCopy {c : List AV} (h : SrcM H c m) (k : ∀ c' rb mb H', OwnM H.n H' c' rb mb m → Ext H H' → K (.agg c') H') : CallF Cd f_imachineCopy [.agg c] H K w := by
  obtain ⟨r, e, rfl, hr, he⟩ := h
  rw [CallF_eq e_imachineCopy rfl]
  simp [load_push]
  have x1 : Ext H ((H.push [r, .I m.pc, e]).push [.nils, .I 0, .nils]) := of_eq_true ext_pp
  refine K_clone (hr.ext x1) fun v1 b1 H1 o1 x2 hb1 f1 => ?_
  have q1 : H1.bk H.n = some ⟨[r, .I m.pc, e], true⟩ := (x2.2 H.n (by simp; omega)).trans (push_old (Nat.lt_succ_self _) push_new)
  have q2 : H1.bk (H.n + 1) = some ⟨[.nils, .I 0, .nils], true⟩ := (x2.2 (H.n + 1) (by simp)).trans push_new
  have n1 := x2.1
  simp only [push_n] at n1 hb1
  simp [x2, load_bk q1]
  refine K_clone (he.ext (x1.trans x2)) fun v2 b2 H2 o2 x3 hb2 f2 => ?_
  have n2 := x3.1
  have q2' := (x3.2 (H.n + 1) (by omega)).trans q2
  have hbn : v1 = .nils ∧ m.regs = [] ∨ b1 < H1.n := by
    obtain ⟨_, h | ⟨_, _, _, h⟩⟩ := o1
    · exact .inl h
    · exact .inr h
  have st := store_bk (o := 0) (vs := [v1, .I m.pc, v2]) q2' (by simp)
  simp [x3, flat_cells f1, flat_tup f1, flat_cells f2, flat_tup f2, st, loadN_bk put_same]
  have px : Only [H.n + 1] H2 (H2.put (H.n + 1) (some ⟨[v1, .I m.pc, v2], true⟩)) := Only.refl.put (.inr (by simp))
  have ex : Ext H (H2.put (H.n + 1) (some ⟨[v1, .I m.pc, v2], true⟩)) := ((x1.trans x2).trans x3).put (by omega)
  rcases hbn with ⟨rfl, hn⟩ | hb1'
  · exact k _ (b2 + 1) b2 _ ⟨_, _, rfl, ⟨by rw [hn]; simp, .inl ⟨rfl, hn⟩⟩, o2.only px (by simp; omega), by omega, by omega, by omega⟩ ex
  · exact k _ b1 b2 _ ⟨_, _, rfl, (o1.ext x3).only px (by simp; omega), o2.only px (by simp; omega), by omega, by omega, by omega⟩ ex
theorem K_sl44Copy {c : List AV} (h : SrcM H c m) (k : ∀ c' rb mb H', OwnM H.n H' c' rb mb m → Ext H H' → K (.agg c') H') : CallF Cd f_sl44Copy [.agg c] H K w := by
  obtain ⟨r, e, rfl, hr, he⟩ := h
  rw [CallF_eq e_sl44Copy rfl]
  have x1 : Ext H (((H.push [r, .I m.pc, e]).push [.nils, .I 0, .nils]).push []) := (of_eq_true ext_pp).trans (Ext.push _ _)
  obtain ⟨v1, H1, a1, x2, b1, o1, hb1⟩ := app_new (l := m.regs) (push_new (H := (H.push [r, .I m.pc, e]).push [.nils, .I 0, .nils]) (cs := [])) (Nat.lt_succ_self _) hr.1
  have f1 := o1.flat
  have el1 := (hr.ext x1).elems
  have q1 : H1.bk H.n = some ⟨[r, .I m.pc, e], true⟩ := (x2.2 H.n (by simp; omega)).trans (push_old (by simp; omega) (push_old (Nat.lt_succ_self _) push_new))
  have q2 : H1.bk (H.n + 1) = some ⟨[.nils, .I 0, .nils], true⟩ := (x2.2 (H.n + 1) (by simp)).trans (push_old (by simp) push_new)
  have n1 := x2.1
  simp only [push_n] at n1 hb1
  obtain ⟨v2, H2, a2, x3, b2, o2, hb2⟩ := app_new (l := m.mem) (push_new (H := H1) (cs := [])) (Nat.lt_succ_self _) he.1
  have f2 := o2.flat
  have el2 := (he.ext ((x1.trans x2).trans (Ext.push H1 []))).elems
  have n2 := x3.1
  simp only [push_n] at n2 hb2
  have x4 : Ext H1 H2 := (Ext.push _ _).trans x3
  have q2' := (x4.2 (H.n + 1) (by omega)).trans q2
  have hbn : v1 = .nils ∧ m.regs = [] ∨ b1 < H1.n := by
    obtain ⟨_, h | ⟨_, _, _, h⟩⟩ := o1
    · exact .inl h
    · exact .inr h
  have st := store_bk (o := 0) (vs := [v1, .I m.pc, v2]) q2' (by simp)
  have s1 := hr.sees.1
  have s2 := he.sees.1
  simp only [push_n] at a1
  have nh : ¬ H.n = H1.n := by omega
  simp [-AM.elems, load_push, nh, s1, el1, a1, x2, load_bk q1, s2, el2, a2, x3, flat_cells f1, flat_tup f1, flat_cells f2, flat_tup f2, st, loadN_bk put_same]
  have px : Only [H.n + 1] H2 (H2.put (H.n + 1) (some ⟨[v1, .I m.pc, v2], true⟩)) := Only.refl.put (.inr (by simp))
  have ex : Ext H (H2.put (H.n + 1) (some ⟨[v1, .I m.pc, v2], true⟩)) := ((x1.trans x2).trans x4).put (by omega)
  rcases hbn with ⟨rfl, hn⟩ | hb1'
  · exact k _ (b2 + 1) b2 _ ⟨_, _, rfl, ⟨by rw [hn]; simp, .inl ⟨rfl, hn⟩⟩, o2.only px (by simp; omega), by omega, by omega, by omega⟩ ex
  · exact k _ b1 b2 _ ⟨_, _, rfl, (o1.ext x4).only px (by simp; omega), o2.only px (by simp; omega), by omega, by omega, by omega⟩ ex
end
end Go.Proofs.YtdgmihohmkdpjaaDoor.AM
