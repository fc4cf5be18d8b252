/-
  A step of a machine: the model, and the machine in memory. No condition.
-/
import Derived.Test.YtdgmihohmkdpjaaDoorAMzh
namespace Go.Proofs.YtdgmihohmkdpjaaDoor.AM
set_option linter.unusedSimpArgs false
set_option linter.unusedVariables false
set_option maxRecDepth 10000
open Go

def regM (m : Mach) (j : Int) : Int := m.regs.getD j.toNat 0
def wordOk (m : Mach) (a : Int) : Bool := decide (0 ≤ a ∧ a % 4 = 0 ∧ a / 4 < m.mem.length)
def wordAt (m : Mach) (a : Int) : Int := m.mem.getD (a / 4).toNat 0
def setR (l : List Int) (rd x : Int) : List Int := if rd = 0 then l else l.set rd.toNat x
/-- What an instruction puts into its register. -/
def valM (m : Mach) (i : Ins) : Int :=
  if i.op = 12 then wrapM (regM m i.rs + i.imm)
  else if i.op = 13 then (if unsM (regM m i.rs) < unsM i.imm then 1 else 0)
  else if i.op = 14 then wordAt m (wrapM (regM m i.rs + i.imm))
  else if i.op = 15 ∨ i.op = 20 then wrapM (m.pc + 4)
  else if i.op = 19 then wrapM (i.imm * 4096)
  else applyM (mops.getD (i.op - 1).toNat 0) (regM m i.rs) (regM m i.rt)
/-- Where it goes on. -/
def pcM (m : Mach) (i : Ins) : Int :=
  if i.op = 15 then wrapM (regM m i.rs + i.imm) - wrapM (regM m i.rs + i.imm) % 2
  else if i.op = 17 ∨ i.op = 18 then (if (decide (regM m i.rs = regM m i.rt) == decide (i.op = 17)) = true then wrapM (m.pc + i.imm) else wrapM (m.pc + 4))
  else if i.op = 20 then wrapM (m.pc + i.imm)
  else wrapM (m.pc + 4)
def doM (m : Mach) (i : Ins) : Mach × Int :=
  if i.op = 21 then (m, 2)
  else if (i.op = 14 ∨ i.op = 16) ∧ wordOk m (wrapM (regM m i.rs + i.imm)) = false then (m, 3)
  else (⟨if i.op = 16 ∨ i.op = 17 ∨ i.op = 18 then m.regs else setR m.regs i.rd (valM m i), pcM m i,
    if i.op = 16 then m.mem.set (wrapM (regM m i.rs + i.imm) / 4).toNat (regM m i.rt) else m.mem⟩, 1)
def stepM (m : Mach) : Mach × Int :=
  if wordOk m m.pc = true ∧ okM (unsM (wordAt m m.pc)) = true then doM m (decI (unsM (wordAt m m.pc))) else (m, 3)

/-- A slice of integers in its own block b. -/
def Own (H : AH) (v : AV) (b : Nat) (l : List Int) : Prop := l.length ≤ 8589934592 ∧ ((v = .nils ∧ l = []) ∨ ∃ c, v = .sl b 0 l.length c ∧ H.bk b = some ⟨Ints l, true⟩ ∧ b < H.n)
theorem Own.only {H H' : AH} {v b l bs} (h : Own H v b l) (k : Only bs H H') (hb : b ∉ bs) : Own H' v b l := by
  obtain ⟨h0, h | ⟨c, rfl, h1, h2⟩⟩ := h
  · exact ⟨h0, .inl h⟩
  · exact ⟨h0, .inr ⟨c, rfl, k.bk h2 hb h1, Nat.lt_of_lt_of_le h2 k.1⟩⟩
theorem Ext.only {H H' bs} (h : Ext H H') : Only bs H H' := ⟨h.1, fun b hb _ => h.2 b hb⟩
theorem Own.ext {H H' : AH} {v b l} (h : Own H v b l) (k : Ext H H') : Own H' v b l := h.only (bs := []) k.only (by simp)
theorem Own.src {H : AH} {v b l} (h : Own H v b l) : Src H v l := by
  obtain ⟨h0, ⟨rfl, rfl⟩ | ⟨c, rfl, h1, h2⟩⟩ := h
  · exact ⟨h0, .inl ⟨rfl, rfl⟩⟩
  · refine ⟨h0, .inr (.inr ⟨b, 0, c, rfl, h2, ?_⟩)⟩
    rw [loadN_bk h1]; have := @seg_all l; simpa using this
theorem Own.flat {H : AH} {v b l} (h : Own H v b l) : v.flat = true := h.src.flat
theorem Own.len {H : AH} {v b l} (h : Own H v b l) : alen v = some l.length := h.src.sees.1
/-- A machine in its own memory, at P. -/
structure MAt (H : AH) (P rb mb : Nat) (c1 : ACap) (e : AV) (m : Mach) : Prop where
  p : H.bk P = some ⟨[.sl rb 0 32 c1, .I m.pc, e], true⟩
  r : H.bk rb = some ⟨Ints m.regs, true⟩
  rl : m.regs.length = 32
  own : Own H e mb m.mem
  mp : mb ≠ P
  mr : mb ≠ rb
  pr : P ≠ rb
  pn : P < H.n
  rn : rb < H.n
  ml : m.mem.length ≤ 10000
theorem MAt.el {H : AH} {P rb mb c1 e m} (h : MAt H P rb mb c1 e m) : alen e = some m.mem.length := h.own.len
theorem MAt.em {H : AH} {P rb mb c1 e m} (h : MAt H P rb mb c1 e m) (q : m.mem ≠ []) : (∃ c2, e = .sl mb 0 m.mem.length c2) ∧ H.bk mb = some ⟨Ints m.mem, true⟩ ∧ mb < H.n ∧ mb ≠ P ∧ mb ≠ rb := by
  obtain ⟨_, ⟨_, h1⟩ | ⟨c, h1, h2, h3⟩⟩ := h.own
  · exact absurd h1 q
  · exact ⟨⟨c, h1⟩, h2, h3, h.mp, h.mr⟩
theorem MAt.only {H H' : AH} {P rb mb c1 e m bs} (h : MAt H P rb mb c1 e m) (k : Only bs H H') (hb : P ∉ bs ∧ rb ∉ bs ∧ mb ∉ bs) : MAt H' P rb mb c1 e m :=
  ⟨k.bk h.pn hb.1 h.p, k.bk h.rn hb.2.1 h.r, h.rl, h.own.only k hb.2.2, h.mp, h.mr, h.pr, Nat.lt_of_lt_of_le h.pn k.1, Nat.lt_of_lt_of_le h.rn k.1, h.ml⟩
theorem MAt.ext {H H' : AH} {P rb mb c1 e m} (h : MAt H P rb mb c1 e m) (k : Ext H H') : MAt H' P rb mb c1 e m := h.only (bs := []) k.only (by simp)
theorem MAt.setPc {H : AH} {P rb mb c1 e m} (h : MAt H P rb mb c1 e m) (x : Int) : MAt (H.put P (some ⟨[.sl rb 0 32 c1, .I x, e], true⟩)) P rb mb c1 e ⟨m.regs, x, m.mem⟩ :=
  ⟨put_same, put_other h.pr.symm h.r, h.rl, h.own.only (bs := [P]) (Only.refl.put (by simp)) (by simpa using h.mp), h.mp, h.mr, h.pr, h.pn, h.rn, h.ml⟩
theorem MAt.setRg {H : AH} {P rb mb c1 e m} (h : MAt H P rb mb c1 e m) (j : Nat) (x : Int) : MAt (H.put rb (some ⟨Ints (m.regs.set j x), true⟩)) P rb mb c1 e ⟨m.regs.set j x, m.pc, m.mem⟩ :=
  ⟨put_other h.pr h.p, put_same, by simp [h.rl], h.own.only (bs := [rb]) (Only.refl.put (by simp)) (by simpa using h.mr), h.mp, h.mr, h.pr, h.pn, h.rn, h.ml⟩
theorem MAt.setMem {H : AH} {P rb mb c1 e m} (h : MAt H P rb mb c1 e m) (hm : m.mem ≠ []) (j : Nat) (x : Int) : MAt (H.put mb (some ⟨Ints (m.mem.set j x), true⟩)) P rb mb c1 e ⟨m.regs, m.pc, m.mem.set j x⟩ := by
  obtain ⟨⟨c2, a⟩, b, c, d⟩ := h.em hm
  exact ⟨put_other d.1.symm h.p, put_other d.2.symm h.r, h.rl, ⟨by simpa using h.own.1, .inr ⟨c2, by simpa using a, put_same, c⟩⟩, h.mp, h.mr, h.pr, h.pn, h.rn, by simpa using h.ml⟩
theorem regs_get {m : Mach} {j : Int} (hl : m.regs.length = 32) (h : 0 ≤ j ∧ j < 32) : (Ints m.regs)[j.toNat]? = some (.I (regM m j)) := by
  have hj : j.toNat < m.regs.length := by omega
  simp [Ints, regM, hj]
theorem mem_get {m : Mach} {a : Int} (h : wordOk m a = true) : (Ints m.mem)[(a / 4).toNat]? = some (.I (wordAt m a)) := by
  simp only [wordOk, decide_eq_true_eq] at h
  have hj : (a / 4).toNat < m.mem.length := by omega
  simp [Ints, wordAt, hj]
theorem ok_ne {m : Mach} {a : Int} (h : wordOk m a = true) : m.mem ≠ [] := by
  simp only [wordOk, decide_eq_true_eq] at h
  intro e; rw [e] at h; simp at h; omega

section
variable {H : AH} {K : AV → AH → Prop} {a x rd : Int} {w : Fk K} {P rb mb : Nat} {c1 : ACap} {e : AV} {m : Mach}
theorem K_iMachine_word (h : MAt H P rb mb c1 e m) (ha : -2147483648 ≤ a ∧ a ≤ 2147483647) : CallF Cd f_iMachine_word [.ptr P 0, .I a] H K w = K (if wordOk m a = true then .ptr mb (a / 4).toNat else .nilp) H := by
  rw [CallF_eq e_iMachine_word rfl]
  have hl := h.ml
  have hq : ∀ c : Int, decide (c ≥ (m.mem.length : Int)) = decide ((m.mem.length : Int) ≤ c) := fun _ => rfl
  by_cases h1 : a < 0
  · have : wordOk m a = false := by simp [wordOk]; omega
    simp [h1, this]
  have t1 : a.tmod 4 = a % 4 := Int.tmod_eq_emod_of_nonneg (by omega)
  have t2 : a.tdiv 4 = a / 4 := Int.tdiv_eq_ediv_of_nonneg (by omega)
  by_cases h2 : a % 4 = 0
  · simp (disch := omega) [h1, t1, t2, h2, load_bk h.p, h.el]
    by_cases h3 : (m.mem.length : Int) ≤ a / 4
    · have : wordOk m a = false := by simp [wordOk]; omega
      simp [h3, this]
    · have hk : wordOk m a = true := by simp [wordOk]; omega
      obtain ⟨⟨c2, rfl⟩, _⟩ := h.em (ok_ne hk)
      have h3' : a / 4 < m.mem.length := by omega
      simp (disch := omega) [h3, hk, load_bk h.p]
      rw [t2]
  · have : wordOk m a = false := by simp [wordOk]; omega
    simp (disch := omega) [h1, t1, h2, this]
theorem K_sl44Word (h : MAt H P rb mb c1 e m) (ha : -2147483648 ≤ a ∧ a ≤ 2147483647) : CallF Cd f_sl44Word [e, .I a] H K w = K (.b (wordOk m a)) H := by
  rw [CallF_eq e_sl44Word rfl]
  have hl := h.ml
  by_cases h1 : 0 ≤ a
  · have t1 : a.tmod 4 = a % 4 := Int.tmod_eq_emod_of_nonneg (by omega)
    have t2 : a.tdiv 4 = a / 4 := Int.tdiv_eq_ediv_of_nonneg (by omega)
    by_cases h2 : a % 4 = 0
    · simp (disch := omega) [h1, t1, t2, h2, h.el]
      exact Kb_fin (by simp [wordOk, h1, h2])
    · simp (disch := omega) [h1, t1, h2]
      exact Kb_false (by simp [wordOk, h2])
  · simp [h1]
    exact Kb_false (by simp [wordOk, h1])
theorem K_iMachine_set (h : MAt H P rb mb c1 e m) (hd : 0 ≤ rd ∧ rd < 32) (k : ∀ H', MAt H' P rb mb c1 e ⟨setR m.regs rd x, m.pc, m.mem⟩ → Only [rb] H H' → H'.n = H.n → K (.tup []) H') : CallF Cd f_iMachine_set [.ptr P 0, .I rd, .I x] H K w := by
  rw [CallF_eq e_iMachine_set rfl]
  have hl := h.rl
  by_cases h0 : rd = 0
  · simp [h0]
    exact k H (by rw [setR, if_pos h0]; exact h) Only.refl rfl
  · have st := store_bk (o := rd.toNat) (vs := [.I x]) h.r (by rw [Ints_len]; simp; omega)
    rw [Ints_set (by omega)] at st
    simp (disch := omega) [h0, load_bk h.p, st]
    exact k _ (by rw [setR, if_neg h0]; exact h.setRg _ _) (Only.refl.put (.inr (by simp))) rfl
theorem K_sl44Set (h : MAt H P rb mb c1 e m) (hd : 0 ≤ rd ∧ rd < 32) (k : ∀ H', MAt H' P rb mb c1 e ⟨setR m.regs rd x, m.pc, m.mem⟩ → Only [rb] H H' → H'.n = H.n → K (.tup []) H') : CallF Cd f_sl44Set [.ptr P 0, .I rd, .I x] H K w := by
  rw [CallF_eq e_sl44Set rfl]
  have hl := h.rl
  by_cases h0 : rd = 0
  · simp [h0]
    exact k H (by rw [setR, if_pos h0]; exact h) Only.refl rfl
  · have st := store_bk (o := rd.toNat) (vs := [.I x]) h.r (by rw [Ints_len]; simp; omega)
    rw [Ints_set (by omega)] at st
    simp (disch := omega) [h0, load_bk h.p, st]
    exact k _ (by rw [setR, if_neg h0]; exact h.setRg _ _) (Only.refl.put (.inr (by simp))) rfl
end
end Go.Proofs.YtdgmihohmkdpjaaDoor.AM
