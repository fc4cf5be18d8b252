/-
  The abstract machine and its walks, merged by program out of smaller texts (part 4). No condition.
-/
import Derived.Test.YtmecbehegmgbhaaUM3
namespace Go.Proofs.Ytmecbehegmgbhaa.AM
set_option linter.unusedSimpArgs false
set_option linter.unusedVariables false
set_option maxRecDepth 100000
set_option maxHeartbeats 4000000
open Go
attribute [-simp] AM.elems
section
variable {base : Nat} {H : AH} {K : AV → AH → Prop} {w : Fk K} {T o R P po B : Nat} {cT cP : List AV} {vr vb vo vc : AV} {rs : List (AV × Nat)} {O : Nat} {t : Th} {bs : List Bx} {out : List Int} {okc : Nat → Prop} {l : List Qd} {q : Qd}
theorem TS_pre (h : TM base H T o R P po B cT cP vr vb vo rs O t bs out) : TM base (H.push (qC q)) T o R P po B cT cP vr vb vo rs O t bs out ∧ (H.push (qC q)).bk H.n = some ⟨qC q, true⟩ ∧ (H.push [.I 0, .I 0, .I 0, .I 0, .I 0]).store H.n 0 (qC q) = some (H.push (qC q)) :=
  ⟨h.ext (Ext.push H _), push_new, by rw [store_bk push_new (by simp [qC]), push_put]; rfl⟩
theorem TS_ops {h1 : Prop} {H G : AH} (hq : H.bk G.n = some ⟨qC q, true⟩) : H.load G.n 0 = some (.I q.op) ∧ H.load G.n 1 = some (.I q.dst) ∧ H.load G.n 2 = some (.I q.a) ∧ H.load G.n 3 = some (.I q.b) ∧ H.load G.n 4 = some (.I q.n) := by
  refine ⟨?_, ?_, ?_, ?_, ?_⟩ <;> rw [load_bk hq] <;> rfl
theorem TS_set (h : TM base H T o R P po B cT cP vr vb vo rs O t bs out) (hc : QV okc H vc l) (hq : l[t.pc.toNat]? = some q) (hpc : 0 ≤ t.pc ∧ t.pc < l.length ∧ l.length ≤ 600) (hop : q.op = 1) (hd : 0 ≤ q.dst ∧ q.dst < 12)
    (k : ∀ H', TM base H' T o R P po B (splice cT (o + 1) [.I (t.pc + 1)]) cP vr vb vo rs O ⟨t.regs.set q.dst.toNat q.n, t.pc + 1⟩ bs out → Only [T, R] H H' → K (.I 1) H') : CallF Cd f_iThread_step [.ptr T o, vc, vb, .ptr P po] H K w := by
  rw [CallF_eq e_iThread_step rfl]
  obtain ⟨b, oo, cap, e1, ob, hbn, l1⟩ := hc.at hq
  obtain ⟨h1, q1, st⟩ := TS_pre (q := q) h
  obtain ⟨g0, gd, ga, gb, gn⟩ := TS_ops (h1 := True) q1
  have e5 : (qC q).length = 5 := rfl
  subst e1
  obtain ⟨capR, H1, rfl, s1, m1, o1⟩ := h1.setReg hd q.n
  obtain ⟨H2, s2, m2, o2⟩ := m1.setPc (t.pc + 1)
  simp (disch := omega) [h.ldp, hpc.1, hpc.2.1, l1, e5, st, g0, gd, gn, h1.ldr, h1.ldp, hop, hd.1, hd.2, s1, s2]
  refine k H2 m2 (((Only.refl.push (b := H) (bs := [T, R])).trans (o1.mono (by simp))).trans (o2.mono (by simp)))
theorem TS_copy (h : TM base H T o R P po B cT cP vr vb vo rs O t bs out) (hc : QV okc H vc l) (hq : l[t.pc.toNat]? = some q) (hpc : 0 ≤ t.pc ∧ t.pc < l.length ∧ l.length ≤ 600) (hop : q.op = 2) (hd : 0 ≤ q.dst ∧ q.dst < 12) (ha : 0 ≤ q.a ∧ q.a < 12)
    (k : ∀ H', TM base H' T o R P po B (splice cT (o + 1) [.I (t.pc + 1)]) cP vr vb vo rs O ⟨t.regs.set q.dst.toNat (rg t q.a), t.pc + 1⟩ bs out → Only [T, R] H H' → K (.I 1) H') : CallF Cd f_iThread_step [.ptr T o, vc, vb, .ptr P po] H K w := by
  rw [CallF_eq e_iThread_step rfl]
  obtain ⟨b, oo, cap, e1, ob, hbn, l1⟩ := hc.at hq
  obtain ⟨h1, q1, st⟩ := TS_pre (q := q) h
  obtain ⟨g0, gd, ga, gb, gn⟩ := TS_ops (h1 := True) q1
  have e5 : (qC q).length = 5 := rfl
  subst e1
  obtain ⟨capR, rfl, nR, bR, hr⟩ := h1.vr_eq
  have hra := hr q.a ha.1 ha.2
  obtain ⟨_, H1, _, s1, m1, o1⟩ := h1.setReg hd (rg t q.a)
  obtain ⟨H2, s2, m2, o2⟩ := m1.setPc (t.pc + 1)
  unfold rg at s1
  simp (disch := omega) [h.ldp, hpc.1, hpc.2.1, l1, e5, st, g0, gd, ga, gb, gn, h1.ldr, h1.ldp, hop, hd.1, hd.2, ha.1, ha.2, hra, s1, s2]
  exact k H2 m2 (((Only.refl.push (b := H) (bs := [T, R])).trans (o1.mono (by simp))).trans (o2.mono (by simp)))
theorem TS_bin (h : TM base H T o R P po B cT cP vr vb vo rs O t bs out) (hc : QV okc H vc l) (hq : l[t.pc.toNat]? = some q) (hpc : 0 ≤ t.pc ∧ t.pc < l.length ∧ l.length ≤ 600) (hop : q.op = 3) (hd : 0 ≤ q.dst ∧ q.dst < 12) (ha : 0 ≤ q.a ∧ q.a < 12) (hb : 0 ≤ q.b ∧ q.b < 12) (wa : isW (rg t q.a) = true) (wb : isW (rg t q.b) = true)
    (k : ∀ H', TM base H' T o R P po B (splice cT (o + 1) [.I (t.pc + 1)]) cP vr vb vo rs O ⟨t.regs.set q.dst.toNat (applyM q.n (rg t q.a) (rg t q.b)), t.pc + 1⟩ bs out → Only [T, R] H H' → K (.I 1) H') : CallF Cd f_iThread_step [.ptr T o, vc, vb, .ptr P po] H K w := by
  rw [CallF_eq e_iThread_step rfl]
  obtain ⟨b, oo, cap, e1, ob, hbn, l1⟩ := hc.at hq
  obtain ⟨h1, q1, st⟩ := TS_pre (q := q) h
  obtain ⟨g0, gd, ga, gb, gn⟩ := TS_ops (h1 := True) q1
  have e5 : (qC q).length = 5 := rfl
  subst e1
  obtain ⟨capR, rfl, nR, bR, hr⟩ := h1.vr_eq
  have hra := hr q.a ha.1 ha.2
  have hrb := hr q.b hb.1 hb.2
  obtain ⟨_, H1, _, s1, m1, o1⟩ := h1.setReg hd (applyM q.n (rg t q.a) (rg t q.b))
  obtain ⟨H2, s2, m2, o2⟩ := m1.setPc (t.pc + 1)
  have wa' := isW_iff.1 wa
  have wb' := isW_iff.1 wb
  unfold rg at s1 wa' wb'
  simp (disch := omega) [h.ldp, hpc.1, hpc.2.1, l1, e5, st, g0, gd, ga, gb, gn, h1.ldr, h1.ldp, hop, hd.1, hd.2, ha.1, ha.2, hb.1, hb.2, hra, hrb, K_iapply wa' wb', s1, s2]
  exact k H2 m2 (((Only.refl.push (b := H) (bs := [T, R])).trans (o1.mono (by simp))).trans (o2.mono (by simp)))
theorem TS_jump (h : TM base H T o R P po B cT cP vr vb vo rs O t bs out) (hc : QV okc H vc l) (hq : l[t.pc.toNat]? = some q) (hpc : 0 ≤ t.pc ∧ t.pc < l.length ∧ l.length ≤ 600) (hop : q.op = 4)
    (k : ∀ H', TM base H' T o R P po B (splice cT (o + 1) [.I q.n]) cP vr vb vo rs O ⟨t.regs, q.n⟩ bs out → Only [T, R] H H' → K (.I 1) H') : CallF Cd f_iThread_step [.ptr T o, vc, vb, .ptr P po] H K w := by
  rw [CallF_eq e_iThread_step rfl]
  obtain ⟨b, oo, cap, e1, ob, hbn, l1⟩ := hc.at hq
  obtain ⟨h1, q1, st⟩ := TS_pre (q := q) h
  obtain ⟨g0, gd, ga, gb, gn⟩ := TS_ops (h1 := True) q1
  have e5 : (qC q).length = 5 := rfl
  subst e1
  obtain ⟨capR, rfl, nR, bR, hr⟩ := h1.vr_eq
  obtain ⟨H2, s2, m2, o2⟩ := h1.setPc q.n
  simp (disch := omega) [h.ldp, hpc.1, hpc.2.1, l1, e5, st, g0, gd, ga, gb, gn, h1.ldr, h1.ldp, hop, s2]
  exact k H2 m2 ((Only.refl.push (b := H) (bs := [T, R])).trans (o2.mono (by simp)))
theorem TS_zero (h : TM base H T o R P po B cT cP vr vb vo rs O t bs out) (hc : QV okc H vc l) (hq : l[t.pc.toNat]? = some q) (hpc : 0 ≤ t.pc ∧ t.pc < l.length ∧ l.length ≤ 600) (hop : q.op = 5) (ha : 0 ≤ q.a ∧ q.a < 12)
    (k : ∀ H', TM base H' T o R P po B (splice cT (o + 1) [.I (if rg t q.a = 0 then q.n else t.pc + 1)]) cP vr vb vo rs O ⟨t.regs, (if rg t q.a = 0 then q.n else t.pc + 1)⟩ bs out → Only [T, R] H H' → K (.I 1) H') : CallF Cd f_iThread_step [.ptr T o, vc, vb, .ptr P po] H K w := by
  rw [CallF_eq e_iThread_step rfl]
  obtain ⟨b, oo, cap, e1, ob, hbn, l1⟩ := hc.at hq
  obtain ⟨h1, q1, st⟩ := TS_pre (q := q) h
  obtain ⟨g0, gd, ga, gb, gn⟩ := TS_ops (h1 := True) q1
  have e5 : (qC q).length = 5 := rfl
  subst e1
  obtain ⟨capR, rfl, nR, bR, hr⟩ := h1.vr_eq
  have hra := hr q.a ha.1 ha.2
  obtain ⟨H2, s2, m2, o2⟩ := h1.setPc (if rg t q.a = 0 then q.n else t.pc + 1)
  have kk := k H2 m2 ((Only.refl.push (b := H) (bs := [T, R])).trans (o2.mono (by simp)))
  unfold rg at s2
  by_cases hz : (t.regs[q.a.toNat]?).getD 0 = 0
  · rw [if_pos hz] at s2
    simp (disch := omega) [h.ldp, hpc.1, hpc.2.1, l1, e5, st, g0, gd, ga, gb, gn, h1.ldr, h1.ldp, hop, ha.1, ha.2, hra, hz, s2]
    exact kk
  · rw [if_neg hz] at s2
    simp (disch := omega) [h.ldp, hpc.1, hpc.2.1, l1, e5, st, g0, gd, ga, gb, gn, h1.ldr, h1.ldp, hop, ha.1, ha.2, hra, hz, s2]
    exact kk
theorem TS_yield (h : TM base H T o R P po B cT cP vr vb vo rs O t bs out) (hc : QV okc H vc l) (hq : l[t.pc.toNat]? = some q) (hpc : 0 ≤ t.pc ∧ t.pc < l.length ∧ l.length ≤ 600) (hop : q.op = 8)
    (k : ∀ H', TM base H' T o R P po B (splice cT (o + 1) [.I (t.pc + 1)]) cP vr vb vo rs O ⟨t.regs, t.pc + 1⟩ bs out → Only [T, R] H H' → K (.I 2) H') : CallF Cd f_iThread_step [.ptr T o, vc, vb, .ptr P po] H K w := by
  rw [CallF_eq e_iThread_step rfl]
  obtain ⟨b, oo, cap, e1, ob, hbn, l1⟩ := hc.at hq
  obtain ⟨h1, q1, st⟩ := TS_pre (q := q) h
  obtain ⟨g0, gd, ga, gb, gn⟩ := TS_ops (h1 := True) q1
  have e5 : (qC q).length = 5 := rfl
  subst e1
  obtain ⟨capR, rfl, nR, bR, hr⟩ := h1.vr_eq
  obtain ⟨H2, s2, m2, o2⟩ := h1.setPc (t.pc + 1)
  simp (disch := omega) [h.ldp, hpc.1, hpc.2.1, l1, e5, st, g0, gd, ga, gb, gn, h1.ldr, h1.ldp, hop, s2]
  exact k H2 m2 ((Only.refl.push (b := H) (bs := [T, R])).trans (o2.mono (by simp)))
theorem TS_halt (h : TM base H T o R P po B cT cP vr vb vo rs O t bs out) (hc : QV okc H vc l) (hq : l[t.pc.toNat]? = some q) (hpc : 0 ≤ t.pc ∧ t.pc < l.length ∧ l.length ≤ 600) (hop : q.op = 10) (k : ∀ H', Ext H H' → K (.I 4) H') : CallF Cd f_iThread_step [.ptr T o, vc, vb, .ptr P po] H K w := by
  rw [CallF_eq e_iThread_step rfl]
  obtain ⟨b, oo, cap, e1, ob, hbn, l1⟩ := hc.at hq
  obtain ⟨h1, q1, st⟩ := TS_pre (q := q) h
  obtain ⟨g0, gd, ga, gb, gn⟩ := TS_ops (h1 := True) q1
  have e5 : (qC q).length = 5 := rfl
  subst e1
  obtain ⟨capR, rfl, nR, bR, hr⟩ := h1.vr_eq
  simp (disch := omega) [h.ldp, hpc.1, hpc.2.1, l1, e5, st, g0, gd, ga, gb, gn, h1.ldr, h1.ldp, hop]
  exact k _ (Ext.push H _)
theorem TM.setOut (h : TM base H T o R P po B cT cP vr vb vo rs O t bs out) {x : Int} (hol : out.length < 900000) :
    ∃ v' O' G' H', aapp H 1 vo 1 [.I x] = some (v', G') ∧ v'.flat = true ∧ G'.store P po [v'] = some H' ∧ TM base H' T o R P po B cT (splice cP po [v']) vr vb v' rs O' t bs (out ++ [x]) ∧ (∀ b ∈ grB v' O', b ∈ grB vo O ∨ H.n ≤ b) ∧ Only (P :: grB vo O) H H' := by
  have hpl := (List.getElem?_eq_some_iff.1 h.sP).1
  obtain ⟨v', G', O', a1, a2, a3, a4⟩ := h.gO.app h.hb (k := 1) (new := [.I x]) rfl (by omega)
  have a2' : GrS base G' v' (out ++ [x]).length 1 (Ints (out ++ [x])) O' := by simpa [Ints] using a2
  have bP := a4.bk h.nP h.g.2.2 h.bP
  have n4 := a4.1
  have oo : Only [P] G' (G'.put P (some ⟨splice cP po [v'], true⟩)) := Only.refl.put (by simp)
  have ot : Only (P :: grB vo O) H (G'.put P (some ⟨splice cP po [v'], true⟩)) := (a4.mono (fun b hb => .inl (by simp [hb]))).put (by simp)
  have hO : ∀ b ∈ grB v' O', b ∈ grB vo O ∨ H.n ≤ b := fun b hb => by
    rcases a3 with ⟨e, hm⟩ | e
    · rw [grB_sub hb, e]; exact .inl hm
    · rw [grB_sub hb, e]; exact .inr (Nat.le_refl _)
  have hP : P ∉ grB v' O' := fun hm => by rcases hO P hm with z | z; exact h.g.2.2 z; have := h.nP; omega
  have hR : R < H.n := by obtain ⟨_, _, z, _⟩ := h.vr_eq; exact z
  refine ⟨v', O', G', _, a1, a2.flat, store_bk bP (by simp; omega), ?_, hO, ot⟩
  have hd := h.d
  exact { bT := ot.bk h.nT (by simp; exact ⟨hd.2.1, h.g.1⟩) h.bT, sT := h.sT, nT := (by have := h.nT; simp; omega),
           gR := h.gR.only ot (fun b hb => .inr (fun e => by subst e; simp at hb; rcases hb with z | z; exact hd.2.2 z; exact h.g.2.1 z)),
           rb := h.rb.onlyA ot (fun b hb => .inr (fun hm => by simp at hb; rcases hb with z | z; subst z; exact h.f.2.2 hm; exact h.fg b z hm)),
           bP := put_same, sP := (by rw [splice_set hpl]; simp [hpl]), nP := (by have := h.nP; simp; omega),
           gO := a2'.onlyB oo (by simp; exact hP),
           hb := (by have := h.hb; simp; omega),
           d := hd, f := h.f,
           g := ⟨fun hm => (by rcases hO T hm with z | z; exact h.g.1 z; have := h.nT; omega), fun hm => (by rcases hO R hm with z | z; exact h.g.2.1 z; omega), hP⟩,
           fg := fun b hb hm => (by rcases hO b hb with z | z; exact h.fg b z hm; have := (h.rb.mem' hm).2; omega) }
theorem TS_print (h : TM base H T o R P po B cT cP vr vb vo rs O t bs out) (hc : QV okc H vc l) (hq : l[t.pc.toNat]? = some q) (hpc : 0 ≤ t.pc ∧ t.pc < l.length ∧ l.length ≤ 600) (hop : q.op = 9) (ha : 0 ≤ q.a ∧ q.a < 12) (hol : out.length < 900000)
    (k : ∀ vo' O' H', TM base H' T o R P po B (splice cT (o + 1) [.I (t.pc + 1)]) (splice cP po [vo']) vr vb vo' rs O' ⟨t.regs, t.pc + 1⟩ bs (out ++ [rg t q.a]) → (∀ b ∈ grB vo' O', b ∈ grB vo O ∨ H.n ≤ b) → Only (T :: P :: grB vo O) H H' → K (.I 1) H') : CallF Cd f_iThread_step [.ptr T o, vc, vb, .ptr P po] H K w := by
  rw [CallF_eq e_iThread_step rfl]
  obtain ⟨b, oo, cap, e1, ob, hbn, l1⟩ := hc.at hq
  obtain ⟨h1, q1, st⟩ := TS_pre (q := q) h
  obtain ⟨g0, gd, ga, gb, gn⟩ := TS_ops (h1 := True) q1
  have e5 : (qC q).length = 5 := rfl
  subst e1
  obtain ⟨capR, rfl, nR, bR, hr⟩ := h1.vr_eq
  have hra := hr q.a ha.1 ha.2
  obtain ⟨v', O', G', H1, a1, fv, s1, m1, hO, o1⟩ := (h1.ext (Ext.push _ [.I (rg t q.a)])).setOut (x := rg t q.a) hol
  obtain ⟨H2, s2, m2, o2⟩ := m1.setPc (t.pc + 1)
  unfold rg at a1
  simp (disch := omega) [h.ldp, hpc.1, hpc.2.1, l1, e5, st, g0, gd, ga, gb, gn, h1.ldr, h1.ldp, hop, ha.1, ha.2, hra, h1.ldo, (h1.ext (Ext.push _ [.I (rg t q.a)])).ldo, AM.elems, loadN_push, a1, flat_cells fv, flat_tup fv, s1, s2]
  refine k v' O' H2 m2 (fun b hb => (hO b hb).imp id (fun z => by simp at z; omega)) ((((Only.refl.push (b := H) (bs := T :: P :: grB vo O)).push).trans (o1.mono (fun b hb => .inl ?_))).trans (o2.mono (by simp)))
  simp at hb ⊢; rcases hb with z | z
  · exact .inr (.inl z)
  · exact .inr (.inr z)
theorem TM.setBox (h : TM base H T o R P po B cT cP vr vb vo rs O t bs out) {i : Nat} {x : Bx} {p : AV × Nat} (hx : bs[i]? = some x) (hp : rs[i]? = some p) {v' : AV} {I' : Nat} {l : List Int} {H1 H' : AH}
    (hi : ISl base H1 v' l I') (hI : (I' = p.2 ∧ p.2 ∈ grB p.1 p.2) ∨ H.n ≤ I') (ho : Only (grB p.1 p.2) H H1) (hst : H1.store B (i * 2 + 1) [v'] = some H') :
    TM base H' T o R P po B cT cP vr vb vo (rs.set i (v', I')) O t (bs.set i ⟨x.room, l⟩) out ∧ (∀ b ∈ fpB B (rs.set i (v', I')), b ∈ fpB B rs ∨ H.n ≤ b) ∧ Only (fpB B rs) H H' := by
  obtain ⟨u1, u2, u3⟩ := h.rb.upd hx hp hi hI h.hb ho hst
  have hR : R < H.n := by obtain ⟨_, _, z, _⟩ := h.vr_eq; exact z
  have hf : ∀ b ∈ fpB B (rs.set i (v', I')), b ∈ fpB B rs ∨ H.n ≤ b := fun b hb => by
    rcases fpB_set hb with z | z
    · exact .inl z
    · subst z
      rcases hI with y | y
      · refine .inl ?_
        rw [mem_fpB]
        exact .inr ⟨p, List.mem_of_getElem? hp, by rw [y.1]; exact y.2⟩
      · exact .inr y
  refine ⟨{ bT := u2.bk h.nT h.f.1 h.bT, sT := h.sT, nT := Nat.lt_of_lt_of_le h.nT u2.1,
            gR := h.gR.only u2 (fun b hb => .inr (fun e => h.f.2.1 (by rw [← e]; exact hb))),
            rb := u1,
            bP := u2.bk h.nP h.f.2.2 h.bP, sP := h.sP, nP := Nat.lt_of_lt_of_le h.nP u2.1,
            gO := h.gO.onlyB u2 (fun b hb hm => h.fg b hm hb),
            hb := Nat.le_trans h.hb u2.1,
            d := h.d,
            f := ⟨fun hm => (by rcases hf T hm with z | z; exact h.f.1 z; have := h.nT; omega), fun hm => (by rcases hf R hm with z | z; exact h.f.2.1 z; omega), fun hm => (by rcases hf P hm with z | z; exact h.f.2.2 z; have := h.nP; omega)⟩,
            g := h.g,
            fg := fun b hb hm => (by rcases hf b hm with z | z; exact h.fg b hb z; have := (h.gO.mem hb); omega) }, hf, u2⟩
theorem TS_send (h : TM base H T o R P po B cT cP vr vb vo rs O t bs out) (hc : QV okc H vc l) (hq : l[t.pc.toNat]? = some q) (hpc : 0 ≤ t.pc ∧ t.pc < l.length ∧ l.length ≤ 600) (hop : q.op = 6) (ha : 0 ≤ q.a ∧ q.a < 12) {bx : Bx} (hn : 0 ≤ q.n) (hbx : bs[q.n.toNat]? = some bx) (hroom : bx.items.length ≤ bx.room ∧ bx.room ≤ 100)
    (k1 : (bx.items.length : Int) = bx.room → ∀ H', Ext H H' → K (.I 3) H')
    (k : (bx.items.length : Int) < bx.room → ∀ rs' H', TM base H' T o R P po B (splice cT (o + 1) [.I (t.pc + 1)]) cP vr vb vo rs' O ⟨t.regs, t.pc + 1⟩ (bs.set q.n.toNat ⟨bx.room, bx.items ++ [rg t q.a]⟩) out → (∀ b ∈ fpB B rs', b ∈ fpB B rs ∨ H.n ≤ b) → Only (T :: fpB B rs) H H' → K (.I 1) H') : CallF Cd f_iThread_step [.ptr T o, vc, vb, .ptr P po] H K w := by
  rw [CallF_eq e_iThread_step rfl]
  obtain ⟨b, oo, cap, e1, ob, hbn, l1⟩ := hc.at hq
  obtain ⟨h1, q1, st⟩ := TS_pre (q := q) h
  obtain ⟨g0, gd, ga, gb, gn⟩ := TS_ops (h1 := True) q1
  have e5 : (qC q).length = 5 := rfl
  subst e1
  obtain ⟨capR, rfl, nR, bR, hr⟩ := h1.vr_eq
  have hra := hr q.a ha.1 ha.2
  obtain ⟨pr, bcap, f1, rfl, f3, f4, f5, f6, f7, f8⟩ := h1.rb.at hbx
  have hnl : q.n < bs.length := by have := (List.getElem?_eq_some_iff.1 hbx).1; omega
  simp (disch := omega) [h.ldp, hpc.1, hpc.2.1, l1, e5, st, g0, gd, ga, gb, gn, h1.ldr, h1.ldp, hop, ha.1, ha.2, hra, hn, hnl]
  refine K_iBox_put f5 f4 f6 f7 h1.hb f8 hroom (fun hq => ?_) (fun hlt v' I' H2 H3 i1 i2 i3 i4 i5 i6 i7 => ?_)
  · simp
    exact k1 hq _ (Ext.push H _)
  · obtain ⟨m1, hf, o1⟩ := h1.setBox hbx f1 i1 i2 i3 i6
    obtain ⟨H4, s2, m2, o2⟩ := m1.setPc (t.pc + 1)
    simp [s2]
    refine k hlt _ H4 m2 (fun b hb => (hf b hb).imp id (fun z => by simp at z; omega)) (((Only.refl.push (b := H) (bs := T :: fpB B rs)).trans (o1.mono (fun b hb => .inl (by simp [hb])))).trans (o2.mono (by simp)))
theorem TS_recv (h : TM base H T o R P po B cT cP vr vb vo rs O t bs out) (hc : QV okc H vc l) (hq : l[t.pc.toNat]? = some q) (hpc : 0 ≤ t.pc ∧ t.pc < l.length ∧ l.length ≤ 600) (hop : q.op = 7) (hd : 0 ≤ q.dst ∧ q.dst < 12) {bx : Bx} (hn : 0 ≤ q.n) (hbx : bs[q.n.toNat]? = some bx)
    (k1 : bx.items = [] → ∀ H', Ext H H' → K (.I 3) H')
    (k : ∀ y r, bx.items = y :: r → ∀ rs' H', TM base H' T o R P po B (splice cT (o + 1) [.I (t.pc + 1)]) cP vr vb vo rs' O ⟨t.regs.set q.dst.toNat y, t.pc + 1⟩ (bs.set q.n.toNat ⟨bx.room, r⟩) out → (∀ b ∈ fpB B rs', b ∈ fpB B rs ∨ H.n ≤ b) → Only (T :: R :: fpB B rs) H H' → K (.I 1) H') : CallF Cd f_iThread_step [.ptr T o, vc, vb, .ptr P po] H K w := by
  rw [CallF_eq e_iThread_step rfl]
  obtain ⟨b, oo, cap, e1, ob, hbn, l1⟩ := hc.at hq
  obtain ⟨h1, q1, st⟩ := TS_pre (q := q) h
  obtain ⟨g0, gd, ga, gb, gn⟩ := TS_ops (h1 := True) q1
  have e5 : (qC q).length = 5 := rfl
  subst e1
  obtain ⟨capR, rfl, nR, bR, hr⟩ := h1.vr_eq
  obtain ⟨pr, bcap, f1, rfl, f3, f4, f5, f6, f7, f8⟩ := h1.rb.at hbx
  have hnl : q.n < bs.length := by have := (List.getElem?_eq_some_iff.1 hbx).1; omega
  simp (disch := omega) [h.ldp, hpc.1, hpc.2.1, l1, e5, st, g0, gd, ga, gb, gn, h1.ldr, h1.ldp, hop, hn, hnl]
  refine K_iBox_take f5 f4 f6 f7 f8 (fun hq => ?_) (fun y r hyr v' H2 H3 i1 i3 i4 i5 i6 i7 => ?_)
  · simp
    exact k1 hq _ (Ext.push H _)
  · have i3' : Only (grB pr.1 pr.2) (H.push (qC q)) H2 := by rw [i4]; exact i3
    obtain ⟨m1, hf, o1⟩ := h1.setBox hbx f1 i1 (.inl ⟨rfl, by rw [i4]; simp⟩) i3' i6
    obtain ⟨_, H4, _, s4, m4, o4⟩ := m1.setReg hd y
    obtain ⟨H5, s5, m5, o5⟩ := m4.setPc (t.pc + 1)
    have q3 : H3.bk H.n = some ⟨qC q, true⟩ := o1.bk (by simp) (fun hm => by have := (h.rb.mem' hm).2; omega) q1
    obtain ⟨g0', gd', ga', gb', gn'⟩ := TS_ops (h1 := True) q3
    simp (disch := omega) [m1.ldr, gd', hd.1, hd.2, s4, s5]
    refine k y r hyr _ H5 m5 (fun b hb => (hf b hb).imp id (fun z => by simp at z; omega)) ((((Only.refl.push (b := H) (bs := T :: R :: fpB B rs)).trans (o1.mono (fun b hb => .inl (by simp [hb])))).trans (o4.mono (by simp))).trans (o5.mono (by simp)))
end
end Go.Proofs.Ytmecbehegmgbhaa.AM
namespace Go.Proofs.Ytmecbehegmgbhaa.AM
set_option linter.unusedSimpArgs false
set_option linter.unusedVariables false
set_option maxRecDepth 100000
set_option maxHeartbeats 4000000
open Go
attribute [-simp] AM.elems
theorem reg_iff {r : Int} : reg r = true ↔ 0 ≤ r ∧ r < 12 := by unfold reg; simp
theorem quV_cases {many : Int} {q : Qd} (h : quV many q = true) :
    (q.op = 1 ∧ (0 ≤ q.dst ∧ q.dst < 12) ∧ isW q.n = true) ∨ (q.op = 2 ∧ (0 ≤ q.dst ∧ q.dst < 12) ∧ (0 ≤ q.a ∧ q.a < 12)) ∨ (q.op = 3 ∧ (0 ≤ q.dst ∧ q.dst < 12) ∧ (0 ≤ q.a ∧ q.a < 12) ∧ (0 ≤ q.b ∧ q.b < 12)) ∨
    (q.op = 4 ∧ 0 ≤ q.n ∧ q.n < many) ∨ (q.op = 5 ∧ (0 ≤ q.a ∧ q.a < 12) ∧ 0 ≤ q.n ∧ q.n < many) ∨ (q.op = 6 ∧ (0 ≤ q.a ∧ q.a < 12) ∧ 0 ≤ q.n ∧ q.n < 3) ∨ (q.op = 7 ∧ (0 ≤ q.dst ∧ q.dst < 12) ∧ 0 ≤ q.n ∧ q.n < 3) ∨ q.op = 8 ∨ (q.op = 9 ∧ (0 ≤ q.a ∧ q.a < 12)) ∨ q.op = 10 := by
  unfold quV at h
  by_cases h1 : q.op = 1
  · rw [if_pos h1] at h; simp only [Bool.and_eq_true, decide_eq_true_eq, reg_iff] at h; exact .inl ⟨h1, h.1.2, h.2⟩
  rw [if_neg h1] at h
  refine .inr ?_
  by_cases h2 : q.op = 2
  · rw [if_pos h2] at h; simp only [Bool.and_eq_true, decide_eq_true_eq, reg_iff] at h; exact .inl ⟨h2, h.1.2, h.2⟩
  rw [if_neg h2] at h
  refine .inr ?_
  by_cases h3 : q.op = 3
  · rw [if_pos h3] at h; simp only [Bool.and_eq_true, decide_eq_true_eq, reg_iff] at h; exact .inl ⟨h3, h.1.1.1, h.1.1.2, h.1.2⟩
  rw [if_neg h3] at h
  refine .inr ?_
  by_cases h4 : q.op = 4
  · rw [if_pos h4] at h; simp only [Bool.and_eq_true, decide_eq_true_eq, reg_iff] at h; exact .inl ⟨h4, h.2⟩
  rw [if_neg h4] at h
  refine .inr ?_
  by_cases h5 : q.op = 5
  · rw [if_pos h5] at h; simp only [Bool.and_eq_true, decide_eq_true_eq, reg_iff] at h; exact .inl ⟨h5, h.1.2, h.2⟩
  rw [if_neg h5] at h
  refine .inr ?_
  by_cases h6 : q.op = 6
  · rw [if_pos h6] at h; simp only [Bool.and_eq_true, decide_eq_true_eq, reg_iff] at h; exact .inl ⟨h6, h.1.2, h.2⟩
  rw [if_neg h6] at h
  refine .inr ?_
  by_cases h7 : q.op = 7
  · rw [if_pos h7] at h; simp only [Bool.and_eq_true, decide_eq_true_eq, reg_iff] at h; exact .inl ⟨h7, h.1.2, h.2⟩
  rw [if_neg h7] at h
  refine .inr ?_
  by_cases h9 : q.op = 9
  · rw [if_pos h9] at h; simp only [Bool.and_eq_true, decide_eq_true_eq, reg_iff] at h; exact .inr (.inl ⟨h9, h.2⟩)
  rw [if_neg h9] at h
  by_cases h8 : q.op = 8 ∨ q.op = 10
  · rcases h8 with h8 | h8
    · exact .inl h8
    · exact .inr (.inr h8)
  · rw [if_neg h8] at h; cases h
theorem rg_W {t : Th} (h : t.regs.all isW = true) (r : Int) : isW (rg t r) = true := by
  unfold rg
  cases hx : t.regs[r.toNat]? with
  | none => rfl
  | some x => exact List.all_eq_true.1 h x (List.mem_of_getElem? hx)
theorem thFit_iff {t : Th} {many : Nat} : thFit t many = true ↔ t.regs.length = 12 ∧ t.regs.all isW = true ∧ 0 ≤ t.pc ∧ t.pc < many := by
  unfold thFit; simp only [Bool.and_eq_true, decide_eq_true_eq]; exact and_assoc
theorem codeV_facts {l : List Qd} (h : codeV l = true) : 1 ≤ l.length ∧ l.length ≤ 600 ∧ (∀ q ∈ l, quV l.length q = true) ∧ (∀ q, l[l.length - 1]? = some q → q.op = 10 ∨ q.op = 4) := by
  unfold codeV at h
  simp only [Bool.and_eq_true, decide_eq_true_eq] at h
  refine ⟨h.1.1.1, h.1.1.2, List.all_eq_true.1 h.1.2, fun q hq => ?_⟩
  have h2 := h.2
  unfold lastOp at h2
  rw [List.getLast?_eq_getElem?, hq] at h2
  simpa using h2
theorem stepQ_keeps {l : List Qd} {q : Qd} {t : Th} {bs : List Bx} (hl : codeV l = true) (hq : l[t.pc.toNat]? = some q) (ht : thFit t l.length = true) (hb : vaBs bs = true) :
    thFit (stepQ q t bs).1 l.length = true ∧ vaBs (stepQ q t bs).2.1 = true ∧ (stepQ q t bs).2.1.length = bs.length ∧ (stepQ q t bs).2.1.map (·.room) = bs.map (·.room) ∧ (stepQ q t bs).2.2.1.all isW = true ∧ (stepQ q t bs).2.2.1.length ≤ 1 ∧ (1 ≤ (stepQ q t bs).2.2.2 ∧ (stepQ q t bs).2.2.2 ≤ 4) := by
  obtain ⟨c1, c2, c3, c4⟩ := codeV_facts hl
  obtain ⟨t1, t2, t3, t4⟩ := thFit_iff.1 ht
  have hv := c3 q (List.mem_of_getElem? hq)
  have hnx : q.op ≠ 4 → q.op ≠ 10 → t.pc + 1 < l.length := fun h4 h10 => by
    by_cases he : t.pc.toNat = l.length - 1
    · rw [he] at hq
      rcases c4 q hq with z | z
      · exact absurd z h10
      · exact absurd z h4
    · omega
  have stay : thFit t l.length = true ∧ vaBs bs = true ∧ bs.length = bs.length ∧ bs.map (·.room) = bs.map (·.room) ∧ ([] : List Int).all isW = true ∧ ([] : List Int).length ≤ 1 ∧ ((1 : Int) ≤ 3 ∧ (3 : Int) ≤ 4) := ⟨ht, hb, rfl, rfl, rfl, by simp, by omega⟩
  have hset : ∀ (d x : Int), isW x = true → q.op ≠ 4 → q.op ≠ 10 → thFit ⟨t.regs.set d.toNat x, t.pc + 1⟩ l.length = true := fun d x hx h4 h10 => thFit_iff.2 ⟨by simpa using t1, all_set t2 hx, by simp only; omega, hnx h4 h10⟩
  have hgo : q.op ≠ 4 → q.op ≠ 10 → thFit ⟨t.regs, t.pc + 1⟩ l.length = true := fun h4 h10 => thFit_iff.2 ⟨t1, t2, by simp only; omega, hnx h4 h10⟩
  rcases quV_cases hv with ⟨h, _, hw⟩ | ⟨h, _⟩ | ⟨h, _⟩ | ⟨h, hn⟩ | ⟨h, _, hn⟩ | ⟨h, _, hn⟩ | ⟨h, _, hn⟩ | h | ⟨h, _⟩ | h
  · have e : stepQ q t bs = (⟨t.regs.set q.dst.toNat q.n, t.pc + 1⟩, bs, [], 1) := by unfold stepQ; rw [if_pos h]
    rw [e]; exact ⟨hset _ _ hw (by omega) (by omega), hb, rfl, rfl, rfl, by simp, by simp⟩
  · have e : stepQ q t bs = (⟨t.regs.set q.dst.toNat (rg t q.a), t.pc + 1⟩, bs, [], 1) := by unfold stepQ; rw [if_neg (by omega), if_pos h]
    rw [e]; exact ⟨hset _ _ (rg_W t2 _) (by omega) (by omega), hb, rfl, rfl, rfl, by simp, by simp⟩
  · have e : stepQ q t bs = (⟨t.regs.set q.dst.toNat (applyM q.n (rg t q.a) (rg t q.b)), t.pc + 1⟩, bs, [], 1) := by unfold stepQ; rw [if_neg (by omega), if_neg (by omega), if_pos h]
    rw [e]; exact ⟨hset _ _ (isW_iff.2 (apply_W (isW_iff.1 (rg_W t2 _)) (isW_iff.1 (rg_W t2 _)))) (by omega) (by omega), hb, rfl, rfl, rfl, by simp, by simp⟩
  · have e : stepQ q t bs = (⟨t.regs, q.n⟩, bs, [], 1) := by unfold stepQ; rw [if_neg (by omega), if_neg (by omega), if_neg (by omega), if_pos h]
    rw [e]; exact ⟨thFit_iff.2 ⟨t1, t2, hn.1, hn.2⟩, hb, rfl, rfl, rfl, by simp, by simp⟩
  · have e : stepQ q t bs = (⟨t.regs, if rg t q.a = 0 then q.n else t.pc + 1⟩, bs, [], 1) := by unfold stepQ; rw [if_neg (by omega), if_neg (by omega), if_neg (by omega), if_neg (by omega), if_pos h]
    rw [e]
    refine ⟨thFit_iff.2 ⟨t1, t2, ?_⟩, hb, rfl, rfl, rfl, by simp, by simp⟩
    have := hnx (by omega) (by omega)
    simp only
    split <;> omega
  · have e : stepQ q t bs = match bs[q.n.toNat]? with
        | none => (t, bs, [], 3)
        | some bx => if (bx.items.length : Int) < bx.room then (⟨t.regs, t.pc + 1⟩, bs.set q.n.toNat ⟨bx.room, bx.items ++ [rg t q.a]⟩, [], 1) else (t, bs, [], 3) := by
      unfold stepQ; rw [if_neg (by omega), if_neg (by omega), if_neg (by omega), if_neg (by omega), if_neg (by omega), if_pos h]
      all_goals (cases bs[q.n.toNat]? <;> rfl)
    rw [e]
    cases hbx : bs[q.n.toNat]? with
    | none => exact stay
    | some bx =>
      simp only
      have hbv := (vaBs_facts hb).2 bx (List.mem_of_getElem? hbx)
      split
      · rename_i hr
        refine ⟨hgo (by omega) (by omega), vaBs_set hb ?_, by simp, rooms_set hbx, rfl, by simp, by simp⟩
        unfold vaB
        simp only [Bool.and_eq_true, decide_eq_true_eq, List.length_append, List.length_singleton, List.all_append, List.all_cons, List.all_nil, Bool.and_true]
        exact ⟨by omega, hbv.2.2.2, rg_W t2 _⟩
      · exact stay
  · have e : stepQ q t bs = match bs[q.n.toNat]? with
        | none => (t, bs, [], 3)
        | some bx =>
          match bx.items with
          | [] => (t, bs, [], 3)
          | y :: r => (⟨t.regs.set q.dst.toNat y, t.pc + 1⟩, bs.set q.n.toNat ⟨bx.room, r⟩, [], 1) := by
      unfold stepQ; rw [if_neg (by omega), if_neg (by omega), if_neg (by omega), if_neg (by omega), if_neg (by omega), if_neg (by omega), if_pos h]
      all_goals (rcases bs[q.n.toNat]? with _ | ⟨_, _ | _⟩ <;> rfl)
    rw [e]
    cases hbx : bs[q.n.toNat]? with
    | none => exact stay
    | some bx =>
      simp only
      have hbv := (vaBs_facts hb).2 bx (List.mem_of_getElem? hbx)
      cases hi : bx.items with
      | nil => exact stay
      | cons y r =>
        rw [hi] at hbv
        simp only [List.all_cons, Bool.and_eq_true, List.length_cons] at hbv
        refine ⟨hset _ _ hbv.2.2.2.1 (by omega) (by omega), vaBs_set hb ?_, by simp, rooms_set hbx, rfl, by simp, by simp⟩
        unfold vaB
        simp only [Bool.and_eq_true, decide_eq_true_eq]
        exact ⟨by omega, hbv.2.2.2.2⟩
  · have e : stepQ q t bs = (⟨t.regs, t.pc + 1⟩, bs, [], 2) := by unfold stepQ; rw [if_neg (by omega), if_neg (by omega), if_neg (by omega), if_neg (by omega), if_neg (by omega), if_neg (by omega), if_neg (by omega), if_pos h]
    rw [e]; exact ⟨hgo (by omega) (by omega), hb, rfl, rfl, rfl, by simp, by simp⟩
  · have e : stepQ q t bs = (⟨t.regs, t.pc + 1⟩, bs, [rg t q.a], 1) := by unfold stepQ; rw [if_neg (by omega), if_neg (by omega), if_neg (by omega), if_neg (by omega), if_neg (by omega), if_neg (by omega), if_neg (by omega), if_neg (by omega), if_pos h]
    rw [e]; exact ⟨hgo (by omega) (by omega), hb, rfl, rfl, by simp [rg_W t2], by simp, by simp⟩
  · have e : stepQ q t bs = (t, bs, [], 4) := by unfold stepQ; rw [if_neg (by omega), if_neg (by omega), if_neg (by omega), if_neg (by omega), if_neg (by omega), if_neg (by omega), if_neg (by omega), if_neg (by omega), if_neg (by omega)]
    rw [e]; exact ⟨ht, hb, rfl, rfl, rfl, by simp, by simp⟩
section
variable {base : Nat} {H : AH} {K : AV → AH → Prop} {w : Fk K} {T o R P po B : Nat} {cT cP : List AV} {vr vb vo vc : AV} {rs : List (AV × Nat)} {O : Nat} {t : Th} {bs : List Bx} {out : List Int} {okc : Nat → Prop} {l : List Qd} {q : Qd}
theorem TM.spl (h : TM base H T o R P po B cT cP vr vb vo rs O t bs out) : splice cT (o + 1) [.I t.pc] = cT ∧ splice cP po [vo] = cP := ⟨splice_id (seg_one h.sT).2, splice_id h.sP⟩
theorem K_iThread_step (h : TM base H T o R P po B cT cP vr vb vo rs O t bs out) (hc : QV okc H vc l) (hq : l[t.pc.toNat]? = some q) (hl : codeV l = true) (ht : thFit t l.length = true) (hb : vaBs bs = true) (hbx : boxQ bs.length q = true) (hol : out.length < 900000)
    (k : ∀ vo' rs' O' H', TM base H' T o R P po B (splice cT (o + 1) [.I (stepQ q t bs).1.pc]) (splice cP po [vo']) vr vb vo' rs' O' (stepQ q t bs).1 (stepQ q t bs).2.1 (out ++ (stepQ q t bs).2.2.1) →
      (∀ b ∈ fpB B rs', b ∈ fpB B rs ∨ H.n ≤ b) → (∀ b ∈ grB vo' O', b ∈ grB vo O ∨ H.n ≤ b) → Only (T :: R :: P :: (fpB B rs ++ grB vo O)) H H' → K (.I (stepQ q t bs).2.2.2) H') :
    CallF Cd f_iThread_step [.ptr T o, vc, vb, .ptr P po] H K w := by
  obtain ⟨c1, c2, c3, c4⟩ := codeV_facts hl
  obtain ⟨t1, t2, t3, t4⟩ := thFit_iff.1 ht
  have hv := c3 q (List.mem_of_getElem? hq)
  have hpc : 0 ≤ t.pc ∧ t.pc < l.length ∧ l.length ≤ 600 := ⟨t3, t4, c2⟩
  obtain ⟨sp1, sp2⟩ := h.spl
  have still : ∀ c : Int, stepQ q t bs = (t, bs, [], c) → ∀ H', Ext H H' → K (.I c) H' := fun c e H' x => by
    rw [e] at k
    refine k vo rs O H' ?_ (fun b hb => .inl hb) (fun b hb => .inl hb) x.only
    simp only [sp1, sp2, List.append_nil]
    exact h.ext x
  rcases quV_cases hv with ⟨h0, hd, hw⟩ | ⟨h0, hd, ha⟩ | ⟨h0, hd, ha, hbb⟩ | ⟨h0, hn⟩ | ⟨h0, ha, hn⟩ | ⟨h0, ha, hn⟩ | ⟨h0, hd, hn⟩ | h0 | ⟨h0, ha⟩ | h0
  · have e : stepQ q t bs = (⟨t.regs.set q.dst.toNat q.n, t.pc + 1⟩, bs, [], 1) := by unfold stepQ; rw [if_pos h0]
    rw [e] at k
    refine TS_set h hc hq hpc h0 hd fun H' m oo => k vo rs O H' (by simp only [sp2, List.append_nil]; exact m) (fun b hb => .inl hb) (fun b hb => .inl hb) (oo.mono (fun b hb => .inl ?_))
    simp at hb ⊢; rcases hb with z | z <;> simp [z]
  · have e : stepQ q t bs = (⟨t.regs.set q.dst.toNat (rg t q.a), t.pc + 1⟩, bs, [], 1) := by unfold stepQ; rw [if_neg (by omega), if_pos h0]
    rw [e] at k
    refine TS_copy h hc hq hpc h0 hd ha fun H' m oo => k vo rs O H' (by simp only [sp2, List.append_nil]; exact m) (fun b hb => .inl hb) (fun b hb => .inl hb) (oo.mono (fun b hb => .inl ?_))
    simp at hb ⊢; rcases hb with z | z <;> simp [z]
  · have e : stepQ q t bs = (⟨t.regs.set q.dst.toNat (applyM q.n (rg t q.a) (rg t q.b)), t.pc + 1⟩, bs, [], 1) := by unfold stepQ; rw [if_neg (by omega), if_neg (by omega), if_pos h0]
    rw [e] at k
    refine TS_bin h hc hq hpc h0 hd ha hbb (rg_W t2 _) (rg_W t2 _) fun H' m oo => k vo rs O H' (by simp only [sp2, List.append_nil]; exact m) (fun b hb => .inl hb) (fun b hb => .inl hb) (oo.mono (fun b hb => .inl ?_))
    simp at hb ⊢; rcases hb with z | z <;> simp [z]
  · have e : stepQ q t bs = (⟨t.regs, q.n⟩, bs, [], 1) := by unfold stepQ; rw [if_neg (by omega), if_neg (by omega), if_neg (by omega), if_pos h0]
    rw [e] at k
    refine TS_jump h hc hq hpc h0 fun H' m oo => k vo rs O H' (by simp only [sp2, List.append_nil]; exact m) (fun b hb => .inl hb) (fun b hb => .inl hb) (oo.mono (fun b hb => .inl ?_))
    simp at hb ⊢; rcases hb with z | z <;> simp [z]
  · have e : stepQ q t bs = (⟨t.regs, if rg t q.a = 0 then q.n else t.pc + 1⟩, bs, [], 1) := by unfold stepQ; rw [if_neg (by omega), if_neg (by omega), if_neg (by omega), if_neg (by omega), if_pos h0]
    rw [e] at k
    refine TS_zero h hc hq hpc h0 ha fun H' m oo => k vo rs O H' (by simp only [sp2, List.append_nil]; exact m) (fun b hb => .inl hb) (fun b hb => .inl hb) (oo.mono (fun b hb => .inl ?_))
    simp at hb ⊢; rcases hb with z | z <;> simp [z]
  · have hlt : q.n < bs.length := by unfold boxQ at hbx; simp only [decide_eq_true_eq] at hbx; exact hbx (.inl h0)
    obtain ⟨bx, hx⟩ : ∃ x, bs[q.n.toNat]? = some x := ⟨_, List.getElem?_eq_getElem (by omega)⟩
    have hbv := (vaBs_facts hb).2 bx (List.mem_of_getElem? hx)
    have e : stepQ q t bs = if (bx.items.length : Int) < bx.room then (⟨t.regs, t.pc + 1⟩, bs.set q.n.toNat ⟨bx.room, bx.items ++ [rg t q.a]⟩, [], 1) else (t, bs, [], 3) := by
      unfold stepQ; rw [if_neg (by omega), if_neg (by omega), if_neg (by omega), if_neg (by omega), if_neg (by omega), if_pos h0, hx]
    refine TS_send h hc hq hpc h0 ha hn.1 hx (by omega) (fun he H' x => still 3 (by rw [e, if_neg (by omega)]) H' x) (fun hr rs' H' m hf oo => ?_)
    rw [e, if_pos hr] at k
    refine k vo rs' O H' (by simp only [sp2, List.append_nil]; exact m) hf (fun b hb => .inl hb) (oo.mono (fun b hb => .inl ?_))
    simp at hb ⊢; rcases hb with z | z <;> simp [z]
  · have hlt : q.n < bs.length := by unfold boxQ at hbx; simp only [decide_eq_true_eq] at hbx; exact hbx (.inr h0)
    obtain ⟨bx, hx⟩ : ∃ x, bs[q.n.toNat]? = some x := ⟨_, List.getElem?_eq_getElem (by omega)⟩
    have e : stepQ q t bs = match bx.items with
          | [] => (t, bs, [], 3)
          | y :: r => (⟨t.regs.set q.dst.toNat y, t.pc + 1⟩, bs.set q.n.toNat ⟨bx.room, r⟩, [], 1) := by
      unfold stepQ; rw [if_neg (by omega), if_neg (by omega), if_neg (by omega), if_neg (by omega), if_neg (by omega), if_neg (by omega), if_pos h0, hx]
      all_goals (rcases bx with ⟨_, _ | _⟩ <;> rfl)
    refine TS_recv h hc hq hpc h0 hd hn.1 hx (fun he H' x => still 3 (by rw [e, he]) H' x) (fun y r hr rs' H' m hf oo => ?_)
    rw [e, hr] at k
    refine k vo rs' O H' (by simp only [sp2, List.append_nil]; exact m) hf (fun b hb => .inl hb) (oo.mono (fun b hb => .inl ?_))
    simp at hb ⊢; rcases hb with z | z | z <;> simp [z]
  · have e : stepQ q t bs = (⟨t.regs, t.pc + 1⟩, bs, [], 2) := by unfold stepQ; rw [if_neg (by omega), if_neg (by omega), if_neg (by omega), if_neg (by omega), if_neg (by omega), if_neg (by omega), if_neg (by omega), if_pos h0]
    rw [e] at k
    refine TS_yield h hc hq hpc h0 fun H' m oo => k vo rs O H' (by simp only [sp2, List.append_nil]; exact m) (fun b hb => .inl hb) (fun b hb => .inl hb) (oo.mono (fun b hb => .inl ?_))
    simp at hb ⊢; rcases hb with z | z <;> simp [z]
  · have e : stepQ q t bs = (⟨t.regs, t.pc + 1⟩, bs, [rg t q.a], 1) := by unfold stepQ; rw [if_neg (by omega), if_neg (by omega), if_neg (by omega), if_neg (by omega), if_neg (by omega), if_neg (by omega), if_neg (by omega), if_neg (by omega), if_pos h0]
    rw [e] at k
    refine TS_print h hc hq hpc h0 ha hol fun vo' O' H' m hO oo => k vo' rs O' H' m (fun b hb => .inl hb) hO (oo.mono (fun b hb => .inl ?_))
    simp at hb ⊢; rcases hb with z | z | z <;> simp [z]
  · have e : stepQ q t bs = (t, bs, [], 4) := by unfold stepQ; rw [if_neg (by omega), if_neg (by omega), if_neg (by omega), if_neg (by omega), if_neg (by omega), if_neg (by omega), if_neg (by omega), if_neg (by omega), if_neg (by omega)]
    exact TS_halt h hc hq hpc h0 fun H' x => still 4 e H' x
end
end Go.Proofs.Ytmecbehegmgbhaa.AM
namespace Go.Proofs.Ytmecbehegmgbhaa.AM
set_option linter.unusedSimpArgs false
set_option linter.unusedVariables false
set_option maxRecDepth 100000
set_option maxHeartbeats 4000000
open Go
attribute [-simp] AM.elems
def CLc (ok : Nat → Prop) (H : AH) (c : List AV) (l : List Qd) : Prop := ∃ v, c = [v] ∧ QV ok H v l
theorem CLc.mono {ok ok' : Nat → Prop} {H H' c t} (h : CLc ok H c t) (hn : H.n ≤ H'.n) (hk : ∀ b, ok b → b < H.n → H'.bk b = H.bk b) (ho : ∀ b, ok b → b < H.n → ok' b) : CLc ok' H' c t := by
  obtain ⟨v, e, h⟩ := h; exact ⟨v, e, h.mono hn hk ho⟩
def CLV (ok : Nat → Prop) (H : AH) (v : AV) (l : List (List Qd)) : Prop := ∃ ca, SlC ok H v l.length 1 ca ∧ LF 1 (CLc ok H) l ca
theorem CLV.mono {ok ok' : Nat → Prop} {H H' v l} (h : CLV ok H v l) (hn : H.n ≤ H'.n) (hk : ∀ b, ok b → b < H.n → H'.bk b = H.bk b) (ho : ∀ b, ok b → b < H.n → ok' b) : CLV ok' H' v l := by
  obtain ⟨ca, h1, h2⟩ := h
  exact ⟨ca, h1.mono hn hk ho, h2.imp fun c a h => h.mono hn hk ho⟩
theorem CLV.ext {ok H H' c t} (h : CLV ok H c t) (k : Ext H H') : CLV ok H' c t := h.mono k.1 (fun b _ hb => k.2 b hb) (fun _ h _ => h)
theorem CLV.alen {ok H v l} (h : CLV ok H v l) : alen v = some l.length := h.choose_spec.1.alen
theorem CLV.flat {ok H v l} (h : CLV ok H v l) : v.flat = true := h.choose_spec.1.flat
theorem CLV.big {ok H v l} (h : CLV ok H v l) : l.length ≤ 8589934592 := h.choose_spec.1.1
theorem CLV.at {ok H v l} (h : CLV ok H v l) {i : Nat} {x : List Qd} (hi : l[i]? = some x) : ∃ b o cap vc, v = .sl b o l.length cap ∧ ok b ∧ b < H.n ∧ H.load b (o + i) = some vc ∧ QV ok H vc x := by
  obtain ⟨ca, h1, h2⟩ := h
  have hl := (List.getElem?_eq_some_iff.1 hi).1
  obtain ⟨b, o, cap, e, ob, hb, hs⟩ := h1.at hl
  obtain ⟨c, hc, vc, rfl, i1⟩ := h2.get hi
  have l1 : H.loadN b (o + i * 1) 1 = some [vc] := by rw [hs _ _ (by omega)]; exact hc
  have l2 := loadN_get l1 (i := 0) (by omega)
  rw [Nat.mul_one] at l2
  exact ⟨b, o, cap, vc, e, ob, hb, by simpa using l2, i1⟩
def ThV (ok : Nat → Prop) (H : AH) (v : AV) (l : List Th) : Prop := ∃ ca, SlC ok H v l.length 2 ca ∧ LF 2 (ThC ok H) l ca
theorem ThV.mono {ok ok' : Nat → Prop} {H H' v l} (h : ThV ok H v l) (hn : H.n ≤ H'.n) (hk : ∀ b, ok b → b < H.n → H'.bk b = H.bk b) (ho : ∀ b, ok b → b < H.n → ok' b) : ThV ok' H' v l := by
  obtain ⟨ca, h1, h2⟩ := h
  exact ⟨ca, h1.mono hn hk ho, h2.imp fun c a h => h.mono hn hk ho⟩
theorem ThV.ext {ok H H' c t} (h : ThV ok H c t) (k : Ext H H') : ThV ok H' c t := h.mono k.1 (fun b _ hb => k.2 b hb) (fun _ h _ => h)
theorem ThV.alen {ok H v l} (h : ThV ok H v l) : alen v = some l.length := h.choose_spec.1.alen
theorem ThV.flat {ok H v l} (h : ThV ok H v l) : v.flat = true := h.choose_spec.1.flat
theorem ThV.big {ok H v l} (h : ThV ok H v l) : l.length ≤ 8589934592 := h.choose_spec.1.1
theorem ThV.at {ok H v l} (h : ThV ok H v l) {i : Nat} {x : Th} (hi : l[i]? = some x) : ∃ b o cap vr, v = .sl b o l.length cap ∧ ok b ∧ b < H.n ∧ H.loadN b (o + i * 2) 2 = some [vr, .I x.pc] ∧ IV ok H vr x.regs := by
  obtain ⟨ca, h1, h2⟩ := h
  have hl := (List.getElem?_eq_some_iff.1 hi).1
  obtain ⟨b, o, cap, e, ob, hb, hs⟩ := h1.at hl
  obtain ⟨c, hc, vr, rfl, i1⟩ := h2.get hi
  exact ⟨b, o, cap, vr, e, ob, hb, by rw [hs _ _ (by omega)]; exact hc, i1⟩
structure Cw where
  codes : List (List Qd)
  threads : List Th
  boxes : List Bx
  turn : Int
  idle : Int
  out : List Int
deriving DecidableEq, Inhabited
def CwC (ok : Nat → Prop) (H : AH) (c : List AV) (w : Cw) : Prop := ∃ vc vt vb vo, c = [vc, vt, vb, .I w.turn, .I w.idle, vo] ∧ CLV ok H vc w.codes ∧ ThV ok H vt w.threads ∧ BV ok H vb w.boxes ∧ IV ok H vo w.out
theorem CwC.mono {ok ok' : Nat → Prop} {H H' c t} (h : CwC ok H c t) (hn : H.n ≤ H'.n) (hk : ∀ b, ok b → b < H.n → H'.bk b = H.bk b) (ho : ∀ b, ok b → b < H.n → ok' b) : CwC ok' H' c t := by
  obtain ⟨vc, vt, vb, vo, e, h0, h1, h2, h3⟩ := h
  exact ⟨vc, vt, vb, vo, e, h0.mono hn hk ho, h1.mono hn hk ho, h2.mono hn hk ho, h3.mono hn hk ho⟩
theorem CwC.ext {ok H H' c t} (h : CwC ok H c t) (k : Ext H H') : CwC ok H' c t := h.mono k.1 (fun b _ hb => k.2 b hb) (fun _ h _ => h)
def vaTh (many : Int) (p : List Qd × Th) : Bool := codeV p.1 && thFit p.2 p.1.length && p.1.all (boxQ many)
def vaCw (w : Cw) : Bool := decide (1 ≤ w.codes.length ∧ w.codes.length ≤ 3 ∧ 0 ≤ w.turn ∧ w.turn < w.codes.length ∧ 0 ≤ w.idle ∧ w.idle ≤ w.codes.length) && w.out.all isW && decide (w.threads.length = w.codes.length) && vaBs w.boxes && (w.codes.zip w.threads).all (vaTh w.boxes.length)
section
variable {ok : Nat → Prop} {H : AH} {K : AV → AH → Prop} {wf : Fk K} {v : AV} {l : List Qd}
end
end Go.Proofs.Ytmecbehegmgbhaa.AM
namespace Go.Proofs.Ytmecbehegmgbhaa.AM
set_option linter.unusedSimpArgs false
set_option linter.unusedVariables false
set_option maxRecDepth 100000
set_option maxHeartbeats 4000000
open Go
attribute [-simp] AM.elems
theorem GrS.qv {base G v l B} (h : GrS base G v l.length 5 (qCs l) B) : QV (fun b => base ≤ b) G v l := h.slc
section
variable {ok : Nat → Prop} {H : AH} {K : AV → AH → Prop} {w : Fk K} {v : AV}
end
end Go.Proofs.Ytmecbehegmgbhaa.AM
namespace Go.Proofs.Ytmecbehegmgbhaa.AM
set_option linter.unusedSimpArgs false
set_option linter.unusedVariables false
set_option maxRecDepth 100000
set_option maxHeartbeats 4000000
open Go
attribute [-simp] AM.elems
def RgT (lo : Nat) (G : AH) (ths : List Th) (qs : List (AV × Nat)) (bad : List Nat) : Prop :=
  (∀ (i : Nat) (t : Th) (q : AV × Nat), ths[i]? = some t → qs[i]? = some q → GrS lo G q.1 12 1 (Ints t.regs) q.2 ∧ q.2 ∉ bad ∧ q.2 < G.n ∧ lo ≤ q.2) ∧
  (∀ (i j : Nat) (q q' : AV × Nat), i ≠ j → qs[i]? = some q → qs[j]? = some q' → q.2 ≠ q'.2)
theorem RgT.only {lo G G' ths qs bad cs} (h : RgT lo G ths qs bad) (k : Only cs G G') (hlen : qs.length = ths.length) (hc : ∀ b ∈ cs, b ∈ bad ∨ b < lo ∨ G.n ≤ b) : RgT lo G' ths qs bad :=
  ⟨fun i t q ht hq => by
    obtain ⟨a1, a2, a3, a4⟩ := h.1 i t q ht hq
    exact ⟨a1.only k (fun b hb => by
      rcases hc b hb with z | z | z
      · exact .inr (fun e => a2 (by rw [← e]; exact z))
      · exact .inl z
      · exact .inr (by omega)), a2, Nat.lt_of_lt_of_le a3 k.1, a4⟩, h.2⟩
theorem GrS.real {base G v n sz cs B} (h : GrS base G v n sz cs B) (hn : 0 < n) : base ≤ B ∧ B < G.n ∧ grB v B = [B] := by
  obtain ⟨_, _, ⟨_, h0⟩ | ⟨h1, h2, ⟨rfl, _⟩ | ⟨c, ex, rfl, _⟩⟩⟩ := h
  · omega
  · exact ⟨h1, h2, rfl⟩
  · exact ⟨h1, h2, rfl⟩
section
variable {K : AV → AH → Prop}
end
end Go.Proofs.Ytmecbehegmgbhaa.AM
namespace Go.Proofs.Ytmecbehegmgbhaa.AM
set_option linter.unusedSimpArgs false
set_option linter.unusedVariables false
set_option maxRecDepth 100000
set_option maxHeartbeats 4000000
open Go
attribute [-simp] AM.elems
def qAt (codes : List (List Qd)) (ths : List Th) (t : Int) : Option (Qd × Th) :=
  match ths[t.toNat]?, codes[t.toNat]? with
  | some x, some l => (l[x.pc.toNat]?).map fun q => (q, x)
  | _, _ => none
def stepC (c : Cw) : Cw :=
  match qAt c.codes c.threads c.turn with
  | none => c
  | some (q, x) => ⟨c.codes, c.threads.set c.turn.toNat (stepQ q x c.boxes).1, (stepQ q x c.boxes).2.1, (nextT c.threads.length c.turn c.idle (stepQ q x c.boxes).2.2.2).1, (nextT c.threads.length c.turn c.idle (stepQ q x c.boxes).2.2.2).2, c.out ++ (stepQ q x c.boxes).2.2.1⟩
def runC : Nat → Cw → Cw
  | 0, c => c
  | n + 1, c => if c.idle < c.threads.length then runC n (stepC c) else c
theorem zip_all {α β : Type} {f : α × β → Bool} : ∀ {a : List α} {b : List β}, (a.zip b).all f = true ↔ ∀ (i : Nat) (x : α) (y : β), a[i]? = some x → b[i]? = some y → f (x, y) = true
  | [], b => by simp
  | x :: a, [] => by simp
  | x :: a, y :: b => by
    simp only [List.zip_cons_cons, List.all_cons, Bool.and_eq_true, zip_all (a := a) (b := b)]
    constructor
    · intro h i u v hu hv
      cases i with
      | zero => simp at hu hv; subst hu; subst hv; exact h.1
      | succ i => exact h.2 i u v (by simpa using hu) (by simpa using hv)
    · intro h
      exact ⟨h 0 x y rfl rfl, fun i u v hu hv => h (i + 1) u v (by simpa using hu) (by simpa using hv)⟩
theorem vaTh_iff {many : Int} {l : List Qd} {t : Th} : vaTh many (l, t) = true ↔ codeV l = true ∧ thFit t l.length = true ∧ l.all (boxQ many) = true := by
  unfold vaTh; simp only [Bool.and_eq_true]; exact and_assoc
theorem vaCw_iff {w : Cw} : vaCw w = true ↔ (1 ≤ w.codes.length ∧ w.codes.length ≤ 3 ∧ 0 ≤ w.turn ∧ w.turn < w.codes.length ∧ 0 ≤ w.idle ∧ w.idle ≤ w.codes.length) ∧ w.out.all isW = true ∧ w.threads.length = w.codes.length ∧ vaBs w.boxes = true ∧
    ∀ (i : Nat) (l : List Qd) (t : Th), w.codes[i]? = some l → w.threads[i]? = some t → vaTh w.boxes.length (l, t) = true := by
  unfold vaCw
  simp only [Bool.and_eq_true, decide_eq_true_eq, zip_all, and_assoc]
theorem qAt_some {codes : List (List Qd)} {ths : List Th} {t many : Int} (hl : ths.length = codes.length) (ht : 0 ≤ t ∧ t < codes.length) (hv : ∀ (i : Nat) (l : List Qd) (t : Th), codes[i]? = some l → ths[i]? = some t → vaTh many (l, t) = true) :
    ∃ q x l, qAt codes ths t = some (q, x) ∧ ths[t.toNat]? = some x ∧ codes[t.toNat]? = some l ∧ l[x.pc.toNat]? = some q ∧ codeV l = true ∧ thFit x l.length = true ∧ l.all (boxQ many) = true ∧ boxQ many q = true := by
  obtain ⟨x, hx⟩ : ∃ x, ths[t.toNat]? = some x := ⟨_, List.getElem?_eq_getElem (by omega)⟩
  obtain ⟨l, hl⟩ : ∃ l, codes[t.toNat]? = some l := ⟨_, List.getElem?_eq_getElem (by omega)⟩
  obtain ⟨h1, h2, h3⟩ := vaTh_iff.1 (hv _ l x hl hx)
  obtain ⟨_, _, h4, h5⟩ := thFit_iff.1 h2
  obtain ⟨q, hq⟩ : ∃ q, l[x.pc.toNat]? = some q := ⟨_, List.getElem?_eq_getElem (by omega)⟩
  exact ⟨q, x, l, by unfold qAt; simp [hx, hl, hq], hx, hl, hq, h1, h2, h3, List.all_eq_true.1 h3 q (List.mem_of_getElem? hq)⟩
theorem stepC_keeps {w : Cw} (h : vaCw w = true) (hi : w.idle < w.threads.length) : vaCw (stepC w) = true ∧ (stepC w).codes = w.codes ∧ (stepC w).threads.length = w.threads.length ∧ (stepC w).boxes.length = w.boxes.length ∧ (stepC w).boxes.map (·.room) = w.boxes.map (·.room) ∧ (∃ p, (stepC w).out = w.out ++ p ∧ p.length ≤ 1) := by
  obtain ⟨h1, h2, h3, h4, h5⟩ := vaCw_iff.1 h
  obtain ⟨q, x, l, e, hx, hl, hq, c1, c2, c3, c4⟩ := qAt_some (t := w.turn) h3 (by omega) h5
  obtain ⟨u1, u2, u3, u4, u5, u6, u7⟩ := stepQ_keeps (bs := w.boxes) c1 hq c2 h4
  have hn := nextT_ok (many := w.threads.length) (t := w.turn) (i := w.idle) (c := (stepQ q x w.boxes).2.2.2) (by omega) (by omega) (by omega)
  have es : stepC w = ⟨w.codes, w.threads.set w.turn.toNat (stepQ q x w.boxes).1, (stepQ q x w.boxes).2.1, (nextT w.threads.length w.turn w.idle (stepQ q x w.boxes).2.2.2).1, (nextT w.threads.length w.turn w.idle (stepQ q x w.boxes).2.2.2).2, w.out ++ (stepQ q x w.boxes).2.2.1⟩ := by
    unfold stepC; rw [e]
  rw [es]
  refine ⟨vaCw_iff.2 ⟨by simp only; omega, ?_, by simpa using h3, u2, fun i l' t' hl' ht' => ?_⟩, rfl, by simp, u3, u4, ⟨_, rfl, u6⟩⟩
  · simp only [List.all_append, Bool.and_eq_true]; exact ⟨h2, u5⟩
  · simp only at hl' ht'
    rw [u3]
    by_cases hit : i = w.turn.toNat
    · subst hit
      rw [List.getElem?_set_self (by omega)] at ht'
      cases ht'
      rw [hl] at hl'; cases hl'
      exact vaTh_iff.2 ⟨c1, u1, c3⟩
    · rw [List.getElem?_set_ne (Ne.symm hit)] at ht'
      exact h5 i l' t' hl' ht'
theorem GrS.spl {base G G' v n sz cs T cT o c} (h : GrS base G v n sz cs T) (hT : G.bk T = some ⟨cT, true⟩) (hT' : G'.bk T = some ⟨splice cT o c, true⟩) (ho : o + c.length ≤ n * sz) (hc : 0 < c.length) (hn : T < G'.n) : GrS base G' v n sz (splice cs o c) T := by
  obtain ⟨h1, h2, h3⟩ := h
  have hl : (splice cs o c).length = n * sz := by unfold splice; rw [List.length_append, List.length_append, List.length_take, List.length_drop, h2]; omega
  rcases h3 with ⟨rfl, rfl⟩ | ⟨h4, h5, ⟨rfl, h6⟩ | ⟨cc, ex, rfl, h7, h8, h9⟩⟩
  · rw [Nat.zero_mul] at ho; omega
  · rw [hT] at h6; cases h6
    exact ⟨h1, hl, .inr ⟨h4, hn, .inl ⟨rfl, hT'⟩⟩⟩
  · rw [hT] at h9; cases h9
    refine ⟨h1, hl, .inr ⟨h4, hn, .inr ⟨cc, ex, rfl, h7, h8, ?_⟩⟩⟩
    rw [hT']
    have : splice (cs ++ ex) o c = splice cs o c ++ ex := by
      unfold splice
      rw [List.take_append_of_le_length (by omega), List.drop_append_of_le_length (by omega)]; simp
    rw [this]
end Go.Proofs.Ytmecbehegmgbhaa.AM
namespace Go.Proofs.Ytmecbehegmgbhaa.AM
set_option linter.unusedSimpArgs false
set_option linter.unusedVariables false
set_option maxRecDepth 100000
set_option maxHeartbeats 4000000
open Go
attribute [-simp] AM.elems
theorem CLV.nil {ok H v} (h : v = .nils ∨ v = .esl) : CLV ok H v [] := ⟨[], ⟨by simp, rfl, .inl ⟨rfl, h⟩⟩, rfl⟩
theorem ThV.nil {ok H v} (h : v = .nils ∨ v = .esl) : ThV ok H v [] := ⟨[], ⟨by simp, rfl, .inl ⟨rfl, h⟩⟩, rfl⟩
section
variable {ok : Nat → Prop} {H : AH} {K : AV → AH → Prop} {wf : Fk K} {c : List AV} {w : Cw} {n : Int}
end
end Go.Proofs.Ytmecbehegmgbhaa.AM
namespace Go.Proofs.Ytmecbehegmgbhaa.AM
set_option linter.unusedSimpArgs false
set_option linter.unusedVariables false
set_option maxRecDepth 100000
set_option maxHeartbeats 4000000
open Go
attribute [-simp] AM.elems
abbrev z12 : List Int := [0, 0, 0, 0, 0, 0, 0, 0, 0, 0, 0, 0]
def newK (rooms : List Int) (codes : List (List Qd)) : Cw := ⟨codes, codes.map fun _ => ⟨z12, 0⟩, rooms.map fun x => ⟨x, []⟩, 0, 0, []⟩
section
variable {ok ok2 : Nat → Prop} {H : AH} {K : AV → AH → Prop} {wf : Fk K} {c : List AV}
end
end Go.Proofs.Ytmecbehegmgbhaa.AM
namespace Go.Proofs.Ytmecbehegmgbhaa.AM
set_option linter.unusedSimpArgs false
set_option linter.unusedVariables false
set_option maxRecDepth 100000
set_option maxHeartbeats 4000000
open Go
attribute [-simp] AM.elems
section
variable {ok ok2 : Nat → Prop} {H : AH} {K : AV → AH → Prop} {wf : Fk K} {c : List AV} {w : Cw}
theorem stepC_out {w : Cw} (h : vaCw w = true) (hi : w.idle < w.threads.length) : (stepC w).out.length ≤ w.out.length + 1 := by
  obtain ⟨_, _, _, _, _, p, e, hp⟩ := stepC_keeps h hi
  rw [e, List.length_append]; omega
theorem runC_keeps (n : Nat) : ∀ {w : Cw}, vaCw w = true → vaCw (runC n w) = true ∧ (runC n w).out.length ≤ w.out.length + n ∧ ∃ p, (runC n w).out = w.out ++ p := by
  induction n with
  | zero => intro w h; exact ⟨h, by simp [runC], [], by simp [runC]⟩
  | succ n ih =>
    intro w h
    unfold runC
    split
    · rename_i hi
      obtain ⟨a, b, p, e⟩ := ih (stepC_keeps h hi).1
      have := stepC_out h hi
      obtain ⟨_, _, _, _, _, p', e', hp⟩ := stepC_keeps h hi
      exact ⟨a, by omega, p' ++ p, by rw [e, e', List.append_assoc]⟩
    · exact ⟨h, by omega, [], by simp⟩
end
end Go.Proofs.Ytmecbehegmgbhaa.AM
namespace Go.Proofs.Ytmecbehegmgbhaa.AM
set_option linter.unusedSimpArgs false
set_option linter.unusedVariables false
set_option maxRecDepth 100000
set_option maxHeartbeats 4000000
open Go
attribute [-simp] AM.elems
def cE1 (at_ op n : Int) (sub : List Qd) : List Qd :=
  if op = 0 then [⟨1, at_, 0, 0, n⟩] else if op = 13 then [⟨2, at_, n, 0, 0⟩] else sub ++ [⟨3, at_, at_, at_ + 1, op⟩]
def compF : Exs → Int → List Qd
  | .nil, _ => []
  | .cons op n a r, at_ => cE1 at_ op n (compF a at_) ++ compF r (at_ + 1)
def compE (at_ : Int) (e : Ex) : List Qd := cE1 at_ e.op e.n (compF e.args at_)
theorem compF_two {a : Exs} {x y : Ex} (h : a.list = [x, y]) (at_ : Int) : compF a at_ = compE at_ x ++ compE (at_ + 1) y := by
  cases a with
  | nil => simp at h
  | cons op n a r =>
    cases r with
    | nil => simp at h
    | cons op' n' a' r' =>
      cases r' with
      | nil =>
        simp at h
        obtain ⟨rfl, rfl⟩ := h
        simp [compF, compE]
      | cons _ _ _ _ => simp at h
def CS (base : Nat) (H H' : AH) (v : AV) (B : Nat) (v' : AV) (B' : Nat) (L' : List Qd) : Prop :=
  GrS base H' v' L'.length 5 (qCs L') B' ∧ Only (grB v B) H H' ∧ (∀ b ∈ grB v' B', b ∈ grB v B ∨ H.n ≤ b)
theorem CS.trans {base H H1 H2 v B v1 B1 v2 B2 L1 L2} (h : CS base H H1 v B v1 B1 L1) (k : CS base H1 H2 v1 B1 v2 B2 L2) : CS base H H2 v B v2 B2 L2 := by
  obtain ⟨a1, a2, a3⟩ := h
  obtain ⟨b1, b2, b3⟩ := k
  have n1 := a2.1
  have n2 := b2.1
  refine ⟨b1, ⟨by omega, fun b hb hm => ?_⟩, fun b hb => ?_⟩
  · rw [b2.2 b (by omega) (fun hm1 => by rcases a3 b hm1 with z | z; exact hm z; omega), a2.2 b hb hm]
  · rcases b3 b hb with z | z
    · exact a3 b z
    · exact .inr (by omega)
theorem CS.pre {base H0 H H' v B v' B' L'} (x : Ext H0 H) (h : CS base H H' v B v' B' L') (hb : ∀ b ∈ grB v B, b < H0.n) : CS base H0 H' v B v' B' L' := by
  obtain ⟨a1, a2, a3⟩ := h
  have n1 := a2.1
  have n0 := x.1
  exact ⟨a1, ⟨by omega, fun b hb' hm => by rw [a2.2 b (by omega) hm, x.2 b hb']⟩, fun b hb' => (a3 b hb').imp id (fun z => by omega)⟩
theorem CS.post {base H H1 H2 v B v' B' L'} (h : CS base H H1 v B v' B' L') (x : Ext H1 H2) : CS base H H2 v B v' B' L' := by
  obtain ⟨a1, a2, a3⟩ := h
  exact ⟨a1.ext x, ⟨Nat.le_trans a2.1 x.1, fun b hb hm => by rw [x.2 b (Nat.lt_of_lt_of_le hb a2.1), a2.2 b hb hm]⟩, a3⟩
theorem CS.app {base H v B} {L : List Qd} (h : GrS base H v L.length 5 (qCs L) B) (hb : base ≤ H.n) (q : Qd) (hl : L.length < 1000000) :
    ∃ v' H' B', aapp (H.push (qC q)) 5 v 1 (qC q) = some (v', H') ∧ CS base H H' v B v' B' (L ++ [q]) ∧ v'.flat = true := by
  obtain ⟨v', H', B', a1, a2, a3, a4⟩ := (h.ext (Ext.push H (qC q))).app (by simp; omega) (k := 1) (new := qC q) rfl (by omega)
  have a2' : GrS base H' v' (L ++ [q]).length 5 (qCs (L ++ [q])) B' := by rw [qCs_app]; simpa [qCs] using a2
  refine ⟨v', H', B', a1, ⟨a2', ?_, fun b hb => ?_⟩, a2.flat⟩
  · have n4 := a4.1
    simp at n4
    exact ⟨by omega, fun b hb hm => (a4.2 b (by simp; omega) hm).trans (push_old hb rfl)⟩
  · rcases a3 with ⟨z1, z2⟩ | z
    · exact .inl (by rw [grB_sub hb, z1]; exact z2)
    · exact .inr (by rw [grB_sub hb, z]; simp)
theorem CS.le {base H H' v B v' B' L'} (h : CS base H H' v B v' B' L') : H.n ≤ H'.n := h.2.1.1
theorem CS.keep {base H H' v B v' B' L'} {P : Nat} {x} (h : CS base H H' v B v' B' L') (hP : P < H.n) (hm : P ∉ grB v B) (e : H.bk P = x) : H'.bk P = x := (h.2.1.2 P hP hm).trans e
theorem CS.nm {base H H' v B v' B' L'} {P : Nat} (h : CS base H H' v B v' B' L') (hP : P < H.n) (hm : P ∉ grB v B) : P ∉ grB v' B' := fun hm' => by rcases h.2.2 P hm' with z | z; exact hm z; omega
theorem K_icompileExpr (a : Exs) : ∀ {base : Nat} {H : AH} {K : AV → AH → Prop} {w : Fk K} {op n d at_ : Int} {va v : AV} {L : List Qd} {B : Nat}, EV (fun b => b < base) H va a → GrS base H v L.length 5 (qCs L) B → base ≤ H.n → okE1 d op n a.list.length (okF (d - 1) a) = true → (0 ≤ at_ ∧ at_ + d ≤ 100) → L.length + (cE1 at_ op n (compF a at_)).length ≤ 1000000 →
    (∀ v' B' H', CS base H H' v B v' B' (L ++ cE1 at_ op n (compF a at_)) → K v' H') → CallF Cd f_icompileExpr [.agg [.I op, .I n, va], .I at_, v] H K w := by
  induction a using Exs.ind with
  | h a ih =>
  intro base H K w op n d at_ va v L B h hg hb hok hat hL k
  have hf := hg.flat
  have x1 := Ext.push H [.I op, .I n, va]
  have q1 : (H.push [.I op, .I n, va]).bk H.n = some ⟨[.I op, .I n, va], true⟩ := push_new
  have hgb : ∀ b ∈ grB v B, b < H.n := fun b hb => (hg.mem hb).2.2 |> fun z => by have := (hg.mem hb).1; omega
  rw [CallF_eq e_icompileExpr rfl]
  by_cases h0 : op = 0
  · subst h0
    have e : cE1 at_ 0 n (compF a at_) = [⟨1, at_, 0, 0, n⟩] := by unfold cE1; rw [if_pos rfl]
    rw [e] at k hL
    obtain ⟨v', H', B', a1, a2, a3⟩ := CS.app (hg.ext x1) (by simp; omega) ⟨1, at_, 0, 0, n⟩ (by simp at hL; omega)
    simp only [qC] at a1
    simp [load_bk q1, AM.elems, loadN_push, a1]
    exact k _ B' _ (a2.pre x1 hgb)
  by_cases h13 : op = 13
  · subst h13
    have e : cE1 at_ 13 n (compF a at_) = [⟨2, at_, n, 0, 0⟩] := by unfold cE1; rw [if_neg (by omega), if_pos rfl]
    rw [e] at k hL
    obtain ⟨v', H', B', a1, a2, a3⟩ := CS.app (hg.ext x1) (by simp; omega) ⟨2, at_, n, 0, 0⟩ (by simp at hL; omega)
    simp only [qC] at a1
    simp [load_bk q1, AM.elems, loadN_push, a1]
    exact k _ B' _ (a2.pre x1 hgb)
  obtain ⟨c0, c1, c2, c3⟩ := okE1_op hok h0 h13
  obtain ⟨e1, e3, hal⟩ := two_of c2
  have hx := h.ext x1
  obtain ⟨b, o, cap, va1, ev, ob, hbn, l1, ea⟩ := hx.at (i := 0) (e := e1) (by rw [hal]; rfl)
  obtain ⟨b', o', cap', va2, ev', ob', hbn', l2, eb⟩ := hx.at (i := 1) (e := e3) (by rw [hal]; rfl)
  rw [hal] at ev ev'
  rw [ev] at ev'
  simp only [AV.sl.injEq, true_and] at ev'
  obtain ⟨rfl, rfl, rfl⟩ := ev'
  have ev2 : va = .sl b o 2 cap := ev
  clear ev
  subst ev2
  have ok1 : okE (d - 1) e1 = true ∧ okE (d - 1) e3 = true := by
    rw [okF_mem, hal] at c3
    simpa using c3
  have hd1 : 1 < d := by
    unfold okE1 at hok
    rw [if_neg h0, if_neg h13] at hok
    simp only [Bool.and_eq_true, decide_eq_true_eq] at hok
    exact hok.1.2.2.2.2
  have e : cE1 at_ op n (compF a at_) = compE at_ e1 ++ compE (at_ + 1) e3 ++ [⟨3, at_, at_, at_ + 1, op⟩] := by unfold cE1; rw [if_neg h0, if_neg h13, compF_two hal]
  rw [e] at k hL
  simp only [List.length_append, List.length_singleton] at hL
  simp only [Nat.zero_mul, Nat.add_zero, Nat.one_mul] at l1 l2
  simp [load_bk q1, l1, h0, h13]
  have z1 : (cE1 at_ e1.op e1.n (compF e1.args at_)) = compE at_ e1 := rfl
  have z3 : (cE1 (at_ + 1) e3.op e3.n (compF e3.args (at_ + 1))) = compE (at_ + 1) e3 := rfl
  refine ih e1 (by rw [hal]; simp) (base := base) (d := d - 1) (at_ := at_) ea (hg.ext x1) (by simp; omega) ok1.1 (by omega) (by rw [z1]; omega) fun v1 B1 H2 s2 => ?_
  rw [z1] at s2
  have n2 := s2.le
  simp only [push_n] at n2
  have hn1 : H.n ∉ grB v B := fun hm => by have := hgb _ hm; omega
  have q2 := s2.keep (by simp) hn1 q1
  have hbv : b ∉ grB v B := fun hm => by have := (hg.mem hm); omega
  have l2' : H2.loadN b (o + 3) 3 = some [.I e3.op, .I e3.n, va2] := by unfold AH.loadN at l2 ⊢; rw [s2.2.1.2 b hbn hbv]; exact l2
  have f1 := s2.1.flat
  have ea2 : EV (fun b => b < base) H2 va2 e3.args := eb.mono (by simp; omega) (fun b' hb' hn => s2.2.1.2 b' hn (fun hm => by have := (hg.mem hm); omega)) (fun _ h _ => h)
  simp (disch := omega) [load_bk q2, l2']
  refine ih e3 (by rw [hal]; simp) (base := base) (d := d - 1) (at_ := at_ + 1) ea2 s2.1 (by omega) ok1.2 (by omega) (by rw [z3, List.length_append]; omega) fun v2 B2 H3 s3 => ?_
  rw [z3] at s3
  have n3 := s3.le
  have q3 := s3.keep (P := H.n) (by omega) (s2.nm (P := H.n) (by simp) hn1) q2
  obtain ⟨v', H', B', a1, a2, a3⟩ := CS.app s3.1 (by omega) ⟨3, at_, at_, at_ + 1, op⟩ (by simp only [List.length_append]; omega)
  simp only [qC] at a1
  simp (disch := omega) [load_bk q3, AM.elems, loadN_push, a1]
  refine k _ B' _ ?_
  have := ((s2.trans s3).trans a2).pre x1 hgb
  simpa [List.append_assoc] using this
end Go.Proofs.Ytmecbehegmgbhaa.AM
namespace Go.Proofs.Ytmecbehegmgbhaa.AM
set_option linter.unusedSimpArgs false
set_option linter.unusedVariables false
set_option maxRecDepth 100000
set_option maxHeartbeats 4000000
open Go
attribute [-simp] AM.elems
def stC (base : Nat) (k v b : Int) (E Y Z : List Qd) (nz : Nat) : List Qd :=
  if k = 1 then E ++ [⟨2, v, 4, 0, 0⟩]
  else if k = 4 then E ++ [⟨6, 0, 4, 0, b⟩]
  else if k = 5 then [⟨7, v, 0, 0, b⟩]
  else if k = 6 then [⟨8, 0, 0, 0, 0⟩]
  else if k = 7 then E ++ [⟨9, 0, 4, 0, 0⟩]
  else if k = 3 then E ++ ⟨5, 0, 4, 0, (base + E.length + 1 + Y.length + 1 : Nat)⟩ :: (Y ++ [⟨4, 0, 0, 0, base⟩])
  else if nz = 0 then E ++ ⟨5, 0, 4, 0, (base + E.length + 1 + Y.length : Nat)⟩ :: Y
  else E ++ ⟨5, 0, 4, 0, (base + E.length + 1 + Y.length + 1 : Nat)⟩ :: (Y ++ ⟨4, 0, 0, 0, (base + E.length + 1 + Y.length + 1 + Z.length : Nat)⟩ :: Z)
def cS : Sts → Nat → List Qd
  | .nil, _ => []
  | .cons k v b e y z r, base =>
    stC base k v b (compE 4 e) (cS y (base + (compE 4 e).length + 1)) (cS z (base + (compE 4 e).length + 1 + (cS y (base + (compE 4 e).length + 1)).length + 1)) z.list.length ++
      cS r (base + (stC base k v b (compE 4 e) (cS y (base + (compE 4 e).length + 1)) (cS z (base + (compE 4 e).length + 1 + (cS y (base + (compE 4 e).length + 1)).length + 1)) z.list.length).length)
def cT (s : St1) (base : Nat) : List Qd :=
  stC base s.k s.v s.b (compE 4 s.e) (cS s.body (base + (compE 4 s.e).length + 1)) (cS s.els (base + (compE 4 s.e).length + 1 + (cS s.body (base + (compE 4 s.e).length + 1)).length + 1)) s.els.list.length
theorem cS_of {s : St1} {l : List St1} {base : Nat} : cS (Sts.of (s :: l)) base = cT s base ++ cS (Sts.of l) (base + (cT s base).length) := rfl
end Go.Proofs.Ytmecbehegmgbhaa.AM
namespace Go.Proofs.Ytmecbehegmgbhaa.AM
set_option linter.unusedSimpArgs false
set_option linter.unusedVariables false
set_option maxRecDepth 100000
set_option maxHeartbeats 4000000
open Go
attribute [-simp] AM.elems
def compT (f : Sts) : List Qd := cS f 0 ++ [⟨10, 0, 0, 0, 0⟩]
section
variable {ok : Nat → Prop} {H : AH} {K : AV → AH → Prop} {w : Fk K} {v : AV} {f : Sts}
end
end Go.Proofs.Ytmecbehegmgbhaa.AM
namespace Go.Proofs.Ytmecbehegmgbhaa.AM
set_option linter.unusedSimpArgs false
set_option linter.unusedVariables false
set_option maxRecDepth 100000
set_option maxHeartbeats 2000000
open Go
attribute [-simp] AM.elems
theorem cE1_len (a : Exs) : ∀ {at_ op n d : Int}, okE1 d op n a.list.length (okF (d - 1) a) = true → 1 ≤ (cE1 at_ op n (compF a at_)).length ∧ (cE1 at_ op n (compF a at_)).length + 1 ≤ 2 ^ d.toNat := by
  induction a using Exs.ind with
  | h a ih =>
  intro at_ op n d hok
  have hd : 0 < d := by
    unfold okE1 at hok
    by_cases h0 : op = 0
    · rw [if_pos h0] at hok; simp only [decide_eq_true_eq] at hok; omega
    by_cases h13 : op = 13
    · rw [if_neg h0, if_pos h13] at hok; simp only [decide_eq_true_eq] at hok; omega
    rw [if_neg h0, if_neg h13] at hok
    simp only [Bool.and_eq_true, decide_eq_true_eq] at hok
    omega
  obtain ⟨k, rfl⟩ : ∃ k : Nat, d = (k + 1 : Nat) := ⟨(d - 1).toNat, by omega⟩
  have hp : 1 ≤ 2 ^ k := Nat.one_le_two_pow
  have hpk : 2 ^ (((k + 1 : Nat) : Int).toNat) = 2 * 2 ^ k := by rw [Int.toNat_natCast, Nat.pow_succ]; omega
  rw [hpk]
  by_cases h0 : op = 0
  · unfold cE1; rw [if_pos h0]; simp; omega
  by_cases h13 : op = 13
  · unfold cE1; rw [if_neg h0, if_pos h13]; simp; omega
  obtain ⟨c0, c1, c2, c3⟩ := okE1_op hok h0 h13
  obtain ⟨x, y, hxy⟩ := two_of c2
  rw [okF_mem, hxy] at c3
  simp at c3
  have hk : ((k + 1 : Nat) : Int) - 1 = (k : Int) := by omega
  have c3' : okE (k : Int) x = true ∧ okE (k : Int) y = true := by simpa using c3
  have wx := ih x (by rw [hxy]; simp) (at_ := at_) (d := k) (op := x.op) (n := x.n) c3'.1
  have wy := ih y (by rw [hxy]; simp) (at_ := at_ + 1) (d := k) (op := y.op) (n := y.n) c3'.2
  rw [Int.toNat_natCast] at wx wy
  unfold cE1
  rw [if_neg h0, if_neg h13, compF_two hxy]
  unfold compE
  simp only [List.length_append, List.length_singleton]
  omega
theorem compE_len {e : Ex} (h : okE 5 e = true) (at_ : Int) : 1 ≤ (compE at_ e).length ∧ (compE at_ e).length ≤ 31 := by
  have := cE1_len e.args (at_ := at_) (op := e.op) (n := e.n) (d := 5) h
  unfold compE
  have e5 : (2 : Nat) ^ (5 : Int).toNat = 32 := rfl
  rw [e5] at this
  omega
theorem cT_len {s : St1} {n : Int} (hok : okT 3 n s = true) (base : Nat) (hy : ∀ b, (cS s.body b).length ≤ 34 * ctS s.body) (hz : ∀ b, (cS s.els b).length ≤ 34 * ctS s.els) : 1 ≤ (cT s base).length ∧ (cT s base).length ≤ 34 * ctT s := by
  obtain ⟨hk, hoe, _⟩ := okT_facts hok
  have hct : ctT s = 1 + ctS s.body + ctS s.els := rfl
  have h1 := hy (base + (compE 4 s.e).length + 1)
  have h2 := hz (base + (compE 4 s.e).length + 1 + (cS s.body (base + (compE 4 s.e).length + 1)).length + 1)
  unfold cT
  generalize cS s.body (base + (compE 4 s.e).length + 1) = Y at *
  generalize cS s.els (base + (compE 4 s.e).length + 1 + Y.length + 1) = Z at *
  unfold stC
  by_cases k5 : s.k = 5
  · rw [if_neg (by omega), if_neg (by omega), if_pos k5]; simp; omega
  by_cases k6 : s.k = 6
  · rw [if_neg (by omega), if_neg (by omega), if_neg (by omega), if_pos k6]; simp; omega
  have hE := compE_len (hoe k5 k6) 4
  generalize compE 4 s.e = E at *
  by_cases k1 : s.k = 1
  · rw [if_pos k1]; simp; omega
  by_cases k4 : s.k = 4
  · rw [if_neg (by omega), if_pos k4]; simp; omega
  by_cases k7 : s.k = 7
  · rw [if_neg (by omega), if_neg (by omega), if_neg (by omega), if_neg (by omega), if_pos k7]; simp; omega
  rw [if_neg k1, if_neg k4, if_neg k5, if_neg k6, if_neg k7]
  by_cases k3 : s.k = 3
  · rw [if_pos k3]; simp; omega
  rw [if_neg k3]
  split <;> simp <;> omega
theorem okT_yz {n : Int} {s : St1} (h : okT 3 n s = true) : (s.body.list.length = 0 ∨ okS 3 (n - 1) s.body = true) ∧ (s.els.list.length = 0 ∨ okS 3 (n - 1) s.els = true) := by
  unfold okT okS1 at h
  simp only [Bool.and_eq_true, Bool.or_eq_true, decide_eq_true_eq] at h
  rcases h.2 with q | q
  · have q1 := h.1
    unfold stV at q1
    by_cases k1 : s.k = 1
    · rw [if_pos k1] at q1; simp only [Bool.and_eq_true, decide_eq_true_eq] at q1; exact ⟨.inl q1.1.2.2.2.1, .inl q1.1.2.2.2.2⟩
    rw [if_neg k1, if_neg q.1, if_neg q.2] at q1
    by_cases k4 : s.k = 4
    · rw [if_pos k4] at q1; simp only [Bool.and_eq_true, decide_eq_true_eq] at q1; exact ⟨.inl q1.1.2.2.2.1, .inl q1.1.2.2.2.2⟩
    rw [if_neg k4] at q1
    by_cases k5 : s.k = 5
    · rw [if_pos k5] at q1; simp only [Bool.and_eq_true, decide_eq_true_eq] at q1; exact ⟨.inl q1.1.2.2.2.2.1, .inl q1.1.2.2.2.2.2⟩
    rw [if_neg k5] at q1
    by_cases k6 : s.k = 6
    · rw [if_pos k6] at q1; simp only [Bool.and_eq_true, decide_eq_true_eq] at q1; exact ⟨.inl q1.1.2.2.1, .inl q1.1.2.2.2⟩
    rw [if_neg k6] at q1
    by_cases k7 : s.k = 7
    · rw [if_pos k7] at q1; simp only [Bool.and_eq_true, decide_eq_true_eq] at q1; exact ⟨.inl q1.1.2.2.1, .inl q1.1.2.2.2⟩
    rw [if_neg k7] at q1; cases q1
  · exact ⟨.inr q.1.2, .inr q.2⟩
theorem cS_nil {f : Sts} (h : f.list.length = 0) (b : Nat) : cS f b = [] := by
  cases f with
  | nil => rfl
  | cons => simp at h
theorem cS_len : ∀ {f : Sts} {n : Int}, okS 3 n f = true → ∀ base, (cS f base).length ≤ 34 * ctS f
  | .nil, _, _, _ => by simp [cS, ctS]
  | .cons k v b e y z r, n, h, base => by
    simp only [okS, Bool.and_eq_true] at h
    obtain ⟨h1, h2⟩ := h
    have hT : okT 3 n ⟨k, v, b, e, y, z⟩ = true := h1
    have hr := cS_len h2 (base + (cT ⟨k, v, b, e, y, z⟩ base).length)
    obtain ⟨hy, hz⟩ := okT_yz hT
    have hyz : (∀ b', (cS y b').length ≤ 34 * ctS y) ∧ (∀ b', (cS z b').length ≤ 34 * ctS z) := by
      refine ⟨fun b' => ?_, fun b' => ?_⟩
      · rcases hy with u | u
        · rw [cS_nil u]; simp
        · exact cS_len u b'
      · rcases hz with u | u
        · rw [cS_nil u]; simp
        · exact cS_len u b'
    have hs := cT_len hT base hyz.1 hyz.2
    have e1 : cS (.cons k v b e y z r) base = cT ⟨k, v, b, e, y, z⟩ base ++ cS r (base + (cT ⟨k, v, b, e, y, z⟩ base).length) := rfl
    rw [e1, List.length_append]
    have hct : ctT (⟨k, v, b, e, y, z⟩ : St1) = 1 + ctS y + ctS z := rfl
    have hc2 : ctS (.cons k v b e y z r) = 1 + ctS y + ctS z + ctS r := rfl
    omega
def quOk (M many : Int) (q : Qd) : Bool := quV M q && boxQ many q
theorem cE1_ok {M many : Int} (a : Exs) : ∀ {at_ op n d : Int}, okE1 d op n a.list.length (okF (d - 1) a) = true → 4 ≤ at_ → at_ + d ≤ 12 → ∀ q ∈ cE1 at_ op n (compF a at_), quOk M many q = true := by
  induction a using Exs.ind with
  | h a ih =>
  intro at_ op n d hok h4 h12 q hq
  unfold cE1 at hq
  by_cases h0 : op = 0
  · rw [if_pos h0] at hq
    unfold okE1 at hok
    rw [if_pos h0] at hok
    simp only [decide_eq_true_eq] at hok
    simp at hq
    subst hq
    have : isW n = true := isW_iff.2 (by omega)
    simp [quOk, quV, boxQ, reg, this]; omega
  rw [if_neg h0] at hq
  by_cases h13 : op = 13
  · rw [if_pos h13] at hq
    unfold okE1 at hok
    rw [if_neg h0, if_pos h13] at hok
    simp only [decide_eq_true_eq] at hok
    simp at hq
    subst hq
    simp [quOk, quV, boxQ, reg]; omega
  rw [if_neg h13] at hq
  obtain ⟨c0, c1, c2, c3⟩ := okE1_op hok h0 h13
  have hd1 : 1 < d := by
    unfold okE1 at hok
    rw [if_neg h0, if_neg h13] at hok
    simp only [Bool.and_eq_true, decide_eq_true_eq] at hok
    exact hok.1.2.2.2.2
  obtain ⟨x, y, hxy⟩ := two_of c2
  rw [okF_mem, hxy] at c3
  simp at c3
  rw [compF_two hxy] at hq
  simp only [List.mem_append, List.mem_singleton] at hq
  rcases hq with (q1 | q2) | q3
  · exact ih x (by rw [hxy]; simp) (at_ := at_) (d := d - 1) (op := x.op) (n := x.n) c3.1 h4 (by omega) q q1
  · exact ih y (by rw [hxy]; simp) (at_ := at_ + 1) (d := d - 1) (op := y.op) (n := y.n) c3.2 (by omega) (by omega) q q2
  · subst q3
    simp [quOk, quV, boxQ, reg]; omega
theorem cT_ok {M : Nat} {many : Int} {s : St1} {n : Int} (hok : okT 3 n s = true) (hbx : bxT many s = true) (base : Nat) (hM : base + (cT s base).length < M)
    (hy : ∀ b, b + (cS s.body b).length < M → ∀ q ∈ cS s.body b, quOk M many q = true) (hz : ∀ b, b + (cS s.els b).length < M → ∀ q ∈ cS s.els b, quOk M many q = true) : ∀ q ∈ cT s base, quOk M many q = true := by
  obtain ⟨hk, hoe, hsv, hsb, _⟩ := okT_facts hok
  have h1 := hy (base + (compE 4 s.e).length + 1)
  have h2 := hz (base + (compE 4 s.e).length + 1 + (cS s.body (base + (compE 4 s.e).length + 1)).length + 1)
  have hb2 : s.k = 4 ∨ s.k = 5 → s.b < many := fun h => by
    unfold bxT at hbx
    simp only [Bool.and_eq_true, decide_eq_true_eq] at hbx
    omega
  have hE : s.k ≠ 5 → s.k ≠ 6 → ∀ q ∈ compE 4 s.e, quOk M many q = true := fun a b q hq => cE1_ok s.e.args (at_ := 4) (d := 5) (op := s.e.op) (n := s.e.n) (hoe a b) (by omega) (by omega) q hq
  unfold cT at hM ⊢
  generalize cS s.body (base + (compE 4 s.e).length + 1) = Y at *
  generalize cS s.els (base + (compE 4 s.e).length + 1 + Y.length + 1) = Z at *
  generalize compE 4 s.e = E at *
  unfold stC at hM ⊢
  intro q hq
  by_cases k1 : s.k = 1
  · rw [if_pos k1] at hq hM
    simp only [List.mem_append, List.mem_singleton] at hq
    rcases hq with z | z
    · exact hE (by omega) (by omega) q z
    · subst z; have := hsv (.inl k1); simp [quOk, quV, boxQ, reg]; omega
  rw [if_neg k1] at hq hM
  by_cases k4 : s.k = 4
  · rw [if_pos k4] at hq hM
    simp only [List.mem_append, List.mem_singleton] at hq
    rcases hq with z | z
    · exact hE (by omega) (by omega) q z
    · subst z; have := hsb (.inl k4); have := hb2 (.inl k4); simp [quOk, quV, boxQ, reg]; omega
  rw [if_neg k4] at hq hM
  by_cases k5 : s.k = 5
  · rw [if_pos k5] at hq hM
    simp only [List.mem_singleton] at hq
    subst hq; have := hsb (.inr k5); have := hb2 (.inr k5); have := hsv (.inr k5); simp [quOk, quV, boxQ, reg]; omega
  rw [if_neg k5] at hq hM
  by_cases k6 : s.k = 6
  · rw [if_pos k6] at hq hM
    simp only [List.mem_singleton] at hq
    subst hq; simp [quOk, quV, boxQ, reg]
  rw [if_neg k6] at hq hM
  have hE := hE k5 k6
  by_cases k7 : s.k = 7
  · rw [if_pos k7] at hq hM
    simp only [List.mem_append, List.mem_singleton] at hq
    rcases hq with z | z
    · exact hE q z
    · subst z; simp [quOk, quV, boxQ, reg]
  rw [if_neg k7] at hq hM
  by_cases k3 : s.k = 3
  · rw [if_pos k3] at hq hM
    simp only [List.length_append, List.length_cons, List.length_nil] at hM
    simp only [List.mem_append, List.mem_cons, List.mem_singleton, List.not_mem_nil, or_false] at hq
    rcases hq with z | z | z | z
    · exact hE q z
    · subst z; simp [quOk, quV, boxQ, reg]; omega
    · exact h1 (by omega) q z
    · subst z; simp [quOk, quV, boxQ, reg]; omega
  rw [if_neg k3] at hq hM
  by_cases hz0 : s.els.list.length = 0
  · rw [if_pos hz0] at hq hM
    simp only [List.length_append, List.length_cons, List.length_nil] at hM
    simp only [List.mem_append, List.mem_cons] at hq
    rcases hq with z | z | z
    · exact hE q z
    · subst z; simp [quOk, quV, boxQ, reg]; omega
    · exact h1 (by omega) q z
  · rw [if_neg hz0] at hq hM
    simp only [List.length_append, List.length_cons, List.length_nil] at hM
    simp only [List.mem_append, List.mem_cons] at hq
    rcases hq with z | z | z | z | z
    · exact hE q z
    · subst z; simp [quOk, quV, boxQ, reg]; omega
    · exact h1 (by omega) q z
    · subst z; simp [quOk, quV, boxQ, reg]; omega
    · exact h2 (by omega) q z
theorem cS_ok {M : Nat} {many : Int} : ∀ {f : Sts} {n : Int}, okS 3 n f = true → bxS many f = true → ∀ base, base + (cS f base).length < M → ∀ q ∈ cS f base, quOk M many q = true
  | .nil, _, _, _, _, _, q, hq => by simp [cS] at hq
  | .cons k v b e y z r, n, h, hb, base, hM, q, hq => by
    simp only [okS, Bool.and_eq_true] at h
    obtain ⟨h1, h2⟩ := h
    have hT : okT 3 n ⟨k, v, b, e, y, z⟩ = true := h1
    simp only [bxS, Bool.and_eq_true, decide_eq_true_eq] at hb
    have hB : bxT many ⟨k, v, b, e, y, z⟩ = true := by unfold bxT; simp only [Bool.and_eq_true, decide_eq_true_eq]; exact hb.1
    have e1 : cS (.cons k v b e y z r) base = cT ⟨k, v, b, e, y, z⟩ base ++ cS r (base + (cT ⟨k, v, b, e, y, z⟩ base).length) := rfl
    rw [e1] at hM hq
    simp only [List.length_append] at hM
    obtain ⟨hy, hz⟩ := okT_yz hT
    rcases List.mem_append.1 hq with c | c
    · refine cT_ok hT hB base (by omega) (fun b' hb' q' hq' => ?_) (fun b' hb' q' hq' => ?_) q c
      · rcases hy with u | u
        · rw [cS_nil u] at hq'; simp at hq'
        · exact cS_ok u hb.1.2.1 b' hb' q' hq'
      · rcases hz with u | u
        · rw [cS_nil u] at hq'; simp at hq'
        · exact cS_ok u hb.1.2.2 b' hb' q' hq'
    · exact cS_ok h2 hb.2 _ (by omega) q c
theorem vaF_facts {many : Int} {f : Sts} (h : vaF many f = true) : okS 3 3 f = true ∧ ctS f ≤ 16 ∧ bxS many f = true := by
  unfold vaF vaS at h
  simp only [Bool.and_eq_true, decide_eq_true_eq] at h
  exact ⟨h.1.1, h.1.2, h.2⟩
theorem compT_va {many : Int} {f : Sts} (h : vaF many f = true) : (compT f).length ≤ 560 ∧ codeV (compT f) = true ∧ (compT f).all (boxQ many) = true := by
  obtain ⟨h1, h2, h3⟩ := vaF_facts h
  have hl := cS_len h1 0
  have hle : (compT f).length = (cS f 0).length + 1 := by simp [compT]
  have hall : ∀ q ∈ compT f, quOk (compT f).length many q = true := fun q hq => by
    unfold compT at hq
    rcases List.mem_append.1 hq with c | c
    · exact cS_ok h1 h3 0 (by omega) q c
    · simp at c; subst c; simp [quOk, quV, boxQ]
  refine ⟨by omega, ?_, List.all_eq_true.2 fun q hq => ?_⟩
  · unfold codeV
    simp only [Bool.and_eq_true, decide_eq_true_eq, List.all_eq_true]
    refine ⟨⟨by omega, fun q hq => ?_⟩, ?_⟩
    · have := hall q hq; unfold quOk at this; simp only [Bool.and_eq_true] at this; exact this.1
    · unfold lastOp compT; simp
  · have := hall q hq; unfold quOk at this; simp only [Bool.and_eq_true] at this; exact this.2
theorem newK_va {p : Pg} (h : vaPg p = true) : vaCw (newK p.rooms (p.tasks.map compT)) = true := by
  obtain ⟨hw, _, _⟩ := newW_bo h
  obtain ⟨w1, w2, w3, w4⟩ := vaWd_iff.1 hw
  unfold vaPg at h
  simp only [Bool.and_eq_true, decide_eq_true_eq, List.all_eq_true] at h
  refine vaCw_iff.2 ⟨by simp [newK]; omega, rfl, by simp [newK], w3, fun i l t hl ht => ?_⟩
  simp only [newK] at hl ht ⊢
  have hbl : (p.rooms.map fun x => (⟨x, []⟩ : Bx)).length = p.rooms.length := by simp
  rw [hbl]
  rw [List.getElem?_map] at hl
  obtain ⟨f, hf, rfl⟩ := Option.map_eq_some_iff.1 hl
  obtain ⟨c1, c2, c3⟩ := compT_va (h.2 f (List.mem_of_getElem? hf))
  have et : t = ⟨z12, 0⟩ := by
    rw [List.getElem?_map] at ht
    obtain ⟨_, _, rfl⟩ := Option.map_eq_some_iff.1 ht
    rfl
  subst et
  exact vaTh_iff.2 ⟨c2, thFit_iff.2 ⟨rfl, rfl, by simp, by have := (codeV_facts c2).1; simp; omega⟩, c3⟩
end Go.Proofs.Ytmecbehegmgbhaa.AM
namespace Go.Proofs.Ytmecbehegmgbhaa.AM
set_option linter.unusedSimpArgs false
set_option linter.unusedVariables false
set_option maxRecDepth 100000
set_option maxHeartbeats 2000000
open Go
attribute [-simp] AM.elems
def Sg (l : List Qd) (pc : Nat) (c : List Qd) : Prop := ∀ (i : Nat) (q : Qd), c[i]? = some q → l[pc + i]? = some q
theorem Sg.app {l pc a b} (h : Sg l pc (a ++ b)) : Sg l pc a ∧ Sg l (pc + a.length) b :=
  ⟨fun i q hq => h i q (by rw [List.getElem?_append_left (List.getElem?_eq_some_iff.1 hq).1]; exact hq),
   fun i q hq => by
    have := h (a.length + i) q (by rw [List.getElem?_append_right (by omega)]; rwa [show a.length + i - a.length = i by omega])
    rwa [← Nat.add_assoc] at this⟩
theorem Sg.cons {l pc q c} (h : Sg l pc (q :: c)) : l[pc]? = some q ∧ Sg l (pc + 1) c := by
  have h1 := Sg.app (a := [q]) (b := c) (by simpa using h)
  exact ⟨h 0 q rfl, by simpa using h1.2⟩
inductive Sil (l : List Qd) : Nat → Th → Th → Prop
  | refl {t} : Sil l 0 t t
  | step {k q t t1 t2} : l[t.pc.toNat]? = some q → (∀ bs, stepQ q t bs = (t1, bs, [], 1)) → Sil l k t1 t2 → Sil l (k + 1) t t2
theorem Sil.trans {l k t t1} (h : Sil l k t t1) : ∀ {j t2}, Sil l j t1 t2 → Sil l (k + j) t t2 := by
  induction h with
  | refl => intro j t2 h2; rw [Nat.zero_add]; exact h2
  | step a b c ih => intro j t2 h2; rw [show ∀ k, k + 1 + j = (k + j) + 1 by omega]; exact .step a b (ih h2)
theorem Sil.one {l q t t1} (h : l[t.pc.toNat]? = some q) (k : ∀ bs, stepQ q t bs = (t1, bs, [], 1)) : Sil l 1 t t1 := .step h k .refl
theorem set_get_lt {l : List Int} {i r : Nat} {x : Int} (h : r ≠ i) : (l.set i x)[r]? = l[r]? := List.getElem?_set_ne (Ne.symm h)
theorem evalS {l : List Qd} (a : Exs) : ∀ {at_ op n d : Int} {pc : Nat} {t : Th} {vars : List Int}, okE1 d op n a.list.length (okF (d - 1) a) = true → 4 ≤ at_ → at_ + d ≤ 12 → Sg l pc (cE1 at_ op n (compF a at_)) → t.pc = pc → t.regs.length = 12 → t.regs.take 4 = vars →
    ∃ t', Sil l (cE1 at_ op n (compF a at_)).length t t' ∧ t'.pc = (pc + (cE1 at_ op n (compF a at_)).length : Nat) ∧ t'.regs.length = 12 ∧ (∀ r : Nat, (r : Int) < at_ → t'.regs[r]? = t.regs[r]?) ∧ t'.regs[at_.toNat]? = some (evE1 vars op n (evF vars a)) := by
  induction a using Exs.ind with
  | h a ih =>
  intro at_ op n d pc t vars hok h4 h12 hs hpc hl hv
  have hd : 0 < d := by
    unfold okE1 at hok
    by_cases h0 : op = 0
    · rw [if_pos h0] at hok; simp only [decide_eq_true_eq] at hok; omega
    by_cases h13 : op = 13
    · rw [if_neg h0, if_pos h13] at hok; simp only [decide_eq_true_eq] at hok; omega
    rw [if_neg h0, if_neg h13] at hok
    simp only [Bool.and_eq_true, decide_eq_true_eq] at hok
    omega
  have hpt : t.pc.toNat = pc := by omega
  by_cases h0 : op = 0
  · have e : cE1 at_ op n (compF a at_) = [⟨1, at_, 0, 0, n⟩] := by unfold cE1; rw [if_pos h0]
    rw [e] at hs ⊢
    refine ⟨⟨t.regs.set at_.toNat n, t.pc + 1⟩, Sil.one (by rw [hpt]; exact hs.cons.1) (fun bs => by unfold stepQ; rw [if_pos rfl]), by simp [hpc], by simpa using hl, fun r hr => set_get_lt (by omega), ?_⟩
    simp only
    rw [List.getElem?_set_self (by omega)]
    unfold evE1; rw [if_pos h0]
  by_cases h13 : op = 13
  · have e : cE1 at_ op n (compF a at_) = [⟨2, at_, n, 0, 0⟩] := by unfold cE1; rw [if_neg h0, if_pos h13]
    rw [e] at hs ⊢
    have hn : 0 ≤ n ∧ n < 4 := by
      unfold okE1 at hok
      rw [if_neg h0, if_pos h13] at hok
      simp only [decide_eq_true_eq] at hok
      omega
    refine ⟨⟨t.regs.set at_.toNat (rg t n), t.pc + 1⟩, Sil.one (by rw [hpt]; exact hs.cons.1) (fun bs => by unfold stepQ; rw [if_neg (by simp), if_pos rfl]), by simp [hpc], by simpa using hl, fun r hr => set_get_lt (by omega), ?_⟩
    simp only
    rw [List.getElem?_set_self (by omega)]
    unfold evE1 rg
    rw [if_neg h0, if_pos h13, ← hv, List.getD_eq_getElem?_getD, List.getElem?_take_of_lt (by omega)]
  obtain ⟨c0, c1, c2, c3⟩ := okE1_op hok h0 h13
  have hd1 : 1 < d := by
    unfold okE1 at hok
    rw [if_neg h0, if_neg h13] at hok
    simp only [Bool.and_eq_true, decide_eq_true_eq] at hok
    exact hok.1.2.2.2.2
  obtain ⟨x, y, hxy⟩ := two_of c2
  rw [okF_mem, hxy] at c3
  simp at c3
  have e : cE1 at_ op n (compF a at_) = compE at_ x ++ compE (at_ + 1) y ++ [⟨3, at_, at_, at_ + 1, op⟩] := by unfold cE1; rw [if_neg h0, if_neg h13, compF_two hxy]
  rw [e] at hs ⊢
  obtain ⟨hs12, hs3⟩ := hs.app
  obtain ⟨hs1, hs2⟩ := hs12.app
  obtain ⟨t1, s1, p1, l1, r1, v1⟩ := ih x (by rw [hxy]; simp) (at_ := at_) (d := d - 1) (op := x.op) (n := x.n) c3.1 h4 (by omega) hs1 hpc hl hv
  have tk : ∀ {u u' : Th}, (∀ r : Nat, (r : Int) < at_ → u'.regs[r]? = u.regs[r]?) → u'.regs.take 4 = u.regs.take 4 := fun h => by
    apply List.ext_getElem?
    intro r
    by_cases hr : r < 4
    · rw [List.getElem?_take_of_lt hr, List.getElem?_take_of_lt hr]; exact h r (by omega)
    · rw [List.getElem?_eq_none (by simp; omega), List.getElem?_eq_none (by simp; omega)]
  obtain ⟨t2, s2, p2, l2, r2, v2⟩ := ih y (by rw [hxy]; simp) (at_ := at_ + 1) (d := d - 1) (op := y.op) (n := y.n) (vars := vars) c3.2 (by omega) (by omega) hs2 p1 l1 (by rw [tk r1, hv])
  have z1 : (cE1 at_ x.op x.n (compF x.args at_)) = compE at_ x := rfl
  have z2 : (cE1 (at_ + 1) y.op y.n (compF y.args (at_ + 1))) = compE (at_ + 1) y := rfl
  rw [z1] at s1 p1
  rw [z2] at s2 p2
  have v1' : t2.regs[at_.toNat]? = some (evE1 vars x.op x.n (evF vars x.args)) := by rw [r2 at_.toNat (by omega)]; exact v1
  have ga : rg t2 at_ = evE vars x := by unfold rg; rw [v1']; rfl
  have gb : rg t2 (at_ + 1) = evE vars y := by unfold rg; rw [v2]; rfl
  refine ⟨⟨t2.regs.set at_.toNat (applyM op (rg t2 at_) (rg t2 (at_ + 1))), t2.pc + 1⟩, ?_, ?_, by simpa using l2, fun r hr => ?_, ?_⟩
  · rw [List.length_append, List.length_append, List.length_singleton]
    refine (s1.trans s2).trans (Sil.one (q := ⟨3, at_, at_, at_ + 1, op⟩) ?_ (fun bs => ?_))
    · have := hs3.cons.1
      rw [List.length_append] at this
      rw [p2, Int.toNat_natCast, Nat.add_assoc]; exact this
    · unfold stepQ; rw [if_neg (by simp), if_neg (by simp), if_pos rfl]
  · simp only [p2, List.length_append, List.length_singleton]; omega
  · simp only
    rw [set_get_lt (by omega), r2 r (by omega), r1 r hr]
  · simp only
    rw [List.getElem?_set_self (by omega), ga, gb]
    unfold evE1
    rw [if_neg h0, if_neg h13, evF_map, hxy]
    rfl
inductive Pend (l : List Qd) : Nat → Nat → List St1 → Prop
  | done {pc} : l[pc]? = some ⟨10, 0, 0, 0, 0⟩ → Pend l 0 pc []
  | jump {lev pc t r} : l[pc]? = some ⟨4, 0, 0, 0, (t : Nat)⟩ → Pend l lev t r → Pend l (lev + 1) pc r
  | stmt {lev pc n s r} : Sg l pc (cT s pc) → okT 3 n s = true → 0 ≤ n → Pend l lev (pc + (cT s pc).length) r → (lev : Int) ≤ 3 - n → Pend l 0 pc (s :: r)
theorem Pend.list {l : List Qd} {n : Int} (hn : 0 ≤ n) {lev : Nat} {r : List St1} (hlev : (lev : Int) ≤ 3 - n) : ∀ (ys : List St1) (pc : Nat), (∀ s ∈ ys, okT 3 n s = true) → Sg l pc (cS (Sts.of ys) pc) → Pend l lev (pc + (cS (Sts.of ys) pc).length) r → ∃ lev', lev' ≤ lev ∧ Pend l lev' pc (ys ++ r)
  | [], pc, _, _, h => ⟨lev, Nat.le_refl _, by simpa [cS] using h⟩
  | s :: ys, pc, hok, hs, h => by
    rw [cS_of] at hs h
    obtain ⟨h1, h2⟩ := hs.app
    rw [List.length_append, ← Nat.add_assoc] at h
    obtain ⟨lev', hl, hp⟩ := Pend.list hn hlev ys (pc + (cT s pc).length) (fun x hx => hok x (List.mem_cons_of_mem _ hx)) h2 h
    exact ⟨0, by omega, .stmt h1 (hok s List.mem_cons_self) hn hp (by omega)⟩
theorem Pend.sil {l : List Qd} {lev pc r} (h : Pend l lev pc r) : ∀ {t : Th}, t.pc = (pc : Nat) → ∃ pc', Sil l lev t ⟨t.regs, (pc' : Nat)⟩ ∧ Pend l 0 pc' r := by
  induction h with
  | done h => intro t ht; exact ⟨_, by rw [← ht]; exact .refl, .done h⟩
  | stmt a b c d e ih => intro t ht; exact ⟨_, by rw [← ht]; exact .refl, .stmt a b c d e⟩
  | @jump lev pc u r a b ih =>
    intro t ht
    obtain ⟨pc', s, p⟩ := ih (t := ⟨t.regs, (u : Nat)⟩) rfl
    exact ⟨pc', .step (by rw [ht, Int.toNat_natCast]; exact a) (fun bs => by unfold stepQ; rw [if_neg (by simp), if_neg (by simp), if_neg (by simp), if_pos rfl]) s, p⟩
end Go.Proofs.Ytmecbehegmgbhaa.AM
namespace Go.Proofs.Ytmecbehegmgbhaa.AM
set_option linter.unusedSimpArgs false
set_option linter.unusedVariables false
set_option maxRecDepth 100000
set_option maxHeartbeats 2000000
open Go
attribute [-simp] AM.elems
def RelT (l : List Qd) (t : Tk) (th : Th) : Prop :=
  th.regs.length = 12 ∧ th.regs.take 4 = t.vars ∧ ∃ pc : Nat, th.pc = pc ∧
    ((∃ lev, lev ≤ 3 ∧ Pend l lev pc t.rest.list) ∨ ∃ s r lev, t.rest.list = s :: r ∧ s.k = 4 ∧ l[pc]? = some ⟨6, 0, 4, 0, s.b⟩ ∧ rg th 4 = evE t.vars s.e ∧ lev ≤ 3 ∧ Pend l lev (pc + 1) r)
theorem take_set4 {l : List Int} {i : Nat} {x : Int} (hi : i < 4) : (l.set i x).take 4 = (l.take 4).set i x := by
  apply List.ext_getElem?
  intro j
  by_cases hj : j < 4
  · rw [List.getElem?_take_of_lt hj]
    by_cases hij : j = i
    · subst hij
      by_cases hl : j < l.length
      · rw [List.getElem?_set_self hl, List.getElem?_set_self (by simp; omega)]
      · rw [List.getElem?_eq_none (by simp; omega), List.getElem?_eq_none (by simp; omega)]
    · rw [List.getElem?_set_ne (Ne.symm hij), List.getElem?_set_ne (Ne.symm hij), List.getElem?_take_of_lt hj]
  · rw [List.getElem?_eq_none (by simp; omega), List.getElem?_eq_none (by simp; omega)]
theorem evalT {l : List Qd} {e : Ex} {pc : Nat} {t : Th} (hok : okE 5 e = true) (hs : Sg l pc (compE 4 e)) (hpc : t.pc = pc) (hl : t.regs.length = 12) :
    ∃ t', Sil l (compE 4 e).length t t' ∧ t'.pc = (pc + (compE 4 e).length : Nat) ∧ t'.regs.length = 12 ∧ t'.regs.take 4 = t.regs.take 4 ∧ rg t' 4 = evE (t.regs.take 4) e := by
  obtain ⟨t', a1, a2, a3, a4, a5⟩ := evalS e.args (at_ := 4) (d := 5) (op := e.op) (n := e.n) (vars := t.regs.take 4) hok (by omega) (by omega) hs hpc hl rfl
  refine ⟨t', a1, a2, a3, ?_, ?_⟩
  · apply List.ext_getElem?
    intro r
    by_cases hr : r < 4
    · rw [List.getElem?_take_of_lt hr, List.getElem?_take_of_lt hr]; exact a4 r (by omega)
    · rw [List.getElem?_eq_none (by simp; omega), List.getElem?_eq_none (by simp; omega)]
  · unfold rg; rw [a5]; rfl
def Sim1 (l : List Qd) (t : Tk) (th : Th) (bs : List Bx) (K : Nat) : Prop :=
  ∃ k q th1 th2, Sil l k th th1 ∧ k ≤ K ∧ l[th1.pc.toNat]? = some q ∧ stepQ q th1 bs = (th2, (stepP t bs).2.1, (stepP t bs).2.2.1, (stepP t bs).2.2.2) ∧ RelT l (stepP t bs).1 th2 ∧ ((stepP t bs).2.2.2 = 3 ∨ (stepP t bs).2.2.2 = 4 → th2 = th1)
theorem send_sim {l : List Qd} {t : Tk} {th : Th} {bs : List Bx} {s : St1} {r : List St1} {pc lev : Nat} (hl : th.regs.length = 12) (hv : th.regs.take 4 = t.vars) (hr : t.rest.list = s :: r) (k4 : s.k = 4) (hpc : th.pc = pc) (hq : l[pc]? = some ⟨6, 0, 4, 0, s.b⟩) (he : rg th 4 = evE t.vars s.e) (hlev : lev ≤ 3) (hp : Pend l lev (pc + 1) r) :
    ∃ th2, stepQ ⟨6, 0, 4, 0, s.b⟩ th bs = (th2, (stepP t bs).2.1, (stepP t bs).2.2.1, (stepP t bs).2.2.2) ∧ RelT l (stepP t bs).1 th2 ∧ ((stepP t bs).2.2.2 = 3 ∨ (stepP t bs).2.2.2 = 4 → th2 = th) := by
  have e : stepP t bs = ((talkP t bs s r).1, (talkP t bs s r).2.1, [], (talkP t bs s r).2.2) := by unfold stepP; rw [hr]; simp [k4]
  have mid : RelT l t th := ⟨hl, hv, pc, hpc, .inr ⟨s, r, lev, hr, k4, hq, he, hlev, hp⟩⟩
  have e2 : stepQ ⟨6, 0, 4, 0, s.b⟩ th bs = match bs[s.b.toNat]? with
    | none => (th, bs, [], 3)
    | some bx => if (bx.items.length : Int) < bx.room then (⟨th.regs, th.pc + 1⟩, bs.set s.b.toNat ⟨bx.room, bx.items ++ [rg th 4]⟩, [], 1) else (th, bs, [], 3) := by
    unfold stepQ
    rw [if_neg (by simp), if_neg (by simp), if_neg (by simp), if_neg (by simp), if_neg (by simp), if_pos rfl]
    all_goals (cases bs[s.b.toNat]? <;> rfl)
  rw [e, e2]
  unfold talkP
  cases hb : bs[s.b.toNat]? with
  | none => exact ⟨th, rfl, mid, fun _ => rfl⟩
  | some bx =>
    simp only [if_pos k4]
    by_cases hroom : (bx.items.length : Int) < bx.room
    · rw [if_pos hroom, if_pos hroom]
      exact ⟨⟨th.regs, th.pc + 1⟩, by rw [he], ⟨hl, hv, pc + 1, by simp only [hpc]; omega, .inl ⟨lev, hlev, by rw [Sts.list_of]; exact hp⟩⟩, fun h => by simp at h⟩
    · rw [if_neg hroom, if_neg hroom]
      exact ⟨th, rfl, mid, fun _ => rfl⟩
theorem stmt_sim {l : List Qd} {t : Tk} {th : Th} {bs : List Bx} {s : St1} {r : List St1} {pc lev : Nat} {n : Int} (hl : th.regs.length = 12) (hv : th.regs.take 4 = t.vars) (hr : t.rest.list = s :: r) (hpc : th.pc = pc)
    (hs : Sg l pc (cT s pc)) (hok : okT 3 n s = true) (hn : 0 ≤ n) (hp : Pend l lev (pc + (cT s pc).length) r) (hlev : (lev : Int) ≤ 3 - n) : Sim1 l t th bs 31 := by
  obtain ⟨hk, hoe, hsv, hsb, _⟩ := okT_facts hok
  have hlev3 : lev ≤ 3 := by omega
  have hself : Sg l pc (cT s pc) := hs
  obtain ⟨hyy, hzz⟩ := okT_yz hok
  by_cases k5 : s.k = 5
  · have ec : cT s pc = [⟨7, s.v, 0, 0, s.b⟩] := by unfold cT stC; rw [if_neg (by omega), if_neg (by omega), if_pos k5]
    rw [ec] at hs hp
    have e : stepP t bs = ((talkP t bs s r).1, (talkP t bs s r).2.1, [], (talkP t bs s r).2.2) := by unfold stepP; rw [hr]; simp [k5]
    have self : RelT l t th := ⟨hl, hv, pc, hpc, .inl ⟨0, by omega, by rw [hr]; exact .stmt hself hok hn (by rw [ec]; exact hp) hlev⟩⟩
    refine ⟨0, ⟨7, s.v, 0, 0, s.b⟩, th, ?_⟩
    have hq := hs.cons.1
    have e2 : stepQ ⟨7, s.v, 0, 0, s.b⟩ th bs = match bs[s.b.toNat]? with
      | none => (th, bs, [], 3)
      | some bx =>
        match bx.items with
        | [] => (th, bs, [], 3)
        | y :: r => (⟨th.regs.set s.v.toNat y, th.pc + 1⟩, bs.set s.b.toNat ⟨bx.room, r⟩, [], 1) := by
      unfold stepQ
      rw [if_neg (by simp), if_neg (by simp), if_neg (by simp), if_neg (by simp), if_neg (by simp), if_neg (by simp), if_pos rfl]
      all_goals (rcases bs[s.b.toNat]? with _ | ⟨_, _ | _⟩ <;> rfl)
    have hq' : l[th.pc.toNat]? = some ⟨7, s.v, 0, 0, s.b⟩ := by rw [hpc, Int.toNat_natCast]; exact hq
    have hsv := hsv (.inr k5)
    rw [e]
    unfold talkP
    cases hb : bs[s.b.toNat]? with
    | none => exact ⟨th, .refl, by omega, hq', by rw [e2, hb], self, fun _ => rfl⟩
    | some bx =>
      simp only [if_neg (show ¬ s.k = 4 by omega)]
      cases hi : bx.items with
      | nil => exact ⟨th, .refl, by omega, hq', by rw [e2, hb]; simp only [hi], self, fun _ => rfl⟩
      | cons y qq =>
        refine ⟨⟨th.regs.set s.v.toNat y, th.pc + 1⟩, .refl, by omega, hq', by rw [e2, hb]; simp only [hi], ⟨by simpa using hl, by simp only; rw [take_set4 (by omega), hv], pc + 1, by simp only [hpc]; omega, .inl ⟨lev, hlev3, by rw [Sts.list_of]; exact hp⟩⟩, fun h => by simp at h⟩
  by_cases k6 : s.k = 6
  · have ec : cT s pc = [⟨8, 0, 0, 0, 0⟩] := by unfold cT stC; rw [if_neg (by omega), if_neg (by omega), if_neg (by omega), if_pos k6]
    rw [ec] at hs hp
    have e : stepP t bs = (⟨t.vars, Sts.of r⟩, bs, [], 2) := by unfold stepP; rw [hr]; simp [k6]
    rw [show Sim1 l t th bs 31 = _ from rfl]
    unfold Sim1
    rw [e]
    refine ⟨0, ⟨8, 0, 0, 0, 0⟩, th, ⟨th.regs, th.pc + 1⟩, .refl, by omega, by rw [hpc, Int.toNat_natCast]; exact hs.cons.1, by unfold stepQ; rw [if_neg (by simp), if_neg (by simp), if_neg (by simp), if_neg (by simp), if_neg (by simp), if_neg (by simp), if_neg (by simp), if_pos rfl], ⟨hl, hv, pc + 1, by simp only [hpc]; omega, .inl ⟨lev, hlev3, by rw [Sts.list_of]; exact hp⟩⟩, fun h => by simp at h⟩
  have hE := hoe k5 k6
  have hEl := compE_len hE 4
  have fin : ∀ (C : List Qd) (q : Qd) (e' : cT s pc = compE 4 s.e ++ q :: C), ∃ t1, Sil l (compE 4 s.e).length th t1 ∧ t1.pc = (pc + (compE 4 s.e).length : Nat) ∧ t1.regs.length = 12 ∧ t1.regs.take 4 = t.vars ∧ rg t1 4 = evE t.vars s.e ∧ l[t1.pc.toNat]? = some q ∧ Sg l (pc + (compE 4 s.e).length + 1) C := fun C q e' => by
    rw [e'] at hs
    obtain ⟨h1, h2⟩ := hs.app
    obtain ⟨h3, h4⟩ := h2.cons
    obtain ⟨t1, a1, a2, a3, a4, a5⟩ := evalT hE h1 hpc hl
    exact ⟨t1, a1, a2, a3, by rw [a4, hv], by rw [a5, hv], by rw [a2, Int.toNat_natCast]; exact h3, h4⟩
  by_cases k4 : s.k = 4
  · have ec : cT s pc = compE 4 s.e ++ [⟨6, 0, 4, 0, s.b⟩] := by unfold cT stC; rw [if_neg (by omega), if_pos k4]
    obtain ⟨t1, a1, a2, a3, a4, a5, a6, _⟩ := fin [] _ ec
    rw [ec] at hp
    simp only [List.length_append, List.length_singleton] at hp
    rw [← Nat.add_assoc] at hp
    rw [a2, Int.toNat_natCast] at a6
    obtain ⟨th2, b1, b2, b3⟩ := send_sim (bs := bs) a3 a4 hr k4 a2 a6 a5 hlev3 hp
    exact ⟨_, _, t1, th2, a1, by omega, by rw [a2, Int.toNat_natCast]; exact a6, b1, b2, b3⟩
  by_cases k1 : s.k = 1
  · have ec : cT s pc = compE 4 s.e ++ [⟨2, s.v, 4, 0, 0⟩] := by unfold cT stC; rw [if_pos k1]
    obtain ⟨t1, a1, a2, a3, a4, a5, a6, _⟩ := fin [] _ ec
    rw [ec] at hp
    simp only [List.length_append, List.length_singleton] at hp
    have e : stepP t bs = (⟨t.vars.set s.v.toNat (evE t.vars s.e), Sts.of r⟩, bs, [], 1) := by unfold stepP; rw [hr]; simp [k1]
    have hsv := hsv (.inl k1)
    unfold Sim1
    rw [e]
    refine ⟨_, _, t1, ⟨t1.regs.set s.v.toNat (rg t1 4), t1.pc + 1⟩, a1, by omega, a6, by unfold stepQ; rw [if_neg (by simp), if_pos rfl], ⟨by simpa using a3, by simp only; rw [take_set4 (by omega), a4, a5], pc + ((compE 4 s.e).length + 1), by simp only [a2]; omega, .inl ⟨lev, hlev3, by rw [Sts.list_of]; exact hp⟩⟩, fun h => by simp at h⟩
  by_cases k7 : s.k = 7
  · have ec : cT s pc = compE 4 s.e ++ [⟨9, 0, 4, 0, 0⟩] := by unfold cT stC; rw [if_neg k1, if_neg k4, if_neg k5, if_neg k6, if_pos k7]
    obtain ⟨t1, a1, a2, a3, a4, a5, a6, _⟩ := fin [] _ ec
    rw [ec] at hp
    simp only [List.length_append, List.length_singleton] at hp
    have e : stepP t bs = (⟨t.vars, Sts.of r⟩, bs, [evE t.vars s.e], 1) := by unfold stepP; rw [hr]; simp [k7]
    unfold Sim1
    rw [e]
    refine ⟨_, _, t1, ⟨t1.regs, t1.pc + 1⟩, a1, by omega, a6, by unfold stepQ; rw [if_neg (by simp), if_neg (by simp), if_neg (by simp), if_neg (by simp), if_neg (by simp), if_neg (by simp), if_neg (by simp), if_neg (by simp), if_pos rfl, a5], ⟨a3, a4, pc + ((compE 4 s.e).length + 1), by simp only [a2]; omega, .inl ⟨lev, hlev3, by rw [Sts.list_of]; exact hp⟩⟩, fun h => by simp at h⟩
  have k23 : s.k = 2 ∨ s.k = 3 := by omega
  have e : stepP t bs = (⟨t.vars, blkR s r (evE t.vars s.e)⟩, bs, [], 1) := by unfold stepP; rw [hr]; simp only; rw [if_neg (by omega), if_pos k23]
  have hn1 : 1 ≤ n := by
    unfold okT okS1 at hok
    simp only [Bool.and_eq_true, Bool.or_eq_true, decide_eq_true_eq] at hok
    rcases hok.2 with q | q
    · omega
    · exact q.1.1
  have okl : ∀ {f : Sts}, (f.list.length = 0 ∨ okS 3 (n - 1) f = true) → ∀ x ∈ f.list, okT 3 (n - 1) x = true := fun h x hx => by
    rcases h with u | u
    · rw [List.eq_nil_of_length_eq_zero u] at hx; simp at hx
    · rw [okS_mem] at u; exact List.all_eq_true.1 u x hx
  have sq : ∀ (N : Int) (u : Th), stepQ ⟨5, 0, 4, 0, N⟩ u bs = (⟨u.regs, if rg u 4 = 0 then N else u.pc + 1⟩, bs, [], 1) := fun N u => by
    unfold stepQ; rw [if_neg (by simp), if_neg (by simp), if_neg (by simp), if_neg (by simp), if_pos rfl]
  unfold Sim1
  rw [e]
  obtain ⟨Y, hY⟩ : ∃ Y, Y = cS s.body (pc + (compE 4 s.e).length + 1) := ⟨_, rfl⟩
  obtain ⟨Z, hZ⟩ : ∃ Z, Z = cS s.els (pc + (compE 4 s.e).length + 1 + Y.length + 1) := ⟨_, rfl⟩
  have hYl : cS (Sts.of s.body.list) (pc + (compE 4 s.e).length + 1) = Y := by rw [Sts.of_list]; exact hY.symm
  have hZl : cS (Sts.of s.els.list) (pc + (compE 4 s.e).length + 1 + Y.length + 1) = Z := by rw [Sts.of_list]; exact hZ.symm
  by_cases k3 : s.k = 3
  · have ec : cT s pc = compE 4 s.e ++ ⟨5, 0, 4, 0, (pc + (compE 4 s.e).length + 1 + Y.length + 1 : Nat)⟩ :: (Y ++ [⟨4, 0, 0, 0, pc⟩]) := by
      unfold cT; rw [← hY]; unfold stC; rw [if_neg k1, if_neg k4, if_neg k5, if_neg k6, if_neg k7, if_pos k3]
    obtain ⟨t1, a1, a2, a3, a4, a5, a6, a7⟩ := fin _ _ ec
    obtain ⟨h1, h2⟩ := a7.app
    have hp0 := hp
    rw [ec] at hp
    simp only [List.length_append, List.length_cons, List.length_nil] at hp
    refine ⟨_, _, t1, _, a1, by omega, a6, sq _ _, ⟨a3, a4, ?_⟩, fun h => by simp at h⟩
    rw [a5]
    have eb : blkR s r (evE t.vars s.e) = if evE t.vars s.e ≠ 0 then Sts.of (s.body.list ++ (s :: r)) else Sts.of r := by unfold blkR; rw [if_neg (by omega)]
    rw [eb]
    by_cases hx : evE t.vars s.e = 0
    · simp only [hx, if_true]
      refine ⟨_, rfl, .inl ⟨lev, hlev3, ?_⟩⟩
      rw [if_neg (by simp), Sts.list_of]
      rw [show pc + (compE 4 s.e).length + 1 + Y.length + 1 = pc + ((compE 4 s.e).length + (Y.length + (0 + 1) + 1)) by omega]
      exact hp
    · simp only [hx, if_false]
      refine ⟨pc + (compE 4 s.e).length + 1, by rw [a2]; omega, .inl ?_⟩
      rw [if_pos hx, Sts.list_of]
      have back : Pend l 1 (pc + (compE 4 s.e).length + 1 + (cS (Sts.of s.body.list) (pc + (compE 4 s.e).length + 1)).length) (s :: r) := by
        rw [hYl]
        exact .jump (t := pc) h2.cons.1 (.stmt hself hok hn hp0 hlev)
      obtain ⟨lev', u1, u2⟩ := Pend.list (n := n - 1) (by omega) (lev := 1) (by omega) s.body.list _ (okl hyy) (by rw [hYl]; exact h1) back
      exact ⟨lev', by omega, u2⟩
  have k2 : s.k = 2 := by omega
  have eb : blkR s r (evE t.vars s.e) = Sts.of ((if evE t.vars s.e ≠ 0 then s.body else s.els).list ++ r) := by unfold blkR; rw [if_pos k2]
  by_cases hz : s.els.list.length = 0
  · have ec : cT s pc = compE 4 s.e ++ ⟨5, 0, 4, 0, (pc + (compE 4 s.e).length + 1 + Y.length : Nat)⟩ :: Y := by
      unfold cT; rw [← hY]; unfold stC; rw [if_neg k1, if_neg k4, if_neg k5, if_neg k6, if_neg k7, if_neg k3, if_pos hz]
    obtain ⟨t1, a1, a2, a3, a4, a5, a6, a7⟩ := fin _ _ ec
    rw [ec] at hp
    simp only [List.length_append, List.length_cons, List.length_nil] at hp
    rw [show pc + ((compE 4 s.e).length + (Y.length + 1)) = pc + (compE 4 s.e).length + 1 + Y.length by omega] at hp
    refine ⟨_, _, t1, _, a1, by omega, a6, sq _ _, ⟨a3, a4, ?_⟩, fun h => by simp at h⟩
    rw [a5, eb]
    by_cases hx : evE t.vars s.e = 0
    · simp only [hx, if_true]
      refine ⟨_, rfl, .inl ⟨lev, hlev3, ?_⟩⟩
      rw [Sts.list_of]
      have : (if (0 : Int) ≠ 0 then s.body else s.els).list = [] := by rw [if_neg (by simp)]; exact List.eq_nil_of_length_eq_zero hz
      rw [this, List.nil_append]
      exact hp
    · simp only [hx, if_false]
      refine ⟨pc + (compE 4 s.e).length + 1, by rw [a2]; omega, .inl ?_⟩
      rw [Sts.list_of, if_pos hx]
      obtain ⟨lev', u1, u2⟩ := Pend.list (n := n - 1) (by omega) (lev := lev) (by omega) s.body.list _ (okl hyy) (by rw [hYl]; exact a7) (by rw [hYl]; exact hp)
      exact ⟨lev', by omega, u2⟩
  · have ec : cT s pc = compE 4 s.e ++ ⟨5, 0, 4, 0, (pc + (compE 4 s.e).length + 1 + Y.length + 1 : Nat)⟩ :: (Y ++ ⟨4, 0, 0, 0, (pc + (compE 4 s.e).length + 1 + Y.length + 1 + Z.length : Nat)⟩ :: Z) := by
      unfold cT; rw [← hY, ← hZ]; unfold stC; rw [if_neg k1, if_neg k4, if_neg k5, if_neg k6, if_neg k7, if_neg k3, if_neg hz]
    obtain ⟨t1, a1, a2, a3, a4, a5, a6, a7⟩ := fin _ _ ec
    obtain ⟨h1, h2⟩ := a7.app
    obtain ⟨h3, h4⟩ := h2.cons
    rw [ec] at hp
    simp only [List.length_append, List.length_cons, List.length_nil] at hp
    rw [show pc + ((compE 4 s.e).length + (Y.length + (Z.length + 1) + 1)) = pc + (compE 4 s.e).length + 1 + Y.length + 1 + Z.length by omega] at hp
    refine ⟨_, _, t1, _, a1, by omega, a6, sq _ _, ⟨a3, a4, ?_⟩, fun h => by simp at h⟩
    rw [a5, eb]
    by_cases hx : evE t.vars s.e = 0
    · simp only [hx, if_true]
      refine ⟨_, rfl, .inl ?_⟩
      rw [Sts.list_of, if_neg (by simp)]
      obtain ⟨lev', u1, u2⟩ := Pend.list (n := n - 1) (by omega) (lev := lev) (by omega) s.els.list _ (okl hzz) (by rw [hZl]; exact h4) (by rw [hZl]; exact hp)
      exact ⟨lev', by omega, u2⟩
    · simp only [hx, if_false]
      refine ⟨pc + (compE 4 s.e).length + 1, by rw [a2]; omega, .inl ?_⟩
      rw [Sts.list_of, if_pos hx]
      obtain ⟨lev', u1, u2⟩ := Pend.list (n := n - 1) (by omega) (lev := lev + 1) (by omega) s.body.list _ (okl hyy) (by rw [hYl]; exact h1) (by rw [hYl]; exact .jump h3 hp)
      exact ⟨lev', by omega, u2⟩
theorem RelT.sim {l : List Qd} {t : Tk} {th : Th} {bs : List Bx} (h : RelT l t th) : Sim1 l t th bs 35 := by
  obtain ⟨hl, hv, pc, hpc, ⟨lev, hlev, hp⟩ | ⟨s, r, lev, hr, k4, hq, he, hlev, hp⟩⟩ := h
  · obtain ⟨pc', s1, p1⟩ := hp.sil hpc
    have lift : ∀ {K : Nat}, Sim1 l t ⟨th.regs, (pc' : Nat)⟩ bs K → Sim1 l t th bs (K + 3) := fun ⟨k, q, th1, th2, b1, b2, b3⟩ => ⟨lev + k, q, th1, th2, s1.trans b1, by omega, b3⟩
    generalize hR : t.rest.list = R at p1
    cases p1 with
    | done hd =>
      have e : stepP t bs = (t, bs, [], 4) := by unfold stepP; rw [hR]
      have : Sim1 l t ⟨th.regs, (pc' : Nat)⟩ bs 32 := by
        unfold Sim1
        rw [e]
        exact ⟨0, ⟨10, 0, 0, 0, 0⟩, ⟨th.regs, (pc' : Nat)⟩, ⟨th.regs, (pc' : Nat)⟩, .refl, by omega, by simp only [Int.toNat_natCast]; exact hd, by unfold stepQ; simp, ⟨hl, hv, pc', rfl, .inl ⟨0, by omega, by rw [hR]; exact .done hd⟩⟩, fun _ => rfl⟩
      exact lift this
    | stmt a b c d e =>
      have := lift (stmt_sim (bs := bs) hl hv hR rfl a b c d e)
      obtain ⟨k, q, th1, th2, b1, b2, b3⟩ := this
      exact ⟨k, q, th1, th2, b1, by omega, b3⟩
  · obtain ⟨th2, b1, b2, b3⟩ := send_sim (bs := bs) hl hv hr k4 hpc hq he hlev hp
    exact ⟨0, _, th, th2, .refl, by omega, by rw [hpc, Int.toNat_natCast]; exact hq, b1, b2, b3⟩
end Go.Proofs.Ytmecbehegmgbhaa.AM
namespace Go.Proofs.Ytmecbehegmgbhaa.AM
set_option linter.unusedSimpArgs false
set_option linter.unusedVariables false
set_option maxRecDepth 100000
set_option maxHeartbeats 2000000
open Go
attribute [-simp] AM.elems
theorem runC_succ {n : Nat} {c : Cw} (h : c.idle < c.threads.length) : runC (n + 1) c = runC n (stepC c) := by
  conv => lhs; unfold runC
  rw [if_pos h]
theorem runC_rest {n : Nat} {c : Cw} (h : ¬ c.idle < c.threads.length) : runC n c = c := by
  cases n with
  | zero => rfl
  | succ n => unfold runC; rw [if_neg h]
theorem runC_add (a b : Nat) : ∀ c : Cw, runC b (runC a c) = runC (a + b) c := by
  induction a with
  | zero => intro c; rw [Nat.zero_add]; rfl
  | succ a ih =>
    intro c
    rw [show a + 1 + b = (a + b) + 1 by omega]
    by_cases h : c.idle < c.threads.length
    · rw [runC_succ h, runC_succ h, ih]
    · rw [runC_rest h, runC_rest h, runC_rest h]
theorem stepC_of {c : Cw} {q : Qd} {th : Th} {l : List Qd} (hl : c.codes[c.turn.toNat]? = some l) (ht : c.threads[c.turn.toNat]? = some th) (hq : l[th.pc.toNat]? = some q) :
    stepC c = ⟨c.codes, c.threads.set c.turn.toNat (stepQ q th c.boxes).1, (stepQ q th c.boxes).2.1, (nextT c.threads.length c.turn c.idle (stepQ q th c.boxes).2.2.2).1, (nextT c.threads.length c.turn c.idle (stepQ q th c.boxes).2.2.2).2, c.out ++ (stepQ q th c.boxes).2.2.1⟩ := by
  unfold stepC qAt; rw [ht, hl]; simp [hq]
theorem sil_run {l : List Qd} {k : Nat} {t t' : Th} (h : Sil l k t t') : ∀ {c : Cw} (m : Nat), c.codes[c.turn.toNat]? = some l → c.threads[c.turn.toNat]? = some t → c.idle < c.threads.length →
    runC (k + m) c = runC m ⟨c.codes, c.threads.set c.turn.toNat t', c.boxes, c.turn, if k = 0 then c.idle else 0, c.out⟩ := by
  induction h with
  | refl =>
    intro c m hl ht hi
    rw [Nat.zero_add, set_same ht, if_pos rfl]
  | @step k q t t1 t2 a b s ih =>
    intro c m hl ht hi
    rw [show k + 1 + m = (k + m) + 1 by omega, runC_succ hi, stepC_of hl ht a, b c.boxes]
    have hlen := (List.getElem?_eq_some_iff.1 ht).1
    have hn : nextT c.threads.length c.turn c.idle 1 = (c.turn, 0) := by unfold nextT; rw [if_pos rfl]
    simp only [hn, List.append_nil]
    have := ih (c := ⟨c.codes, c.threads.set c.turn.toNat t1, c.boxes, c.turn, 0, c.out⟩) m hl (by simp only; rw [List.getElem?_set_self hlen]) (by simp only [List.length_set]; omega)
    rw [this]
    simp only [List.set_set, if_neg (Nat.succ_ne_zero k)]
    congr 1
    split <;> rfl
theorem stillQ {q : Qd} {th : Th} {bs : List Bx} (h : (stepQ q th bs).2.2.2 = 3 ∨ (stepQ q th bs).2.2.2 = 4) : (stepQ q th bs).1 = th ∧ (stepQ q th bs).2.1 = bs ∧ (stepQ q th bs).2.2.1 = [] := by
  unfold stepQ at h ⊢
  by_cases h1 : q.op = 1
  · rw [if_pos h1] at h; simp at h
  rw [if_neg h1] at h ⊢
  by_cases h2 : q.op = 2
  · rw [if_pos h2] at h; simp at h
  rw [if_neg h2] at h ⊢
  by_cases h3 : q.op = 3
  · rw [if_pos h3] at h; simp at h
  rw [if_neg h3] at h ⊢
  by_cases h4 : q.op = 4
  · rw [if_pos h4] at h; simp at h
  rw [if_neg h4] at h ⊢
  by_cases h5 : q.op = 5
  · rw [if_pos h5] at h; simp at h
  rw [if_neg h5] at h ⊢
  by_cases h6 : q.op = 6
  · rw [if_pos h6] at h ⊢
    cases hb : bs[q.n.toNat]? with
    | none => exact ⟨rfl, rfl, rfl⟩
    | some bx =>
      rw [hb] at h
      simp only at h ⊢
      split
      · rename_i hr; rw [if_pos hr] at h; simp at h
      · exact ⟨rfl, rfl, rfl⟩
  rw [if_neg h6] at h ⊢
  by_cases h7 : q.op = 7
  · rw [if_pos h7] at h ⊢
    cases hb : bs[q.n.toNat]? with
    | none => exact ⟨rfl, rfl, rfl⟩
    | some bx =>
      rw [hb] at h
      simp only at h ⊢
      cases hi : bx.items with
      | nil => exact ⟨rfl, rfl, rfl⟩
      | cons y r => rw [hi] at h; simp at h
  rw [if_neg h7] at h ⊢
  by_cases h8 : q.op = 8
  · rw [if_pos h8] at h; simp at h
  rw [if_neg h8] at h ⊢
  by_cases h9 : q.op = 9
  · rw [if_pos h9] at h; simp at h
  rw [if_neg h9]
  exact ⟨rfl, rfl, rfl⟩
structure RelC (w : Wd) (c : Cw) : Prop where
  tl : c.threads.length = w.tasks.length
  rel : ∀ (i : Nat) (l : List Qd) (t : Tk) (th : Th), c.codes[i]? = some l → w.tasks[i]? = some t → c.threads[i]? = some th → RelT l t th
  boxes : c.boxes = w.boxes
  out : c.out = w.out
  turn : c.turn = w.turn
  idle : c.idle ≤ w.idle
  va : vaWd w = true
  vc : vaCw c = true
  park : ∀ j : Int, 1 ≤ j → j ≤ w.idle → ∀ q th, qAt c.codes c.threads ((w.turn - j) % w.tasks.length) = some (q, th) → (stepQ q th c.boxes).2.2.2 = 3 ∨ (stepQ q th c.boxes).2.2.2 = 4
theorem RelC.step {w : Wd} {c : Cw} (h : RelC w c) (hi : w.idle < w.tasks.length) : ∃ m, 1 ≤ m ∧ m ≤ 36 ∧ RelC (stepW w) (runC m c) := by
  obtain ⟨h1, h2, h3, h4⟩ := vaWd_iff.1 h.va
  obtain ⟨g1, g2, g3, g4, g5⟩ := vaCw_iff.1 h.vc
  have htl := h.tl
  have htu := h.turn
  have hidl := h.idle
  obtain ⟨t, ht⟩ : ∃ t, w.tasks[w.turn.toNat]? = some t := ⟨_, List.getElem?_eq_getElem (by omega)⟩
  obtain ⟨l, hl⟩ : ∃ t, c.codes[w.turn.toNat]? = some t := ⟨_, List.getElem?_eq_getElem (by omega)⟩
  obtain ⟨th, hth⟩ : ∃ t, c.threads[w.turn.toNat]? = some t := ⟨_, List.getElem?_eq_getElem (by omega)⟩
  have hlen := (List.getElem?_eq_some_iff.1 hth).1
  have hlenw := (List.getElem?_eq_some_iff.1 ht).1
  obtain ⟨k, q, th1, th2, s1, s2, s3, s4, s5, s6⟩ := (h.rel _ l t th hl ht hth).sim (bs := w.boxes)
  have hcode := step_code' (bs := w.boxes) (h4 t (List.mem_of_getElem? ht))
  have e : stepW w = ⟨w.tasks.set w.turn.toNat (stepP t w.boxes).1, (stepP t w.boxes).2.1, (nextT w.tasks.length w.turn w.idle (stepP t w.boxes).2.2.2).1, (nextT w.tasks.length w.turn w.idle (stepP t w.boxes).2.2.2).2, w.out ++ (stepP t w.boxes).2.2.1⟩ := by
    unfold stepW; rw [ht]
  have hkw := (stepW_keeps h.va hi).1
  obtain ⟨ix, hix⟩ : ∃ ix : Int, ix = if k = 0 then c.idle else 0 := ⟨_, rfl⟩
  have hixl : ix ≤ w.idle ∧ 0 ≤ ix := by rw [hix]; split <;> omega
  have er : runC (k + 1) c = ⟨c.codes, c.threads.set w.turn.toNat th2, (stepP t w.boxes).2.1, (nextT w.tasks.length w.turn ix (stepP t w.boxes).2.2.2).1, (nextT w.tasks.length w.turn ix (stepP t w.boxes).2.2.2).2, w.out ++ (stepP t w.boxes).2.2.1⟩ := by
    rw [sil_run s1 1 (by rw [htu]; exact hl) (by rw [htu]; exact hth) (by omega), ← hix, htu]
    rw [show (1 : Nat) = 0 + 1 from rfl, runC_succ (by simp only [List.length_set]; omega)]
    have := stepC_of (c := ⟨c.codes, c.threads.set w.turn.toNat th1, c.boxes, w.turn, ix, c.out⟩) hl (by simp only; rw [List.getElem?_set_self hlen]) s3
    rw [this]
    simp only [h.boxes, s4, List.set_set, List.length_set, htl, h.out]
    rfl
  refine ⟨k + 1, by omega, by omega, ?_⟩
  have hkc := (runC_keeps (k + 1) h.vc).1
  rw [er] at hkc ⊢
  rw [e] at hkw ⊢
  refine ⟨by simpa using htl, fun i l' t' th' hl' ht' hth' => ?_, rfl, rfl, ?_, ?_, hkw, hkc, fun j hj1 hj2 q' th' hq' => ?_⟩
  · simp only at hl' ht' hth'
    by_cases hit : i = w.turn.toNat
    · subst hit
      rw [List.getElem?_set_self hlenw] at ht'
      rw [List.getElem?_set_self hlen] at hth'
      rw [hl] at hl'
      cases ht'; cases hth'; cases hl'
      exact s5
    · rw [List.getElem?_set_ne (Ne.symm hit)] at ht' hth'
      exact h.rel i l' t' th' hl' ht' hth'
  · simp only
    unfold nextT
    split
    · rfl
    split <;> rfl
  · simp only
    unfold nextT
    split
    · simp
    split
    · simp
    · simp only; omega
  · simp only at hj2 hq' ⊢
    by_cases c1 : (stepP t w.boxes).2.2.2 = 1
    · rw [c1] at hj2; simp [nextT] at hj2; omega
    by_cases c2 : (stepP t w.boxes).2.2.2 = 2
    · rw [c2] at hj2; simp [nextT] at hj2; omega
    have hs : (stepP t w.boxes).2.2.2 = 3 ∨ (stepP t w.boxes).2.2.2 = 4 := by omega
    have e12 := s6 hs
    subst e12
    have hsq : (stepQ q th2 w.boxes).2.2.2 = 3 ∨ (stepQ q th2 w.boxes).2.2.2 = 4 := by rw [s4]; exact hs
    have hbx : (stepP t w.boxes).2.1 = w.boxes := by
      have := (stillQ hsq).2.1
      rw [s4] at this
      exact this
    rw [hbx]
    have en : nextT w.tasks.length w.turn w.idle (stepP t w.boxes).2.2.2 = ((w.turn + 1) % w.tasks.length, w.idle + 1) := by unfold nextT; rw [if_neg c1, if_neg c2]
    rw [en] at hj2 hq'
    simp only [List.length_set] at hj2 hq'
    have hm : (((w.turn + 1) % w.tasks.length - j) % w.tasks.length) = (w.turn + 1 - j) % w.tasks.length := by
      rw [Int.emod_sub_emod]
    rw [hm] at hq'
    by_cases j1 : j = 1
    · subst j1
      rw [show w.turn + 1 - 1 = w.turn by omega, Int.emod_eq_of_lt (by omega) (by omega)] at hq'
      unfold qAt at hq'
      rw [List.getElem?_set_self hlen, hl] at hq'
      simp [s3] at hq'
      obtain ⟨rfl, rfl⟩ := hq'
      exact hsq
    · have hne : ((w.turn + 1 - j) % w.tasks.length) ≠ w.turn := fun he => by
        have m0 := Int.emod_nonneg (w.turn + 1 - j) (show (w.tasks.length : Int) ≠ 0 by omega)
        by_cases hc : 0 ≤ w.turn + 1 - j
        · rw [Int.emod_eq_of_lt hc (by omega)] at he; omega
        · have : (w.turn + 1 - j) % w.tasks.length = w.turn + 1 - j + w.tasks.length := by
            rw [← Int.add_emod_right, Int.emod_eq_of_lt (by omega) (by omega)]
          rw [this] at he; omega
      have m0 := Int.emod_nonneg (w.turn + 1 - j) (show (w.tasks.length : Int) ≠ 0 by omega)
      have := h.park (j - 1) (by omega) (by omega) q' th' (by
        rw [show w.turn - (j - 1) = w.turn + 1 - j by omega]
        unfold qAt at hq' ⊢
        rw [List.getElem?_set_ne (by omega)] at hq'
        exact hq')
      rw [h.boxes] at this
      exact this
theorem RelC.run (n : Nat) : ∀ {w : Wd} {c : Cw}, RelC w c → ∃ m, m ≤ 36 * n ∧ RelC (runW n w) (runC m c) ∧ ((runW n w).idle < (runW n w).tasks.length → n ≤ m) := by
  induction n with
  | zero => intro w c h; exact ⟨0, by omega, h, fun _ => by omega⟩
  | succ n ih =>
    intro w c h
    by_cases hi : w.idle < w.tasks.length
    · obtain ⟨m1, a0, a1, a2⟩ := h.step hi
      obtain ⟨m2, b1, b2, b3⟩ := ih a2
      rw [runC_add] at b2
      rw [runW_succ hi]
      exact ⟨m1 + m2, by omega, b2, fun hh => by have := b3 hh; omega⟩
    · rw [runW_rest hi]
      exact ⟨0, by omega, h, fun hh => absurd hh hi⟩
theorem RelC.new {p : Pg} (hv : vaPg p = true) : RelC (newW p) (newK p.rooms (p.tasks.map compT)) where
  tl := by simp [newW, newK]
  rel := fun i l t th hl ht hth => by
    simp only [newK, newW] at hl ht hth
    rw [List.getElem?_map] at hl ht
    obtain ⟨f, hf, rfl⟩ := Option.map_eq_some_iff.1 hl
    rw [hf] at ht
    simp at ht
    subst ht
    have et : th = ⟨z12, 0⟩ := by
      rw [List.getElem?_map] at hth
      obtain ⟨_, _, rfl⟩ := Option.map_eq_some_iff.1 hth
      rfl
    subst et
    have hv' := hv
    unfold vaPg at hv'
    simp only [Bool.and_eq_true, decide_eq_true_eq, List.all_eq_true] at hv'
    obtain ⟨o1, o2, o3⟩ := vaF_facts (hv'.2 f (List.mem_of_getElem? hf))
    have e0 : cS (Sts.of f.list) 0 = cS f 0 := by rw [Sts.of_list]
    have hd : Pend (compT f) 0 (0 + (cS (Sts.of f.list) 0).length) [] := by
      rw [e0, Nat.zero_add]
      refine .done ?_
      unfold compT
      simp
    obtain ⟨lev, u1, u2⟩ := Pend.list (l := compT f) (n := 3) (by omega) (lev := 0) (by omega) f.list 0 (fun s hs => by rw [okS_mem] at o1; exact List.all_eq_true.1 o1 s hs) (fun i q hq => by
      rw [e0] at hq
      unfold compT
      rw [Nat.zero_add, List.getElem?_append_left (List.getElem?_eq_some_iff.1 hq).1]; exact hq) hd
    rw [List.append_nil] at u2
    exact ⟨rfl, rfl, 0, rfl, .inl ⟨lev, by omega, u2⟩⟩
  boxes := rfl
  out := rfl
  turn := rfl
  idle := Int.le_refl _
  va := (newW_bo hv).1
  vc := newK_va hv
  park := fun j h1 h2 => by simp [newW] at h2; omega
end Go.Proofs.Ytmecbehegmgbhaa.AM
namespace Go.Proofs.Ytmecbehegmgbhaa.AM
set_option linter.unusedSimpArgs false
set_option linter.unusedVariables false
set_option maxRecDepth 100000
set_option maxHeartbeats 4000000
open Go
attribute [-simp] AM.elems
end Go.Proofs.Ytmecbehegmgbhaa.AM
namespace Go.Proofs.Ytmecbehegmgbhaa.AM
set_option linter.unusedSimpArgs false
set_option linter.unusedVariables false
set_option maxRecDepth 100000
set_option maxHeartbeats 4000000
open Go
attribute [-simp] AM.elems
end Go.Proofs.Ytmecbehegmgbhaa.AM
namespace Go.Proofs.Ytmecbehegmgbhaa.AM
set_option linter.unusedSimpArgs false
set_option linter.unusedVariables false
set_option maxRecDepth 100000
set_option maxHeartbeats 4000000
open Go
attribute [-simp] AM.elems
theorem CS.qv {base H H' v B v' B' L'} {ok : Nat → Prop} {u : AV} {l : List Qd} (h : CS base H H' v B v' B' L') (q : QV ok H u l) (hd : ∀ b, ok b → b < H.n → b ∉ grB v B) : QV ok H' u l :=
  q.mono h.le (fun b hb hn => h.2.1.2 b hn (hd b hb hn)) (fun _ h _ => h)
theorem CS.appQ {base : Nat} {ok : Nat → Prop} {H : AH} {v u : AV} {B : Nat} {L l : List Qd} (h : GrS base H v L.length 5 (qCs L) B) (hb : base ≤ H.n) (q : QV ok H u l) (hl : L.length + l.length ≤ 1000000) :
    ∃ v' H' B', aapp H 5 v l.length (qCs l) = some (v', H') ∧ CS base H H' v B v' B' (L ++ l) ∧ v'.flat = true := by
  obtain ⟨v', H', B', a1, a2, a3, a4⟩ := h.app hb (k := l.length) (new := qCs l) qCs_len (by omega)
  have a2' : GrS base H' v' (L ++ l).length 5 (qCs (L ++ l)) B' := by rw [qCs_app, List.length_append]; exact a2
  refine ⟨v', H', B', a1, ⟨a2', a4, fun b hb => ?_⟩, a2.flat⟩
  rcases a3 with ⟨z1, z2⟩ | z
  · exact .inl (by rw [grB_sub hb, z1]; exact z2)
  · exact .inr (by rw [grB_sub hb, z]; omega)
theorem GrS.newQ {base : Nat} {G : AH} (hb : base ≤ G.n) (q : Qd) : GrS base (G.push (qC q)) (.sl G.n 0 1 (.ex 1)) [q].length 5 (qCs [q]) G.n := by
  have := GrS.new (base := base) (G := G) (n := 1) (sz := 5) (cs := qC q) hb (by omega) rfl
  simpa [qCs] using this
theorem CS.ext' {base H0 H H' v B v' B' L'} (h : CS base H H' v B v' B' L') (x : Ext H0 H) (hb : ∀ b ∈ grB v B, H0.n ≤ b) : Ext H0 H' :=
  ⟨Nat.le_trans x.1 h.le, fun b hb' => (h.2.1.2 b (by have := x.1; omega) (fun hm => by have := hb b hm; omega)).trans (x.2 b hb')⟩
theorem K_sl22Expr (a : Exs) : ∀ {ok : Nat → Prop} {H : AH} {K : AV → AH → Prop} {w : Fk K} {op n d at_ : Int} {va : AV}, EV ok H va a → okE1 d op n a.list.length (okF (d - 1) a) = true → (0 ≤ at_ ∧ at_ + d ≤ 100) → (cE1 at_ op n (compF a at_)).length ≤ 1000000 →
    (∀ v' B' H', GrS H.n H' v' (cE1 at_ op n (compF a at_)).length 5 (qCs (cE1 at_ op n (compF a at_))) B' → Ext H H' → K v' H') → CallF Cd f_sl22Expr [.agg [.I op, .I n, va], .I at_] H K w := by
  induction a using Exs.ind with
  | h a ih =>
  intro ok H K w op n d at_ va h hok hat hL k
  have x1 := Ext.push H [.I op, .I n, va]
  have q1 : (H.push [.I op, .I n, va]).bk H.n = some ⟨[.I op, .I n, va], true⟩ := push_new
  rw [CallF_eq e_sl22Expr rfl]
  by_cases h0 : op = 0
  · subst h0
    have e : cE1 at_ 0 n (compF a at_) = [⟨1, at_, 0, 0, n⟩] := by unfold cE1; rw [if_pos rfl]
    rw [e] at k
    have g := GrS.newQ (base := H.n) (G := H.push [.I 0, .I n, va]) (by simp) ⟨1, at_, 0, 0, n⟩
    simp [load_bk q1]
    exact k _ _ _ g (x1.trans (Ext.push _ _))
  by_cases h13 : op = 13
  · subst h13
    have e : cE1 at_ 13 n (compF a at_) = [⟨2, at_, n, 0, 0⟩] := by unfold cE1; rw [if_neg (by omega), if_pos rfl]
    rw [e] at k
    have g := GrS.newQ (base := H.n) (G := H.push [.I 13, .I n, va]) (by simp) ⟨2, at_, n, 0, 0⟩
    simp [load_bk q1]
    exact k _ _ _ g (x1.trans (Ext.push _ _))
  obtain ⟨c0, c1, c2, c3⟩ := okE1_op hok h0 h13
  obtain ⟨e1, e3, hal⟩ := two_of c2
  have hx := h.ext x1
  obtain ⟨b, o, cap, va1, ev, ob, hbn, l1, ea⟩ := hx.at (i := 0) (e := e1) (by rw [hal]; rfl)
  obtain ⟨b', o', cap', va2, ev', ob', hbn', l2, eb⟩ := hx.at (i := 1) (e := e3) (by rw [hal]; rfl)
  rw [hal] at ev ev'
  rw [ev] at ev'
  simp only [AV.sl.injEq, true_and] at ev'
  obtain ⟨rfl, rfl, rfl⟩ := ev'
  have ev2 : va = .sl b o 2 cap := ev
  clear ev
  subst ev2
  have ok1 : okE (d - 1) e1 = true ∧ okE (d - 1) e3 = true := by
    rw [okF_mem, hal] at c3
    simpa using c3
  have hd1 : 1 < d := by
    unfold okE1 at hok
    rw [if_neg h0, if_neg h13] at hok
    simp only [Bool.and_eq_true, decide_eq_true_eq] at hok
    exact hok.1.2.2.2.2
  have e : cE1 at_ op n (compF a at_) = compE at_ e1 ++ compE (at_ + 1) e3 ++ [⟨3, at_, at_, at_ + 1, op⟩] := by unfold cE1; rw [if_neg h0, if_neg h13, compF_two hal]
  rw [e] at k hL
  simp only [List.length_append, List.length_singleton] at hL
  simp only [Nat.zero_mul, Nat.add_zero, Nat.one_mul] at l1 l2
  have z1 : (cE1 at_ e1.op e1.n (compF e1.args at_)) = compE at_ e1 := rfl
  have z3 : (cE1 (at_ + 1) e3.op e3.n (compF e3.args (at_ + 1))) = compE (at_ + 1) e3 := rfl
  simp [load_bk q1, l1, h0, h13]
  refine ih e1 (by rw [hal]; simp) (d := d - 1) (at_ := at_) ea ok1.1 (by omega) (by rw [z1]; omega) fun v1 B1 H2 g2 x2 => ?_
  rw [z1] at g2
  have n2 := x2.1
  simp only [push_n] at n2 g2
  have q2 := (x2.2 H.n (by simp)).trans q1
  have l2' := loadN_extE l2 x2 hbn'
  simp (disch := omega) [x2, load_bk q2, l2']
  refine ih e3 (by rw [hal]; simp) (d := d - 1) (at_ := at_ + 1) (eb.ext x2) ok1.2 (by omega) (by rw [z3]; omega) fun v2 B2 H3 g3 x3 => ?_
  rw [z3] at g3
  have n3 := x3.1
  have q3 := (x3.2 H.n (by omega)).trans q2
  have e3' : AM.elems H3 5 v2 = some (qCs (compE (at_ + 1) e3)) := g3.elems
  have a3' := g3.alen
  have gB : ∀ b ∈ grB v1 B1, H.n + 1 ≤ b ∧ b < H2.n := fun b hm => by have := g2.mem hm; omega
  obtain ⟨v4, H4, B4, b1, s4, f4⟩ := CS.appQ ((g2.up (base' := H.n) (by omega)).ext x3) (by omega) g3.qv (by omega)
  have q4 := s4.keep (P := H.n) (by omega) (fun hm => by have := gB _ hm; omega) q3
  obtain ⟨v5, H5, B5, c1', s5, f5⟩ := CS.app s4.1 (by have := s4.le; omega) ⟨3, at_, at_, at_ + 1, op⟩ (by simp only [List.length_append]; omega)
  simp only [qC] at c1'
  simp (disch := omega) [x3, e3', a3', b1, load_bk q4]
  simp (disch := omega) [AM.elems, loadN_push, c1']
  have S := s4.trans s5
  refine k _ B5 _ ?_ (S.ext' ((x1.trans x2).trans x3) (fun b hm => by have := gB b hm; omega))
  simpa [List.append_assoc] using S.1
end Go.Proofs.Ytmecbehegmgbhaa.AM
namespace Go.Proofs.Ytmecbehegmgbhaa.AM
set_option linter.unusedSimpArgs false
set_option linter.unusedVariables false
set_option maxRecDepth 100000
set_option maxHeartbeats 4000000
open Go
attribute [-simp] AM.elems
theorem elems5 {G : AH} {a b c d e : AV} : AM.elems (G.push [a, b, c, d, e]) 5 (.sl G.n 0 1 (.ex 1)) = some [a, b, c, d, e] := by
  show AH.loadN _ _ _ _ = _
  rw [loadN_bk push_new]; rfl
section
variable {ok : Nat → Prop} {n : Int} {H : AH} {K : AV → AH → Prop} {w : Fk K} {c : List AV} {s : St1}
end
end Go.Proofs.Ytmecbehegmgbhaa.AM
namespace Go.Proofs.Ytmecbehegmgbhaa.AM
set_option linter.unusedSimpArgs false
set_option linter.unusedVariables false
set_option maxRecDepth 100000
set_option maxHeartbeats 4000000
open Go
attribute [-simp] AM.elems
section
variable {ok : Nat → Prop} {n : Int} {H : AH} {K : AV → AH → Prop} {w : Fk K} {c : List AV} {s : St1}
end
section
variable {ok : Nat → Prop} {H : AH} {K : AV → AH → Prop} {w : Fk K} {v : AV} {f : Sts}
end
theorem T_wsameCode_l {o1 o2 : Nat → Prop} {H : AH} {va vb : AV} {l : List Qd} {Q : Out → Env → AH → Prop} (h1 : QV o1 H va l) (h2 : QV o2 H vb l) (hQ : ∀ e, Q (.brk 0) e H) (m i : Nat) (hm : i + m = l.length) :
    W Cd (.loop c_wsameCode_l0) [(0, va), (1, vb), (5, .I i)] H Q := by
  have hbig : l.length ≤ 8589934592 := h1.1
  induction m generalizing i with
  | zero =>
    rw [W_loop_as c_wsameCode_l0.eq_1]
    have : i = l.length := by omega
    subst this
    simp [h1.alen]
    exact hQ _
  | succ m ih =>
    rw [W_loop_as c_wsameCode_l0.eq_1]
    have hlt : i < l.length := by omega
    have hlt' : (i : Int) < l.length := by omega
    obtain ⟨e, he⟩ : ∃ e, l[i]? = some e := ⟨_, List.getElem?_eq_getElem hlt⟩
    obtain ⟨b, o, cap, e1, ob, hb, l1⟩ := h1.at he
    obtain ⟨b2, o2, cap2, e2, ob2, hb2, l2⟩ := h2.at he
    have a1 := h1.alen
    have := ih (i + 1) (by omega)
    subst e1 e2
    simp (disch := omega) [a1, hlt', l1, l2, qC]
    simpa using this
theorem T_wsameCode {o1 o2 : Nat → Prop} {H : AH} {K : AV → AH → Prop} {w : Fk K} {va vb : AV} {l : List Qd} (h1 : QV o1 H va l) (h2 : QV o2 H vb l) (k : K (.b true) H) : CallF Cd f_wsameCode [va, vb] H K w := by
  rw [CallF_eq e_wsameCode rfl]
  simp [h1.alen, h2.alen]
  have := T_wsameCode_l h1 h2 (Q := ?_) ?_ l.length 0 (by omega)
  · simpa using this
  · intro e; simpa using k
end Go.Proofs.Ytmecbehegmgbhaa.AM
namespace Go.Proofs.Ytmecbehegmgbhaa.AM
set_option linter.unusedSimpArgs false
set_option linter.unusedVariables false
set_option maxRecDepth 100000
set_option maxHeartbeats 4000000
open Go
attribute [-simp] AM.elems
end Go.Proofs.Ytmecbehegmgbhaa.AM
namespace Go.Proofs.Ytmecbehegmgbhaa.AM
set_option linter.unusedSimpArgs false
set_option linter.unusedVariables false
set_option maxRecDepth 100000
set_option maxHeartbeats 4000000
open Go
attribute [-simp] AM.elems
def dpF : Exs → Nat
  | .nil => 0
  | .cons _ _ a r => max (1 + dpF a) (dpF r)
theorem dpF_of {e : Ex} {l : List Ex} : dpF (Exs.of (e :: l)) = max (1 + dpF e.args) (dpF (Exs.of l)) := rfl
theorem dpF_le : ∀ {f : Exs} {d : Int}, okF d f = true → (dpF f : Int) ≤ max d 0
  | .nil, d, _ => by simp [dpF]; omega
  | .cons op n a r, d, h => by
    simp only [okF, Bool.and_eq_true] at h
    have h2 := dpF_le h.2
    have h1 : (1 + dpF a : Int) ≤ max d 0 := by
      have h1 := h.1
      unfold okE1 at h1
      by_cases h0 : op = 0
      · rw [if_pos h0] at h1; simp only [decide_eq_true_eq] at h1
        have : a = .nil := by cases a with | nil => rfl | cons => simp at h1
        subst this; simp [dpF]; omega
      by_cases h13 : op = 13
      · rw [if_neg h0, if_pos h13] at h1; simp only [decide_eq_true_eq] at h1
        have : a = .nil := by cases a with | nil => rfl | cons => simp at h1
        subst this; simp [dpF]; omega
      rw [if_neg h0, if_neg h13] at h1
      simp only [Bool.and_eq_true, decide_eq_true_eq] at h1
      have := dpF_le h1.2
      omega
    simp only [dpF]
    omega
theorem dpE_le {op n d : Int} {a : Exs} (h : okE1 d op n a.list.length (okF (d - 1) a) = true) : (1 + dpF a : Int) ≤ d := by
  have := dpF_le (f := .cons op n a .nil) (d := d) (by simp only [okF, h, Bool.and_self])
  have hd : 0 < d := by
    unfold okE1 at h
    by_cases h0 : op = 0
    · rw [if_pos h0] at h; simp only [decide_eq_true_eq] at h; omega
    by_cases h13 : op = 13
    · rw [if_neg h0, if_pos h13] at h; simp only [decide_eq_true_eq] at h; omega
    rw [if_neg h0, if_neg h13] at h
    simp only [Bool.and_eq_true, decide_eq_true_eq] at h
    omega
  simp only [dpF] at this
  omega
def DepC (a : Exs) : Prop := ∀ {ok : Nat → Prop} {H : AH} {K : AV → AH → Prop} {w : Fk K} {op n : Int} {v : AV}, EV ok H v a → dpF a ≤ 1000 → (∀ H', Ext H H' → K (.I (1 + dpF a : Nat)) H') → CallF Cd f_iexprDepth [.agg [.I op, .I n, v]] H K w
theorem K_iexprDepth_l {a : Exs} (ih : ∀ e ∈ a.list, DepC e.args) {ok : Nat → Prop} {v : AV} {Q : Out → Env → AH → Prop} (hd : dpF a ≤ 1000)
    (m i : Nat) (hm : i + m = a.list.length) {H : AH} (hv : EV ok H v a) (acc : Nat) (hacc : max acc (dpF (Exs.of (a.list.drop i))) = dpF a) (hQ : ∀ e H', Ext H H' → get e 3 = some (.I (dpF a : Nat)) → Q (.brk 0) e H') :
    W Cd (.loop c_iexprDepth_l0) [(3, .I acc), (7, v), (8, .I a.list.length), (9, .I i)] H Q := by
  have hbig : a.list.length ≤ 8589934592 := hv.choose_spec.1.1
  induction m generalizing i H acc with
  | zero =>
    rw [W_loop_as c_iexprDepth_l0.eq_1]
    have : i = a.list.length := by omega
    subst this
    rw [List.drop_eq_nil_of_le (Nat.le_refl _)] at hacc
    have e : acc = dpF a := by simpa [dpF] using hacc
    subst e
    simp
    exact hQ _ H (Ext.refl _) rfl
  | succ m ihm =>
    rw [W_loop_as c_iexprDepth_l0.eq_1]
    have hlt : i < a.list.length := by omega
    have hlt' : (i : Int) < a.list.length := by omega
    obtain ⟨x, hx⟩ : ∃ s, a.list[i]? = some s := ⟨_, List.getElem?_eq_getElem hlt⟩
    have hdr : a.list.drop i = x :: a.list.drop (i + 1) := by
      rw [List.drop_eq_getElem_cons hlt]
      rw [List.getElem?_eq_getElem hlt] at hx
      rw [Option.some.inj hx]
    rw [hdr, dpF_of] at hacc
    obtain ⟨b, o, cap, va, e1, ob, hbn, l1, ea⟩ := hv.at hx
    have hv0 := hv
    subst e1
    have st : (H.push [.I 0, .I 0, .nils]).store H.n 0 [.I x.op, .I x.n, va] = some (H.push [.I x.op, .I x.n, va]) := by rw [store_bk push_new (by simp), push_put]; rfl
    have x1 := Ext.push H [.I x.op, .I x.n, va]
    have q1 : (H.push [.I x.op, .I x.n, va]).loadN H.n 0 3 = some [.I x.op, .I x.n, va] := by rw [loadN_bk push_new]; rfl
    simp (disch := omega) [hlt', l1, st, q1]
    refine ih x (List.mem_of_getElem? hx) (ea.ext x1) (by omega) fun H2 x2 => ?_
    have := ihm (i + 1) (by omega) (H := H2) (hv0.ext (x1.trans x2)) (max acc (1 + dpF x.args)) (by omega) (fun e H' x' he => hQ e H' ((x1.trans x2).trans x') he)
    have em : (if (acc : Int) < (1 + dpF x.args : Nat) then ((1 + dpF x.args : Nat) : Int) else acc) = (max acc (1 + dpF x.args) : Nat) := by split <;> omega
    simp (disch := omega) [em]
    simp at em
    first
      | (rw [em]; simpa using this)
      | simpa using this
theorem K_iexprDepth (a : Exs) : DepC a := by
  induction a using Exs.ind with
  | h a ih =>
  intro ok H K w op n v h hd k
  rw [CallF_eq e_iexprDepth rfl]
  have x1 := Ext.push H [.I op, .I n, v]
  have q1 : (H.push [.I op, .I n, v]).bk H.n = some ⟨[.I op, .I n, v], true⟩ := push_new
  have hbig : a.list.length ≤ 8589934592 := h.choose_spec.1.1
  simp [load_bk q1, h.alen]
  have := K_iexprDepth_l ih hd (Q := ?_) a.list.length 0 (by omega) (h.ext x1) 0 (by rw [List.drop_zero, Exs.of_list]; omega) ?_
  · simpa using this
  · intro e H' x he
    have e1 : ((dpF a : Nat) : Int) + 1 = ((1 + dpF a : Nat) : Int) := by omega
    simp (disch := omega) [he]
    rw [e1]
    exact k H' (x1.trans x)
theorem K_sl4Depth (a : Exs) : ∀ {ok : Nat → Prop} {H : AH} {K : AV → AH → Prop} {w : Fk K} {op n d : Int} {v : AV}, EV ok H v a → okE1 d op n a.list.length (okF (d - 1) a) = true → d ≤ 100 → (∀ H', Ext H H' → K (.I (1 + dpF a : Nat)) H') → CallF Cd f_sl4Depth [.agg [.I op, .I n, v]] H K w := by
  induction a using Exs.ind with
  | h a ih =>
  intro ok H K w op n d v h hok hd k
  rw [CallF_eq e_sl4Depth rfl]
  have x1 := Ext.push H [.I op, .I n, v]
  have q1 : (H.push [.I op, .I n, v]).bk H.n = some ⟨[.I op, .I n, v], true⟩ := push_new
  have hbig : a.list.length ≤ 8589934592 := h.choose_spec.1.1
  by_cases h0 : a.list.length = 0
  · have e0 : a = .nil := by cases a with | nil => rfl | cons => simp at h0
    subst e0
    have ha := h.alen
    simp only [Exs.list, List.length_nil] at ha
    simp [load_bk q1, ha]
    exact k _ x1
  have hop : ¬ op = 0 ∧ ¬ op = 13 := by
    unfold okE1 at hok
    constructor
    · intro h1; rw [if_pos h1] at hok; simp only [decide_eq_true_eq] at hok; omega
    · intro h1
      by_cases h2 : op = 0
      · rw [if_pos h2] at hok; simp only [decide_eq_true_eq] at hok; omega
      · rw [if_neg h2, if_pos h1] at hok; simp only [decide_eq_true_eq] at hok; omega
  obtain ⟨c0, c1, c2, c3⟩ := okE1_op hok hop.1 hop.2
  obtain ⟨e1, e3, hal⟩ := two_of c2
  have ok1 : okE (d - 1) e1 = true ∧ okE (d - 1) e3 = true := by
    rw [okF_mem, hal] at c3
    simpa using c3
  have hx := h.ext x1
  obtain ⟨b, o, cap, va1, ev, ob, hbn, l1, ea⟩ := hx.at (i := 0) (e := e1) (by rw [hal]; rfl)
  obtain ⟨b', o', cap', va2, ev', ob', hbn', l2, eb⟩ := hx.at (i := 1) (e := e3) (by rw [hal]; rfl)
  rw [hal] at ev ev'
  rw [ev] at ev'
  simp only [AV.sl.injEq, true_and] at ev'
  obtain ⟨rfl, rfl, rfl⟩ := ev'
  have ev2 : v = .sl b o 2 cap := ev
  clear ev
  subst ev2
  simp only [Nat.zero_mul, Nat.add_zero, Nat.one_mul] at l1 l2
  have hD : dpF a = max (1 + dpF e1.args) (1 + dpF e3.args) := by
    have := Exs.of_list a
    rw [hal] at this
    rw [← this]
    simp only [Exs.of, dpF]
    omega
  have b1 := dpE_le (d := d - 1) ok1.1
  have b3 := dpE_le (d := d - 1) ok1.2
  simp [load_bk q1, l1]
  refine ih e1 (by rw [hal]; simp) (d := d - 1) ea ok1.1 (by omega) fun H2 x2 => ?_
  have q2 := (x2.2 H.n (by simp)).trans q1
  have l2' := loadN_extE l2 x2 hbn'
  simp [x2, load_bk q2, l2']
  refine ih e3 (by rw [hal]; simp) (d := d - 1) (eb.ext x2) ok1.2 (by omega) fun H3 x3 => ?_
  have em : (1 : Int) + (if ((1 + dpF e1.args : Nat) : Int) < (1 + dpF e3.args : Nat) then ((1 + dpF e3.args : Nat) : Int) else (1 + dpF e1.args : Nat)) = (1 + dpF a : Nat) := by rw [hD]; split <;> omega
  have kk := k H3 ((x1.trans x2).trans x3)
  rw [← em] at kk
  by_cases hc : ((1 + dpF e1.args : Nat) : Int) < (1 + dpF e3.args : Nat)
  · rw [if_pos hc] at kk
    have hc' := hc
    simp at hc'
    simp (disch := omega) [x3, hc']
    simpa using kk
  · rw [if_neg hc] at kk
    have hc' := hc
    simp at hc'
    have hc2 : ¬ dpF e1.args < dpF e3.args := by omega
    simp (disch := omega) [x3, hc2]
    simpa using kk
end Go.Proofs.Ytmecbehegmgbhaa.AM
namespace Go.Proofs.Ytmecbehegmgbhaa.AM
set_option linter.unusedSimpArgs false
set_option linter.unusedVariables false
set_option maxRecDepth 100000
set_option maxHeartbeats 4000000
open Go
attribute [-simp] AM.elems
section
variable {H : AH} {K : AV → AH → Prop} {r : Nat} {w : Fk K} {m : Int}
theorem cE_le5 {d : Nat} (h : d ≤ 5) : cE d ≤ 126 := by
  have : d = 0 ∨ d = 1 ∨ d = 2 ∨ d = 3 ∨ d = 4 ∨ d = 5 := by omega
  rcases this with rfl | rfl | rfl | rfl | rfl | rfl <;> simp [cE]
theorem K_sl91Expr5 {x : Int} (hx : 0 ≤ x ∧ x ≤ 5) (h : Rdx H r m) (hm : m ≤ 900000000000)
    (k : ∀ (e : Ex) v H', DE H.n H' v e.args → Rdx H' r (m + 126) → St r H H' → K (.agg [.I e.op, .I e.n, v]) H') : CallF Cd f_sl91Expr [.ptr r 0, .I x] H K w := by
  obtain ⟨d, rfl⟩ : ∃ d : Nat, x = d := ⟨x.toNat, by omega⟩
  have := cE_le5 (d := d) (by omega)
  exact K_sl91Expr d (by omega) h (by omega) fun e v H' a b c => k e v H' a (b.up (by omega)) c
theorem EV.putB {base P : Nat} {H : AH} {v : AV} {a : Exs} {o : Option Blk} (h : EV (fun b => base ≤ b ∧ b ≠ P) H v a) : EV (fun b => base ≤ b ∧ b ≠ P) (H.put P o) v a :=
  h.mono (Nat.le_refl _) (fun b hb _ => by rw [put_bk, if_neg hb.2]) (fun _ h _ => h)
theorem K_sl91Spoilt (h : Rdx H r m) (hm : m ≤ 800000000000)
    (k : ∀ (e : Ex) v H', EV (fun b => H.n ≤ b) H' v e.args → Rdx H' r (m + 1000) → St r H H' → K (.agg [.I e.op, .I e.n, v]) H') : CallF Cd f_sl91Spoilt [.ptr r 0] H K w := by
  rw [CallF_eq e_sl91Spoilt rfl]
  have hr := h.lt
  simp
  refine P_pick h.push (by omega) (by omega) fun x0 H0 hx0 hR0 hS0 => ?_
  have n0 := hS0.1
  simp only [push_n] at n0
  simp (disch := omega)
  refine K_sl91Expr5 (by omega) hR0 (by omega) fun e v H1 d1 hR1 hS1 => ?_
  have n1 := hS1.1
  have g0 : H1.bk H.n = some ⟨[.I 0, .I 0, .nils], true⟩ := hS1.at (by omega) (by omega) (hS0.at (by simp) (by omega) push_new)
  have fv := d1.ev.flat
  have st1 : (H1.push [.I 0, .I 0, .nils]).store H1.n 0 [.I e.op, .I e.n, v] = some (H1.push [.I e.op, .I e.n, v]) := by rw [store_bk push_new (by simp), push_put]; rfl
  simp [st1]
  refine P_pick hR1.push (by omega) (by omega) fun x1 H2 hx1 hR2 hS2 => ?_
  have n2 := hS2.1
  simp only [push_n] at n2
  have g3 : H2.bk H1.n = some ⟨[.I e.op, .I e.n, v], true⟩ := hS2.at (by simp) (by omega) push_new
  have g02 : H2.bk H.n = some ⟨[.I 0, .I 0, .nils], true⟩ := hS2.at (by simp; omega) (by omega) (push_old (by omega) g0)
  have S2 : St r H H2 := ((((St.push St.refl).trans hS0).trans hS1).push).trans hS2
  have ev2 : EV (fun b => H0.n ≤ b ∧ b ≠ H1.n) H2 v e.args := (d1.ev.mono (ok' := fun b => H0.n ≤ b ∧ b ≠ H1.n) (Nat.le_refl _) (fun _ _ _ => rfl) (fun b hb hn => by omega)).mono (by omega) (fun b hb hn => (hS2.2 b (by simp; omega) (by omega)).trans (push_old hn rfl)) (fun _ h _ => h)
  have fin : ∀ (H3 : AH) (e' : Ex) (v' : AV), v'.flat = true → H3.bk H1.n = some ⟨[.I e'.op, .I e'.n, v'], true⟩ → St r H H3 → Rdx H3 r (m + 1000) → EV (fun b => H0.n ≤ b ∧ b ≠ H1.n) H3 v' e'.args ∨ EV (fun b => H0.n ≤ b) H3 v' e'.args → H3.bk H.n = some ⟨[.I 0, .I 0, .nils], true⟩ →
      ∃ H4, H3.loadN H1.n 0 3 = some [.I e'.op, .I e'.n, v'] ∧ H3.store H.n 0 [.I e'.op, .I e'.n, v'] = some H4 ∧ H4.loadN H.n 0 3 = some [.I e'.op, .I e'.n, v'] ∧ K (.agg [.I e'.op, .I e'.n, v']) H4 := by
    intro H3 e' v' fv' q1 q2 q3 q4 q5
    have q4' : EV (fun b => H0.n ≤ b) H3 v' e'.args := by
      rcases q4 with q | q
      · exact q.mono (Nat.le_refl _) (fun _ _ _ => rfl) (fun _ h _ => h.1)
      · exact q
    refine ⟨_, by rw [loadN_bk q1]; rfl, store_bk q5 (by simp), by rw [loadN_bk put_same]; rfl, k e' v' _ (q4'.mono (Nat.le_refl _) (fun b hb _ => by rw [put_bk, if_neg (by omega)]) (fun b hb _ => by omega)) (q3.put hr) (q2.put_new (Nat.le_refl _))⟩
  by_cases c0 : x1 = 0
  · subst c0
    simp
    refine P_pick (hR2.ext (Ext.push _ _)) (by omega) (by omega) fun x2 H3 hx2 hR3 hS3 => ?_
    have n3 := hS3.1
    simp only [push_n] at n3
    have S3 : St r H2 H3 := (St.push St.refl).trans hS3
    have gb : H3.bk H2.n = some ⟨Ints [-1, 100000], true⟩ := hS3.at (by simp) (by omega) push_new
    obtain ⟨y, hy, ey⟩ := @Ints_get [-1, 100000] x2 2 (by omega) rfl
    have g33 := S3.at (by omega) (by omega) g3
    have g03 := S3.at (by omega) (by omega) g02
    have st := store_cell (v := .I y) g33 (o := 1) (by simp)
    simp only [List.set_cons_zero, List.set_cons_succ] at st
    obtain ⟨H4, f1, f2, f3, f4⟩ := fin (H3.put H1.n (some ⟨[.I e.op, .I y, v], true⟩)) ⟨e.op, y, e.args⟩ v fv put_same ((S2.trans S3).put (by omega)) ((hR3.put (by omega)).up (by omega)) (.inl ((ev2.mono S3.1 (fun b hb hn => S3.2 b hn (by omega)) (fun _ h _ => h)).putB)) (by rw [put_bk, if_neg (by omega)]; exact g03)
    simp (disch := omega) [load_bk gb, ey, st, f1, f2, f3]
    exact f4
  by_cases c1 : x1 = 1
  · subst c1
    simp
    refine P_pick (hR2.ext (Ext.push _ _)) (by omega) (by omega) fun x2 H3 hx2 hR3 hS3 => ?_
    have n3 := hS3.1
    simp only [push_n] at n3
    have S3 : St r H2 H3 := (St.push St.refl).trans hS3
    have gb : H3.bk H2.n = some ⟨Ints [-1, 14], true⟩ := hS3.at (by simp) (by omega) push_new
    obtain ⟨y, hy, ey⟩ := @Ints_get [-1, 14] x2 2 (by omega) rfl
    have g33 := S3.at (by omega) (by omega) g3
    have g03 := S3.at (by omega) (by omega) g02
    have st := store_cell (v := .I y) g33 (o := 0) (by simp)
    simp only [List.set_cons_zero, List.set_cons_succ] at st
    obtain ⟨H4, f1, f2, f3, f4⟩ := fin (H3.put H1.n (some ⟨[.I y, .I e.n, v], true⟩)) ⟨y, e.n, e.args⟩ v fv put_same ((S2.trans S3).put (by omega)) ((hR3.put (by omega)).up (by omega)) (.inl ((ev2.mono S3.1 (fun b hb hn => S3.2 b hn (by omega)) (fun _ h _ => h)).putB)) (by rw [put_bk, if_neg (by omega)]; exact g03)
    simp (disch := omega) [load_bk gb, ey, st, f1, f2, f3]
    exact f4
  by_cases c2 : x1 = 2
  · subst c2
    simp [load_bk g3]
    refine K_sl91Leaf hR2 (by omega) fun lop ln lv H3 d3 hR3 hS3 => ?_
    have n3 := hS3.1
    have g33 := hS3.at (by omega) (by omega) g3
    have g03 := hS3.at (by omega) (by omega) g02
    have fl := d3.ev.flat
    obtain ⟨B, cs, rfl, dB1, dB2, dB3, dB4, dB5⟩ := id d1
    obtain ⟨N, hN⟩ : ∃ N, N = e.args.list.length := ⟨_, rfl⟩
    rw [← hN] at g33 dB4 ⊢
    have hB3 : H3.bk B = some ⟨cs, true⟩ := hS3.at (by omega) (by omega) (hS2.at (by simp; omega) (by omega) (push_old dB2 dB3))
    have hcl : cs.length = N * 3 := by rw [hN]; exact dB5.len
    have xp := Ext.push H3 [.I lop, .I ln, lv]
    have hBp : (H3.push [.I lop, .I ln, lv]).loadN B 0 (N * 3) = some cs := by rw [loadN_bk ((xp.2 B (by omega)).trans hB3)]; exact seg_self hcl
    have ap : aapp (H3.push [.I lop, .I ln, lv]) 3 (.sl B 0 N (.ex N)) 1 [.I lop, .I ln, lv] = some (.sl (H3.n + 1) 0 (N + 1) (.lb (N + 1) 3), (H3.push [.I lop, .I ln, lv]).push (cs ++ [.I lop, .I ln, lv])) := by
      unfold aapp
      simp only
      rw [if_neg (by omega), if_neg (by unfold big; omega), if_neg (by omega), hBp]
      simp
    have x5 := xp.trans (Ext.push (H3.push [.I lop, .I ln, lv]) (cs ++ [.I lop, .I ln, lv]))
    have g35 := (x5.2 H1.n (by omega)).trans g33
    have g05 := (x5.2 H.n (by omega)).trans g03
    have st := store_cell (v := .sl (H3.n + 1) 0 (N + 1) (.lb (N + 1) 3)) g35 (o := 2) (by simp)
    simp only [List.set_cons_zero, List.set_cons_succ] at st
    have el : AM.elems (H3.push [.I lop, .I ln, lv]) 3 (.sl H3.n 0 1 (.ex 1)) = some [.I lop, .I ln, lv] := by
      show AH.loadN _ _ _ _ = _
      rw [loadN_bk push_new]; rfl
    have ef3 : EF (fun b => H0.n ≤ b ∧ b ≠ H1.n) H3 e.args cs := (dB5.mono (ok' := fun b => H0.n ≤ b ∧ b ≠ H1.n) (Nat.le_refl _) (fun _ _ _ => rfl) (fun b hb hn => by omega)).mono (by omega) (fun b hb hn => (hS3.2 b (by omega) (by omega)).trans ((hS2.2 b (by simp; omega) (by omega)).trans (push_old hn rfl))) (fun _ h _ => h)
    have efl : EF (fun b => H0.n ≤ b ∧ b ≠ H1.n) H3 (.cons lop ln .nil .nil) [.I lop, .I ln, lv] := EF.one (e := ⟨lop, ln, .nil⟩) (d3.ev.mono (Nat.le_refl _) (fun _ _ _ => rfl) (fun b hb hn => by omega))
    have ef5 := (ef3.app efl).ext x5
    have hnl : (Exs.of (e.args.list ++ (Exs.cons lop ln .nil .nil).list)).list.length = N + 1 := by rw [Exs.list_of, hN]; simp
    have q5 : ((H3.push [.I lop, .I ln, lv]).push (cs ++ [.I lop, .I ln, lv])).bk (H3.n + 1) = some ⟨cs ++ [.I lop, .I ln, lv], true⟩ := push_new (H := H3.push [.I lop, .I ln, lv])
    have ev5 : EV (fun b => H0.n ≤ b ∧ b ≠ H1.n) ((H3.push [.I lop, .I ln, lv]).push (cs ++ [.I lop, .I ln, lv])) (.sl (H3.n + 1) 0 (N + 1) (.lb (N + 1) 3)) (Exs.of (e.args.list ++ (Exs.cons lop ln .nil .nil).list)) := by
      refine ⟨_, ?_, ef5⟩
      rw [hnl]
      exact ⟨by omega, by simp [hcl]; omega, .inr ⟨H3.n + 1, 0, _, rfl, ⟨by omega, Nat.le_refl _, rfl⟩, by simp, by rw [loadN_bk q5]; exact seg_self (by simp [hcl]; omega)⟩⟩
    obtain ⟨H4, f1, f2, f3, f4⟩ := fin (((H3.push [.I lop, .I ln, lv]).push (cs ++ [.I lop, .I ln, lv])).put H1.n (some ⟨[.I e.op, .I e.n, .sl (H3.n + 1) 0 (N + 1) (.lb (N + 1) 3)], true⟩)) ⟨e.op, e.n, Exs.of (e.args.list ++ (Exs.cons lop ln .nil .nil).list)⟩ (.sl (H3.n + 1) 0 (N + 1) (.lb (N + 1) 3)) rfl put_same
      ((S2.trans (hS3.trans x5.st)).put (by omega)) (((hR3.ext x5).put (by omega)).up (by omega)) (.inl ev5.putB) (by rw [put_bk, if_neg (by omega)]; exact g05)
    rw [← hN] at g3
    simp (disch := omega) [g33, g3, flat_cells fl, flat_tup fl, el, ap, st, f1, f2, f3]
    exact f4
  by_cases c3 : x1 = 3
  · subst c3
    simp [loadN_bk g3]
    refine K_sl91Leaf hR2 (by omega) fun lop ln lv H3 d3 hR3 hS3 => ?_
    have n3 := hS3.1
    have g33 := hS3.at (by omega) (by omega) g3
    have g03 := hS3.at (by omega) (by omega) g02
    have ev3 : EV (fun b => H0.n ≤ b) H3 v e.args := (ev2.mono (Nat.le_refl _) (fun _ _ _ => rfl) (fun _ h _ => h.1)).st hS3 (by omega)
    simp (disch := omega) [g33, g3]
    refine K_sl4Both (base := H0.n) (x := e) (y := ⟨lop, ln, .nil⟩) ev3 (d3.ev.up (by omega)) (by omega) fun v4 H4 d4 x4 => ?_
    have n4 := x4.1
    have g04 := (x4.2 H.n (by omega)).trans g03
    simp [x4]
    refine K_sl91Expr5 (by omega) (hR3.ext x4) (by omega) fun e5 v5 H5 d5 hR5 hS5 => ?_
    have n5 := hS5.1
    have g05 := hS5.at (by omega) (by omega) g04
    simp
    refine K_sl4Both (base := H0.n) (x := ⟨8, 0, Exs.of [e, ⟨lop, ln, .nil⟩]⟩) (y := e5) (d4.ev.st hS5 (by omega)) (d5.ev.up (by omega)) (by omega) fun v6 H6 d6 x6 => ?_
    have n6 := x6.1
    have g06 := (x6.2 H.n (by omega)).trans g05
    have st := store_bk (o := 0) (vs := [.I 8, .I 0, v6]) g06 (by simp)
    have f6 := d6.ev.flat
    simp [x6, st, loadN_bk put_same]
    exact k ⟨8, 0, Exs.of [⟨8, 0, Exs.of [e, ⟨lop, ln, .nil⟩]⟩, e5]⟩ v6 _ (d6.ev.mono (by simp) (fun b hb _ => by rw [put_bk, if_neg (by omega)]) (fun b hb _ => by omega)) (((hR5.ext x6).put hr).up (by omega)) ((((S2.trans hS3).trans x4.st).trans (hS5.trans x6.st)).put_new (Nat.le_refl _))
  by_cases c4 : x1 = 4
  · subst c4
    simp
    refine K_sl91Op hR2 (by omega) fun op H3 hop hR3 hS3 => ?_
    have n3 := hS3.1
    simp
    refine K_sl91Expr5 (by omega) hR3 (by omega) fun e5 v5 H5 d5 hR5 hS5 => ?_
    have n5 := hS5.1
    simp
    refine K_sl4Leaf fun lv H6 d6 x6 => ?_
    have n6 := x6.1
    simp
    refine K_sl4Both (base := H0.n) (x := e5) (y := ⟨13, 4, .nil⟩) ((d5.ev.ext x6).up (by omega)) (d6.ev.up (by omega)) (by omega) fun v7 H7 d7 x7 => ?_
    have n7 := x7.1
    have g07 := (x7.2 H.n (by omega)).trans ((x6.2 H.n (by omega)).trans (hS5.at (by omega) (by omega) (hS3.at (by omega) (by omega) g02)))
    have st := store_bk (o := 0) (vs := [.I op, .I 0, v7]) g07 (by simp)
    simp [st, loadN_bk put_same]
    exact k ⟨op, 0, Exs.of [e5, ⟨13, 4, .nil⟩]⟩ v7 _ (d7.ev.mono (by simp) (fun b hb _ => by rw [put_bk, if_neg (by omega)]) (fun b hb _ => by omega)) ((((hR5.ext x6).ext x7).put hr).up (by omega)) ((((S2.trans hS3).trans hS5).trans (x6.st.trans x7.st)).put_new (Nat.le_refl _))
  obtain ⟨H4, f1, f2, f3, f4⟩ := fin H2 e v fv g3 S2 (hR2.up (by omega)) (.inl ev2) g02
  simp [c0, c1, c2, c3, c4, f1, f2, f3]
  exact f4
end
end Go.Proofs.Ytmecbehegmgbhaa.AM
namespace Go.Proofs.Ytmecbehegmgbhaa.AM
set_option linter.unusedSimpArgs false
set_option linter.unusedVariables false
set_option maxRecDepth 100000
set_option maxHeartbeats 4000000
open Go
attribute [-simp] AM.elems
section
variable {ok o2 o3 : Nat → Prop} {H : AH} {K : AV → AH → Prop} {w : Fk K}
theorem K_iThreadStep {vc vr vb : AV} {l : List Qd} {t : Th} {q : Qd} {bs : List Bx} (hc : QV ok H vc l) (hr : IV o2 H vr t.regs) (hb : BV o3 H vb bs) (hl : codeV l = true) (ht : thFit t l.length = true) (hv : vaBs bs = true) (hq : l[t.pc.toNat]? = some q) (hbx : boxQ bs.length q = true)
    (k : ∀ vr' vb' vo' H', IV (fun b => H.n ≤ b) H' vr' (stepQ q t bs).1.regs → Ext H H' → K (.tup [.agg [vr', .I (stepQ q t bs).1.pc], vb', vo', .I (stepQ q t bs).2.2.2]) H') : CallF Cd f_iThreadStep [vc, .agg [vr, .I t.pc], vb] H K w := by
  obtain ⟨t1, t2, t3, t4⟩ := thFit_iff.1 ht
  have hb3 := vaBs_facts hv
  rw [CallF_eq e_iThreadStep rfl]
  have x0 := (Ext.push H [vr, .I t.pc]).trans (Ext.push _ [.nils, .I 0])
  have q4 : ((H.push [vr, .I t.pc]).push [.nils, .I 0]).bk H.n = some ⟨[vr, .I t.pc], true⟩ := push_old (by simp) push_new
  have q6 : ((H.push [vr, .I t.pc]).push [.nils, .I 0]).bk (H.n + 1) = some ⟨[.nils, .I 0], true⟩ := push_new (H := H.push [vr, .I t.pc])
  simp [loadN_bk q4]
  refine K_iThreadValid (t := t) ⟨vr, rfl, hr.ext x0⟩ (hc.ext x0) fun H1 x1 => ?_
  rw [hl, ht]
  have n1 := x1.1
  simp only [push_n] at n1
  have q41 := (x1.2 H.n (by simp <;> omega)).trans q4
  have q61 := (x1.2 (H.n + 1) (by simp)).trans q6
  have y1 := x0.trans x1
  simp
  refine K_iboxesValid (hb.ext y1) fun H2 x2 => ?_
  rw [hv]
  have y2 := y1.trans x2
  have n2 := x2.1
  have q42 := (x2.2 H.n (by omega)).trans q41
  have q62 := (x2.2 (H.n + 1) (by omega)).trans q61
  obtain ⟨b, oo, cap, e1, ob, hbn, l1⟩ := (hc.ext y2).at hq
  have hc0 := hc
  subst e1
  have e5 : (qC q).length = 5 := rfl
  have hba := hb.alen
  have hbb := hb.big
  simp (disch := omega) [load_bk q42, t3, t4, l1, e5, hba]
  refine K_iboxThere fun H3 x3 => ?_
  rw [hbx]
  have y3 := y2.trans x3
  have n3 := x3.1
  have q43 := (x3.2 H.n (by omega)).trans q42
  have q63 := (x3.2 (H.n + 1) (by omega)).trans q62
  simp [load_bk q43]
  refine K_cloneG (hr.ext y3).src (by omega) fun vr' H4 R g4 x4 => ?_
  have y4 := y3.trans x4
  have n4 := x4.1
  have q44 := (x4.2 H.n (by omega)).trans q43
  have q64 := (x4.2 (H.n + 1) (by omega)).trans q63
  have f4 := g4.flat
  rw [t1] at g4
  have gR := g4.real (by omega)
  have st5 : (H4.push [.nils, .I 0]).store H4.n 0 [vr', .I t.pc] = some (H4.push [vr', .I t.pc]) := by rw [store_bk push_new (by simp), push_put]; rfl
  have x5 := Ext.push H4 [vr', .I t.pc]
  simp [x4, load_bk q44, flat_cells f4, flat_tup f4, st5]
  refine R_iboxesCopy (hb.ext (y4.trans x5)) (by omega) (fun x hx => by have := hb3.2 x hx; omega) fun vb' B rs H6 rb x6 => ?_
  have n6 := x6.1
  simp only [push_n] at n6 rb
  have x7 := Ext.push H6 [.nils]
  have p10 : (H6.push [.nils]).bk H4.n = some ⟨[vr', .I t.pc], true⟩ := push_old (by omega) ((x6.2 H4.n (by simp)).trans push_new)
  have p12 : (H6.push [.nils]).bk H6.n = some ⟨[.nils], true⟩ := push_new
  have q66 : (H6.push [.nils]).bk (H.n + 1) = some ⟨[.nils, .I 0], true⟩ := push_old (by omega) ((x6.2 (H.n + 1) (by simp; omega)).trans (push_old (by omega) q64))
  have hfp : ∀ u ∈ fpB B rs, H4.n + 1 ≤ u ∧ u < H6.n := fun u hu => rb.mem hu
  have rb7 : RB H3.n (H6.push [.nils]) vb' bs B rs := (rb.up (by omega)).onlyA (cs := []) x7.only (by simp)
  have tm : TM H3.n (H6.push [.nils]) H4.n 0 R H6.n 0 B [vr', .I t.pc] [.nils] vr' vb' .nils rs 0 t bs [] :=
    { bT := p10, sT := by simp [seg], nT := by simp; omega, gR := (((g4.ext x5).ext x6).ext x7).up (by omega), rb := rb7, bP := p12, sP := rfl, nP := by simp, gO := GrS.nils, hb := by simp; omega,
      d := ⟨by omega, by omega, by omega⟩, f := ⟨fun hm => by have := hfp _ hm; omega, fun hm => by have := hfp _ hm; omega, fun hm => by have := hfp _ hm; omega⟩, g := ⟨by simp [grB], by simp [grB], by simp [grB]⟩, fg := by simp [grB] }
  have fb := rb.bv.flat
  simp
  refine K_iThread_step tm ((hc0.ext y4).ext ((x5.trans x6).trans x7)) hq hl ht hv hbx (by simp) fun vo' rs' O' H8 tm' hf hO oo => ?_
  have n8 := oo.1
  simp only [push_n] at n8
  have w10 : H8.loadN H4.n 0 2 = some [vr', .I (stepQ q t bs).1.pc] := by rw [loadN_bk tm'.bT]; rfl
  have w12 : H8.load H6.n 0 = some vo' := tm'.ldo
  have hnot : ∀ u, u < H3.n → u ∉ H4.n :: R :: H6.n :: (fpB B rs ++ grB .nils 0) := fun u hu hm => by
    simp [grB] at hm
    rcases hm with z | z | z | z
    · omega
    · omega
    · omega
    · have := hfp _ z; omega
  have q68 := oo.bk (by simp; omega) (hnot (H.n + 1) (by omega)) q66
  have st9 : H8.store (H.n + 1) 0 [vr', .I (stepQ q t bs).1.pc] = some (H8.put (H.n + 1) (some ⟨[vr', .I (stepQ q t bs).1.pc], true⟩)) := store_bk q68 (by simp)
  have hne : H6.n ≠ H.n + 1 := by omega
  simp [w10, w12, st9, loadN_bk put_same, hne, put_bk]
  have gr := tm'.gR
  have hl' := tm'.regs
  have gr' : GrS H3.n H8 vr' (stepQ q t bs).1.regs.length 1 (Ints (stepQ q t bs).1.regs) R := by rw [hl']; exact gr
  refine k vr' vb' vo' _ (gr'.iv.mono (by simp) (fun u hu _ => by rw [put_bk, if_neg (by omega)]) (fun u hu _ => by omega)) ⟨by simp; omega, fun u hu => ?_⟩
  rw [put_bk, if_neg (by omega), oo.2 u (by simp; omega) (hnot u (by omega)), x7.2 u (by omega), x6.2 u (by simp; omega), x5.2 u (by omega)]
  exact y4.2 u hu
end
end Go.Proofs.Ytmecbehegmgbhaa.AM
namespace Go.Proofs.Ytmecbehegmgbhaa.AM
set_option linter.unusedSimpArgs false
set_option linter.unusedVariables false
set_option maxRecDepth 100000
set_option maxHeartbeats 4000000
open Go
attribute [-simp] AM.elems
theorem okF_dp : ∀ {f : Exs} {d : Int}, okF d f = true → ∀ D : Int, (dpF f : Int) ≤ D → okF D f = true
  | .nil, _, _, _, _ => rfl
  | .cons op n a r, d, h, D, hD => by
    simp only [okF, Bool.and_eq_true] at h ⊢
    simp only [dpF] at hD
    refine ⟨?_, okF_dp h.2 D (by omega)⟩
    have h1 := h.1
    unfold okE1 at h1 ⊢
    by_cases h0 : op = 0
    · rw [if_pos h0] at h1 ⊢; simp only [decide_eq_true_eq] at h1 ⊢; omega
    by_cases h13 : op = 13
    · rw [if_neg h0, if_pos h13] at h1 ⊢; simp only [decide_eq_true_eq] at h1 ⊢; omega
    rw [if_neg h0, if_neg h13] at h1 ⊢
    simp only [Bool.and_eq_true, decide_eq_true_eq] at h1 ⊢
    have ha : 1 ≤ dpF a := by
      cases a with
      | nil => simp at h1
      | cons => simp only [dpF]; omega
    exact ⟨⟨h1.1.1, h1.1.2.1, h1.1.2.2.1, h1.1.2.2.2.1, by omega⟩, okF_dp h1.2 (D - 1) (by omega)⟩
def dpE (e : Ex) : Nat := 1 + dpF e.args
theorem okE_dp {e : Ex} {d : Int} (h : okE d e = true) : okE (dpE e) e = true := by
  have := okF_dp (f := .cons e.op e.n e.args .nil) (d := d) (by simp only [okF, Bool.and_true]; exact h) (dpE e) (by unfold dpE; simp only [dpF]; omega)
  simp only [okF, Bool.and_true] at this
  exact this
def cpOk (e : Ex) (at_ : Int) : Bool := okE 5 e && decide (4 ≤ at_ ∧ at_ + dpE e ≤ 12)
section
variable {ok o2 : Nat → Prop} {H : AH} {K : AV → AH → Prop} {w : Fk K} {va : AV} {e : Ex} {at_ : Int}
theorem K_iCompileExpr (h : EV ok H va e.args) (hat : -1000 ≤ at_ ∧ at_ ≤ 1000) (k0 : cpOk e at_ = false → ∀ H', Ext H H' → K (.tup [.nils, .b false]) H')
    (k : cpOk e at_ = true → ∀ v' B' H', GrS H.n H' v' (compE at_ e).length 5 (qCs (compE at_ e)) B' → Ext H H' → K (.tup [v', .b true]) H') : CallF Cd f_iCompileExpr [.agg [.I e.op, .I e.n, va], .I at_] H K w := by
  rw [CallF_eq e_iCompileExpr rfl]
  have x0 := Ext.push H [.I e.op, .I e.n, va]
  have q0 : (H.push [.I e.op, .I e.n, va]).bk H.n = some ⟨[.I e.op, .I e.n, va], true⟩ := push_new
  simp [loadN_bk q0]
  refine K_iExprValid (e := e) (h.ext x0) fun H1 x1 => ?_
  have y1 := x0.trans x1
  have n1 := x1.1
  simp only [push_n] at n1
  have q1 := (x1.2 H.n (by simp)).trans q0
  cases hv : okE 5 e with
  | false =>
    simp
    exact k0 (by unfold cpOk; rw [hv]; rfl) H1 y1
  | true =>
    have hdp := dpE_le (d := 5) hv
    by_cases h4 : at_ < 4
    · simp [h4]
      exact k0 (by unfold cpOk; simp only [Bool.and_eq_false_iff, decide_eq_false_iff_not]; right; omega) H1 y1
    by_cases h12 : 12 < at_
    · simp [h4, h12]
      exact k0 (by unfold cpOk; simp only [Bool.and_eq_false_iff, decide_eq_false_iff_not]; right; omega) H1 y1
    simp [h4, h12, loadN_bk q1]
    refine K_iexprDepth e.args (h.ext y1) (by omega) fun H2 x2 => ?_
    have y2 := y1.trans x2
    have q2 := (x2.2 H.n (by omega)).trans q1
    have ed : ((1 + dpF e.args : Nat) : Int) = (dpE e : Int) := rfl
    rw [ed]
    by_cases hd : 12 < at_ + (dpE e : Int)
    · simp (disch := omega) [hd]
      exact k0 (by unfold cpOk; simp only [Bool.and_eq_false_iff, decide_eq_false_iff_not]; right; omega) H2 y2
    have hc : cpOk e at_ = true := by unfold cpOk; rw [hv]; simp only [Bool.true_and, decide_eq_true_eq]; omega
    have hlen := compE_len hv at_
    simp (disch := omega) [hd, loadN_bk q2]
    refine K_icompileExpr e.args (base := H2.n) (d := 5) (at_ := at_) (L := []) (B := 0) ((h.ext y2).mono (Nat.le_refl _) (fun _ _ _ => rfl) (fun b _ hb => hb)) GrS.nils (Nat.le_refl _) hv (by omega) (by
      have : (cE1 at_ e.op e.n (compF e.args at_)) = compE at_ e := rfl
      rw [this]; simp; omega) fun v1 B1 H3 s3 => ?_
    have n2 := x2.1
    simp
    refine k hc v1 B1 H3 ?_ (s3.ext' y2 (by simp [grB]))
    have := s3.1
    simp only [List.nil_append] at this
    exact this.up (by omega)
theorem K_sCompileExpr (h : EV ok H va e.args) (hat : -1000 ≤ at_ ∧ at_ ≤ 1000) (k : ∀ v' H', QV (fun b => H.n ≤ b) H' v' (if cpOk e at_ = true then compE at_ e else []) → Ext H H' → K (.tup [v', .b (cpOk e at_)]) H') : CallF Cd f_sCompileExpr [.agg [.I e.op, .I e.n, va], .I at_] H K w := by
  rw [CallF_eq e_sCompileExpr rfl]
  have x0 := Ext.push H [.I e.op, .I e.n, va]
  have q0 : (H.push [.I e.op, .I e.n, va]).bk H.n = some ⟨[.I e.op, .I e.n, va], true⟩ := push_new
  have bad : cpOk e at_ = false → ∀ G, Ext H G → K (.tup [.sl G.n 0 0 (.ex 0), .b false]) (G.push []) := fun hc G x => by
    have := k (.sl G.n 0 0 (.ex 0)) (G.push [])
    rw [hc, if_neg (by simp)] at this
    exact this ⟨by simp, by simp [qCs], .inr ⟨G.n, 0, _, rfl, ⟨x.1, by simp [capOk]⟩, by simp, by rw [loadN_bk push_new]; rfl⟩⟩ (x.trans (Ext.push _ _))
  simp [loadN_bk q0]
  refine K_sExprValid (e := e) (h.ext x0) fun H1 x1 => ?_
  have y1 := x0.trans x1
  have n1 := x1.1
  simp only [push_n] at n1
  have q1 := (x1.2 H.n (by simp)).trans q0
  cases hv : okE 5 e with
  | false =>
    simp
    exact bad (by unfold cpOk; rw [hv]; rfl) H1 y1
  | true =>
    have hdp := dpE_le (d := 5) hv
    simp [loadN_bk q1]
    refine K_sl4Depth e.args (d := 5) (h.ext y1) hv (by omega) fun H2 x2 => ?_
    have y2 := y1.trans x2
    have q2 := (x2.2 H.n (by omega)).trans q1
    have ed : ((1 + dpF e.args : Nat) : Int) = (dpE e : Int) := rfl
    rw [ed]
    have hlen := compE_len hv at_
    by_cases hc : 4 ≤ at_ ∧ at_ ≤ 12 - (dpE e : Int)
    · have hc' : cpOk e at_ = true := by unfold cpOk; rw [hv]; simp only [Bool.true_and, decide_eq_true_eq]; omega
      simp (disch := omega) [K_sl6In, hc.1, hc.2, loadN_bk q2]
      refine K_sl22Expr e.args (d := 5) (at_ := at_) (h.ext y2) hv (by omega) (by
        have : (cE1 at_ e.op e.n (compF e.args at_)) = compE at_ e := rfl
        rw [this]; omega) fun v1 B1 H3 g3 x3 => ?_
      have n2 := x2.1
      simp
      have := k v1 H3
      rw [hc', if_pos rfl] at this
      exact this ((GrS.up g3 (base' := H.n) (by omega)).qv) (y2.trans x3)
    · have hc' : cpOk e at_ = false := by unfold cpOk; simp only [Bool.and_eq_false_iff, decide_eq_false_iff_not]; right; omega
      simp (disch := omega) [K_sl6In, hc]
      exact bad hc' H2 y2
theorem K_iExprEval2 {vv : AV} {vars : List Int} (h : EV ok H va e.args) (hs : SeesZ H vv vars) (hoe : okE 5 e = true) (k0 : ¬ (vars.length = 4 ∧ vars.all isW = true) → ∀ H', Ext H H' → K (.tup [.I 0, .b false]) H')
    (k : vars.length = 4 → vars.all isW = true → ∀ H', Ext H H' → K (.tup [.I (evE vars e), .b true]) H') : CallF Cd f_iExprEval [.agg [.I e.op, .I e.n, va], vv] H K w := by
  by_cases h4 : vars.length = 4
  · cases hw : vars.all isW with
    | true => exact K_iExprEval h hs h4 hw hoe (k h4 hw)
    | false =>
      rw [CallF_eq e_iExprEval rfl]
      have x0 := Ext.push H [.I e.op, .I e.n, va]
      simp [loadN_push]
      refine K_iExprValid (e := e) (h.ext x0) fun H1 x1 => ?_
      have y1 := x0.trans x1
      have hal : alen vv = some 4 := by rw [hs.1, h4]
      have ew : ∀ (K' : AV → AH → Prop) (w' : Fk K'), CallF Cd f_iareWords [vv] H1 K' w' = K' (.b false) H1 := fun K' w' => by rw [K_iareWords (hs.ext y1), hw]
      simp [hoe, hal, ew]
      exact k0 (by rw [hw]; simp) H1 y1
  · rw [CallF_eq e_iExprEval rfl]
    have x0 := Ext.push H [.I e.op, .I e.n, va]
    simp [loadN_push]
    refine K_iExprValid (e := e) (h.ext x0) fun H1 x1 => ?_
    have y1 := x0.trans x1
    have hsb := hs.2.1
    have hi : ¬ (vars.length : Int) = 4 := by omega
    simp (disch := omega) [hoe, hs.1, hi, h4]
    exact k0 (fun hh => h4 hh.1) H1 y1
theorem K_sDrawCompileExpr {v : AV} {zs : List Int} (h : SlI H .u8 v zs) (hz : ∀ n ∈ zs, 0 ≤ n ∧ n < 256) (hl : zs.length ≤ 1048576)
    (k : ∀ (e : Ex) v a H', EV (fun _ => True) H' v e.args → 3 ≤ a ∧ a ≤ 11 → Ext H H' → K (.tup [.agg [.I e.op, .I e.n, v], .I a]) H') : CallF Cd f_sDrawCompileExpr [v] H K w := by
  rw [CallF_eq e_sDrawCompileExpr rfl]
  simp
  refine K_l6Open (SlI.ext h (Ext.push _ _)) hz hl fun H0 hR0 hS0 => ?_
  have hR0 : Rdx H0 (H.n + 1) 0 := ⟨0, by omega, by omega, by simpa using hR0⟩
  have n0 := hS0.1
  simp only [push_n] at n0
  have qR : H0.bk H.n = some ⟨[.I 0, .I 0, .nils], true⟩ := hS0.at (by simp) (by simp) push_new
  have hr0 := hR0.lt
  simp
  refine K_sl91Spoilt hR0 (by omega) fun e va H1 ev hR1 hS1 => ?_
  have n1 := hS1.1
  have q1 := hS1.at (by omega) (by omega) qR
  have st1 : (H1.push [.I 0, .I 0, .nils]).store H1.n 0 [.I e.op, .I e.n, va] = some (H1.push [.I e.op, .I e.n, va]) := by rw [store_bk push_new (by simp), push_put]; rfl
  have q5 : ((H1.push [.I e.op, .I e.n, va]).push (Ints [4, 4, 5, 6, 7, 8, 3, 11])).bk H1.n = some ⟨[.I e.op, .I e.n, va], true⟩ := push_old (by simp) push_new
  simp [st1, loadN_push]
  refine P_pick (m := 1000) ((hR1.ext (Ext.push _ _)).ext (Ext.push _ _)) (by omega) (by omega) fun x2 H3 hx2 hR3 hS3 => ?_
  have n3 := hS3.1
  simp only [push_n] at n3
  obtain ⟨y, hy, ey⟩ := @Ints_get [4, 4, 5, 6, 7, 8, 3, 11] x2 8 (by omega) rfl
  have hy3 : 3 ≤ y ∧ y ≤ 11 := by simp at hy; omega
  have gb : H3.bk (H1.n + 1) = some ⟨Ints [4, 4, 5, 6, 7, 8, 3, 11], true⟩ := hS3.at (by simp) (by omega) (push_new (H := H1.push [.I e.op, .I e.n, va]))
  have g5 : H3.bk H1.n = some ⟨[.I e.op, .I e.n, va], true⟩ := hS3.at (by simp; omega) (by omega) q5
  have g2 : H3.bk H.n = some ⟨[.I 0, .I 0, .nils], true⟩ := hS3.at (by simp; omega) (by omega) (push_old (by simp; omega) (push_old (by omega) q1))
  have st2 := store_bk (o := 0) (vs := [.I e.op, .I e.n, va]) g2 (by simp)
  have k55 : ((H1.push [.I e.op, .I e.n, va]).push (Ints [4, 4, 5, 6, 7, 8, 3, 11])).bk (H1.n + 1) = some ⟨Ints [4, 4, 5, 6, 7, 8, 3, 11], true⟩ := push_new (H := H1.push [.I e.op, .I e.n, va])
  have st2 := store_bk (o := 0) (vs := [.I e.op, .I e.n, va]) g2 (by simp)
  have hne1 : ¬ H1.n = H.n := by omega
  have hne2 : ¬ H1.n + 1 = H.n := by omega
  have fin := k e va y (H3.put H.n (some ⟨[.I e.op, .I e.n, va], true⟩)) (((ev.ext ((Ext.push _ _).trans (Ext.push _ _))).st hS3 (by omega)).mono (by simp) (fun b hb _ => by rw [put_bk, if_neg (by omega)]) (fun _ _ _ => trivial)) hy3 ⟨by simp; omega, fun b hb => by rw [put_bk, if_neg (by omega), hS3.2 b (by simp; omega) (by omega), push_old (by simp; omega) (push_old (by omega) rfl), hS1.2 b (by omega) (by omega), hS0.2 b (by simp; omega) (by simp; omega), push_old hb rfl]⟩
  simp (disch := omega) [load_eq, g5, q5, k55, gb, ey, st2, hne1, hne2, loadN_bk put_same, put_bk]
  exact ⟨rfl, fin⟩
theorem K_sDrawExprEval {v : AV} {zs : List Int} (h : SlI H .u8 v zs) (hz : ∀ n ∈ zs, 0 ≤ n ∧ n < 256) (hl : zs.length ≤ 1048576)
    (k : ∀ (e : Ex) v vv vars H', IV (fun _ => True) H' vv vars → vars.length ≤ 5 → Ext H H' → K (.tup [.agg [.I e.op, .I e.n, v], vv]) H') : CallF Cd f_sDrawExprEval [v] H K w := by
  rw [CallF_eq e_sDrawExprEval rfl]
  simp
  refine K_l6Open (SlI.ext h (Ext.push _ _)) hz hl fun H0 hR0 hS0 => ?_
  have hR0 : Rdx H0 (H.n + 1) 0 := ⟨0, by omega, by omega, by simpa using hR0⟩
  have n0 := hS0.1
  simp only [push_n] at n0
  have qR : H0.bk H.n = some ⟨[.I 0, .I 0, .nils], true⟩ := hS0.at (by simp) (by simp) push_new
  have hr0 := hR0.lt
  simp
  refine K_sl91Spoilt hR0 (by omega) fun e va H1 ev hR1 hS1 => ?_
  have n1 := hS1.1
  have q1 := hS1.at (by omega) (by omega) qR
  have st1 : (H1.push [.I 0, .I 0, .nils]).store H1.n 0 [.I e.op, .I e.n, va] = some (H1.push [.I e.op, .I e.n, va]) := by rw [store_bk push_new (by simp), push_put]; rfl
  have q5 : (H1.push [.I e.op, .I e.n, va]).bk H1.n = some ⟨[.I e.op, .I e.n, va], true⟩ := push_new
  simp [st1, loadN_push]
  refine K_sl91Vars (m := 1000) (hR1.ext (Ext.push _ _)) (by omega) fun vv vars B H3 g3 hl3 hR3 hS3 => ?_
  have n3 := hS3.1
  simp only [push_n] at n3 g3
  have g5 : H3.bk H1.n = some ⟨[.I e.op, .I e.n, va], true⟩ := hS3.at (by simp) (by omega) q5
  have g2 : H3.bk H.n = some ⟨[.I 0, .I 0, .nils], true⟩ := hS3.at (by simp; omega) (by omega) (push_old (by omega) q1)
  have st2 := store_bk (o := 0) (vs := [.I e.op, .I e.n, va]) g2 (by simp)
  have hne1 : ¬ H1.n = H.n := by omega
  have fin := k e va vv vars (H3.put H.n (some ⟨[.I e.op, .I e.n, va], true⟩)) (g3.iv.mono (by simp) (fun b hb _ => by rw [put_bk, if_neg (by omega)]) (fun _ _ _ => trivial)) hl3 ⟨by simp; omega, fun b hb => by rw [put_bk, if_neg (by omega), hS3.2 b (by simp; omega) (by omega), push_old (by omega) rfl, hS1.2 b (by omega) (by omega), hS0.2 b (by simp; omega) (by simp; omega), push_old hb rfl]⟩
  simp (disch := omega) [load_eq, g5, q5, st2, hne1, loadN_bk put_same, put_bk]
  exact fin
end
end Go.Proofs.Ytmecbehegmgbhaa.AM
namespace Go.Proofs.Ytmecbehegmgbhaa.AM
set_option linter.unusedSimpArgs false
set_option linter.unusedVariables false
set_option maxRecDepth 100000
set_option maxHeartbeats 4000000
open Go
attribute [-simp] AM.elems
theorem exprCode_va {e : Ex} {at_ : Int} (h : cpOk e at_ = true) : codeV (compE at_ e ++ [⟨10, 0, 0, 0, 0⟩]) = true ∧ (∀ q ∈ compE at_ e ++ [⟨10, 0, 0, 0, 0⟩], boxQ 0 q = true) := by
  unfold cpOk at h
  simp only [Bool.and_eq_true, decide_eq_true_eq] at h
  obtain ⟨hok, h4, h12⟩ := h
  have hl := compE_len hok at_
  have hall : ∀ M : Int, ∀ q ∈ compE at_ e ++ [⟨10, 0, 0, 0, 0⟩], quOk M 0 q = true := fun M q hq => by
    rcases List.mem_append.1 hq with c | c
    · exact cE1_ok e.args (d := dpE e) (okE_dp hok) h4 h12 q c
    · simp at c; subst c; simp [quOk, quV, boxQ]
  refine ⟨?_, fun q hq => ?_⟩
  · unfold codeV
    simp only [Bool.and_eq_true, decide_eq_true_eq, List.all_eq_true]
    refine ⟨⟨by simp; omega, fun q hq => ?_⟩, ?_⟩
    · have := hall ((compE at_ e ++ [(⟨10, 0, 0, 0, 0⟩ : Qd)]).length : Nat) q hq; unfold quOk at this; simp only [Bool.and_eq_true] at this; exact this.1
    · unfold lastOp; simp
  · have := hall 0 q hq; unfold quOk at this; simp only [Bool.and_eq_true] at this; exact this.2
theorem St.ptr {P : Nat} {H H' : AH} {o : Option Blk} (h : St P H H') : St P H (H'.put P o) := ⟨h.1, fun b hb hr => by rw [put_bk, if_neg hr]; exact h.2 b hb hr⟩
theorem ThreadExpr_l {l c : List Qd} {v7 v13 v15 v17 v6 : AV} {P : Nat} {Q : Out → Env → AH → Prop} (hl : codeV l = true) (hb : ∀ q ∈ l, boxQ 0 q = true) (t' : Th) (m i : Nat) (hm : i + m = c.length) (hc : c.length ≤ 31) {H0 H : AH} {t : Th} {vr : AV}
    (h7 : alen v7 = some c.length) (h15 : QV (fun b => b ≠ P) H0 v15 l) (hx : St P H0 H) (hPn : P < H.n) (hpb : H.bk P = some ⟨[vr, .I t.pc], true⟩) (hr : IV (fun b => b ≠ P) H vr t.regs) (ht : thFit t l.length = true) (hs : Sil l m t t')
    (hQ : ∀ e H' vr', St P H0 H' → P < H'.n → H'.bk P = some ⟨[vr', .I t'.pc], true⟩ → IV (fun b => b ≠ P) H' vr' t'.regs → get e 6 = some v6 → get e 7 = some v7 → get e 13 = some v13 → get e 16 = some (.ptr P 0) → get e 17 = some v17 → Q (.brk 0) e H') :
    W Cd (.loop c_wFnThreadExpr_l0) [(6, v6), (7, v7), (13, v13), (15, v15), (16, .ptr P 0), (17, v17), (18, .I i)] H Q := by
  induction m generalizing i H t vr with
  | zero =>
    rw [W_loop_as c_wFnThreadExpr_l0.eq_1]
    have : i = c.length := by omega
    subst this
    cases hs
    simp [h7]
    exact hQ _ H vr hx hPn hpb hr rfl rfl rfl rfl rfl
  | succ m ih =>
    rw [W_loop_as c_wFnThreadExpr_l0.eq_1]
    have hlt : (i : Int) < c.length := by omega
    cases hs with
    | step a b s =>
    rename_i q t1
    have hbx := hb q (List.mem_of_getElem? a)
    have xp := Ext.push H ([] : List AV)
    have pb : (H.push []).bk P = some ⟨[vr, .I t.pc], true⟩ := (xp.2 P hPn).trans hpb
    have bvn : BV (fun b => b ≠ P) (H.push []) (.sl H.n 0 0 (.ex 0)) [] := ⟨[], ⟨by simp, rfl, .inr ⟨H.n, 0, _, rfl, ⟨by omega, by simp [capOk]⟩, by simp, by rw [loadN_bk push_new]; rfl⟩⟩, rfl⟩
    have hs1 := b []
    have q15 : QV (fun b => b ≠ P) H v15 l := h15.mono hx.1 (fun b hb hn => hx.2 b hn hb) (fun _ h _ => h)
    simp (disch := omega) [h7, hlt, loadN_bk hpb]
    refine K_iThreadStep (bs := []) (q15.ext xp) (hr.ext xp) bvn hl ht rfl a hbx fun vr' vb' vo' H2 hr2 x2 => ?_
    rw [hs1] at hr2 ⊢
    have n2 := x2.1
    simp only [push_n] at n2 hr2
    have pb2 : H2.bk P = some ⟨[vr, .I t.pc], true⟩ := (x2.2 P (by simp; omega)).trans pb
    have x3 := Ext.push H2 [vr', .I t1.pc]
    have st1 : (H2.push [.nils, .I 0]).store H2.n 0 [vr', .I t1.pc] = some (H2.push [vr', .I t1.pc]) := by rw [store_bk push_new (by simp), push_put]; rfl
    have pb3 : (H2.push [vr', .I t1.pc]).bk P = some ⟨[vr, .I t.pc], true⟩ := (x3.2 P (by omega)).trans pb2
    have st2 := store_bk (o := 0) (vs := [vr', .I t1.pc]) pb3 (by simp)
    have fit1 : thFit t1 l.length = true := by
      have := (stepQ_keeps (bs := []) hl a ht rfl).1
      rw [hs1] at this
      exact this
    have hr4 : IV (fun b => b ≠ P) ((H2.push [vr', .I t1.pc]).put P (some ⟨[vr', .I t1.pc], true⟩)) vr' t1.regs := hr2.mono (by simp) (fun b hb hn => by rw [put_bk, if_neg (by omega), push_old hn rfl]) (fun b hb hn => by omega)
    have x4 : St P H0 ((H2.push [vr', .I t1.pc]).put P (some ⟨[vr', .I t1.pc], true⟩)) := (hx.trans ((xp.trans x2).trans x3).st).ptr
    have := ih (i + 1) (by omega) x4 (by simp; omega) put_same hr4 fit1 s
    have f1 := hr2.flat
    simp (disch := omega) [st1, loadN_push, st2]
    simpa using this
end Go.Proofs.Ytmecbehegmgbhaa.AM
namespace Go.Proofs.Ytmecbehegmgbhaa.AM
set_option linter.unusedSimpArgs false
set_option linter.unusedVariables false
set_option maxRecDepth 100000
set_option maxHeartbeats 4000000
open Go
attribute [-simp] AM.elems
theorem store_push3e {H : AH} {a b c x y z : AV} : (H.push [a, b, c]).store H.n 0 [x, y, z] = some (H.push [x, y, z]) := by
  rw [store_bk push_new (by simp), push_put]; rfl
theorem store_push2t {H : AH} {a b x y : AV} : (H.push [a, b]).store H.n 0 [x, y] = some (H.push [x, y]) := by
  rw [store_bk push_new (by simp), push_put]; rfl
theorem IV.cut {ok : Nat → Prop} {H : AH} {v : AV} {l : List Int} (h : IV ok H v l) {x : Int} (h0 : 0 ≤ x) (hx : x ≤ l.length) : ∃ v', aslice 1 v none (some (.I x)) none = some v' ∧ IV ok H v' (l.take x.toNat) := by
  obtain ⟨v', s1, s2, s3⟩ := SlC.part h (i := 0) (j := x.toNat) (Nat.zero_le _) (by omega) (by omega) (lo := none) (hi := some (.I x)) rfl (by simp [bnd, aint] <;> omega)
  refine ⟨v', s1, ?_⟩
  unfold IV
  have e1 : (l.take x.toNat).length = x.toNat - 0 := by simp; omega
  have e2 : Ints (l.take x.toNat) = ((Ints l).drop (0 * 1)).take ((x.toNat - 0) * 1) := by simp [Ints]
  rw [e1, e2]
  exact s2
theorem law_FnThreadExpr {H : AH} {v v' : AV} {zs zs' : List Int} (h : SlI H .u8 v zs) (hz : ∀ n ∈ zs, 0 ≤ n ∧ n < 256) (h' : SlI H .u8 v' zs') (hz' : ∀ n ∈ zs', 0 ≤ n ∧ n < 256) : CallK Cd f_wFnThreadExpr [v, v'] H fun v _ => v = .b true := by
  rw [CallK_F, CallF_eq e_wFnThreadExpr rfl]
  have hlen : alen v = some zs.length := by
    rcases h with ⟨rfl, rfl⟩ | ⟨rfl, rfl⟩ | ⟨b, rest, hb, rfl, hb2⟩ <;> rfl
  have hlen' : alen v' = some zs'.length := by
    rcases h' with ⟨rfl, rfl⟩ | ⟨rfl, rfl⟩ | ⟨b, rest, hb, rfl, hb2⟩ <;> rfl
  by_cases hl : (1048576 : Int) < zs.length
  · simp [hlen, hl]
  by_cases hl' : (1048576 : Int) < zs'.length
  · simp [hlen, hlen', hl, hl']
  simp [hlen, hlen', hl, hl']
  refine K_sDrawCompileExpr h hz (by omega) fun e va a H1 ev ha x01 => ?_
  have x1 := Ext.push H1 [.I e.op, .I e.n, va]
  have q1 : (H1.push [.I e.op, .I e.n, va]).bk H1.n = some ⟨[.I e.op, .I e.n, va], true⟩ := push_new
  simp [store_push3e, loadN_push]
  refine K_iCompileExpr (ev.ext x1) (by omega) (fun hc H3 x3 => ?_) fun hc vo B H3 g3 x3 => ?_
  · have q3 := (x3.2 H1.n (by simp)).trans q1
    simp [x3, loadN_bk q3]
    refine K_sCompileExpr ((ev.ext x1).ext x3) (by omega) fun v4 H4 qv4 x4 => ?_
    rw [hc, if_neg (by simp)] at qv4
    rw [hc]
    simp
    refine T_wsameCode (l := []) (o1 := fun _ => True) ⟨by simp, by simp [qCs], .inl ⟨rfl, .inl rfl⟩⟩ qv4 ?_
    simp
    exact T_wsameCode (l := []) (o1 := fun _ => True) ⟨by simp, by simp [qCs], .inl ⟨rfl, .inl rfl⟩⟩ qv4 (by simp)
  have q3 := (x3.2 H1.n (by simp)).trans q1
  simp [loadN_bk q3]
  refine K_sCompileExpr ((ev.ext x1).ext x3) (by omega) fun v4 H4 qv4 x4 => ?_
  rw [hc, if_pos rfl] at qv4
  rw [hc]
  have n3 := x3.1
  have n4 := x4.1
  simp only [push_n] at n3
  have qvo := (g3.qv).ext x4
  simp
  refine T_wsameCode qvo qv4 ?_
  simp
  have y14 := (x1.trans x3).trans x4
  refine K_sDrawExprEval (SlI.ext h' (x01.trans y14)) hz' (by omega) fun e5 v5 vv vars H5 iv5 hl5 x5 => ?_
  have n5 := x5.1
  have x6 := Ext.push H5 [.I e5.op, .I e5.n, v5]
  have q5 : (H5.push [.I e5.op, .I e5.n, v5]).bk H1.n = some ⟨[.I e.op, .I e.n, va], true⟩ := (x6.2 _ (by omega)).trans ((x5.2 _ (by omega)).trans ((x4.2 _ (by omega)).trans q3))
  have hc' := hc
  unfold cpOk at hc'
  simp only [Bool.and_eq_true, decide_eq_true_eq] at hc'
  obtain ⟨hok, h4, h12⟩ := hc'
  have hlc := compE_len hok a
  simp [store_push3e, loadN_bk q5]
  refine K_iExprEval2 (((ev.ext y14).ext x5).ext x6) ((iv5.ext x6).sees) hok (fun _ H7 x7 => by simp) fun hv4 hvw H7 x7 => ?_
  have n7 := x7.1
  simp only [push_n] at n7
  simp
  obtain ⟨l, hl0⟩ : ∃ l, l = compE a e ++ [(⟨10, 0, 0, 0, 0⟩ : Qd)] := ⟨_, rfl⟩
  have hva := exprCode_va hc
  rw [← hl0] at hva
  have y47 := (x5.trans x6).trans x7
  have qvo7 := qvo.ext y47
  have iv7 := (iv5.ext x6).ext x7
  have el7 := (qvo7.ext (Ext.push H7 [])).elems
  have al7 := qvo7.alen
  obtain ⟨va1, G1, B1, ap1, s1, f1⟩ := CS.appQ (base := H7.n) (H := H7.push []) (v := .sl H7.n 0 0 (.ex 0)) (B := H7.n) (L := []) (GrS.new (Nat.le_refl _) (by omega) (by simp [qCs])) (by simp) (qvo7.ext (Ext.push H7 [])) (by simp; omega)
  simp (disch := omega) [el7, al7, ap1]
  have nG1 := s1.le
  simp only [push_n] at nG1
  obtain ⟨va2, G2, B2, ap2, s2, f2⟩ := CS.app s1.1 (by omega) ⟨10, 0, 0, 0, 0⟩ (by simp; omega)
  have S2 := s1.trans s2
  simp only [List.nil_append, ← hl0] at S2
  simp only [qC] at ap2
  simp (disch := omega) [elems5, ap2]
  have nG2 := s2.le
  have gB2 : ∀ b ∈ grB va2 B2, H7.n ≤ b ∧ b < G2.n := fun b hm => by have := S2.1.mem hm; omega
  have xx2 : Ext H7 G2 := (s1.trans s2).ext' (Ext.push H7 []) (fun b hm => by simp [grB] at hm; omega)
  have iv2 := (iv7.ext xx2).ext (Ext.push G2 [])
  have el2 := iv2.elems
  have al2 : alen vv = some vars.length := SlC.alen iv2
  obtain ⟨v8, G3, B3, ap3, g3', d3, o3⟩ := GrS.app (G := G2.push []) (GrS.new (base := G2.n) (G := G2) (n := 0) (sz := 1) (cs := []) (Nat.le_refl _) (by omega) rfl) (by simp) (k := vars.length) (new := Ints vars) (by simp [Ints]) (by omega)
  simp (disch := omega) [el2, al2, ap3]
  have n3 := o3.1
  simp only [push_n] at n3
  obtain ⟨v9, G4, B4, ap4, g4, d4, o4⟩ := GrS.app g3' (by omega) (k := 8) (new := [.I 0, .I 0, .I 0, .I 0, .I 0, .I 0, .I 0, .I 0]) rfl (by omega)
  have n4 := o4.1
  obtain ⟨rs, hrs⟩ : ∃ rs, rs = vars ++ [0, 0, 0, 0, 0, 0, 0, 0] := ⟨_, rfl⟩
  have hrl : rs.length = 12 := by rw [hrs]; simp; omega
  have hrW : rs.all isW = true := by
    rw [hrs, List.all_append, hvw]; rfl
  have iv9 : IV (fun b => G2.n ≤ b) G4 v9 rs := by
    have e1 : 0 + vars.length + 8 = rs.length := by omega
    have e2 : ([] ++ Ints vars ++ [.I 0, .I 0, .I 0, .I 0, .I 0, .I 0, .I 0, .I 0] : List AV) = Ints rs := by rw [hrs]; simp [Ints]
    rw [e1, e2] at g4
    exact g4.iv
  have x24 : Ext G2 G4 := ⟨by omega, fun b hb => by
    rw [o4.2 b (by omega) (fun hm => by have := g3'.mem hm; omega), o3.2 b (by simp; omega) (fun hm => by simp [grB] at hm; omega), push_old hb rfl]⟩
  have q9 : (G4.push [v9, .I 0]).bk G4.n = some ⟨[v9, .I 0], true⟩ := push_new
  have q9' : ((G4.push [v9, .I 0]).push []).bk G4.n = some ⟨[v9, .I 0], true⟩ := push_old (by simp) q9
  have iv9' := iv9.ext ((Ext.push G4 [v9, .I 0]).trans (Ext.push _ []))
  have el9 := iv9'.elems
  have al9 : alen v9 = some rs.length := SlC.alen iv9'
  rw [hrl] at al9
  obtain ⟨v10, G5, B5, ap5, g5, d5, o5⟩ := GrS.app (G := (G4.push [v9, .I 0]).push []) (GrS.new (base := (G4.push [v9, .I 0]).n) (G := G4.push [v9, .I 0]) (n := 0) (sz := 1) (cs := []) (Nat.le_refl _) (by omega) rfl) (by simp) (k := 12) (new := Ints rs) (by simp [Ints, hrl]) (by omega)
  simp only [push_n] at ap5 g5
  have f9 : v9.flat = true := SlC.flat iv9
  simp (disch := omega) [ap4, flat_cells f9, flat_tup f9, store_push2t, load_bk q9', el9, al9, ap5]
  have n5' := o5.1
  simp only [push_n] at n5'
  have qP : G5.bk G4.n = some ⟨[v9, .I 0], true⟩ := (o5.2 _ (by simp; omega) (fun hm => by simp [grB] at hm)).trans q9'
  have x45 : Ext G4 G5 := ⟨by omega, fun b hb => by
    rw [o5.2 b (by simp; omega) (fun hm => by simp [grB] at hm; omega), push_old (by simp; omega) (push_old hb rfl)]⟩
  have iv10 : IV (fun b => b ≠ G4.n) G5 v10 rs := by
    have e1 : 0 + 12 = rs.length := by omega
    have e2 : ([] ++ Ints rs : List AV) = Ints rs := rfl
    rw [e1, e2] at g5
    exact g5.iv.mono (Nat.le_refl _) (fun _ _ _ => rfl) (fun b hb _ => by omega)
  have iv95 : IV (fun b => b ≠ G4.n) G5 v9 rs := (iv9.mono (ok' := fun b => b ≠ G4.n) (Nat.le_refl _) (fun _ _ _ => rfl) (fun b _ hn => by omega)).ext x45
  have qv5 : QV (fun b => b ≠ G4.n) G5 va2 l := ((S2.1.qv.ext x24).mono (ok' := fun b => b ≠ G4.n) (Nat.le_refl _) (fun _ _ _ => rfl) (fun b _ hn => by omega)).ext x45
  have hfit : thFit ⟨rs, 0⟩ l.length = true := thFit_iff.2 ⟨hrl, hrW, by simp, by rw [hl0]; simp⟩
  have hzz : (cE1 a e.op e.n (compF e.args a)) = compE a e := rfl
  obtain ⟨t', sil, tp, tl, tr, tv⟩ := evalS (l := l) e.args (at_ := a) (op := e.op) (n := e.n) (d := dpE e) (pc := 0) (t := ⟨rs, 0⟩) (vars := vars) (okE_dp hok) h4 h12 (by
    rw [hzz, hl0]
    intro i q hq
    rw [Nat.zero_add, List.getElem?_append_left (List.getElem?_eq_some_iff.1 hq).1]; exact hq) rfl hrl (by rw [hrs]; simp [hv4])
  rw [hzz] at sil tp
  have := ThreadExpr_l (v6 := .I a) (v7 := vo) (v13 := .I (evE vars e)) (v17 := v10) (Q := ?_) hva.1 hva.2 t' (compE a e).length 0 (by omega) (by omega) (qvo7.alen) qv5 St.refl (by omega) qP iv95 hfit sil ?_
  · simpa using this
  · intro e0 H8 vr' s8 hP8 qP8 iv8 u6 u7 u13 u16 u17
    have hde : 1 ≤ dpE e := by unfold dpE; omega
    have hai : a.toNat < t'.regs.length := by omega
    obtain ⟨b, o, e1, hbn, e2⟩ := iv8.sees.at hai
    have htv : t'.regs[a.toNat] = evE vars e := by
      have := List.getElem?_eq_getElem hai
      rw [tv] at this
      exact (Option.some.inj this).symm
    rw [htv] at e2
    have iv10' : IV (fun b => b ≠ G4.n) H8 v10 rs := iv10.mono s8.1 (fun b hb hn => s8.2 b hn hb) (fun _ h _ => h)
    obtain ⟨w1, z1, i1⟩ := iv8.cut (x := a) (by omega) (by omega)
    obtain ⟨w2, z2, i2⟩ := iv10'.cut (x := a) (by omega) (by omega)
    have htk : t'.regs.take a.toNat = rs.take a.toNat := by
      apply List.ext_getElem?
      intro r
      by_cases hr : r < a.toNat
      · rw [List.getElem?_take_of_lt hr, List.getElem?_take_of_lt hr]; exact tr r (by omega)
      · rw [List.getElem?_eq_none (by simp; omega), List.getElem?_eq_none (by simp; omega)]
    rw [htk] at i1
    have tp' : t'.pc = ((compE a e).length : Nat) := by rw [tp, Nat.zero_add]
    have al8 : alen vo = some (compE a e).length := qvo7.alen
    rw [tp'] at qP8
    simp (disch := omega) [u6, u7, u13, u16, u17, load_bk qP8, al8, e1, tl, e2, z1, z2]
    exact T_wsameInts i1.sees i2.sees (by simp [Ext.refl])
end Go.Proofs.Ytmecbehegmgbhaa.AM
