/-
  The abstract machine and its walks, merged by program out of smaller texts (part 4). No condition.
-/
import Derived.Test.YtcibjklpaljadaaGreatFM3
import Derived.Deep.SlicePairs
import Derived.Lib.SmallJoins
import Derived.OpenShut
import Derived.ProofKit
import Derived.WalkKit
namespace Go.Proofs.YtcibjklpaljadaaGreat.AM
set_option linter.unusedSimpArgs false
set_option linter.unusedVariables false
set_option maxRecDepth 100000
set_option maxHeartbeats 4000000
open Go
attribute [-simp] AM.elems
section
variable {base : Nat} {H : AH} {K : AV → AH → Prop} {w : Fk K} {T o R P po B : Nat} {cT cP : List AV} {vr vb vo vc : AV} {rs : List (AV × Nat)} {O : Nat} {t : Th} {bs : List Bx} {out : List Int} {okc : Nat → Prop} {l : List Qd} {q : Qd}
theorem TS_pre (h : TM base H T o R P po B cT cP vr vb vo rs O t bs out) : TM base (H.push (qC q)) T o R P po B cT cP vr vb vo rs O t bs out ∧ (H.push (qC q)).bk H.n = some ⟨qC q, true⟩ ∧ (H.push [.I 0, .I 0, .I 0, .I 0, .I 0]).store H.n 0 (qC q) = some (H.push (qC q)) :=
  ⟨h.ext (Ext.push H _), push_new, by rw [store_bk push_new (by simp [qC]), push_put]; rfl⟩
theorem TS_ops {h1 : Prop} {H G : AH} (hq : H.bk G.n = some ⟨qC q, true⟩) : H.load G.n 0 = some (.I q.op) ∧ H.load G.n 1 = some (.I q.dst) ∧ H.load G.n 2 = some (.I q.a) ∧ H.load G.n 3 = some (.I q.b) ∧ H.load G.n 4 = some (.I q.n) := by
  refine ⟨?_, ?_, ?_, ?_, ?_⟩ <;> rw [load_bk hq] <;> rfl
theorem TS_set (h : TM base H T o R P po B cT cP vr vb vo rs O t bs out) (hc : QV okc H vc l) (hq : l[t.pc.toNat]? = some q) (hpc : 0 ≤ t.pc ∧ t.pc < l.length ∧ l.length ≤ 600) (hop : q.op = 1) (hd : 0 ≤ q.dst ∧ q.dst < 12)
    (k : ∀ H', TM base H' T o R P po B (splice cT (o + 1) [.I (t.pc + 1)]) cP vr vb vo rs O ⟨t.regs.set q.dst.toNat q.n, t.pc + 1⟩ bs out → Only [T, R] H H' → K (.I 1) H') : CallF Cd f_iThread_step [.ptr T o, vc, vb, .ptr P po] H K w := by
  rw [CallF_eq e_iThread_step rfl]
  obtain ⟨b, oo, cap, e1, ob, hbn, l1⟩ := hc.at hq
  obtain ⟨h1, q1, st⟩ := TS_pre (q := q) h
  obtain ⟨g0, gd, ga, gb, gn⟩ := TS_ops (h1 := True) q1
  have e5 : (qC q).length = 5 := rfl
  subst e1
  obtain ⟨capR, H1, rfl, s1, m1, o1⟩ := h1.setReg hd q.n
  obtain ⟨H2, s2, m2, o2⟩ := m1.setPc (t.pc + 1)
  simp (disch := omega) [h.ldp, hpc.1, hpc.2.1, l1, e5, st, g0, gd, gn, h1.ldr, h1.ldp, hop, hd.1, hd.2, s1, s2]
  refine k H2 m2 (((Only.refl.push (b := H) (bs := [T, R])).trans (o1.mono (by simp))).trans (o2.mono (by simp)))
theorem TS_copy (h : TM base H T o R P po B cT cP vr vb vo rs O t bs out) (hc : QV okc H vc l) (hq : l[t.pc.toNat]? = some q) (hpc : 0 ≤ t.pc ∧ t.pc < l.length ∧ l.length ≤ 600) (hop : q.op = 2) (hd : 0 ≤ q.dst ∧ q.dst < 12) (ha : 0 ≤ q.a ∧ q.a < 12)
    (k : ∀ H', TM base H' T o R P po B (splice cT (o + 1) [.I (t.pc + 1)]) cP vr vb vo rs O ⟨t.regs.set q.dst.toNat (rg t q.a), t.pc + 1⟩ bs out → Only [T, R] H H' → K (.I 1) H') : CallF Cd f_iThread_step [.ptr T o, vc, vb, .ptr P po] H K w := by
  rw [CallF_eq e_iThread_step rfl]
  obtain ⟨b, oo, cap, e1, ob, hbn, l1⟩ := hc.at hq
  obtain ⟨h1, q1, st⟩ := TS_pre (q := q) h
  obtain ⟨g0, gd, ga, gb, gn⟩ := TS_ops (h1 := True) q1
  have e5 : (qC q).length = 5 := rfl
  subst e1
  obtain ⟨capR, rfl, nR, bR, hr⟩ := h1.vr_eq
  have hra := hr q.a ha.1 ha.2
  obtain ⟨_, H1, _, s1, m1, o1⟩ := h1.setReg hd (rg t q.a)
  obtain ⟨H2, s2, m2, o2⟩ := m1.setPc (t.pc + 1)
  unfold rg at s1
  simp (disch := omega) [h.ldp, hpc.1, hpc.2.1, l1, e5, st, g0, gd, ga, gb, gn, h1.ldr, h1.ldp, hop, hd.1, hd.2, ha.1, ha.2, hra, s1, s2]
  exact k H2 m2 (((Only.refl.push (b := H) (bs := [T, R])).trans (o1.mono (by simp))).trans (o2.mono (by simp)))
theorem TS_bin (h : TM base H T o R P po B cT cP vr vb vo rs O t bs out) (hc : QV okc H vc l) (hq : l[t.pc.toNat]? = some q) (hpc : 0 ≤ t.pc ∧ t.pc < l.length ∧ l.length ≤ 600) (hop : q.op = 3) (hd : 0 ≤ q.dst ∧ q.dst < 12) (ha : 0 ≤ q.a ∧ q.a < 12) (hb : 0 ≤ q.b ∧ q.b < 12) (wa : isW (rg t q.a) = true) (wb : isW (rg t q.b) = true)
    (k : ∀ H', TM base H' T o R P po B (splice cT (o + 1) [.I (t.pc + 1)]) cP vr vb vo rs O ⟨t.regs.set q.dst.toNat (applyM q.n (rg t q.a) (rg t q.b)), t.pc + 1⟩ bs out → Only [T, R] H H' → K (.I 1) H') : CallF Cd f_iThread_step [.ptr T o, vc, vb, .ptr P po] H K w := by
  rw [CallF_eq e_iThread_step rfl]
  obtain ⟨b, oo, cap, e1, ob, hbn, l1⟩ := hc.at hq
  obtain ⟨h1, q1, st⟩ := TS_pre (q := q) h
  obtain ⟨g0, gd, ga, gb, gn⟩ := TS_ops (h1 := True) q1
  have e5 : (qC q).length = 5 := rfl
  subst e1
  obtain ⟨capR, rfl, nR, bR, hr⟩ := h1.vr_eq
  have hra := hr q.a ha.1 ha.2
  have hrb := hr q.b hb.1 hb.2
  obtain ⟨_, H1, _, s1, m1, o1⟩ := h1.setReg hd (applyM q.n (rg t q.a) (rg t q.b))
  obtain ⟨H2, s2, m2, o2⟩ := m1.setPc (t.pc + 1)
  have wa' := isW_iff.1 wa
  have wb' := isW_iff.1 wb
  unfold rg at s1 wa' wb'
  simp (disch := omega) [h.ldp, hpc.1, hpc.2.1, l1, e5, st, g0, gd, ga, gb, gn, h1.ldr, h1.ldp, hop, hd.1, hd.2, ha.1, ha.2, hb.1, hb.2, hra, hrb, K_iapply wa' wb', s1, s2]
  exact k H2 m2 (((Only.refl.push (b := H) (bs := [T, R])).trans (o1.mono (by simp))).trans (o2.mono (by simp)))
theorem TS_jump (h : TM base H T o R P po B cT cP vr vb vo rs O t bs out) (hc : QV okc H vc l) (hq : l[t.pc.toNat]? = some q) (hpc : 0 ≤ t.pc ∧ t.pc < l.length ∧ l.length ≤ 600) (hop : q.op = 4)
    (k : ∀ H', TM base H' T o R P po B (splice cT (o + 1) [.I q.n]) cP vr vb vo rs O ⟨t.regs, q.n⟩ bs out → Only [T, R] H H' → K (.I 1) H') : CallF Cd f_iThread_step [.ptr T o, vc, vb, .ptr P po] H K w := by
  rw [CallF_eq e_iThread_step rfl]
  obtain ⟨b, oo, cap, e1, ob, hbn, l1⟩ := hc.at hq
  obtain ⟨h1, q1, st⟩ := TS_pre (q := q) h
  obtain ⟨g0, gd, ga, gb, gn⟩ := TS_ops (h1 := True) q1
  have e5 : (qC q).length = 5 := rfl
  subst e1
  obtain ⟨capR, rfl, nR, bR, hr⟩ := h1.vr_eq
  obtain ⟨H2, s2, m2, o2⟩ := h1.setPc q.n
  simp (disch := omega) [h.ldp, hpc.1, hpc.2.1, l1, e5, st, g0, gd, ga, gb, gn, h1.ldr, h1.ldp, hop, s2]
  exact k H2 m2 ((Only.refl.push (b := H) (bs := [T, R])).trans (o2.mono (by simp)))
theorem TS_zero (h : TM base H T o R P po B cT cP vr vb vo rs O t bs out) (hc : QV okc H vc l) (hq : l[t.pc.toNat]? = some q) (hpc : 0 ≤ t.pc ∧ t.pc < l.length ∧ l.length ≤ 600) (hop : q.op = 5) (ha : 0 ≤ q.a ∧ q.a < 12)
    (k : ∀ H', TM base H' T o R P po B (splice cT (o + 1) [.I (if rg t q.a = 0 then q.n else t.pc + 1)]) cP vr vb vo rs O ⟨t.regs, (if rg t q.a = 0 then q.n else t.pc + 1)⟩ bs out → Only [T, R] H H' → K (.I 1) H') : CallF Cd f_iThread_step [.ptr T o, vc, vb, .ptr P po] H K w := by
  rw [CallF_eq e_iThread_step rfl]
  obtain ⟨b, oo, cap, e1, ob, hbn, l1⟩ := hc.at hq
  obtain ⟨h1, q1, st⟩ := TS_pre (q := q) h
  obtain ⟨g0, gd, ga, gb, gn⟩ := TS_ops (h1 := True) q1
  have e5 : (qC q).length = 5 := rfl
  subst e1
  obtain ⟨capR, rfl, nR, bR, hr⟩ := h1.vr_eq
  have hra := hr q.a ha.1 ha.2
  obtain ⟨H2, s2, m2, o2⟩ := h1.setPc (if rg t q.a = 0 then q.n else t.pc + 1)
  have kk := k H2 m2 ((Only.refl.push (b := H) (bs := [T, R])).trans (o2.mono (by simp)))
  unfold rg at s2
  by_cases hz : (t.regs[q.a.toNat]?).getD 0 = 0
  · rw [if_pos hz] at s2
    simp (disch := omega) [h.ldp, hpc.1, hpc.2.1, l1, e5, st, g0, gd, ga, gb, gn, h1.ldr, h1.ldp, hop, ha.1, ha.2, hra, hz, s2]
    exact kk
  · rw [if_neg hz] at s2
    simp (disch := omega) [h.ldp, hpc.1, hpc.2.1, l1, e5, st, g0, gd, ga, gb, gn, h1.ldr, h1.ldp, hop, ha.1, ha.2, hra, hz, s2]
    exact kk
theorem TS_yield (h : TM base H T o R P po B cT cP vr vb vo rs O t bs out) (hc : QV okc H vc l) (hq : l[t.pc.toNat]? = some q) (hpc : 0 ≤ t.pc ∧ t.pc < l.length ∧ l.length ≤ 600) (hop : q.op = 8)
    (k : ∀ H', TM base H' T o R P po B (splice cT (o + 1) [.I (t.pc + 1)]) cP vr vb vo rs O ⟨t.regs, t.pc + 1⟩ bs out → Only [T, R] H H' → K (.I 2) H') : CallF Cd f_iThread_step [.ptr T o, vc, vb, .ptr P po] H K w := by
  rw [CallF_eq e_iThread_step rfl]
  obtain ⟨b, oo, cap, e1, ob, hbn, l1⟩ := hc.at hq
  obtain ⟨h1, q1, st⟩ := TS_pre (q := q) h
  obtain ⟨g0, gd, ga, gb, gn⟩ := TS_ops (h1 := True) q1
  have e5 : (qC q).length = 5 := rfl
  subst e1
  obtain ⟨capR, rfl, nR, bR, hr⟩ := h1.vr_eq
  obtain ⟨H2, s2, m2, o2⟩ := h1.setPc (t.pc + 1)
  simp (disch := omega) [h.ldp, hpc.1, hpc.2.1, l1, e5, st, g0, gd, ga, gb, gn, h1.ldr, h1.ldp, hop, s2]
  exact k H2 m2 ((Only.refl.push (b := H) (bs := [T, R])).trans (o2.mono (by simp)))
theorem TS_halt (h : TM base H T o R P po B cT cP vr vb vo rs O t bs out) (hc : QV okc H vc l) (hq : l[t.pc.toNat]? = some q) (hpc : 0 ≤ t.pc ∧ t.pc < l.length ∧ l.length ≤ 600) (hop : q.op = 10) (k : ∀ H', Ext H H' → K (.I 4) H') : CallF Cd f_iThread_step [.ptr T o, vc, vb, .ptr P po] H K w := by
  rw [CallF_eq e_iThread_step rfl]
  obtain ⟨b, oo, cap, e1, ob, hbn, l1⟩ := hc.at hq
  obtain ⟨h1, q1, st⟩ := TS_pre (q := q) h
  obtain ⟨g0, gd, ga, gb, gn⟩ := TS_ops (h1 := True) q1
  have e5 : (qC q).length = 5 := rfl
  subst e1
  obtain ⟨capR, rfl, nR, bR, hr⟩ := h1.vr_eq
  simp (disch := omega) [h.ldp, hpc.1, hpc.2.1, l1, e5, st, g0, gd, ga, gb, gn, h1.ldr, h1.ldp, hop]
  exact k _ (Ext.push H _)
theorem TM.setOut (h : TM base H T o R P po B cT cP vr vb vo rs O t bs out) {x : Int} (hol : out.length < 90000000) :
    ∃ v' O' G' H', aapp H 1 vo 1 [.I x] = some (v', G') ∧ v'.flat = true ∧ G'.store P po [v'] = some H' ∧ TM base H' T o R P po B cT (splice cP po [v']) vr vb v' rs O' t bs (out ++ [x]) ∧ (∀ b ∈ grB v' O', b ∈ grB vo O ∨ H.n ≤ b) ∧ Only (P :: grB vo O) H H' := by
  have hpl := (List.getElem?_eq_some_iff.1 h.sP).1
  obtain ⟨v', G', O', a1, a2, a3, a4⟩ := h.gO.app h.hb (k := 1) (new := [.I x]) rfl (by omega)
  have a2' : GrS base G' v' (out ++ [x]).length 1 (Ints (out ++ [x])) O' := by simpa [Ints] using a2
  have bP := a4.bk h.nP h.g.2.2 h.bP
  have n4 := a4.1
  have oo : Only [P] G' (G'.put P (some ⟨splice cP po [v'], true⟩)) := Only.refl.put (by simp)
  have ot : Only (P :: grB vo O) H (G'.put P (some ⟨splice cP po [v'], true⟩)) := (a4.mono (fun b hb => .inl (by simp [hb]))).put (by simp)
  have hO : ∀ b ∈ grB v' O', b ∈ grB vo O ∨ H.n ≤ b := fun b hb => by
    rcases a3 with ⟨e, hm⟩ | e
    · rw [grB_sub hb, e]; exact .inl hm
    · rw [grB_sub hb, e]; exact .inr (Nat.le_refl _)
  have hP : P ∉ grB v' O' := fun hm => by rcases hO P hm with z | z; exact h.g.2.2 z; have := h.nP; omega
  have hR : R < H.n := by obtain ⟨_, _, z, _⟩ := h.vr_eq; exact z
  refine ⟨v', O', G', _, a1, a2.flat, store_bk bP (by simp; omega), ?_, hO, ot⟩
  have hd := h.d
  exact { bT := ot.bk h.nT (by simp; exact ⟨hd.2.1, h.g.1⟩) h.bT, sT := h.sT, nT := (by have := h.nT; simp; omega),
           gR := h.gR.only ot (fun b hb => .inr (fun e => by subst e; simp at hb; rcases hb with z | z; exact hd.2.2 z; exact h.g.2.1 z)),
           rb := h.rb.onlyA ot (fun b hb => .inr (fun hm => by simp at hb; rcases hb with z | z; subst z; exact h.f.2.2 hm; exact h.fg b z hm)),
           bP := put_same, sP := (by rw [splice_set hpl]; simp [hpl]), nP := (by have := h.nP; simp; omega),
           gO := a2'.onlyB oo (by simp; exact hP),
           hb := (by have := h.hb; simp; omega),
           d := hd, f := h.f,
           g := ⟨fun hm => (by rcases hO T hm with z | z; exact h.g.1 z; have := h.nT; omega), fun hm => (by rcases hO R hm with z | z; exact h.g.2.1 z; omega), hP⟩,
           fg := fun b hb hm => (by rcases hO b hb with z | z; exact h.fg b z hm; have := (h.rb.mem' hm).2; omega) }
theorem TS_print (h : TM base H T o R P po B cT cP vr vb vo rs O t bs out) (hc : QV okc H vc l) (hq : l[t.pc.toNat]? = some q) (hpc : 0 ≤ t.pc ∧ t.pc < l.length ∧ l.length ≤ 600) (hop : q.op = 9) (ha : 0 ≤ q.a ∧ q.a < 12) (hol : out.length < 90000000)
    (k : ∀ vo' O' H', TM base H' T o R P po B (splice cT (o + 1) [.I (t.pc + 1)]) (splice cP po [vo']) vr vb vo' rs O' ⟨t.regs, t.pc + 1⟩ bs (out ++ [rg t q.a]) → (∀ b ∈ grB vo' O', b ∈ grB vo O ∨ H.n ≤ b) → Only (T :: P :: grB vo O) H H' → K (.I 1) H') : CallF Cd f_iThread_step [.ptr T o, vc, vb, .ptr P po] H K w := by
  rw [CallF_eq e_iThread_step rfl]
  obtain ⟨b, oo, cap, e1, ob, hbn, l1⟩ := hc.at hq
  obtain ⟨h1, q1, st⟩ := TS_pre (q := q) h
  obtain ⟨g0, gd, ga, gb, gn⟩ := TS_ops (h1 := True) q1
  have e5 : (qC q).length = 5 := rfl
  subst e1
  obtain ⟨capR, rfl, nR, bR, hr⟩ := h1.vr_eq
  have hra := hr q.a ha.1 ha.2
  obtain ⟨v', O', G', H1, a1, fv, s1, m1, hO, o1⟩ := (h1.ext (Ext.push _ [.I (rg t q.a)])).setOut (x := rg t q.a) hol
  obtain ⟨H2, s2, m2, o2⟩ := m1.setPc (t.pc + 1)
  unfold rg at a1
  simp (disch := omega) [h.ldp, hpc.1, hpc.2.1, l1, e5, st, g0, gd, ga, gb, gn, h1.ldr, h1.ldp, hop, ha.1, ha.2, hra, h1.ldo, (h1.ext (Ext.push _ [.I (rg t q.a)])).ldo, AM.elems, loadN_push, a1, flat_cells fv, flat_tup fv, s1, s2]
  refine k v' O' H2 m2 (fun b hb => (hO b hb).imp id (fun z => by simp at z; omega)) ((((Only.refl.push (b := H) (bs := T :: P :: grB vo O)).push).trans (o1.mono (fun b hb => .inl ?_))).trans (o2.mono (by simp)))
  simp at hb ⊢; rcases hb with z | z
  · exact .inr (.inl z)
  · exact .inr (.inr z)
theorem TM.setBox (h : TM base H T o R P po B cT cP vr vb vo rs O t bs out) {i : Nat} {x : Bx} {p : AV × Nat} (hx : bs[i]? = some x) (hp : rs[i]? = some p) {v' : AV} {I' : Nat} {l : List Int} {H1 H' : AH}
    (hi : ISl base H1 v' l I') (hI : (I' = p.2 ∧ p.2 ∈ grB p.1 p.2) ∨ H.n ≤ I') (ho : Only (grB p.1 p.2) H H1) (hst : H1.store B (i * 2 + 1) [v'] = some H') :
    TM base H' T o R P po B cT cP vr vb vo (rs.set i (v', I')) O t (bs.set i ⟨x.room, l⟩) out ∧ (∀ b ∈ fpB B (rs.set i (v', I')), b ∈ fpB B rs ∨ H.n ≤ b) ∧ Only (fpB B rs) H H' := by
  obtain ⟨u1, u2, u3⟩ := h.rb.upd hx hp hi hI h.hb ho hst
  have hR : R < H.n := by obtain ⟨_, _, z, _⟩ := h.vr_eq; exact z
  have hf : ∀ b ∈ fpB B (rs.set i (v', I')), b ∈ fpB B rs ∨ H.n ≤ b := fun b hb => by
    rcases fpB_set hb with z | z
    · exact .inl z
    · subst z
      rcases hI with y | y
      · refine .inl ?_
        rw [mem_fpB]
        exact .inr ⟨p, List.mem_of_getElem? hp, by rw [y.1]; exact y.2⟩
      · exact .inr y
  refine ⟨{ bT := u2.bk h.nT h.f.1 h.bT, sT := h.sT, nT := Nat.lt_of_lt_of_le h.nT u2.1,
            gR := h.gR.only u2 (fun b hb => .inr (fun e => h.f.2.1 (by rw [← e]; exact hb))),
            rb := u1,
            bP := u2.bk h.nP h.f.2.2 h.bP, sP := h.sP, nP := Nat.lt_of_lt_of_le h.nP u2.1,
            gO := h.gO.onlyB u2 (fun b hb hm => h.fg b hm hb),
            hb := Nat.le_trans h.hb u2.1,
            d := h.d,
            f := ⟨fun hm => (by rcases hf T hm with z | z; exact h.f.1 z; have := h.nT; omega), fun hm => (by rcases hf R hm with z | z; exact h.f.2.1 z; omega), fun hm => (by rcases hf P hm with z | z; exact h.f.2.2 z; have := h.nP; omega)⟩,
            g := h.g,
            fg := fun b hb hm => (by rcases hf b hm with z | z; exact h.fg b hb z; have := (h.gO.mem hb); omega) }, hf, u2⟩
theorem TS_send (h : TM base H T o R P po B cT cP vr vb vo rs O t bs out) (hc : QV okc H vc l) (hq : l[t.pc.toNat]? = some q) (hpc : 0 ≤ t.pc ∧ t.pc < l.length ∧ l.length ≤ 600) (hop : q.op = 6) (ha : 0 ≤ q.a ∧ q.a < 12) {bx : Bx} (hn : 0 ≤ q.n) (hbx : bs[q.n.toNat]? = some bx) (hroom : bx.items.length ≤ bx.room ∧ bx.room ≤ 100)
    (k1 : (bx.items.length : Int) = bx.room → ∀ H', Ext H H' → K (.I 3) H')
    (k : (bx.items.length : Int) < bx.room → ∀ rs' H', TM base H' T o R P po B (splice cT (o + 1) [.I (t.pc + 1)]) cP vr vb vo rs' O ⟨t.regs, t.pc + 1⟩ (bs.set q.n.toNat ⟨bx.room, bx.items ++ [rg t q.a]⟩) out → (∀ b ∈ fpB B rs', b ∈ fpB B rs ∨ H.n ≤ b) → Only (T :: fpB B rs) H H' → K (.I 1) H') : CallF Cd f_iThread_step [.ptr T o, vc, vb, .ptr P po] H K w := by
  rw [CallF_eq e_iThread_step rfl]
  obtain ⟨b, oo, cap, e1, ob, hbn, l1⟩ := hc.at hq
  obtain ⟨h1, q1, st⟩ := TS_pre (q := q) h
  obtain ⟨g0, gd, ga, gb, gn⟩ := TS_ops (h1 := True) q1
  have e5 : (qC q).length = 5 := rfl
  subst e1
  obtain ⟨capR, rfl, nR, bR, hr⟩ := h1.vr_eq
  have hra := hr q.a ha.1 ha.2
  obtain ⟨pr, bcap, f1, rfl, f3, f4, f5, f6, f7, f8⟩ := h1.rb.at hbx
  have hnl : q.n < bs.length := by have := (List.getElem?_eq_some_iff.1 hbx).1; omega
  simp (disch := omega) [h.ldp, hpc.1, hpc.2.1, l1, e5, st, g0, gd, ga, gb, gn, h1.ldr, h1.ldp, hop, ha.1, ha.2, hra, hn, hnl]
  refine K_iBox_put f5 f4 f6 f7 h1.hb f8 hroom (fun hq => ?_) (fun hlt v' I' H2 H3 i1 i2 i3 i4 i5 i6 i7 => ?_)
  · simp
    exact k1 hq _ (Ext.push H _)
  · obtain ⟨m1, hf, o1⟩ := h1.setBox hbx f1 i1 i2 i3 i6
    obtain ⟨H4, s2, m2, o2⟩ := m1.setPc (t.pc + 1)
    simp [s2]
    refine k hlt _ H4 m2 (fun b hb => (hf b hb).imp id (fun z => by simp at z; omega)) (((Only.refl.push (b := H) (bs := T :: fpB B rs)).trans (o1.mono (fun b hb => .inl (by simp [hb])))).trans (o2.mono (by simp)))
theorem TS_recv (h : TM base H T o R P po B cT cP vr vb vo rs O t bs out) (hc : QV okc H vc l) (hq : l[t.pc.toNat]? = some q) (hpc : 0 ≤ t.pc ∧ t.pc < l.length ∧ l.length ≤ 600) (hop : q.op = 7) (hd : 0 ≤ q.dst ∧ q.dst < 12) {bx : Bx} (hn : 0 ≤ q.n) (hbx : bs[q.n.toNat]? = some bx)
    (k1 : bx.items = [] → ∀ H', Ext H H' → K (.I 3) H')
    (k : ∀ y r, bx.items = y :: r → ∀ rs' H', TM base H' T o R P po B (splice cT (o + 1) [.I (t.pc + 1)]) cP vr vb vo rs' O ⟨t.regs.set q.dst.toNat y, t.pc + 1⟩ (bs.set q.n.toNat ⟨bx.room, r⟩) out → (∀ b ∈ fpB B rs', b ∈ fpB B rs ∨ H.n ≤ b) → Only (T :: R :: fpB B rs) H H' → K (.I 1) H') : CallF Cd f_iThread_step [.ptr T o, vc, vb, .ptr P po] H K w := by
  rw [CallF_eq e_iThread_step rfl]
  obtain ⟨b, oo, cap, e1, ob, hbn, l1⟩ := hc.at hq
  obtain ⟨h1, q1, st⟩ := TS_pre (q := q) h
  obtain ⟨g0, gd, ga, gb, gn⟩ := TS_ops (h1 := True) q1
  have e5 : (qC q).length = 5 := rfl
  subst e1
  obtain ⟨capR, rfl, nR, bR, hr⟩ := h1.vr_eq
  obtain ⟨pr, bcap, f1, rfl, f3, f4, f5, f6, f7, f8⟩ := h1.rb.at hbx
  have hnl : q.n < bs.length := by have := (List.getElem?_eq_some_iff.1 hbx).1; omega
  simp (disch := omega) [h.ldp, hpc.1, hpc.2.1, l1, e5, st, g0, gd, ga, gb, gn, h1.ldr, h1.ldp, hop, hn, hnl]
  refine K_iBox_take f5 f4 f6 f7 f8 (fun hq => ?_) (fun y r hyr v' H2 H3 i1 i3 i4 i5 i6 i7 => ?_)
  · simp
    exact k1 hq _ (Ext.push H _)
  · have i3' : Only (grB pr.1 pr.2) (H.push (qC q)) H2 := by rw [i4]; exact i3
    obtain ⟨m1, hf, o1⟩ := h1.setBox hbx f1 i1 (.inl ⟨rfl, by rw [i4]; simp⟩) i3' i6
    obtain ⟨_, H4, _, s4, m4, o4⟩ := m1.setReg hd y
    obtain ⟨H5, s5, m5, o5⟩ := m4.setPc (t.pc + 1)
    have q3 : H3.bk H.n = some ⟨qC q, true⟩ := o1.bk (by simp) (fun hm => by have := (h.rb.mem' hm).2; omega) q1
    obtain ⟨g0', gd', ga', gb', gn'⟩ := TS_ops (h1 := True) q3
    simp (disch := omega) [m1.ldr, gd', hd.1, hd.2, s4, s5]
    refine k y r hyr _ H5 m5 (fun b hb => (hf b hb).imp id (fun z => by simp at z; omega)) ((((Only.refl.push (b := H) (bs := T :: R :: fpB B rs)).trans (o1.mono (fun b hb => .inl (by simp [hb])))).trans (o4.mono (by simp))).trans (o5.mono (by simp)))
end
end Go.Proofs.YtcibjklpaljadaaGreat.AM
namespace Go.Proofs.YtcibjklpaljadaaGreat.AM
set_option linter.unusedSimpArgs false
set_option linter.unusedVariables false
set_option maxRecDepth 100000
set_option maxHeartbeats 4000000
open Go
attribute [-simp] AM.elems
theorem reg_iff {r : Int} : reg r = true ↔ 0 ≤ r ∧ r < 12 := by unfold reg; simp
theorem quV_cases {many : Int} {q : Qd} (h : quV many q = true) :
    (q.op = 1 ∧ (0 ≤ q.dst ∧ q.dst < 12) ∧ isW q.n = true) ∨ (q.op = 2 ∧ (0 ≤ q.dst ∧ q.dst < 12) ∧ (0 ≤ q.a ∧ q.a < 12)) ∨ (q.op = 3 ∧ (0 ≤ q.dst ∧ q.dst < 12) ∧ (0 ≤ q.a ∧ q.a < 12) ∧ (0 ≤ q.b ∧ q.b < 12)) ∨
    (q.op = 4 ∧ 0 ≤ q.n ∧ q.n < many) ∨ (q.op = 5 ∧ (0 ≤ q.a ∧ q.a < 12) ∧ 0 ≤ q.n ∧ q.n < many) ∨ (q.op = 6 ∧ (0 ≤ q.a ∧ q.a < 12) ∧ 0 ≤ q.n ∧ q.n < 3) ∨ (q.op = 7 ∧ (0 ≤ q.dst ∧ q.dst < 12) ∧ 0 ≤ q.n ∧ q.n < 3) ∨ q.op = 8 ∨ (q.op = 9 ∧ (0 ≤ q.a ∧ q.a < 12)) ∨ q.op = 10 := by
  unfold quV at h
  by_cases h1 : q.op = 1
  · rw [if_pos h1] at h; simp only [Bool.and_eq_true, decide_eq_true_eq, reg_iff] at h; exact .inl ⟨h1, h.1.2, h.2⟩
  rw [if_neg h1] at h
  refine .inr ?_
  by_cases h2 : q.op = 2
  · rw [if_pos h2] at h; simp only [Bool.and_eq_true, decide_eq_true_eq, reg_iff] at h; exact .inl ⟨h2, h.1.2, h.2⟩
  rw [if_neg h2] at h
  refine .inr ?_
  by_cases h3 : q.op = 3
  · rw [if_pos h3] at h; simp only [Bool.and_eq_true, decide_eq_true_eq, reg_iff] at h; exact .inl ⟨h3, h.1.1.1, h.1.1.2, h.1.2⟩
  rw [if_neg h3] at h
  refine .inr ?_
  by_cases h4 : q.op = 4
  · rw [if_pos h4] at h; simp only [Bool.and_eq_true, decide_eq_true_eq, reg_iff] at h; exact .inl ⟨h4, h.2⟩
  rw [if_neg h4] at h
  refine .inr ?_
  by_cases h5 : q.op = 5
  · rw [if_pos h5] at h; simp only [Bool.and_eq_true, decide_eq_true_eq, reg_iff] at h; exact .inl ⟨h5, h.1.2, h.2⟩
  rw [if_neg h5] at h
  refine .inr ?_
  by_cases h6 : q.op = 6
  · rw [if_pos h6] at h; simp only [Bool.and_eq_true, decide_eq_true_eq, reg_iff] at h; exact .inl ⟨h6, h.1.2, h.2⟩
  rw [if_neg h6] at h
  refine .inr ?_
  by_cases h7 : q.op = 7
  · rw [if_pos h7] at h; simp only [Bool.and_eq_true, decide_eq_true_eq, reg_iff] at h; exact .inl ⟨h7, h.1.2, h.2⟩
  rw [if_neg h7] at h
  refine .inr ?_
  by_cases h9 : q.op = 9
  · rw [if_pos h9] at h; simp only [Bool.and_eq_true, decide_eq_true_eq, reg_iff] at h; exact .inr (.inl ⟨h9, h.2⟩)
  rw [if_neg h9] at h
  by_cases h8 : q.op = 8 ∨ q.op = 10
  · rcases h8 with h8 | h8
    · exact .inl h8
    · exact .inr (.inr h8)
  · rw [if_neg h8] at h; cases h
theorem rg_W {t : Th} (h : t.regs.all isW = true) (r : Int) : isW (rg t r) = true := by
  unfold rg
  cases hx : t.regs[r.toNat]? with
  | none => rfl
  | some x => exact List.all_eq_true.1 h x (List.mem_of_getElem? hx)
theorem thFit_iff {t : Th} {many : Nat} : thFit t many = true ↔ t.regs.length = 12 ∧ t.regs.all isW = true ∧ 0 ≤ t.pc ∧ t.pc < many := by
  unfold thFit; simp only [Bool.and_eq_true, decide_eq_true_eq]; exact and_assoc
theorem codeV_facts {l : List Qd} (h : codeV l = true) : 1 ≤ l.length ∧ l.length ≤ 600 ∧ (∀ q ∈ l, quV l.length q = true) ∧ (∀ q, l[l.length - 1]? = some q → q.op = 10 ∨ q.op = 4) := by
  unfold codeV at h
  simp only [Bool.and_eq_true, decide_eq_true_eq] at h
  refine ⟨h.1.1.1, h.1.1.2, List.all_eq_true.1 h.1.2, fun q hq => ?_⟩
  have h2 := h.2
  unfold lastOp at h2
  rw [List.getLast?_eq_getElem?, hq] at h2
  simpa using h2
theorem stepQ_keeps {l : List Qd} {q : Qd} {t : Th} {bs : List Bx} (hl : codeV l = true) (hq : l[t.pc.toNat]? = some q) (ht : thFit t l.length = true) (hb : vaBs bs = true) :
    thFit (stepQ q t bs).1 l.length = true ∧ vaBs (stepQ q t bs).2.1 = true ∧ (stepQ q t bs).2.1.length = bs.length ∧ (stepQ q t bs).2.1.map (·.room) = bs.map (·.room) ∧ (stepQ q t bs).2.2.1.all isW = true ∧ (stepQ q t bs).2.2.1.length ≤ 1 ∧ (1 ≤ (stepQ q t bs).2.2.2 ∧ (stepQ q t bs).2.2.2 ≤ 4) := by
  obtain ⟨c1, c2, c3, c4⟩ := codeV_facts hl
  obtain ⟨t1, t2, t3, t4⟩ := thFit_iff.1 ht
  have hv := c3 q (List.mem_of_getElem? hq)
  have hnx : q.op ≠ 4 → q.op ≠ 10 → t.pc + 1 < l.length := fun h4 h10 => by
    by_cases he : t.pc.toNat = l.length - 1
    · rw [he] at hq
      rcases c4 q hq with z | z
      · exact absurd z h10
      · exact absurd z h4
    · omega
  have stay : thFit t l.length = true ∧ vaBs bs = true ∧ bs.length = bs.length ∧ bs.map (·.room) = bs.map (·.room) ∧ ([] : List Int).all isW = true ∧ ([] : List Int).length ≤ 1 ∧ ((1 : Int) ≤ 3 ∧ (3 : Int) ≤ 4) := ⟨ht, hb, rfl, rfl, rfl, by simp, by omega⟩
  have hset : ∀ (d x : Int), isW x = true → q.op ≠ 4 → q.op ≠ 10 → thFit ⟨t.regs.set d.toNat x, t.pc + 1⟩ l.length = true := fun d x hx h4 h10 => thFit_iff.2 ⟨by simpa using t1, all_set t2 hx, by simp only; omega, hnx h4 h10⟩
  have hgo : q.op ≠ 4 → q.op ≠ 10 → thFit ⟨t.regs, t.pc + 1⟩ l.length = true := fun h4 h10 => thFit_iff.2 ⟨t1, t2, by simp only; omega, hnx h4 h10⟩
  rcases quV_cases hv with ⟨h, _, hw⟩ | ⟨h, _⟩ | ⟨h, _⟩ | ⟨h, hn⟩ | ⟨h, _, hn⟩ | ⟨h, _, hn⟩ | ⟨h, _, hn⟩ | h | ⟨h, _⟩ | h
  · have e : stepQ q t bs = (⟨t.regs.set q.dst.toNat q.n, t.pc + 1⟩, bs, [], 1) := by unfold stepQ; rw [if_pos h]
    rw [e]; exact ⟨hset _ _ hw (by omega) (by omega), hb, rfl, rfl, rfl, by simp, by simp⟩
  · have e : stepQ q t bs = (⟨t.regs.set q.dst.toNat (rg t q.a), t.pc + 1⟩, bs, [], 1) := by unfold stepQ; rw [if_neg (by omega), if_pos h]
    rw [e]; exact ⟨hset _ _ (rg_W t2 _) (by omega) (by omega), hb, rfl, rfl, rfl, by simp, by simp⟩
  · have e : stepQ q t bs = (⟨t.regs.set q.dst.toNat (applyM q.n (rg t q.a) (rg t q.b)), t.pc + 1⟩, bs, [], 1) := by unfold stepQ; rw [if_neg (by omega), if_neg (by omega), if_pos h]
    rw [e]; exact ⟨hset _ _ (isW_iff.2 (apply_W (isW_iff.1 (rg_W t2 _)) (isW_iff.1 (rg_W t2 _)))) (by omega) (by omega), hb, rfl, rfl, rfl, by simp, by simp⟩
  · have e : stepQ q t bs = (⟨t.regs, q.n⟩, bs, [], 1) := by unfold stepQ; rw [if_neg (by omega), if_neg (by omega), if_neg (by omega), if_pos h]
    rw [e]; exact ⟨thFit_iff.2 ⟨t1, t2, hn.1, hn.2⟩, hb, rfl, rfl, rfl, by simp, by simp⟩
  · have e : stepQ q t bs = (⟨t.regs, if rg t q.a = 0 then q.n else t.pc + 1⟩, bs, [], 1) := by unfold stepQ; rw [if_neg (by omega), if_neg (by omega), if_neg (by omega), if_neg (by omega), if_pos h]
    rw [e]
    refine ⟨thFit_iff.2 ⟨t1, t2, ?_⟩, hb, rfl, rfl, rfl, by simp, by simp⟩
    have := hnx (by omega) (by omega)
    simp only
    split <;> omega
  · have e : stepQ q t bs = match bs[q.n.toNat]? with
        | none => (t, bs, [], 3)
        | some bx => if (bx.items.length : Int) < bx.room then (⟨t.regs, t.pc + 1⟩, bs.set q.n.toNat ⟨bx.room, bx.items ++ [rg t q.a]⟩, [], 1) else (t, bs, [], 3) := by
      unfold stepQ; rw [if_neg (by omega), if_neg (by omega), if_neg (by omega), if_neg (by omega), if_neg (by omega), if_pos h]
      all_goals (cases bs[q.n.toNat]? <;> rfl)
    rw [e]
    cases hbx : bs[q.n.toNat]? with
    | none => exact stay
    | some bx =>
      simp only
      have hbv := (vaBs_facts hb).2 bx (List.mem_of_getElem? hbx)
      split
      · rename_i hr
        refine ⟨hgo (by omega) (by omega), vaBs_set hb ?_, by simp, rooms_set hbx, rfl, by simp, by simp⟩
        unfold vaB
        simp only [Bool.and_eq_true, decide_eq_true_eq, List.length_append, List.length_singleton, List.all_append, List.all_cons, List.all_nil, Bool.and_true]
        exact ⟨by omega, hbv.2.2.2, rg_W t2 _⟩
      · exact stay
  · have e : stepQ q t bs = match bs[q.n.toNat]? with
        | none => (t, bs, [], 3)
        | some bx =>
          match bx.items with
          | [] => (t, bs, [], 3)
          | y :: r => (⟨t.regs.set q.dst.toNat y, t.pc + 1⟩, bs.set q.n.toNat ⟨bx.room, r⟩, [], 1) := by
      unfold stepQ; rw [if_neg (by omega), if_neg (by omega), if_neg (by omega), if_neg (by omega), if_neg (by omega), if_neg (by omega), if_pos h]
      all_goals (rcases bs[q.n.toNat]? with _ | ⟨_, _ | _⟩ <;> rfl)
    rw [e]
    cases hbx : bs[q.n.toNat]? with
    | none => exact stay
    | some bx =>
      simp only
      have hbv := (vaBs_facts hb).2 bx (List.mem_of_getElem? hbx)
      cases hi : bx.items with
      | nil => exact stay
      | cons y r =>
        rw [hi] at hbv
        simp only [List.all_cons, Bool.and_eq_true, List.length_cons] at hbv
        refine ⟨hset _ _ hbv.2.2.2.1 (by omega) (by omega), vaBs_set hb ?_, by simp, rooms_set hbx, rfl, by simp, by simp⟩
        unfold vaB
        simp only [Bool.and_eq_true, decide_eq_true_eq]
        exact ⟨by omega, hbv.2.2.2.2⟩
  · have e : stepQ q t bs = (⟨t.regs, t.pc + 1⟩, bs, [], 2) := by unfold stepQ; rw [if_neg (by omega), if_neg (by omega), if_neg (by omega), if_neg (by omega), if_neg (by omega), if_neg (by omega), if_neg (by omega), if_pos h]
    rw [e]; exact ⟨hgo (by omega) (by omega), hb, rfl, rfl, rfl, by simp, by simp⟩
  · have e : stepQ q t bs = (⟨t.regs, t.pc + 1⟩, bs, [rg t q.a], 1) := by unfold stepQ; rw [if_neg (by omega), if_neg (by omega), if_neg (by omega), if_neg (by omega), if_neg (by omega), if_neg (by omega), if_neg (by omega), if_neg (by omega), if_pos h]
    rw [e]; exact ⟨hgo (by omega) (by omega), hb, rfl, rfl, by simp [rg_W t2], by simp, by simp⟩
  · have e : stepQ q t bs = (t, bs, [], 4) := by unfold stepQ; rw [if_neg (by omega), if_neg (by omega), if_neg (by omega), if_neg (by omega), if_neg (by omega), if_neg (by omega), if_neg (by omega), if_neg (by omega), if_neg (by omega)]
    rw [e]; exact ⟨ht, hb, rfl, rfl, rfl, by simp, by simp⟩
section
variable {base : Nat} {H : AH} {K : AV → AH → Prop} {w : Fk K} {T o R P po B : Nat} {cT cP : List AV} {vr vb vo vc : AV} {rs : List (AV × Nat)} {O : Nat} {t : Th} {bs : List Bx} {out : List Int} {okc : Nat → Prop} {l : List Qd} {q : Qd}
theorem TM.spl (h : TM base H T o R P po B cT cP vr vb vo rs O t bs out) : splice cT (o + 1) [.I t.pc] = cT ∧ splice cP po [vo] = cP := ⟨splice_id (seg_one h.sT).2, splice_id h.sP⟩
theorem K_iThread_step (h : TM base H T o R P po B cT cP vr vb vo rs O t bs out) (hc : QV okc H vc l) (hq : l[t.pc.toNat]? = some q) (hl : codeV l = true) (ht : thFit t l.length = true) (hb : vaBs bs = true) (hbx : boxQ bs.length q = true) (hol : out.length < 90000000)
    (k : ∀ vo' rs' O' H', TM base H' T o R P po B (splice cT (o + 1) [.I (stepQ q t bs).1.pc]) (splice cP po [vo']) vr vb vo' rs' O' (stepQ q t bs).1 (stepQ q t bs).2.1 (out ++ (stepQ q t bs).2.2.1) →
      (∀ b ∈ fpB B rs', b ∈ fpB B rs ∨ H.n ≤ b) → (∀ b ∈ grB vo' O', b ∈ grB vo O ∨ H.n ≤ b) → Only (T :: R :: P :: (fpB B rs ++ grB vo O)) H H' → K (.I (stepQ q t bs).2.2.2) H') :
    CallF Cd f_iThread_step [.ptr T o, vc, vb, .ptr P po] H K w := by
  obtain ⟨c1, c2, c3, c4⟩ := codeV_facts hl
  obtain ⟨t1, t2, t3, t4⟩ := thFit_iff.1 ht
  have hv := c3 q (List.mem_of_getElem? hq)
  have hpc : 0 ≤ t.pc ∧ t.pc < l.length ∧ l.length ≤ 600 := ⟨t3, t4, c2⟩
  obtain ⟨sp1, sp2⟩ := h.spl
  have still : ∀ c : Int, stepQ q t bs = (t, bs, [], c) → ∀ H', Ext H H' → K (.I c) H' := fun c e H' x => by
    rw [e] at k
    refine k vo rs O H' ?_ (fun b hb => .inl hb) (fun b hb => .inl hb) x.only
    simp only [sp1, sp2, List.append_nil]
    exact h.ext x
  rcases quV_cases hv with ⟨h0, hd, hw⟩ | ⟨h0, hd, ha⟩ | ⟨h0, hd, ha, hbb⟩ | ⟨h0, hn⟩ | ⟨h0, ha, hn⟩ | ⟨h0, ha, hn⟩ | ⟨h0, hd, hn⟩ | h0 | ⟨h0, ha⟩ | h0
  · have e : stepQ q t bs = (⟨t.regs.set q.dst.toNat q.n, t.pc + 1⟩, bs, [], 1) := by unfold stepQ; rw [if_pos h0]
    rw [e] at k
    refine TS_set h hc hq hpc h0 hd fun H' m oo => k vo rs O H' (by simp only [sp2, List.append_nil]; exact m) (fun b hb => .inl hb) (fun b hb => .inl hb) (oo.mono (fun b hb => .inl ?_))
    simp at hb ⊢; rcases hb with z | z <;> simp [z]
  · have e : stepQ q t bs = (⟨t.regs.set q.dst.toNat (rg t q.a), t.pc + 1⟩, bs, [], 1) := by unfold stepQ; rw [if_neg (by omega), if_pos h0]
    rw [e] at k
    refine TS_copy h hc hq hpc h0 hd ha fun H' m oo => k vo rs O H' (by simp only [sp2, List.append_nil]; exact m) (fun b hb => .inl hb) (fun b hb => .inl hb) (oo.mono (fun b hb => .inl ?_))
    simp at hb ⊢; rcases hb with z | z <;> simp [z]
  · have e : stepQ q t bs = (⟨t.regs.set q.dst.toNat (applyM q.n (rg t q.a) (rg t q.b)), t.pc + 1⟩, bs, [], 1) := by unfold stepQ; rw [if_neg (by omega), if_neg (by omega), if_pos h0]
    rw [e] at k
    refine TS_bin h hc hq hpc h0 hd ha hbb (rg_W t2 _) (rg_W t2 _) fun H' m oo => k vo rs O H' (by simp only [sp2, List.append_nil]; exact m) (fun b hb => .inl hb) (fun b hb => .inl hb) (oo.mono (fun b hb => .inl ?_))
    simp at hb ⊢; rcases hb with z | z <;> simp [z]
  · have e : stepQ q t bs = (⟨t.regs, q.n⟩, bs, [], 1) := by unfold stepQ; rw [if_neg (by omega), if_neg (by omega), if_neg (by omega), if_pos h0]
    rw [e] at k
    refine TS_jump h hc hq hpc h0 fun H' m oo => k vo rs O H' (by simp only [sp2, List.append_nil]; exact m) (fun b hb => .inl hb) (fun b hb => .inl hb) (oo.mono (fun b hb => .inl ?_))
    simp at hb ⊢; rcases hb with z | z <;> simp [z]
  · have e : stepQ q t bs = (⟨t.regs, if rg t q.a = 0 then q.n else t.pc + 1⟩, bs, [], 1) := by unfold stepQ; rw [if_neg (by omega), if_neg (by omega), if_neg (by omega), if_neg (by omega), if_pos h0]
    rw [e] at k
    refine TS_zero h hc hq hpc h0 ha fun H' m oo => k vo rs O H' (by simp only [sp2, List.append_nil]; exact m) (fun b hb => .inl hb) (fun b hb => .inl hb) (oo.mono (fun b hb => .inl ?_))
    simp at hb ⊢; rcases hb with z | z <;> simp [z]
  · have hlt : q.n < bs.length := by unfold boxQ at hbx; simp only [decide_eq_true_eq] at hbx; exact hbx (.inl h0)
    obtain ⟨bx, hx⟩ : ∃ x, bs[q.n.toNat]? = some x := ⟨_, List.getElem?_eq_getElem (by omega)⟩
    have hbv := (vaBs_facts hb).2 bx (List.mem_of_getElem? hx)
    have e : stepQ q t bs = if (bx.items.length : Int) < bx.room then (⟨t.regs, t.pc + 1⟩, bs.set q.n.toNat ⟨bx.room, bx.items ++ [rg t q.a]⟩, [], 1) else (t, bs, [], 3) := by
      unfold stepQ; rw [if_neg (by omega), if_neg (by omega), if_neg (by omega), if_neg (by omega), if_neg (by omega), if_pos h0, hx]
    refine TS_send h hc hq hpc h0 ha hn.1 hx (by omega) (fun he H' x => still 3 (by rw [e, if_neg (by omega)]) H' x) (fun hr rs' H' m hf oo => ?_)
    rw [e, if_pos hr] at k
    refine k vo rs' O H' (by simp only [sp2, List.append_nil]; exact m) hf (fun b hb => .inl hb) (oo.mono (fun b hb => .inl ?_))
    simp at hb ⊢; rcases hb with z | z <;> simp [z]
  · have hlt : q.n < bs.length := by unfold boxQ at hbx; simp only [decide_eq_true_eq] at hbx; exact hbx (.inr h0)
    obtain ⟨bx, hx⟩ : ∃ x, bs[q.n.toNat]? = some x := ⟨_, List.getElem?_eq_getElem (by omega)⟩
    have e : stepQ q t bs = match bx.items with
          | [] => (t, bs, [], 3)
          | y :: r => (⟨t.regs.set q.dst.toNat y, t.pc + 1⟩, bs.set q.n.toNat ⟨bx.room, r⟩, [], 1) := by
      unfold stepQ; rw [if_neg (by omega), if_neg (by omega), if_neg (by omega), if_neg (by omega), if_neg (by omega), if_neg (by omega), if_pos h0, hx]
      all_goals (rcases bx with ⟨_, _ | _⟩ <;> rfl)
    refine TS_recv h hc hq hpc h0 hd hn.1 hx (fun he H' x => still 3 (by rw [e, he]) H' x) (fun y r hr rs' H' m hf oo => ?_)
    rw [e, hr] at k
    refine k vo rs' O H' (by simp only [sp2, List.append_nil]; exact m) hf (fun b hb => .inl hb) (oo.mono (fun b hb => .inl ?_))
    simp at hb ⊢; rcases hb with z | z | z <;> simp [z]
  · have e : stepQ q t bs = (⟨t.regs, t.pc + 1⟩, bs, [], 2) := by unfold stepQ; rw [if_neg (by omega), if_neg (by omega), if_neg (by omega), if_neg (by omega), if_neg (by omega), if_neg (by omega), if_neg (by omega), if_pos h0]
    rw [e] at k
    refine TS_yield h hc hq hpc h0 fun H' m oo => k vo rs O H' (by simp only [sp2, List.append_nil]; exact m) (fun b hb => .inl hb) (fun b hb => .inl hb) (oo.mono (fun b hb => .inl ?_))
    simp at hb ⊢; rcases hb with z | z <;> simp [z]
  · have e : stepQ q t bs = (⟨t.regs, t.pc + 1⟩, bs, [rg t q.a], 1) := by unfold stepQ; rw [if_neg (by omega), if_neg (by omega), if_neg (by omega), if_neg (by omega), if_neg (by omega), if_neg (by omega), if_neg (by omega), if_neg (by omega), if_pos h0]
    rw [e] at k
    refine TS_print h hc hq hpc h0 ha hol fun vo' O' H' m hO oo => k vo' rs O' H' m (fun b hb => .inl hb) hO (oo.mono (fun b hb => .inl ?_))
    simp at hb ⊢; rcases hb with z | z | z <;> simp [z]
  · have e : stepQ q t bs = (t, bs, [], 4) := by unfold stepQ; rw [if_neg (by omega), if_neg (by omega), if_neg (by omega), if_neg (by omega), if_neg (by omega), if_neg (by omega), if_neg (by omega), if_neg (by omega), if_neg (by omega)]
    exact TS_halt h hc hq hpc h0 fun H' x => still 4 e H' x
end
end Go.Proofs.YtcibjklpaljadaaGreat.AM
namespace Go.Proofs.YtcibjklpaljadaaGreat.AM
set_option linter.unusedSimpArgs false
set_option linter.unusedVariables false
set_option maxRecDepth 100000
set_option maxHeartbeats 4000000
open Go
attribute [-simp] AM.elems
def CLc (ok : Nat → Prop) (H : AH) (c : List AV) (l : List Qd) : Prop := ∃ v, c = [v] ∧ QV ok H v l
theorem CLc.mono {ok ok' : Nat → Prop} {H H' c t} (h : CLc ok H c t) (hn : H.n ≤ H'.n) (hk : ∀ b, ok b → b < H.n → H'.bk b = H.bk b) (ho : ∀ b, ok b → b < H.n → ok' b) : CLc ok' H' c t := by
  obtain ⟨v, e, h⟩ := h; exact ⟨v, e, h.mono hn hk ho⟩
def CLV (ok : Nat → Prop) (H : AH) (v : AV) (l : List (List Qd)) : Prop := ∃ ca, SlC ok H v l.length 1 ca ∧ LF 1 (CLc ok H) l ca
theorem CLV.mono {ok ok' : Nat → Prop} {H H' v l} (h : CLV ok H v l) (hn : H.n ≤ H'.n) (hk : ∀ b, ok b → b < H.n → H'.bk b = H.bk b) (ho : ∀ b, ok b → b < H.n → ok' b) : CLV ok' H' v l := by
  obtain ⟨ca, h1, h2⟩ := h
  exact ⟨ca, h1.mono hn hk ho, h2.imp fun c a h => h.mono hn hk ho⟩
theorem CLV.ext {ok H H' c t} (h : CLV ok H c t) (k : Ext H H') : CLV ok H' c t := h.mono k.1 (fun b _ hb => k.2 b hb) (fun _ h _ => h)
theorem CLV.alen {ok H v l} (h : CLV ok H v l) : alen v = some l.length := h.choose_spec.1.alen
theorem CLV.flat {ok H v l} (h : CLV ok H v l) : v.flat = true := h.choose_spec.1.flat
theorem CLV.big {ok H v l} (h : CLV ok H v l) : l.length ≤ 8589934592 := h.choose_spec.1.1
theorem CLV.at {ok H v l} (h : CLV ok H v l) {i : Nat} {x : List Qd} (hi : l[i]? = some x) : ∃ b o cap vc, v = .sl b o l.length cap ∧ ok b ∧ b < H.n ∧ H.load b (o + i) = some vc ∧ QV ok H vc x := by
  obtain ⟨ca, h1, h2⟩ := h
  have hl := (List.getElem?_eq_some_iff.1 hi).1
  obtain ⟨b, o, cap, e, ob, hb, hs⟩ := h1.at hl
  obtain ⟨c, hc, vc, rfl, i1⟩ := h2.get hi
  have l1 : H.loadN b (o + i * 1) 1 = some [vc] := by rw [hs _ _ (by omega)]; exact hc
  have l2 := loadN_get l1 (i := 0) (by omega)
  rw [Nat.mul_one] at l2
  exact ⟨b, o, cap, vc, e, ob, hb, by simpa using l2, i1⟩
def ThV (ok : Nat → Prop) (H : AH) (v : AV) (l : List Th) : Prop := ∃ ca, SlC ok H v l.length 2 ca ∧ LF 2 (ThC ok H) l ca
theorem ThV.mono {ok ok' : Nat → Prop} {H H' v l} (h : ThV ok H v l) (hn : H.n ≤ H'.n) (hk : ∀ b, ok b → b < H.n → H'.bk b = H.bk b) (ho : ∀ b, ok b → b < H.n → ok' b) : ThV ok' H' v l := by
  obtain ⟨ca, h1, h2⟩ := h
  exact ⟨ca, h1.mono hn hk ho, h2.imp fun c a h => h.mono hn hk ho⟩
theorem ThV.ext {ok H H' c t} (h : ThV ok H c t) (k : Ext H H') : ThV ok H' c t := h.mono k.1 (fun b _ hb => k.2 b hb) (fun _ h _ => h)
theorem ThV.alen {ok H v l} (h : ThV ok H v l) : alen v = some l.length := h.choose_spec.1.alen
theorem ThV.flat {ok H v l} (h : ThV ok H v l) : v.flat = true := h.choose_spec.1.flat
theorem ThV.big {ok H v l} (h : ThV ok H v l) : l.length ≤ 8589934592 := h.choose_spec.1.1
theorem ThV.at {ok H v l} (h : ThV ok H v l) {i : Nat} {x : Th} (hi : l[i]? = some x) : ∃ b o cap vr, v = .sl b o l.length cap ∧ ok b ∧ b < H.n ∧ H.loadN b (o + i * 2) 2 = some [vr, .I x.pc] ∧ IV ok H vr x.regs := by
  obtain ⟨ca, h1, h2⟩ := h
  have hl := (List.getElem?_eq_some_iff.1 hi).1
  obtain ⟨b, o, cap, e, ob, hb, hs⟩ := h1.at hl
  obtain ⟨c, hc, vr, rfl, i1⟩ := h2.get hi
  exact ⟨b, o, cap, vr, e, ob, hb, by rw [hs _ _ (by omega)]; exact hc, i1⟩
structure Cw where
  codes : List (List Qd)
  threads : List Th
  boxes : List Bx
  turn : Int
  idle : Int
  out : List Int
deriving DecidableEq, Inhabited
def CwC (ok : Nat → Prop) (H : AH) (c : List AV) (w : Cw) : Prop := ∃ vc vt vb vo, c = [vc, vt, vb, .I w.turn, .I w.idle, vo] ∧ CLV ok H vc w.codes ∧ ThV ok H vt w.threads ∧ BV ok H vb w.boxes ∧ IV ok H vo w.out
theorem CwC.mono {ok ok' : Nat → Prop} {H H' c t} (h : CwC ok H c t) (hn : H.n ≤ H'.n) (hk : ∀ b, ok b → b < H.n → H'.bk b = H.bk b) (ho : ∀ b, ok b → b < H.n → ok' b) : CwC ok' H' c t := by
  obtain ⟨vc, vt, vb, vo, e, h0, h1, h2, h3⟩ := h
  exact ⟨vc, vt, vb, vo, e, h0.mono hn hk ho, h1.mono hn hk ho, h2.mono hn hk ho, h3.mono hn hk ho⟩
theorem CwC.ext {ok H H' c t} (h : CwC ok H c t) (k : Ext H H') : CwC ok H' c t := h.mono k.1 (fun b _ hb => k.2 b hb) (fun _ h _ => h)
def vaTh (many : Int) (p : List Qd × Th) : Bool := codeV p.1 && thFit p.2 p.1.length && p.1.all (boxQ many)
def vaCw (w : Cw) : Bool := decide (1 ≤ w.codes.length ∧ w.codes.length ≤ 3 ∧ 0 ≤ w.turn ∧ w.turn < w.codes.length ∧ 0 ≤ w.idle ∧ w.idle ≤ w.codes.length) && w.out.all isW && decide (w.threads.length = w.codes.length) && vaBs w.boxes && (w.codes.zip w.threads).all (vaTh w.boxes.length)
section
variable {ok : Nat → Prop} {H : AH} {K : AV → AH → Prop} {wf : Fk K} {v : AV} {l : List Qd}
theorem K_iCrewValid_l1 {many : Nat} {vt vb vcs x0 x3 x4 x5 : AV} {P : Nat} {mv iv : AV} {Q : Out → Env → AH → Prop} (h2 : ∀ e H, Q .ret e H = bindO (get e 2) fun v => K v H) (hvb : alen vb = some many) (hmb : many ≤ 8589934592) (m i : Nat) (hm : i + m = l.length) (h : QV ok H v l) (hP : P < H.n) (gP : H.bk P = some ⟨[x0, vt, vb, x3, x4, x5], true⟩)
    (hbad : (l.drop i).all (boxQ many) = false → ∀ H', Ext H H' → K (.b false) H')
    (hQ : (l.drop i).all (boxQ many) = true → ∀ e H', Ext H H' → get e 1 = some (.ptr P 0) → get e 34 = some vcs → get e 35 = some mv → get e 36 = some iv → Q (.brk 2) e H') :
    W Cd (.loop c_iCrewValid_l1) [(1, .ptr P 0), (34, vcs), (35, mv), (36, iv), (49, v), (50, .I l.length), (51, .I i)] H Q := by
  have hbig := h.big
  induction m generalizing i H with
  | zero =>
    rw [W_loop_as c_iCrewValid_l1.eq_1]
    have : i = l.length := by omega
    subst this
    simp
    exact hQ (by simp) _ H (Ext.refl _) rfl rfl rfl rfl
  | succ m ih =>
    rw [W_loop_as c_iCrewValid_l1.eq_1]
    have hlt : i < l.length := by omega
    have hlt' : (i : Int) < l.length := by omega
    obtain ⟨q, hq⟩ : ∃ q, l[i]? = some q := ⟨_, List.getElem?_eq_getElem hlt⟩
    obtain ⟨b, o, cap, e1, ob, hbn, l1⟩ := h.at hq
    have h0 := h
    subst e1
    have st : (H.push [.I 0, .I 0, .I 0, .I 0, .I 0]).store H.n 0 (qC q) = some (H.push (qC q)) := by
      rw [store_bk push_new (by simp [qC]), push_put]; rfl
    have q1 : (H.push (qC q)).loadN H.n 0 5 = some (qC q) := by rw [loadN_bk push_new]; rfl
    have x1 := Ext.push H (qC q)
    have e5 : (qC q).length = 5 := rfl
    have gP1 := (x1.2 P hP).trans gP
    simp (disch := omega) [hlt', l1, st, q1, e5, load_bk gP1, hvb]
    refine K_iboxThere fun H2 x2 => ?_
    rw [all_dropB hq] at hbad hQ
    cases hv : boxQ many q with
    | false =>
      simp [h2]
      exact hbad (by rw [hv]; rfl) _ (x1.trans x2)
    | true =>
      rw [hv] at hbad hQ
      simp (disch := omega)
      have := ih (i + 1) (by omega) (H := H2) (h0.ext (x1.trans x2)) (by have := (x1.trans x2).1; omega) (((x1.trans x2).2 P hP).trans gP) (fun hb H' x => hbad (by simpa using hb) H' ((x1.trans x2).trans x)) (fun hb e H' x a1 a2 a3 a4 => hQ (by simpa using hb) e H' ((x1.trans x2).trans x) a1 a2 a3 a4)
      simpa using this
theorem zip_get {α β : Type} {a : List α} {b : List β} {i : Nat} {x : α} {y : β} (ha : a[i]? = some x) (hb : b[i]? = some y) : (a.zip b)[i]? = some (x, y) := by
  rw [List.getElem?_zip_eq_some]; exact ⟨ha, hb⟩
theorem K_iCrewValid_l0 {w : Cw} {vc vt vb x3 x4 x5 : AV} {P : Nat} {Q : Out → Env → AH → Prop} (h1 : ∀ e G, Q (.brk 0) e G = K (.b true) G) (h2 : ∀ e H, Q .ret e H = bindO (get e 2) fun v => K v H) (hvb : alen vb = some w.boxes.length) (hmb : w.boxes.length ≤ 8589934592) (hlen : w.threads.length = w.codes.length)
    (m i : Nat) (hm : i + m = w.codes.length) (hP : P < H.n) (gP : H.bk P = some ⟨[vc, vt, vb, x3, x4, x5], true⟩) (hc : CLV ok H vc w.codes) (ht : ThV ok H vt w.threads)
    (k : ∀ H', Ext H H' → K (.b (((w.codes.zip w.threads).drop i).all (vaTh w.boxes.length))) H') :
    W Cd (.loop c_iCrewValid_l0) [(1, .ptr P 0), (34, vc), (35, .I w.codes.length), (36, .I i)] H Q := by
  have hbig := hc.big
  induction m generalizing i H with
  | zero =>
    rw [W_loop_as c_iCrewValid_l0.eq_1]
    have : i = w.codes.length := by omega
    subst this
    simp [h1]
    have := k H (Ext.refl _)
    rwa [List.drop_eq_nil_of_le (by simp; omega)] at this
  | succ m ih =>
    rw [W_loop_as c_iCrewValid_l0.eq_1]
    have hlt : i < w.codes.length := by omega
    have hlt' : (i : Int) < w.codes.length := by omega
    have hlt2 : (i : Int) < w.threads.length := by omega
    obtain ⟨l, hl⟩ : ∃ l, w.codes[i]? = some l := ⟨_, List.getElem?_eq_getElem hlt⟩
    obtain ⟨t, htt⟩ : ∃ t, w.threads[i]? = some t := ⟨_, List.getElem?_eq_getElem (by omega)⟩
    obtain ⟨b, o, cap, vl, e1, ob, hbn, l1, q1⟩ := hc.at hl
    obtain ⟨b', o', cap', vr, e2, ob', hbn', l2, i2⟩ := ht.at htt
    have hc0 := hc
    have ht0 := ht
    subst e1
    subst e2
    simp (disch := omega) [hlt', hlt2, l1, load_bk gP, l2]
    refine K_iThreadValid (t := t) ⟨vr, rfl, i2⟩ q1 fun H2 x2 => ?_
    have gP2 := (x2.2 P hP).trans gP
    have hP2 : P < H2.n := by have := x2.1; omega
    rw [all_dropB (zip_get hl htt)] at k
    rw [show vaTh w.boxes.length (l, t) = (codeV l && thFit t l.length && l.all (boxQ w.boxes.length)) from rfl] at k
    cases hv : codeV l && thFit t l.length with
    | false =>
      simp [h2]
      have := k H2 x2
      rw [hv] at this
      simpa using this
    | true =>
      rw [hv] at k
      have ql := q1.ext x2
      simp (disch := omega) [ql.alen]
      have := K_iCrewValid_l1 (K := K) (many := w.boxes.length) (vcs := .sl b o w.codes.length cap) (mv := .I w.codes.length) (iv := .I i) (Q := ?_) ?_ hvb hmb l.length 0 (by omega) ql hP2 gP2 (fun hb H' x => by
        have := k H' (x2.trans x)
        simp only [List.drop_zero] at hb
        rw [hb] at this
        simpa using this) ?_
      · simpa using this
      · intro e G; simp [h2]
      · intro hb e G x a1 a2 a3 a4
        simp only [List.drop_zero] at hb
        rw [hb] at k
        simp (disch := omega) [a1, a2, a3, a4]
        have := ih (i + 1) (by omega) (H := G) (by have := x.1; omega) ((x.2 P hP2).trans gP2) (hc0.ext (x2.trans x)) (ht0.ext (x2.trans x)) (fun H' x' => by
          have := k H' ((x2.trans x).trans x')
          simpa using this)
        simpa using this
theorem K_iCrewValid {c : List AV} {w : Cw} (h : CwC ok H c w) (hbl : w.boxes.length ≤ 8589934592) (k : ∀ H', Ext H H' → K (.b (vaCw w)) H') : CallF Cd f_iCrewValid [.agg c] H K wf := by
  obtain ⟨vc, vt, vb, vo, rfl, h0, h1, h2, h3⟩ := h
  rw [CallF_eq e_iCrewValid rfl]
  have x0 := Ext.push H [vc, vt, vb, .I w.turn, .I w.idle, vo]
  have q0 : (H.push [vc, vt, vb, .I w.turn, .I w.idle, vo]).bk H.n = some ⟨[vc, vt, vb, .I w.turn, .I w.idle, vo], true⟩ := push_new
  have hbig := h0.big
  have hbig1 := h1.big
  simp [load_bk q0, h0.alen, h1.alen]
  refine K_iturnsValid (h3.ext x0).sees ?_
  have e2 : decide (1 ≤ w.codes.length ∧ w.codes.length ≤ 3 ∧ 0 ≤ w.turn ∧ w.turn < w.codes.length ∧ 0 ≤ w.idle ∧ w.idle ≤ w.codes.length) = decide (1 ≤ (w.codes.length : Int) ∧ (w.codes.length : Int) ≤ 3 ∧ 0 ≤ w.turn ∧ w.turn < w.codes.length ∧ 0 ≤ w.idle ∧ w.idle ≤ w.codes.length) := by
    apply decide_eq_decide.2; omega
  unfold vaCw at k
  rw [e2] at k
  cases hv : (decide (1 ≤ (w.codes.length : Int) ∧ (w.codes.length : Int) ≤ 3 ∧ 0 ≤ w.turn ∧ w.turn < w.codes.length ∧ 0 ≤ w.idle ∧ w.idle ≤ w.codes.length) && w.out.all isW) with
  | false =>
    simp
    have := k _ x0
    rw [hv] at this
    simpa using this
  | true =>
    rw [hv] at k
    by_cases hlen : w.threads.length = w.codes.length
    case neg =>
      have hlen' : ¬ (w.threads.length : Int) = w.codes.length := by omega
      simp [load_bk q0, h0.alen, h1.alen, hlen']
      have := k _ x0
      rw [decide_eq_false hlen] at this
      simpa using this
    rw [decide_eq_true hlen] at k
    have hlen' : (w.threads.length : Int) = w.codes.length := by omega
    simp [load_bk q0, h0.alen, h1.alen, hlen']
    refine K_iboxesValid (h2.ext x0) fun H1 x1 => ?_
    have y1 := x0.trans x1
    have q1 := (x1.2 _ (by simp)).trans q0
    cases hb : vaBs w.boxes with
    | false =>
      simp
      have := k _ y1
      rw [hb] at this
      simpa using this
    | true =>
      rw [hb] at k
      simp [load_bk q1, h0.alen]
      have := K_iCrewValid_l0 (K := K) (w := w) (Q := ?_) ?_ ?_ h2.alen hbl hlen w.codes.length 0 (by omega) (by have := x1.1; simp at this; omega) q1 (h0.ext y1) (h1.ext y1) (fun H' x' => by
        have := k H' (y1.trans x')
        simpa using this)
      · simpa using this
      · intro e G; simp
      · intro e G; simp
end
end Go.Proofs.YtcibjklpaljadaaGreat.AM
namespace Go.Proofs.YtcibjklpaljadaaGreat.AM
set_option linter.unusedSimpArgs false
set_option linter.unusedVariables false
set_option maxRecDepth 100000
set_option maxHeartbeats 4000000
open Go
attribute [-simp] AM.elems
theorem GrS.qv {base G v l B} (h : GrS base G v l.length 5 (qCs l) B) : QV (fun b => base ≤ b) G v l := h.slc
section
variable {ok : Nat → Prop} {H : AH} {K : AV → AH → Prop} {w : Fk K} {v : AV}
theorem K_cloneQ {l : List Qd} (h : QV ok H v l) (hl : l.length ≤ 100000000) (k : ∀ v' H' B, GrS H.n H' v' l.length 5 (qCs l) B → Ext H H' → K v' H') : CallF Cd f_slices_Clone_iQuad_iQuad [v] H K w := by
  rw [CallF_eq e_slices_Clone_iQuad_iQuad rfl]
  have h1 := h.ext (Ext.push H [])
  have e1 := h1.elems
  have e2 := h1.alen
  have hg : GrS H.n (H.push []) (.sl H.n 0 0 (.ex 0)) 0 5 [] H.n := ⟨by omega, by simp, .inr ⟨Nat.le_refl _, Nat.lt_succ_self _, .inl ⟨rfl, push_new⟩⟩⟩
  obtain ⟨v', H', B, a1, a2, a3, a4⟩ := hg.app (by simp) (k := l.length) (new := qCs l) qCs_len (by omega)
  rw [Nat.zero_add, List.nil_append] at a2
  have x : Ext H H' := ⟨by have := a4.1; simp at this; omega, fun b hb => (a4.2 b (by simp; omega) (by simp [grB]; omega)).trans (push_old hb rfl)⟩
  obtain ⟨h0, hc, ⟨h2, h3⟩ | ⟨b, o, cap, rfl, h4⟩⟩ := id h
  · have hl0 : l = [] := List.eq_nil_of_length_eq_zero h2
    subst hl0
    rcases h3 with rfl | ⟨b, o, cap, rfl⟩
    · simp
      exact k _ H 0 GrS.nils (Ext.refl _)
    · simp only [List.length_nil] at a1
      simp [-AM.elems, e1, e2, a1]
      exact k _ _ B a2 x
  · simp [-AM.elems, e1, e2, a1]
    exact k _ _ B a2 x
end
end Go.Proofs.YtcibjklpaljadaaGreat.AM
namespace Go.Proofs.YtcibjklpaljadaaGreat.AM
set_option linter.unusedSimpArgs false
set_option linter.unusedVariables false
set_option maxRecDepth 100000
set_option maxHeartbeats 4000000
open Go
attribute [-simp] AM.elems
def cellsT : List Th → List (AV × Nat) → List AV
  | t :: ts, q :: qs => q.1 :: .I t.pc :: cellsT ts qs
  | _, _ => []
theorem cellsT_app : ∀ {l : List Th} {r : List (AV × Nat)} {t : Th} {q : AV × Nat}, r.length = l.length → cellsT (l ++ [t]) (r ++ [q]) = cellsT l r ++ [q.1, .I t.pc]
  | [], [], _, _, _ => rfl
  | [], q :: r, _, _, h => by simp at h
  | t :: l, [], _, _, h => by simp at h
  | t :: l, q :: r, _, _, h => by
    have := cellsT_app (l := l) (r := r) (t := ‹Th›) (q := ‹AV × Nat›) (by simpa using h)
    simp [cellsT, this]
theorem cellsT_get : ∀ {l : List Th} {r : List (AV × Nat)} {i : Nat} {x : Th} {p : AV × Nat} {ex : List AV}, l[i]? = some x → r[i]? = some p → seg (cellsT l r ++ ex) (i * 2) 2 = some [p.1, .I x.pc]
  | [], _, i, x, p, ex, h, _ => by simp at h
  | t :: l, [], i, x, p, ex, _, h => by simp at h
  | t :: l, q :: r, 0, x, p, ex, h1, h2 => by
    simp at h1 h2
    subst h1; subst h2
    unfold seg
    rw [if_pos (by simp [cellsT])]
    simp [cellsT]
  | t :: l, q :: r, i + 1, x, p, ex, h1, h2 => by
    have := cellsT_get (l := l) (r := r) (i := i) (x := x) (p := p) (ex := ex) (by simpa using h1) (by simpa using h2)
    rw [← this]
    unfold seg
    have e : (i + 1) * 2 = i * 2 + 2 := by omega
    have hl : (cellsT (t :: l) (q :: r) ++ ex).length = (cellsT l r ++ ex).length + 2 := by simp [cellsT]
    rw [e, hl]
    have e2 : (cellsT (t :: l) (q :: r) ++ ex).drop (i * 2 + 2) = (cellsT l r ++ ex).drop (i * 2) := by simp [cellsT]
    rw [e2]
    by_cases hq : i * 2 + 2 ≤ (cellsT l r ++ ex).length
    · rw [if_pos hq, if_pos (by omega)]
    · rw [if_neg hq, if_neg (by omega)]
def RgT (lo : Nat) (G : AH) (ths : List Th) (qs : List (AV × Nat)) (bad : List Nat) : Prop :=
  (∀ (i : Nat) (t : Th) (q : AV × Nat), ths[i]? = some t → qs[i]? = some q → GrS lo G q.1 12 1 (Ints t.regs) q.2 ∧ q.2 ∉ bad ∧ q.2 < G.n ∧ lo ≤ q.2) ∧
  (∀ (i j : Nat) (q q' : AV × Nat), i ≠ j → qs[i]? = some q → qs[j]? = some q' → q.2 ≠ q'.2)
theorem RgT.only {lo G G' ths qs bad cs} (h : RgT lo G ths qs bad) (k : Only cs G G') (hlen : qs.length = ths.length) (hc : ∀ b ∈ cs, b ∈ bad ∨ b < lo ∨ G.n ≤ b) : RgT lo G' ths qs bad :=
  ⟨fun i t q ht hq => by
    obtain ⟨a1, a2, a3, a4⟩ := h.1 i t q ht hq
    exact ⟨a1.only k (fun b hb => by
      rcases hc b hb with z | z | z
      · exact .inr (fun e => a2 (by rw [← e]; exact z))
      · exact .inl z
      · exact .inr (by omega)), a2, Nat.lt_of_lt_of_le a3 k.1, a4⟩, h.2⟩
theorem RgT.bad {lo G ths qs bad bad'} (h : RgT lo G ths qs bad) (hb : ∀ b ∈ bad', b ∈ bad ∨ G.n ≤ b) : RgT lo G ths qs bad' :=
  ⟨fun i t q ht hq => by
    obtain ⟨a1, a2, a3, a4⟩ := h.1 i t q ht hq
    exact ⟨a1, fun hm => by rcases hb _ hm with z | z; exact a2 z; omega, a3, a4⟩, h.2⟩
theorem GrS.real {base G v n sz cs B} (h : GrS base G v n sz cs B) (hn : 0 < n) : base ≤ B ∧ B < G.n ∧ grB v B = [B] := by
  obtain ⟨_, _, ⟨_, h0⟩ | ⟨h1, h2, ⟨rfl, _⟩ | ⟨c, ex, rfl, _⟩⟩⟩ := h
  · omega
  · exact ⟨h1, h2, rfl⟩
  · exact ⟨h1, h2, rfl⟩
section
variable {K : AV → AH → Prop}
theorem K_iCrewRun_l0 {ths : List Th} (h12 : ∀ t ∈ ths, t.regs.length = 12) (hl3 : ths.length ≤ 3) {vts vc vb vo : AV} {Pc P4 P6 base lo : Nat} {nn : AV} {Q : Out → Env → AH → Prop} (hbl : base ≤ lo) (h6 : base ≤ P6 ∧ P6 < lo)
    (m i : Nat) (hm : i + m = ths.length) {G : AH} {g : AV} {qs : List (AV × Nat)} {T : Nat} (hlo : lo ≤ G.n) (hv : ThV (fun b => b < base) G vts ths) (g6 : G.bk P6 = some ⟨[vc, g, vb, .I 0, .I 0, vo], true⟩)
    (hql : qs.length = i) (hg : GrS lo G g i 2 (cellsT (ths.take i) qs) T) (hr : RgT lo G (ths.take i) qs (grB g T))
    (hQ : ∀ e G' g' qs' T', qs'.length = ths.length → GrS lo G' g' ths.length 2 (cellsT ths qs') T' → RgT lo G' ths qs' (grB g' T') → G'.bk P6 = some ⟨[vc, g', vb, .I 0, .I 0, vo], true⟩ → (∀ b, b < lo → b ≠ P6 → G'.bk b = G.bk b) → G.n ≤ G'.n →
      get e 1 = some nn → get e 2 = some (.ptr Pc 0) → get e 4 = some (.ptr P4 0) → get e 6 = some (.ptr P6 0) → Q (.brk 0) e G') :
    W Cd (.loop c_iCrewRun_l0) [(1, nn), (2, .ptr Pc 0), (4, .ptr P4 0), (6, .ptr P6 0), (32, vts), (33, .I ths.length), (34, .I i)] G Q := by
  induction m generalizing i G g qs T with
  | zero =>
    rw [W_loop_as c_iCrewRun_l0.eq_1]
    have : i = ths.length := by omega
    subst this
    simp
    rw [List.take_length] at hg hr
    exact hQ _ G g qs T hql hg hr g6 (fun _ _ _ => rfl) (Nat.le_refl _) rfl rfl rfl rfl
  | succ m ih =>
    rw [W_loop_as c_iCrewRun_l0.eq_1]
    have hlt : i < ths.length := by omega
    have hlt' : (i : Int) < ths.length := by omega
    obtain ⟨t, htt⟩ : ∃ t, ths[i]? = some t := ⟨_, List.getElem?_eq_getElem hlt⟩
    obtain ⟨b, o, cap, vr, e1, ob, hbn, l1, iv⟩ := hv.at htt
    have hv0 := hv
    subst e1
    have x0 := Ext.push G [vr, .I t.pc]
    have st0 : (G.push [.nils, .I 0]).store G.n 0 [vr, .I t.pc] = some (G.push [vr, .I t.pc]) := by rw [store_bk push_new (by simp), push_put]; rfl
    have q0 : (G.push [vr, .I t.pc]).bk G.n = some ⟨[vr, .I t.pc], true⟩ := push_new
    have g60 := (x0.2 P6 (by omega)).trans g6
    have ht12 := h12 t (List.mem_of_getElem? htt)
    simp (disch := omega) [hlt', l1, st0, load_bk q0, load_bk g60]
    refine K_cloneG (iv.ext x0).src (by omega) fun vr' H1 R g1 x1 => ?_
    have n1 := x1.1
    simp only [push_n] at n1
    have f1 := g1.flat
    rw [ht12] at g1
    obtain ⟨R1, R2, R3⟩ := g1.real (by omega)
    simp only [push_n] at R1
    have x2 := (x0.trans x1).trans (Ext.push H1 [vr', .I t.pc])
    have q1 : H1.bk G.n = some ⟨[vr, .I t.pc], true⟩ := (x1.2 _ (by simp)).trans q0
    obtain ⟨g', G', T', a1, a2, a3, a4⟩ := (hg.ext x2).app (k := 1) (new := [vr', .I t.pc]) (by simp; omega) rfl (by omega)
    have hgm : ∀ b, b ∈ grB g T → b = T ∧ lo ≤ T ∧ T < G.n := fun b hb => hg.mem hb
    have fg := a2.flat
    have g6' : G'.bk P6 = some ⟨[vc, g, vb, .I 0, .I 0, vo], true⟩ := (a4.2 P6 (by simp; omega) (fun hm => by have := hgm _ hm; omega)).trans ((x2.2 P6 (by omega)).trans g6)
    have st := store_cell (v := g') g6' (o := 1) (by simp)
    simp only [List.set_cons_zero, List.set_cons_succ] at st
    have n4 := a4.1
    simp only [push_n] at n4 a3
    have gg : ∀ b, b < G.n → b ∉ grB g T → b ≠ P6 → (G'.put P6 (some ⟨[vc, g', vb, .I 0, .I 0, vo], true⟩)).bk b = G.bk b := fun b hb h1 h2 => by
      rw [put_bk, if_neg h2, a4.2 b (by simp; omega) h1, x2.2 b hb]
    have o6 : Only [P6] G' (G'.put P6 (some ⟨[vc, g', vb, .I 0, .I 0, vo], true⟩)) := Only.refl.put (by simp)
    have wall : Only (P6 :: grB g T) G (G'.put P6 (some ⟨[vc, g', vb, .I 0, .I 0, vo], true⟩)) := ⟨by simp; omega, fun b hb hm => by simp at hm; exact gg b hb hm.2 hm.1⟩
    simp (disch := omega) [x1, load_bk q1, flat_cells f1, flat_tup f1, AM.elems, loadN_push, a1, flat_cells fg, flat_tup fg, st]
    have htake : ths.take (i + 1) = ths.take i ++ [t] := by rw [List.take_add_one, htt]; rfl
    have hlen : qs.length = (ths.take i).length := by rw [List.length_take]; omega
    have hT' : ∀ b ∈ grB g' T', b ∈ grB g T ∨ H1.n + 1 ≤ b := fun b hb => by
      have := grB_sub hb
      rcases a3 with ⟨z1, z2⟩ | z
      · exact .inl (by rw [this, z1]; exact z2)
      · exact .inr (by omega)
    have hge : (vr', R).2 = R := rfl
    have := ih (i + 1) (by omega) (G := G'.put P6 (some ⟨[vc, g', vb, .I 0, .I 0, vo], true⟩)) (g := g') (qs := qs ++ [(vr', R)]) (T := T') (by simp; omega)
      (hv0.mono (by simp; omega) (fun b hb hn => gg b hn (fun hm => by have := hgm _ hm; omega) (by omega)) (fun _ h _ => h)) put_same (by simp [hql])
      (by rw [htake, cellsT_app hlen]; exact a2.only o6 (fun b hb => .inl (by simp at hb; omega)))
      (by
        rw [htake]
        have s0 : RgT lo G (ths.take i) qs (grB g T ++ grB g' T') := hr.bad (fun b hb => by
          rcases List.mem_append.1 hb with z | z
          · exact .inl z
          · rcases hT' b z with y | y
            · exact .inl y
            · exact .inr (by omega))
        have s1 : RgT lo (G'.put P6 (some ⟨[vc, g', vb, .I 0, .I 0, vo], true⟩)) (ths.take i) qs (grB g' T') :=
          (s0.only wall hlen (fun b hb => by
            rcases List.mem_cons.1 hb with z | z
            · exact .inr (.inl (by omega))
            · exact .inl (List.mem_append_left _ z))).bad (fun b hb => .inl (List.mem_append_right _ hb))
        have gR : GrS lo (G'.put P6 (some ⟨[vc, g', vb, .I 0, .I 0, vo], true⟩)) vr' 12 1 (Ints t.regs) R :=
          (((g1.up (by simp; omega)).ext (Ext.push H1 [vr', .I t.pc])).only a4 (fun b hb => .inr (fun e => by have := hgm b hb; omega))).only o6 (fun b hb => .inl (by simp at hb; omega))
        refine ⟨fun j t' q' hj hq => ?_, fun j k q q' hjk hj hk => ?_⟩
        · by_cases hji : j < (ths.take i).length
          · rw [List.getElem?_append_left hji] at hj
            rw [List.getElem?_append_left (by omega)] at hq
            exact s1.1 j t' q' hj hq
          · rw [List.getElem?_append_right (by omega)] at hj
            rw [List.getElem?_append_right (by omega), hlen] at hq
            have h0 : j - (ths.take i).length = 0 := by
              have := (List.getElem?_eq_some_iff.1 hj).1
              simp only [List.length_singleton] at this
              omega
            rw [h0] at hj hq
            simp at hj hq
            subst hj; subst hq
            exact ⟨gR, fun hm => by rcases hT' _ hm with z | z; have := hgm _ z; simp only at *; omega; simp only at *; omega, by simp; omega, by simp only; omega⟩
        · have key : ∀ j q, (qs ++ [(vr', R)])[j]? = some q → (j < qs.length ∧ q.2 < G.n ∧ qs[j]? = some q) ∨ (j = qs.length ∧ q.2 = R) := fun j q hj => by
            by_cases hji : j < qs.length
            · rw [List.getElem?_append_left hji] at hj
              obtain ⟨y, hy⟩ : ∃ y, (ths.take i)[j]? = some y := ⟨_, List.getElem?_eq_getElem (by omega)⟩
              exact .inl ⟨hji, (hr.1 j y q hy hj).2.2.1, hj⟩
            · rw [List.getElem?_append_right (by omega)] at hj
              have h0 : j - qs.length = 0 := by
                have := (List.getElem?_eq_some_iff.1 hj).1
                simp only [List.length_singleton] at this
                omega
              rw [h0] at hj
              simp at hj
              exact .inr ⟨by omega, by rw [← hj]⟩
          rcases key j q hj with ⟨u1, u2, u3⟩ | ⟨u1, u2⟩ <;> rcases key k q' hk with ⟨v1, v2, v3⟩ | ⟨v1, v2⟩
          · exact hr.2 j k q q' hjk u3 v3
          · omega
          · omega
          · omega)
      (fun e G2 g2 qs2 T2 z1 z2 z3 z4 z5 z6 w1 w2 w3 w4 => hQ e G2 g2 qs2 T2 z1 z2 z3 z4 (fun b hb h2 => (z5 b hb h2).trans (gg b (by omega) (fun hm => by have := hgm _ hm; omega) h2)) (by simp at z6; omega) w1 w2 w3 w4)
    simpa using this
end
end Go.Proofs.YtcibjklpaljadaaGreat.AM
namespace Go.Proofs.YtcibjklpaljadaaGreat.AM
set_option linter.unusedSimpArgs false
set_option linter.unusedVariables false
set_option maxRecDepth 100000
set_option maxHeartbeats 4000000
open Go
attribute [-simp] AM.elems
def qAt (codes : List (List Qd)) (ths : List Th) (t : Int) : Option (Qd × Th) :=
  match ths[t.toNat]?, codes[t.toNat]? with
  | some x, some l => (l[x.pc.toNat]?).map fun q => (q, x)
  | _, _ => none
def stepC (c : Cw) : Cw :=
  match qAt c.codes c.threads c.turn with
  | none => c
  | some (q, x) => ⟨c.codes, c.threads.set c.turn.toNat (stepQ q x c.boxes).1, (stepQ q x c.boxes).2.1, (nextT c.threads.length c.turn c.idle (stepQ q x c.boxes).2.2.2).1, (nextT c.threads.length c.turn c.idle (stepQ q x c.boxes).2.2.2).2, c.out ++ (stepQ q x c.boxes).2.2.1⟩
def runC : Nat → Cw → Cw
  | 0, c => c
  | n + 1, c => if c.idle < c.threads.length then runC n (stepC c) else c
theorem zip_all {α β : Type} {f : α × β → Bool} : ∀ {a : List α} {b : List β}, (a.zip b).all f = true ↔ ∀ (i : Nat) (x : α) (y : β), a[i]? = some x → b[i]? = some y → f (x, y) = true
  | [], b => by simp
  | x :: a, [] => by simp
  | x :: a, y :: b => by
    simp only [List.zip_cons_cons, List.all_cons, Bool.and_eq_true, zip_all (a := a) (b := b)]
    constructor
    · intro h i u v hu hv
      cases i with
      | zero => simp at hu hv; subst hu; subst hv; exact h.1
      | succ i => exact h.2 i u v (by simpa using hu) (by simpa using hv)
    · intro h
      exact ⟨h 0 x y rfl rfl, fun i u v hu hv => h (i + 1) u v (by simpa using hu) (by simpa using hv)⟩
theorem vaTh_iff {many : Int} {l : List Qd} {t : Th} : vaTh many (l, t) = true ↔ codeV l = true ∧ thFit t l.length = true ∧ l.all (boxQ many) = true := by
  unfold vaTh; simp only [Bool.and_eq_true]; exact and_assoc
theorem vaCw_iff {w : Cw} : vaCw w = true ↔ (1 ≤ w.codes.length ∧ w.codes.length ≤ 3 ∧ 0 ≤ w.turn ∧ w.turn < w.codes.length ∧ 0 ≤ w.idle ∧ w.idle ≤ w.codes.length) ∧ w.out.all isW = true ∧ w.threads.length = w.codes.length ∧ vaBs w.boxes = true ∧
    ∀ (i : Nat) (l : List Qd) (t : Th), w.codes[i]? = some l → w.threads[i]? = some t → vaTh w.boxes.length (l, t) = true := by
  unfold vaCw
  simp only [Bool.and_eq_true, decide_eq_true_eq, zip_all, and_assoc]
theorem qAt_some {codes : List (List Qd)} {ths : List Th} {t many : Int} (hl : ths.length = codes.length) (ht : 0 ≤ t ∧ t < codes.length) (hv : ∀ (i : Nat) (l : List Qd) (t : Th), codes[i]? = some l → ths[i]? = some t → vaTh many (l, t) = true) :
    ∃ q x l, qAt codes ths t = some (q, x) ∧ ths[t.toNat]? = some x ∧ codes[t.toNat]? = some l ∧ l[x.pc.toNat]? = some q ∧ codeV l = true ∧ thFit x l.length = true ∧ l.all (boxQ many) = true ∧ boxQ many q = true := by
  obtain ⟨x, hx⟩ : ∃ x, ths[t.toNat]? = some x := ⟨_, List.getElem?_eq_getElem (by omega)⟩
  obtain ⟨l, hl⟩ : ∃ l, codes[t.toNat]? = some l := ⟨_, List.getElem?_eq_getElem (by omega)⟩
  obtain ⟨h1, h2, h3⟩ := vaTh_iff.1 (hv _ l x hl hx)
  obtain ⟨_, _, h4, h5⟩ := thFit_iff.1 h2
  obtain ⟨q, hq⟩ : ∃ q, l[x.pc.toNat]? = some q := ⟨_, List.getElem?_eq_getElem (by omega)⟩
  exact ⟨q, x, l, by unfold qAt; simp [hx, hl, hq], hx, hl, hq, h1, h2, h3, List.all_eq_true.1 h3 q (List.mem_of_getElem? hq)⟩
theorem stepC_keeps {w : Cw} (h : vaCw w = true) (hi : w.idle < w.threads.length) : vaCw (stepC w) = true ∧ (stepC w).codes = w.codes ∧ (stepC w).threads.length = w.threads.length ∧ (stepC w).boxes.length = w.boxes.length ∧ (stepC w).boxes.map (·.room) = w.boxes.map (·.room) ∧ (∃ p, (stepC w).out = w.out ++ p ∧ p.length ≤ 1) := by
  obtain ⟨h1, h2, h3, h4, h5⟩ := vaCw_iff.1 h
  obtain ⟨q, x, l, e, hx, hl, hq, c1, c2, c3, c4⟩ := qAt_some (t := w.turn) h3 (by omega) h5
  obtain ⟨u1, u2, u3, u4, u5, u6, u7⟩ := stepQ_keeps (bs := w.boxes) c1 hq c2 h4
  have hn := nextT_ok (many := w.threads.length) (t := w.turn) (i := w.idle) (c := (stepQ q x w.boxes).2.2.2) (by omega) (by omega) (by omega)
  have es : stepC w = ⟨w.codes, w.threads.set w.turn.toNat (stepQ q x w.boxes).1, (stepQ q x w.boxes).2.1, (nextT w.threads.length w.turn w.idle (stepQ q x w.boxes).2.2.2).1, (nextT w.threads.length w.turn w.idle (stepQ q x w.boxes).2.2.2).2, w.out ++ (stepQ q x w.boxes).2.2.1⟩ := by
    unfold stepC; rw [e]
  rw [es]
  refine ⟨vaCw_iff.2 ⟨by simp only; omega, ?_, by simpa using h3, u2, fun i l' t' hl' ht' => ?_⟩, rfl, by simp, u3, u4, ⟨_, rfl, u6⟩⟩
  · simp only [List.all_append, Bool.and_eq_true]; exact ⟨h2, u5⟩
  · simp only at hl' ht'
    rw [u3]
    by_cases hit : i = w.turn.toNat
    · subst hit
      rw [List.getElem?_set_self (by omega)] at ht'
      cases ht'
      rw [hl] at hl'; cases hl'
      exact vaTh_iff.2 ⟨c1, u1, c3⟩
    · rw [List.getElem?_set_ne (Ne.symm hit)] at ht'
      exact h5 i l' t' hl' ht'
abbrev CSt := List Th × List Bx × List Int
def nxC (codes : List (List Qd)) (s : CSt) (t : Int) : CSt :=
  match qAt codes s.1 t with
  | none => s
  | some (q, x) => (s.1.set t.toNat (stepQ q x s.2.1).1, (stepQ q x s.2.1).2.1, s.2.2 ++ (stepQ q x s.2.1).2.2.1)
def cdC (codes : List (List Qd)) (s : CSt) (t : Int) : Int :=
  match qAt codes s.1 t with
  | none => 1
  | some (q, x) => (stepQ q x s.2.1).2.2.2
theorem turnsC_run (n : Nat) : ∀ {w : Cw} (h : vaCw w = true),
    turnsF w.threads.length (nxC w.codes) (cdC w.codes) n (w.threads, w.boxes, w.out) w.turn w.idle = (((runC n w).threads, (runC n w).boxes, (runC n w).out), (runC n w).turn, (runC n w).idle) := by
  induction n with
  | zero => intro w h; simp [turnsF, runC]
  | succ n ih =>
    intro w h
    unfold turnsF runC
    by_cases hi : w.idle < (w.threads.length : Int)
    · rw [if_pos hi, if_pos hi]
      obtain ⟨k1, k2, k3, _⟩ := stepC_keeps h hi
      obtain ⟨h1, h2, h3, h4, h5⟩ := vaCw_iff.1 h
      obtain ⟨q, x, l, e, hx, hl, hq, c1, c2, c3, c4⟩ := qAt_some (t := w.turn) h3 (by omega) h5
      have es : stepC w = ⟨w.codes, w.threads.set w.turn.toNat (stepQ q x w.boxes).1, (stepQ q x w.boxes).2.1, (nextT w.threads.length w.turn w.idle (stepQ q x w.boxes).2.2.2).1, (nextT w.threads.length w.turn w.idle (stepQ q x w.boxes).2.2.2).2, w.out ++ (stepQ q x w.boxes).2.2.1⟩ := by
        unfold stepC; rw [e]
      have e1 : nxC w.codes (w.threads, w.boxes, w.out) w.turn = ((stepC w).threads, (stepC w).boxes, (stepC w).out) := by
        rw [es]; unfold nxC; simp only [e]
      have e2 : (nextT w.threads.length w.turn w.idle (cdC w.codes (w.threads, w.boxes, w.out) w.turn)) = ((stepC w).turn, (stepC w).idle) := by
        rw [es]; unfold cdC; simp only [e]
      rw [e1, e2]
      have := ih k1
      rw [k3, k2] at this
      exact this
    · rw [if_neg hi, if_neg hi]
theorem cellsT_set : ∀ {l : List Th} {r : List (AV × Nat)} {i : Nat} {x : Th}, i < l.length → r.length = l.length → splice (cellsT l r) (i * 2 + 1) [.I x.pc] = cellsT (l.set i x) r
  | [], _, i, _, h, _ => by simp at h
  | t :: l, [], _, _, _, h => by simp at h
  | t :: l, q :: r, 0, x, _, _ => by simp [cellsT, splice]
  | t :: l, q :: r, i + 1, x, h, hr => by
    have := cellsT_set (l := l) (r := r) (i := i) (x := x) (by simpa using h) (by simpa using hr)
    have e : (i + 1) * 2 + 1 = (i * 2 + 1) + 2 := by omega
    rw [e]
    simp only [List.set_cons_succ, cellsT]
    rw [← this]
    unfold splice
    simp
theorem GrS.spl {base G G' v n sz cs T cT o c} (h : GrS base G v n sz cs T) (hT : G.bk T = some ⟨cT, true⟩) (hT' : G'.bk T = some ⟨splice cT o c, true⟩) (ho : o + c.length ≤ n * sz) (hc : 0 < c.length) (hn : T < G'.n) : GrS base G' v n sz (splice cs o c) T := by
  obtain ⟨h1, h2, h3⟩ := h
  have hl : (splice cs o c).length = n * sz := by unfold splice; rw [List.length_append, List.length_append, List.length_take, List.length_drop, h2]; omega
  rcases h3 with ⟨rfl, rfl⟩ | ⟨h4, h5, ⟨rfl, h6⟩ | ⟨cc, ex, rfl, h7, h8, h9⟩⟩
  · rw [Nat.zero_mul] at ho; omega
  · rw [hT] at h6; cases h6
    exact ⟨h1, hl, .inr ⟨h4, hn, .inl ⟨rfl, hT'⟩⟩⟩
  · rw [hT] at h9; cases h9
    refine ⟨h1, hl, .inr ⟨h4, hn, .inr ⟨cc, ex, rfl, h7, h8, ?_⟩⟩⟩
    rw [hT']
    have : splice (cs ++ ex) o c = splice cs o c ++ ex := by
      unfold splice
      rw [List.take_append_of_le_length (by omega), List.drop_append_of_le_length (by omega)]; simp
    rw [this]
theorem GrS.blk {base G v n sz cs B} (h : GrS base G v n sz cs B) (hn : 0 < n) : ∃ cap ex, v = .sl B 0 n cap ∧ base ≤ B ∧ B < G.n ∧ G.bk B = some ⟨cs ++ ex, true⟩ := by
  obtain ⟨h1, h2, ⟨_, h0⟩ | ⟨h4, h5, ⟨rfl, h6⟩ | ⟨cc, ex, rfl, h7, h8, h9⟩⟩⟩ := h
  · omega
  · exact ⟨_, [], rfl, h4, h5, by rw [List.append_nil]; exact h6⟩
  · exact ⟨_, ex, rfl, h4, h5, h9⟩
def RunC (lo : Nat) (G0 : AH) (P : Nat) (vc : AV) (codes : List (List Qd)) (m : Nat) (s : CSt) (H : AH) : Prop :=
  ∃ (vt vb vo : AV) (T : Nat) (cT : List AV) (B : Nat) (rs : List (AV × Nat)) (O : Nat) (qs : List (AV × Nat)),
    (∀ (i : Nat) (t : Th) (q : AV × Nat), s.1[i]? = some t → qs[i]? = some q → TM lo H T (i * 2) q.2 P 5 B cT [vc, vt, vb, .I 0, .I 0, vo] q.1 vb vo rs O t s.2.1 s.2.2) ∧
    (qs.length = s.1.length ∧ s.1.length = codes.length ∧ 1 ≤ codes.length ∧ codes.length ≤ 3) ∧
    (∀ (i j : Nat) (q q' : AV × Nat), i ≠ j → qs[i]? = some q → qs[j]? = some q' → q.2 ≠ q'.2) ∧
    GrS lo H vt s.1.length 2 (cellsT s.1 qs) T ∧ CLV (fun b => b < lo) H vc codes ∧
    ((∀ (i : Nat) (l : List Qd) (t : Th), codes[i]? = some l → s.1[i]? = some t → vaTh s.2.1.length (l, t) = true) ∧ vaBs s.2.1 = true ∧ s.2.2.length + m ≤ 89000000) ∧
    (lo ≤ P ∧ lo ≤ H.n ∧ ∀ b, b < lo → H.bk b = G0.bk b)
theorem runC_code {lo : Nat} {G0 : AH} {P : Nat} {vc : AV} {codes : List (List Qd)} {m : Nat} {s : CSt} {H : AH} (h : RunC lo G0 P vc codes m s H) {t : Int} (ht : 0 ≤ t ∧ t < codes.length) : 1 ≤ cdC codes s t ∧ cdC codes s t ≤ 4 := by
  obtain ⟨vt, vb, vo, T, cT, B, rs, O, qs, tm, ⟨h1, h2, h3, h4⟩, dis, gT, cl, ⟨va, vb3, ho⟩, _⟩ := h
  obtain ⟨q, x, l, e, hx, hl, hq, c1, c2, c3, c4⟩ := qAt_some h2 ht va
  unfold cdC
  rw [e]
  exact (stepQ_keeps c1 hq c2 vb3).2.2.2.2.2.2
theorem runC_step {lo : Nat} {G0 : AH} {P : Nat} {vc : AV} {codes : List (List Qd)} {m : Nat} {s : CSt} {H : AH} {K : AV → AH → Prop} {w : Fk K} {t : Int} (h : RunC lo G0 P vc codes (m + 1) s H) (ht : 0 ≤ t ∧ t < codes.length)
    (k : ∀ H', RunC lo G0 P vc codes m (nxC codes s t) H' → K (.I (cdC codes s t)) H') : CallF Cd f_iCrewRun_1 [.I t, .ptr P 0] H K w := by
  obtain ⟨vt, vb, vo, T, cT, B, rs, O, qs, tm, ⟨h1, h2, h3, h4⟩, dis, gT, cl, ⟨va, vb3, ho⟩, ⟨hP, hlo, fr⟩⟩ := h
  obtain ⟨q, x, l, e, hx, hl, hq, c1, c2, c3, c4⟩ := qAt_some h2 ht va
  have e1 : nxC codes s t = (s.1.set t.toNat (stepQ q x s.2.1).1, (stepQ q x s.2.1).2.1, s.2.2 ++ (stepQ q x s.2.1).2.2.1) := by unfold nxC; simp only [e]
  have e2 : cdC codes s t = (stepQ q x s.2.1).2.2.2 := by unfold cdC; simp only [e]
  rw [e1, e2] at k
  obtain ⟨u1, u2, u3, u4, u5, u6, u7⟩ := stepQ_keeps (bs := s.2.1) c1 hq c2 vb3
  obtain ⟨p, hp⟩ : ∃ p, qs[t.toNat]? = some p := ⟨_, List.getElem?_eq_getElem (by omega)⟩
  have tmi := tm _ x p hx hp
  obtain ⟨capT, ex, evt, t1, t2, t3⟩ := gT.blk (by omega)
  obtain ⟨b, o, cap, vl, ec, ob, hbn, l1, q1⟩ := cl.at hl
  have cl0 := cl
  have gP := tmi.bP
  rw [CallF_eq e_iCrewRun_1 rfl]
  have g1 : t < (s.1.length : Int) := by omega
  have g2 : t < (codes.length : Int) := by omega
  have gP0 : H.load P 0 = some vc := by rw [load_bk gP]; rfl
  have gP1 : H.load P 1 = some (.sl T 0 s.1.length capT) := by rw [load_bk gP, ← evt]; rfl
  have gP2 : H.load P 2 = some vb := by rw [load_bk gP]; rfl
  rw [ec] at gP0
  simp (disch := omega) [gP0, gP1, gP2, ht.1, g1, g2, l1]
  refine K_iThread_step tmi q1 hq c1 c2 vb3 c4 (by omega) fun vo' rs' O' H' tm' hf hO oo => ?_
  simp
  have n1 := oo.1
  have hRp : lo ≤ p.2 ∧ p.2 < H.n := by obtain ⟨_, _, z, y, _⟩ := tmi.vr_eq; exact ⟨y, z⟩
  have wl : ∀ b, b < lo → H'.bk b = H.bk b := fun b hb => oo.2 b (by omega) (fun hm => by
    simp at hm
    rcases hm with z | z | z | z | z
    · omega
    · omega
    · omega
    · have := (tmi.rb.mem' z).1; omega
    · have := (tmi.gO.mem z); omega)
  refine k H' ⟨vt, vb, vo', T, splice cT (t.toNat * 2 + 1) [.I (stepQ q x s.2.1).1.pc], B, rs', O', qs, fun i y r hy hr => ?_, ⟨by simpa using h1, by simpa using h2, h3, h4⟩, dis, ?_, cl0.mono n1 (fun b hb _ => wl b hb) (fun _ h _ => h), ⟨fun i l' y hl' hy => ?_, u2, by simp only [List.length_append]; omega⟩, ⟨hP, by omega, fun b hb => (wl b hb).trans (fr b hb)⟩⟩
  · simp only at hy
    by_cases hit : i = t.toNat
    · subst hit
      rw [List.getElem?_set_self (by omega)] at hy
      rw [hp] at hr
      cases hy; cases hr
      exact tm'
    · rw [List.getElem?_set_ne (Ne.symm hit)] at hy
      have tmj := tm i y r hy hr
      have hRj : r.2 < H.n := by obtain ⟨_, _, z, _⟩ := tmj.vr_eq; exact z
      have hd := tmj.d
      have hne := dis i t.toNat r p hit hr hp
      have hnF : r.2 ∉ T :: p.2 :: P :: (fpB B rs ++ grB vo O) := fun hm => by
        simp at hm
        rcases hm with z | z | z | z | z
        · exact hd.1 z.symm
        · exact hne z
        · exact hd.2.2 z
        · exact tmj.f.2.1 z
        · exact tmj.g.2.1 z
      have hj2 : i * 2 ≠ t.toNat * 2 := by omega
      refine { bT := tm'.bT, sT := ?_, nT := tm'.nT, gR := tmj.gR.only oo (fun b hb => .inr (fun e => hnF (by rw [← e]; exact hb))), rb := tm'.rb, bP := tm'.bP, sP := tm'.sP, nP := tm'.nP, gO := tm'.gO, hb := tm'.hb, d := hd, f := ⟨tm'.f.1, fun hm => ?_, tm'.f.2.2⟩, g := ⟨tm'.g.1, fun hm => ?_, tm'.g.2.2⟩, fg := tm'.fg }
      · have hs := tmj.sT
        have hl1 := seg_len hs
        have hl2 := seg_len tmi.sT
        rw [splice_set (by omega)]
        rw [← hs]
        unfold seg
        rw [if_pos (by simp; omega), if_pos hl1]
        congr 1
        apply List.ext_getElem?
        intro k
        by_cases hk : k < 2
        · rw [List.getElem?_take_of_lt hk, List.getElem?_take_of_lt hk, List.getElem?_drop, List.getElem?_drop, List.getElem?_set_ne (by omega)]
        · rw [List.getElem?_eq_none (by simp; omega), List.getElem?_eq_none (by simp; omega)]
      · rcases hf _ hm with z | z
        · exact tmj.f.2.1 z
        · omega
      · rcases hO _ hm with z | z
        · exact tmj.g.2.1 z
        · omega
  · rw [← cellsT_set (by omega) h1]
    simp only [List.length_set]
    exact gT.spl tmi.bT tm'.bT (by simp; omega) (by simp) tm'.nT
  · simp only at hy ⊢
    rw [u3]
    by_cases hit : i = t.toNat
    · subst hit
      rw [List.getElem?_set_self (by omega)] at hy
      cases hy
      rw [hl] at hl'; cases hl'
      exact vaTh_iff.2 ⟨c1, u1, c3⟩
    · rw [List.getElem?_set_ne (Ne.symm hit)] at hy
      exact va i l' y hl' hy
end Go.Proofs.YtcibjklpaljadaaGreat.AM
namespace Go.Proofs.YtcibjklpaljadaaGreat.AM
set_option linter.unusedSimpArgs false
set_option linter.unusedVariables false
set_option maxRecDepth 100000
set_option maxHeartbeats 4000000
open Go
attribute [-simp] AM.elems
abbrev zeroK : Cw := ⟨[], [], [], 0, 0, []⟩
abbrev zK : List AV := [.nils, .nils, .nils, .I 0, .I 0, .nils]
theorem CLV.nil {ok H v} (h : v = .nils ∨ v = .esl) : CLV ok H v [] := ⟨[], ⟨by simp, rfl, .inl ⟨rfl, h⟩⟩, rfl⟩
theorem ThV.nil {ok H v} (h : v = .nils ∨ v = .esl) : ThV ok H v [] := ⟨[], ⟨by simp, rfl, .inl ⟨rfl, h⟩⟩, rfl⟩
theorem zero_CwC {ok H} : CwC ok H zK zeroK := ⟨_, _, _, _, rfl, CLV.nil (.inl rfl), ThV.nil (.inl rfl), BV.nil (.inl rfl), IV.nilp (.inl rfl)⟩
theorem store_six {H : AH} {b : Nat} {cs l : List AV} (h : H.bk b = some ⟨cs, true⟩) (hc : cs.length = 6) (hl : l.length = 6) : H.store b 0 l = some (H.put b (some ⟨l, true⟩)) := by
  rw [store_bk h (by omega)]
  congr 3
  unfold splice
  simp; omega
theorem stepC_codes {w : Cw} : (stepC w).codes = w.codes := by
  unfold stepC
  cases qAt w.codes w.threads w.turn with
  | none => rfl
  | some p => rfl
theorem stepC_thl {w : Cw} : (stepC w).threads.length = w.threads.length := by
  unfold stepC
  cases qAt w.codes w.threads w.turn with
  | none => rfl
  | some p => simp
theorem runC_codes (n : Nat) : ∀ {w : Cw}, (runC n w).codes = w.codes ∧ (runC n w).threads.length = w.threads.length := by
  induction n with
  | zero => intro w; exact ⟨rfl, rfl⟩
  | succ n ih =>
    intro w
    unfold runC
    split
    · rw [ih.1, ih.2, stepC_codes, stepC_thl]; exact ⟨rfl, rfl⟩
    · exact ⟨rfl, rfl⟩
def runK (n : Int) (w : Cw) : Cw × Bool := if vaCw w = true ∧ 0 ≤ n ∧ n ≤ 100000 then (runC n.toNat w, true) else (zeroK, false)
section
variable {ok : Nat → Prop} {H : AH} {K : AV → AH → Prop} {wf : Fk K} {c : List AV} {w : Cw} {n : Int}
end
end Go.Proofs.YtcibjklpaljadaaGreat.AM
namespace Go.Proofs.YtcibjklpaljadaaGreat.AM
set_option linter.unusedSimpArgs false
set_option linter.unusedVariables false
set_option maxRecDepth 100000
set_option maxHeartbeats 4000000
open Go
attribute [-simp] AM.elems
abbrev z12 : List Int := [0, 0, 0, 0, 0, 0, 0, 0, 0, 0, 0, 0]
def newK (rooms : List Int) (codes : List (List Qd)) : Cw := ⟨codes, codes.map fun _ => ⟨z12, 0⟩, rooms.map fun x => ⟨x, []⟩, 0, 0, []⟩
section
variable {ok ok2 : Nat → Prop} {H : AH} {K : AV → AH → Prop} {wf : Fk K} {c : List AV}
end
end Go.Proofs.YtcibjklpaljadaaGreat.AM
namespace Go.Proofs.YtcibjklpaljadaaGreat.AM
set_option linter.unusedSimpArgs false
set_option linter.unusedVariables false
set_option maxRecDepth 100000
set_option maxHeartbeats 4000000
open Go
attribute [-simp] AM.elems
section
variable {ok ok2 : Nat → Prop} {H : AH} {K : AV → AH → Prop} {wf : Fk K} {c : List AV} {w : Cw}
theorem stepC_out {w : Cw} (h : vaCw w = true) (hi : w.idle < w.threads.length) : (stepC w).out.length ≤ w.out.length + 1 := by
  obtain ⟨_, _, _, _, _, p, e, hp⟩ := stepC_keeps h hi
  rw [e, List.length_append]; omega
theorem runC_keeps (n : Nat) : ∀ {w : Cw}, vaCw w = true → vaCw (runC n w) = true ∧ (runC n w).out.length ≤ w.out.length + n ∧ ∃ p, (runC n w).out = w.out ++ p := by
  induction n with
  | zero => intro w h; exact ⟨h, by simp [runC], [], by simp [runC]⟩
  | succ n ih =>
    intro w h
    unfold runC
    split
    · rename_i hi
      obtain ⟨a, b, p, e⟩ := ih (stepC_keeps h hi).1
      have := stepC_out h hi
      obtain ⟨_, _, _, _, _, p', e', hp⟩ := stepC_keeps h hi
      exact ⟨a, by omega, p' ++ p, by rw [e, e', List.append_assoc]⟩
    · exact ⟨h, by omega, [], by simp⟩
end
end Go.Proofs.YtcibjklpaljadaaGreat.AM
namespace Go.Proofs.YtcibjklpaljadaaGreat.AM
set_option linter.unusedSimpArgs false
set_option linter.unusedVariables false
set_option maxRecDepth 100000
set_option maxHeartbeats 4000000
open Go
attribute [-simp] AM.elems
def cE1 (at_ op n : Int) (sub : List Qd) : List Qd :=
  if op = 0 then [⟨1, at_, 0, 0, n⟩] else if op = 13 then [⟨2, at_, n, 0, 0⟩] else sub ++ [⟨3, at_, at_, at_ + 1, op⟩]
def compF : Exs → Int → List Qd
  | .nil, _ => []
  | .cons op n a r, at_ => cE1 at_ op n (compF a at_) ++ compF r (at_ + 1)
def compE (at_ : Int) (e : Ex) : List Qd := cE1 at_ e.op e.n (compF e.args at_)
theorem compF_two {a : Exs} {x y : Ex} (h : a.list = [x, y]) (at_ : Int) : compF a at_ = compE at_ x ++ compE (at_ + 1) y := by
  cases a with
  | nil => simp at h
  | cons op n a r =>
    cases r with
    | nil => simp at h
    | cons op' n' a' r' =>
      cases r' with
      | nil =>
        simp at h
        obtain ⟨rfl, rfl⟩ := h
        simp [compF, compE]
      | cons _ _ _ _ => simp at h
def CS (base : Nat) (H H' : AH) (v : AV) (B : Nat) (v' : AV) (B' : Nat) (L' : List Qd) : Prop :=
  GrS base H' v' L'.length 5 (qCs L') B' ∧ Only (grB v B) H H' ∧ (∀ b ∈ grB v' B', b ∈ grB v B ∨ H.n ≤ b)
theorem CS.trans {base H H1 H2 v B v1 B1 v2 B2 L1 L2} (h : CS base H H1 v B v1 B1 L1) (k : CS base H1 H2 v1 B1 v2 B2 L2) : CS base H H2 v B v2 B2 L2 := by
  obtain ⟨a1, a2, a3⟩ := h
  obtain ⟨b1, b2, b3⟩ := k
  have n1 := a2.1
  have n2 := b2.1
  refine ⟨b1, ⟨by omega, fun b hb hm => ?_⟩, fun b hb => ?_⟩
  · rw [b2.2 b (by omega) (fun hm1 => by rcases a3 b hm1 with z | z; exact hm z; omega), a2.2 b hb hm]
  · rcases b3 b hb with z | z
    · exact a3 b z
    · exact .inr (by omega)
theorem CS.post {base H H1 H2 v B v' B' L'} (h : CS base H H1 v B v' B' L') (x : Ext H1 H2) : CS base H H2 v B v' B' L' := by
  obtain ⟨a1, a2, a3⟩ := h
  exact ⟨a1.ext x, ⟨Nat.le_trans a2.1 x.1, fun b hb hm => by rw [x.2 b (Nat.lt_of_lt_of_le hb a2.1), a2.2 b hb hm]⟩, a3⟩
theorem CS.app {base H v B} {L : List Qd} (h : GrS base H v L.length 5 (qCs L) B) (hb : base ≤ H.n) (q : Qd) (hl : L.length < 100000000) :
    ∃ v' H' B', aapp (H.push (qC q)) 5 v 1 (qC q) = some (v', H') ∧ CS base H H' v B v' B' (L ++ [q]) ∧ v'.flat = true := by
  obtain ⟨v', H', B', a1, a2, a3, a4⟩ := (h.ext (Ext.push H (qC q))).app (by simp; omega) (k := 1) (new := qC q) rfl (by omega)
  have a2' : GrS base H' v' (L ++ [q]).length 5 (qCs (L ++ [q])) B' := by rw [qCs_app]; simpa [qCs] using a2
  refine ⟨v', H', B', a1, ⟨a2', ?_, fun b hb => ?_⟩, a2.flat⟩
  · have n4 := a4.1
    simp at n4
    exact ⟨by omega, fun b hb hm => (a4.2 b (by simp; omega) hm).trans (push_old hb rfl)⟩
  · rcases a3 with ⟨z1, z2⟩ | z
    · exact .inl (by rw [grB_sub hb, z1]; exact z2)
    · exact .inr (by rw [grB_sub hb, z]; simp)
theorem CS.le {base H H' v B v' B' L'} (h : CS base H H' v B v' B' L') : H.n ≤ H'.n := h.2.1.1
theorem CS.keep {base H H' v B v' B' L'} {P : Nat} {x} (h : CS base H H' v B v' B' L') (hP : P < H.n) (hm : P ∉ grB v B) (e : H.bk P = x) : H'.bk P = x := (h.2.1.2 P hP hm).trans e
end Go.Proofs.YtcibjklpaljadaaGreat.AM
namespace Go.Proofs.YtcibjklpaljadaaGreat.AM
set_option linter.unusedSimpArgs false
set_option linter.unusedVariables false
set_option maxRecDepth 100000
set_option maxHeartbeats 4000000
open Go
attribute [-simp] AM.elems
def stC (base : Nat) (k v b : Int) (E Y Z : List Qd) (nz : Nat) : List Qd :=
  if k = 1 then E ++ [⟨2, v, 4, 0, 0⟩]
  else if k = 4 then E ++ [⟨6, 0, 4, 0, b⟩]
  else if k = 5 then [⟨7, v, 0, 0, b⟩]
  else if k = 6 then [⟨8, 0, 0, 0, 0⟩]
  else if k = 7 then E ++ [⟨9, 0, 4, 0, 0⟩]
  else if k = 3 then E ++ ⟨5, 0, 4, 0, (base + E.length + 1 + Y.length + 1 : Nat)⟩ :: (Y ++ [⟨4, 0, 0, 0, base⟩])
  else if nz = 0 then E ++ ⟨5, 0, 4, 0, (base + E.length + 1 + Y.length : Nat)⟩ :: Y
  else E ++ ⟨5, 0, 4, 0, (base + E.length + 1 + Y.length + 1 : Nat)⟩ :: (Y ++ ⟨4, 0, 0, 0, (base + E.length + 1 + Y.length + 1 + Z.length : Nat)⟩ :: Z)
def cS : Sts → Nat → List Qd
  | .nil, _ => []
  | .cons k v b e y z r, base =>
    stC base k v b (compE 4 e) (cS y (base + (compE 4 e).length + 1)) (cS z (base + (compE 4 e).length + 1 + (cS y (base + (compE 4 e).length + 1)).length + 1)) z.list.length ++
      cS r (base + (stC base k v b (compE 4 e) (cS y (base + (compE 4 e).length + 1)) (cS z (base + (compE 4 e).length + 1 + (cS y (base + (compE 4 e).length + 1)).length + 1)) z.list.length).length)
def cT (s : St1) (base : Nat) : List Qd :=
  stC base s.k s.v s.b (compE 4 s.e) (cS s.body (base + (compE 4 s.e).length + 1)) (cS s.els (base + (compE 4 s.e).length + 1 + (cS s.body (base + (compE 4 s.e).length + 1)).length + 1)) s.els.list.length
theorem cS_of {s : St1} {l : List St1} {base : Nat} : cS (Sts.of (s :: l)) base = cT s base ++ cS (Sts.of l) (base + (cT s base).length) := rfl
end Go.Proofs.YtcibjklpaljadaaGreat.AM
namespace Go.Proofs.YtcibjklpaljadaaGreat.AM
set_option linter.unusedSimpArgs false
set_option linter.unusedVariables false
set_option maxRecDepth 100000
set_option maxHeartbeats 4000000
open Go
attribute [-simp] AM.elems
def compT (f : Sts) : List Qd := cS f 0 ++ [⟨10, 0, 0, 0, 0⟩]
section
variable {ok : Nat → Prop} {H : AH} {K : AV → AH → Prop} {w : Fk K} {v : AV} {f : Sts}
end
end Go.Proofs.YtcibjklpaljadaaGreat.AM
namespace Go.Proofs.YtcibjklpaljadaaGreat.AM
set_option linter.unusedSimpArgs false
set_option linter.unusedVariables false
set_option maxRecDepth 100000
set_option maxHeartbeats 2000000
open Go
attribute [-simp] AM.elems
theorem cE1_len (a : Exs) : ∀ {at_ op n d : Int}, okE1 d op n a.list.length (okF (d - 1) a) = true → 1 ≤ (cE1 at_ op n (compF a at_)).length ∧ (cE1 at_ op n (compF a at_)).length + 1 ≤ 2 ^ d.toNat := by
  induction a using Exs.ind with
  | h a ih =>
  intro at_ op n d hok
  have hd : 0 < d := by
    unfold okE1 at hok
    by_cases h0 : op = 0
    · rw [if_pos h0] at hok; simp only [decide_eq_true_eq] at hok; omega
    by_cases h13 : op = 13
    · rw [if_neg h0, if_pos h13] at hok; simp only [decide_eq_true_eq] at hok; omega
    rw [if_neg h0, if_neg h13] at hok
    simp only [Bool.and_eq_true, decide_eq_true_eq] at hok
    omega
  obtain ⟨k, rfl⟩ : ∃ k : Nat, d = (k + 1 : Nat) := ⟨(d - 1).toNat, by omega⟩
  have hp : 1 ≤ 2 ^ k := Nat.one_le_two_pow
  have hpk : 2 ^ (((k + 1 : Nat) : Int).toNat) = 2 * 2 ^ k := by rw [Int.toNat_natCast, Nat.pow_succ]; omega
  rw [hpk]
  by_cases h0 : op = 0
  · unfold cE1; rw [if_pos h0]; simp; omega
  by_cases h13 : op = 13
  · unfold cE1; rw [if_neg h0, if_pos h13]; simp; omega
  obtain ⟨c0, c1, c2, c3⟩ := okE1_op hok h0 h13
  obtain ⟨x, y, hxy⟩ := two_of c2
  rw [okF_mem, hxy] at c3
  simp at c3
  have hk : ((k + 1 : Nat) : Int) - 1 = (k : Int) := by omega
  have c3' : okE (k : Int) x = true ∧ okE (k : Int) y = true := by simpa using c3
  have wx := ih x (by rw [hxy]; simp) (at_ := at_) (d := k) (op := x.op) (n := x.n) c3'.1
  have wy := ih y (by rw [hxy]; simp) (at_ := at_ + 1) (d := k) (op := y.op) (n := y.n) c3'.2
  rw [Int.toNat_natCast] at wx wy
  unfold cE1
  rw [if_neg h0, if_neg h13, compF_two hxy]
  unfold compE
  simp only [List.length_append, List.length_singleton]
  omega
theorem compE_len {e : Ex} (h : okE 5 e = true) (at_ : Int) : 1 ≤ (compE at_ e).length ∧ (compE at_ e).length ≤ 31 := by
  have := cE1_len e.args (at_ := at_) (op := e.op) (n := e.n) (d := 5) h
  unfold compE
  have e5 : (2 : Nat) ^ (5 : Int).toNat = 32 := rfl
  rw [e5] at this
  omega
theorem cT_len {s : St1} {n : Int} (hok : okT 3 n s = true) (base : Nat) (hy : ∀ b, (cS s.body b).length ≤ 34 * ctS s.body) (hz : ∀ b, (cS s.els b).length ≤ 34 * ctS s.els) : 1 ≤ (cT s base).length ∧ (cT s base).length ≤ 34 * ctT s := by
  obtain ⟨hk, hoe, _⟩ := okT_facts hok
  have hct : ctT s = 1 + ctS s.body + ctS s.els := rfl
  have h1 := hy (base + (compE 4 s.e).length + 1)
  have h2 := hz (base + (compE 4 s.e).length + 1 + (cS s.body (base + (compE 4 s.e).length + 1)).length + 1)
  unfold cT
  generalize cS s.body (base + (compE 4 s.e).length + 1) = Y at *
  generalize cS s.els (base + (compE 4 s.e).length + 1 + Y.length + 1) = Z at *
  unfold stC
  by_cases k5 : s.k = 5
  · rw [if_neg (by omega), if_neg (by omega), if_pos k5]; simp; omega
  by_cases k6 : s.k = 6
  · rw [if_neg (by omega), if_neg (by omega), if_neg (by omega), if_pos k6]; simp; omega
  have hE := compE_len (hoe k5 k6) 4
  generalize compE 4 s.e = E at *
  by_cases k1 : s.k = 1
  · rw [if_pos k1]; simp; omega
  by_cases k4 : s.k = 4
  · rw [if_neg (by omega), if_pos k4]; simp; omega
  by_cases k7 : s.k = 7
  · rw [if_neg (by omega), if_neg (by omega), if_neg (by omega), if_neg (by omega), if_pos k7]; simp; omega
  rw [if_neg k1, if_neg k4, if_neg k5, if_neg k6, if_neg k7]
  by_cases k3 : s.k = 3
  · rw [if_pos k3]; simp; omega
  rw [if_neg k3]
  split <;> simp <;> omega
theorem okT_yz {n : Int} {s : St1} (h : okT 3 n s = true) : (s.body.list.length = 0 ∨ okS 3 (n - 1) s.body = true) ∧ (s.els.list.length = 0 ∨ okS 3 (n - 1) s.els = true) := by
  unfold okT okS1 at h
  simp only [Bool.and_eq_true, Bool.or_eq_true, decide_eq_true_eq] at h
  rcases h.2 with q | q
  · have q1 := h.1
    unfold stV at q1
    by_cases k1 : s.k = 1
    · rw [if_pos k1] at q1; simp only [Bool.and_eq_true, decide_eq_true_eq] at q1; exact ⟨.inl q1.1.2.2.2.1, .inl q1.1.2.2.2.2⟩
    rw [if_neg k1, if_neg q.1, if_neg q.2] at q1
    by_cases k4 : s.k = 4
    · rw [if_pos k4] at q1; simp only [Bool.and_eq_true, decide_eq_true_eq] at q1; exact ⟨.inl q1.1.2.2.2.1, .inl q1.1.2.2.2.2⟩
    rw [if_neg k4] at q1
    by_cases k5 : s.k = 5
    · rw [if_pos k5] at q1; simp only [Bool.and_eq_true, decide_eq_true_eq] at q1; exact ⟨.inl q1.1.2.2.2.2.1, .inl q1.1.2.2.2.2.2⟩
    rw [if_neg k5] at q1
    by_cases k6 : s.k = 6
    · rw [if_pos k6] at q1; simp only [Bool.and_eq_true, decide_eq_true_eq] at q1; exact ⟨.inl q1.1.2.2.1, .inl q1.1.2.2.2⟩
    rw [if_neg k6] at q1
    by_cases k7 : s.k = 7
    · rw [if_pos k7] at q1; simp only [Bool.and_eq_true, decide_eq_true_eq] at q1; exact ⟨.inl q1.1.2.2.1, .inl q1.1.2.2.2⟩
    rw [if_neg k7] at q1; cases q1
  · exact ⟨.inr q.1.2, .inr q.2⟩
theorem cS_nil {f : Sts} (h : f.list.length = 0) (b : Nat) : cS f b = [] := by
  cases f with
  | nil => rfl
  | cons => simp at h
theorem cS_len : ∀ {f : Sts} {n : Int}, okS 3 n f = true → ∀ base, (cS f base).length ≤ 34 * ctS f
  | .nil, _, _, _ => by simp [cS, ctS]
  | .cons k v b e y z r, n, h, base => by
    simp only [okS, Bool.and_eq_true] at h
    obtain ⟨h1, h2⟩ := h
    have hT : okT 3 n ⟨k, v, b, e, y, z⟩ = true := h1
    have hr := cS_len h2 (base + (cT ⟨k, v, b, e, y, z⟩ base).length)
    obtain ⟨hy, hz⟩ := okT_yz hT
    have hyz : (∀ b', (cS y b').length ≤ 34 * ctS y) ∧ (∀ b', (cS z b').length ≤ 34 * ctS z) := by
      refine ⟨fun b' => ?_, fun b' => ?_⟩
      · rcases hy with u | u
        · rw [cS_nil u]; simp
        · exact cS_len u b'
      · rcases hz with u | u
        · rw [cS_nil u]; simp
        · exact cS_len u b'
    have hs := cT_len hT base hyz.1 hyz.2
    have e1 : cS (.cons k v b e y z r) base = cT ⟨k, v, b, e, y, z⟩ base ++ cS r (base + (cT ⟨k, v, b, e, y, z⟩ base).length) := rfl
    rw [e1, List.length_append]
    have hct : ctT (⟨k, v, b, e, y, z⟩ : St1) = 1 + ctS y + ctS z := rfl
    have hc2 : ctS (.cons k v b e y z r) = 1 + ctS y + ctS z + ctS r := rfl
    omega
def quOk (M many : Int) (q : Qd) : Bool := quV M q && boxQ many q
theorem cE1_ok {M many : Int} (a : Exs) : ∀ {at_ op n d : Int}, okE1 d op n a.list.length (okF (d - 1) a) = true → 4 ≤ at_ → at_ + d ≤ 12 → ∀ q ∈ cE1 at_ op n (compF a at_), quOk M many q = true := by
  induction a using Exs.ind with
  | h a ih =>
  intro at_ op n d hok h4 h12 q hq
  unfold cE1 at hq
  by_cases h0 : op = 0
  · rw [if_pos h0] at hq
    unfold okE1 at hok
    rw [if_pos h0] at hok
    simp only [decide_eq_true_eq] at hok
    simp at hq
    subst hq
    have : isW n = true := isW_iff.2 (by omega)
    simp [quOk, quV, boxQ, reg, this]; omega
  rw [if_neg h0] at hq
  by_cases h13 : op = 13
  · rw [if_pos h13] at hq
    unfold okE1 at hok
    rw [if_neg h0, if_pos h13] at hok
    simp only [decide_eq_true_eq] at hok
    simp at hq
    subst hq
    simp [quOk, quV, boxQ, reg]; omega
  rw [if_neg h13] at hq
  obtain ⟨c0, c1, c2, c3⟩ := okE1_op hok h0 h13
  have hd1 : 1 < d := by
    unfold okE1 at hok
    rw [if_neg h0, if_neg h13] at hok
    simp only [Bool.and_eq_true, decide_eq_true_eq] at hok
    exact hok.1.2.2.2.2
  obtain ⟨x, y, hxy⟩ := two_of c2
  rw [okF_mem, hxy] at c3
  simp at c3
  rw [compF_two hxy] at hq
  simp only [List.mem_append, List.mem_singleton] at hq
  rcases hq with (q1 | q2) | q3
  · exact ih x (by rw [hxy]; simp) (at_ := at_) (d := d - 1) (op := x.op) (n := x.n) c3.1 h4 (by omega) q q1
  · exact ih y (by rw [hxy]; simp) (at_ := at_ + 1) (d := d - 1) (op := y.op) (n := y.n) c3.2 (by omega) (by omega) q q2
  · subst q3
    simp [quOk, quV, boxQ, reg]; omega
theorem cT_ok {M : Nat} {many : Int} {s : St1} {n : Int} (hok : okT 3 n s = true) (hbx : bxT many s = true) (base : Nat) (hM : base + (cT s base).length < M)
    (hy : ∀ b, b + (cS s.body b).length < M → ∀ q ∈ cS s.body b, quOk M many q = true) (hz : ∀ b, b + (cS s.els b).length < M → ∀ q ∈ cS s.els b, quOk M many q = true) : ∀ q ∈ cT s base, quOk M many q = true := by
  obtain ⟨hk, hoe, hsv, hsb, _⟩ := okT_facts hok
  have h1 := hy (base + (compE 4 s.e).length + 1)
  have h2 := hz (base + (compE 4 s.e).length + 1 + (cS s.body (base + (compE 4 s.e).length + 1)).length + 1)
  have hb2 : s.k = 4 ∨ s.k = 5 → s.b < many := fun h => by
    unfold bxT at hbx
    simp only [Bool.and_eq_true, decide_eq_true_eq] at hbx
    omega
  have hE : s.k ≠ 5 → s.k ≠ 6 → ∀ q ∈ compE 4 s.e, quOk M many q = true := fun a b q hq => cE1_ok s.e.args (at_ := 4) (d := 5) (op := s.e.op) (n := s.e.n) (hoe a b) (by omega) (by omega) q hq
  unfold cT at hM ⊢
  generalize cS s.body (base + (compE 4 s.e).length + 1) = Y at *
  generalize cS s.els (base + (compE 4 s.e).length + 1 + Y.length + 1) = Z at *
  generalize compE 4 s.e = E at *
  unfold stC at hM ⊢
  intro q hq
  by_cases k1 : s.k = 1
  · rw [if_pos k1] at hq hM
    simp only [List.mem_append, List.mem_singleton] at hq
    rcases hq with z | z
    · exact hE (by omega) (by omega) q z
    · subst z; have := hsv (.inl k1); simp [quOk, quV, boxQ, reg]; omega
  rw [if_neg k1] at hq hM
  by_cases k4 : s.k = 4
  · rw [if_pos k4] at hq hM
    simp only [List.mem_append, List.mem_singleton] at hq
    rcases hq with z | z
    · exact hE (by omega) (by omega) q z
    · subst z; have := hsb (.inl k4); have := hb2 (.inl k4); simp [quOk, quV, boxQ, reg]; omega
  rw [if_neg k4] at hq hM
  by_cases k5 : s.k = 5
  · rw [if_pos k5] at hq hM
    simp only [List.mem_singleton] at hq
    subst hq; have := hsb (.inr k5); have := hb2 (.inr k5); have := hsv (.inr k5); simp [quOk, quV, boxQ, reg]; omega
  rw [if_neg k5] at hq hM
  by_cases k6 : s.k = 6
  · rw [if_pos k6] at hq hM
    simp only [List.mem_singleton] at hq
    subst hq; simp [quOk, quV, boxQ, reg]
  rw [if_neg k6] at hq hM
  have hE := hE k5 k6
  by_cases k7 : s.k = 7
  · rw [if_pos k7] at hq hM
    simp only [List.mem_append, List.mem_singleton] at hq
    rcases hq with z | z
    · exact hE q z
    · subst z; simp [quOk, quV, boxQ, reg]
  rw [if_neg k7] at hq hM
  by_cases k3 : s.k = 3
  · rw [if_pos k3] at hq hM
    simp only [List.length_append, List.length_cons, List.length_nil] at hM
    simp only [List.mem_append, List.mem_cons, List.mem_singleton, List.not_mem_nil, or_false] at hq
    rcases hq with z | z | z | z
    · exact hE q z
    · subst z; simp [quOk, quV, boxQ, reg]; omega
    · exact h1 (by omega) q z
    · subst z; simp [quOk, quV, boxQ, reg]; omega
  rw [if_neg k3] at hq hM
  by_cases hz0 : s.els.list.length = 0
  · rw [if_pos hz0] at hq hM
    simp only [List.length_append, List.length_cons, List.length_nil] at hM
    simp only [List.mem_append, List.mem_cons] at hq
    rcases hq with z | z | z
    · exact hE q z
    · subst z; simp [quOk, quV, boxQ, reg]; omega
    · exact h1 (by omega) q z
  · rw [if_neg hz0] at hq hM
    simp only [List.length_append, List.length_cons, List.length_nil] at hM
    simp only [List.mem_append, List.mem_cons] at hq
    rcases hq with z | z | z | z | z
    · exact hE q z
    · subst z; simp [quOk, quV, boxQ, reg]; omega
    · exact h1 (by omega) q z
    · subst z; simp [quOk, quV, boxQ, reg]; omega
    · exact h2 (by omega) q z
theorem cS_ok {M : Nat} {many : Int} : ∀ {f : Sts} {n : Int}, okS 3 n f = true → bxS many f = true → ∀ base, base + (cS f base).length < M → ∀ q ∈ cS f base, quOk M many q = true
  | .nil, _, _, _, _, _, q, hq => by simp [cS] at hq
  | .cons k v b e y z r, n, h, hb, base, hM, q, hq => by
    simp only [okS, Bool.and_eq_true] at h
    obtain ⟨h1, h2⟩ := h
    have hT : okT 3 n ⟨k, v, b, e, y, z⟩ = true := h1
    simp only [bxS, Bool.and_eq_true, decide_eq_true_eq] at hb
    have hB : bxT many ⟨k, v, b, e, y, z⟩ = true := by unfold bxT; simp only [Bool.and_eq_true, decide_eq_true_eq]; exact hb.1
    have e1 : cS (.cons k v b e y z r) base = cT ⟨k, v, b, e, y, z⟩ base ++ cS r (base + (cT ⟨k, v, b, e, y, z⟩ base).length) := rfl
    rw [e1] at hM hq
    simp only [List.length_append] at hM
    obtain ⟨hy, hz⟩ := okT_yz hT
    rcases List.mem_append.1 hq with c | c
    · refine cT_ok hT hB base (by omega) (fun b' hb' q' hq' => ?_) (fun b' hb' q' hq' => ?_) q c
      · rcases hy with u | u
        · rw [cS_nil u] at hq'; simp at hq'
        · exact cS_ok u hb.1.2.1 b' hb' q' hq'
      · rcases hz with u | u
        · rw [cS_nil u] at hq'; simp at hq'
        · exact cS_ok u hb.1.2.2 b' hb' q' hq'
    · exact cS_ok h2 hb.2 _ (by omega) q c
theorem vaF_facts {many : Int} {f : Sts} (h : vaF many f = true) : okS 3 3 f = true ∧ ctS f ≤ 16 ∧ bxS many f = true := by
  unfold vaF vaS at h
  simp only [Bool.and_eq_true, decide_eq_true_eq] at h
  exact ⟨h.1.1, h.1.2, h.2⟩
theorem compT_va {many : Int} {f : Sts} (h : vaF many f = true) : (compT f).length ≤ 560 ∧ codeV (compT f) = true ∧ (compT f).all (boxQ many) = true := by
  obtain ⟨h1, h2, h3⟩ := vaF_facts h
  have hl := cS_len h1 0
  have hle : (compT f).length = (cS f 0).length + 1 := by simp [compT]
  have hall : ∀ q ∈ compT f, quOk (compT f).length many q = true := fun q hq => by
    unfold compT at hq
    rcases List.mem_append.1 hq with c | c
    · exact cS_ok h1 h3 0 (by omega) q c
    · simp at c; subst c; simp [quOk, quV, boxQ]
  refine ⟨by omega, ?_, List.all_eq_true.2 fun q hq => ?_⟩
  · unfold codeV
    simp only [Bool.and_eq_true, decide_eq_true_eq, List.all_eq_true]
    refine ⟨⟨by omega, fun q hq => ?_⟩, ?_⟩
    · have := hall q hq; unfold quOk at this; simp only [Bool.and_eq_true] at this; exact this.1
    · unfold lastOp compT; simp
  · have := hall q hq; unfold quOk at this; simp only [Bool.and_eq_true] at this; exact this.2
theorem newK_va {p : Pg} (h : vaPg p = true) : vaCw (newK p.rooms (p.tasks.map compT)) = true := by
  obtain ⟨hw, _, _⟩ := newW_bo h
  obtain ⟨w1, w2, w3, w4⟩ := vaWd_iff.1 hw
  unfold vaPg at h
  simp only [Bool.and_eq_true, decide_eq_true_eq, List.all_eq_true] at h
  refine vaCw_iff.2 ⟨by simp [newK]; omega, rfl, by simp [newK], w3, fun i l t hl ht => ?_⟩
  simp only [newK] at hl ht ⊢
  have hbl : (p.rooms.map fun x => (⟨x, []⟩ : Bx)).length = p.rooms.length := by simp
  rw [hbl]
  rw [List.getElem?_map] at hl
  obtain ⟨f, hf, rfl⟩ := Option.map_eq_some_iff.1 hl
  obtain ⟨c1, c2, c3⟩ := compT_va (h.2 f (List.mem_of_getElem? hf))
  have et : t = ⟨z12, 0⟩ := by
    rw [List.getElem?_map] at ht
    obtain ⟨_, _, rfl⟩ := Option.map_eq_some_iff.1 ht
    rfl
  subst et
  exact vaTh_iff.2 ⟨c2, thFit_iff.2 ⟨rfl, rfl, by simp, by have := (codeV_facts c2).1; simp; omega⟩, c3⟩
end Go.Proofs.YtcibjklpaljadaaGreat.AM
namespace Go.Proofs.YtcibjklpaljadaaGreat.AM
set_option linter.unusedSimpArgs false
set_option linter.unusedVariables false
set_option maxRecDepth 100000
set_option maxHeartbeats 2000000
open Go
attribute [-simp] AM.elems
def Sg (l : List Qd) (pc : Nat) (c : List Qd) : Prop := ∀ (i : Nat) (q : Qd), c[i]? = some q → l[pc + i]? = some q
theorem Sg.app {l pc a b} (h : Sg l pc (a ++ b)) : Sg l pc a ∧ Sg l (pc + a.length) b :=
  ⟨fun i q hq => h i q (by rw [List.getElem?_append_left (List.getElem?_eq_some_iff.1 hq).1]; exact hq),
   fun i q hq => by
    have := h (a.length + i) q (by rw [List.getElem?_append_right (by omega)]; rwa [show a.length + i - a.length = i by omega])
    rwa [← Nat.add_assoc] at this⟩
theorem Sg.cons {l pc q c} (h : Sg l pc (q :: c)) : l[pc]? = some q ∧ Sg l (pc + 1) c := by
  have h1 := Sg.app (a := [q]) (b := c) (by simpa using h)
  exact ⟨h 0 q rfl, by simpa using h1.2⟩
inductive Sil (l : List Qd) : Nat → Th → Th → Prop
  | refl {t} : Sil l 0 t t
  | step {k q t t1 t2} : l[t.pc.toNat]? = some q → (∀ bs, stepQ q t bs = (t1, bs, [], 1)) → Sil l k t1 t2 → Sil l (k + 1) t t2
theorem Sil.trans {l k t t1} (h : Sil l k t t1) : ∀ {j t2}, Sil l j t1 t2 → Sil l (k + j) t t2 := by
  induction h with
  | refl => intro j t2 h2; rw [Nat.zero_add]; exact h2
  | step a b c ih => intro j t2 h2; rw [show ∀ k, k + 1 + j = (k + j) + 1 by omega]; exact .step a b (ih h2)
theorem Sil.one {l q t t1} (h : l[t.pc.toNat]? = some q) (k : ∀ bs, stepQ q t bs = (t1, bs, [], 1)) : Sil l 1 t t1 := .step h k .refl
theorem set_get_lt {l : List Int} {i r : Nat} {x : Int} (h : r ≠ i) : (l.set i x)[r]? = l[r]? := List.getElem?_set_ne (Ne.symm h)
theorem evalS {l : List Qd} (a : Exs) : ∀ {at_ op n d : Int} {pc : Nat} {t : Th} {vars : List Int}, okE1 d op n a.list.length (okF (d - 1) a) = true → 4 ≤ at_ → at_ + d ≤ 12 → Sg l pc (cE1 at_ op n (compF a at_)) → t.pc = pc → t.regs.length = 12 → t.regs.take 4 = vars →
    ∃ t', Sil l (cE1 at_ op n (compF a at_)).length t t' ∧ t'.pc = (pc + (cE1 at_ op n (compF a at_)).length : Nat) ∧ t'.regs.length = 12 ∧ (∀ r : Nat, (r : Int) < at_ → t'.regs[r]? = t.regs[r]?) ∧ t'.regs[at_.toNat]? = some (evE1 vars op n (evF vars a)) := by
  induction a using Exs.ind with
  | h a ih =>
  intro at_ op n d pc t vars hok h4 h12 hs hpc hl hv
  have hd : 0 < d := by
    unfold okE1 at hok
    by_cases h0 : op = 0
    · rw [if_pos h0] at hok; simp only [decide_eq_true_eq] at hok; omega
    by_cases h13 : op = 13
    · rw [if_neg h0, if_pos h13] at hok; simp only [decide_eq_true_eq] at hok; omega
    rw [if_neg h0, if_neg h13] at hok
    simp only [Bool.and_eq_true, decide_eq_true_eq] at hok
    omega
  have hpt : t.pc.toNat = pc := by omega
  by_cases h0 : op = 0
  · have e : cE1 at_ op n (compF a at_) = [⟨1, at_, 0, 0, n⟩] := by unfold cE1; rw [if_pos h0]
    rw [e] at hs ⊢
    refine ⟨⟨t.regs.set at_.toNat n, t.pc + 1⟩, Sil.one (by rw [hpt]; exact hs.cons.1) (fun bs => by unfold stepQ; rw [if_pos rfl]), by simp [hpc], by simpa using hl, fun r hr => set_get_lt (by omega), ?_⟩
    simp only
    rw [List.getElem?_set_self (by omega)]
    unfold evE1; rw [if_pos h0]
  by_cases h13 : op = 13
  · have e : cE1 at_ op n (compF a at_) = [⟨2, at_, n, 0, 0⟩] := by unfold cE1; rw [if_neg h0, if_pos h13]
    rw [e] at hs ⊢
    have hn : 0 ≤ n ∧ n < 4 := by
      unfold okE1 at hok
      rw [if_neg h0, if_pos h13] at hok
      simp only [decide_eq_true_eq] at hok
      omega
    refine ⟨⟨t.regs.set at_.toNat (rg t n), t.pc + 1⟩, Sil.one (by rw [hpt]; exact hs.cons.1) (fun bs => by unfold stepQ; rw [if_neg (by simp), if_pos rfl]), by simp [hpc], by simpa using hl, fun r hr => set_get_lt (by omega), ?_⟩
    simp only
    rw [List.getElem?_set_self (by omega)]
    unfold evE1 rg
    rw [if_neg h0, if_pos h13, ← hv, List.getD_eq_getElem?_getD, List.getElem?_take_of_lt (by omega)]
  obtain ⟨c0, c1, c2, c3⟩ := okE1_op hok h0 h13
  have hd1 : 1 < d := by
    unfold okE1 at hok
    rw [if_neg h0, if_neg h13] at hok
    simp only [Bool.and_eq_true, decide_eq_true_eq] at hok
    exact hok.1.2.2.2.2
  obtain ⟨x, y, hxy⟩ := two_of c2
  rw [okF_mem, hxy] at c3
  simp at c3
  have e : cE1 at_ op n (compF a at_) = compE at_ x ++ compE (at_ + 1) y ++ [⟨3, at_, at_, at_ + 1, op⟩] := by unfold cE1; rw [if_neg h0, if_neg h13, compF_two hxy]
  rw [e] at hs ⊢
  obtain ⟨hs12, hs3⟩ := hs.app
  obtain ⟨hs1, hs2⟩ := hs12.app
  obtain ⟨t1, s1, p1, l1, r1, v1⟩ := ih x (by rw [hxy]; simp) (at_ := at_) (d := d - 1) (op := x.op) (n := x.n) c3.1 h4 (by omega) hs1 hpc hl hv
  have tk : ∀ {u u' : Th}, (∀ r : Nat, (r : Int) < at_ → u'.regs[r]? = u.regs[r]?) → u'.regs.take 4 = u.regs.take 4 := fun h => by
    apply List.ext_getElem?
    intro r
    by_cases hr : r < 4
    · rw [List.getElem?_take_of_lt hr, List.getElem?_take_of_lt hr]; exact h r (by omega)
    · rw [List.getElem?_eq_none (by simp; omega), List.getElem?_eq_none (by simp; omega)]
  obtain ⟨t2, s2, p2, l2, r2, v2⟩ := ih y (by rw [hxy]; simp) (at_ := at_ + 1) (d := d - 1) (op := y.op) (n := y.n) (vars := vars) c3.2 (by omega) (by omega) hs2 p1 l1 (by rw [tk r1, hv])
  have z1 : (cE1 at_ x.op x.n (compF x.args at_)) = compE at_ x := rfl
  have z2 : (cE1 (at_ + 1) y.op y.n (compF y.args (at_ + 1))) = compE (at_ + 1) y := rfl
  rw [z1] at s1 p1
  rw [z2] at s2 p2
  have v1' : t2.regs[at_.toNat]? = some (evE1 vars x.op x.n (evF vars x.args)) := by rw [r2 at_.toNat (by omega)]; exact v1
  have ga : rg t2 at_ = evE vars x := by unfold rg; rw [v1']; rfl
  have gb : rg t2 (at_ + 1) = evE vars y := by unfold rg; rw [v2]; rfl
  refine ⟨⟨t2.regs.set at_.toNat (applyM op (rg t2 at_) (rg t2 (at_ + 1))), t2.pc + 1⟩, ?_, ?_, by simpa using l2, fun r hr => ?_, ?_⟩
  · rw [List.length_append, List.length_append, List.length_singleton]
    refine (s1.trans s2).trans (Sil.one (q := ⟨3, at_, at_, at_ + 1, op⟩) ?_ (fun bs => ?_))
    · have := hs3.cons.1
      rw [List.length_append] at this
      rw [p2, Int.toNat_natCast, Nat.add_assoc]; exact this
    · unfold stepQ; rw [if_neg (by simp), if_neg (by simp), if_pos rfl]
  · simp only [p2, List.length_append, List.length_singleton]; omega
  · simp only
    rw [set_get_lt (by omega), r2 r (by omega), r1 r hr]
  · simp only
    rw [List.getElem?_set_self (by omega), ga, gb]
    unfold evE1
    rw [if_neg h0, if_neg h13, evF_map, hxy]
    rfl
inductive Pend (l : List Qd) : Nat → Nat → List St1 → Prop
  | done {pc} : l[pc]? = some ⟨10, 0, 0, 0, 0⟩ → Pend l 0 pc []
  | jump {lev pc t r} : l[pc]? = some ⟨4, 0, 0, 0, (t : Nat)⟩ → Pend l lev t r → Pend l (lev + 1) pc r
  | stmt {lev pc n s r} : Sg l pc (cT s pc) → okT 3 n s = true → 0 ≤ n → Pend l lev (pc + (cT s pc).length) r → (lev : Int) ≤ 3 - n → Pend l 0 pc (s :: r)
theorem Pend.list {l : List Qd} {n : Int} (hn : 0 ≤ n) {lev : Nat} {r : List St1} (hlev : (lev : Int) ≤ 3 - n) : ∀ (ys : List St1) (pc : Nat), (∀ s ∈ ys, okT 3 n s = true) → Sg l pc (cS (Sts.of ys) pc) → Pend l lev (pc + (cS (Sts.of ys) pc).length) r → ∃ lev', lev' ≤ lev ∧ Pend l lev' pc (ys ++ r)
  | [], pc, _, _, h => ⟨lev, Nat.le_refl _, by simpa [cS] using h⟩
  | s :: ys, pc, hok, hs, h => by
    rw [cS_of] at hs h
    obtain ⟨h1, h2⟩ := hs.app
    rw [List.length_append, ← Nat.add_assoc] at h
    obtain ⟨lev', hl, hp⟩ := Pend.list hn hlev ys (pc + (cT s pc).length) (fun x hx => hok x (List.mem_cons_of_mem _ hx)) h2 h
    exact ⟨0, by omega, .stmt h1 (hok s List.mem_cons_self) hn hp (by omega)⟩
theorem Pend.sil {l : List Qd} {lev pc r} (h : Pend l lev pc r) : ∀ {t : Th}, t.pc = (pc : Nat) → ∃ pc', Sil l lev t ⟨t.regs, (pc' : Nat)⟩ ∧ Pend l 0 pc' r := by
  induction h with
  | done h => intro t ht; exact ⟨_, by rw [← ht]; exact .refl, .done h⟩
  | stmt a b c d e ih => intro t ht; exact ⟨_, by rw [← ht]; exact .refl, .stmt a b c d e⟩
  | @jump lev pc u r a b ih =>
    intro t ht
    obtain ⟨pc', s, p⟩ := ih (t := ⟨t.regs, (u : Nat)⟩) rfl
    exact ⟨pc', .step (by rw [ht, Int.toNat_natCast]; exact a) (fun bs => by unfold stepQ; rw [if_neg (by simp), if_neg (by simp), if_neg (by simp), if_pos rfl]) s, p⟩
end Go.Proofs.YtcibjklpaljadaaGreat.AM
namespace Go.Proofs.YtcibjklpaljadaaGreat.AM
set_option linter.unusedSimpArgs false
set_option linter.unusedVariables false
set_option maxRecDepth 100000
set_option maxHeartbeats 2000000
open Go
attribute [-simp] AM.elems
def RelT (l : List Qd) (t : Tk) (th : Th) : Prop :=
  th.regs.length = 12 ∧ th.regs.take 4 = t.vars ∧ ∃ pc : Nat, th.pc = pc ∧
    ((∃ lev, lev ≤ 3 ∧ Pend l lev pc t.rest.list) ∨ ∃ s r lev, t.rest.list = s :: r ∧ s.k = 4 ∧ l[pc]? = some ⟨6, 0, 4, 0, s.b⟩ ∧ rg th 4 = evE t.vars s.e ∧ lev ≤ 3 ∧ Pend l lev (pc + 1) r)
theorem take_set4 {l : List Int} {i : Nat} {x : Int} (hi : i < 4) : (l.set i x).take 4 = (l.take 4).set i x := by
  apply List.ext_getElem?
  intro j
  by_cases hj : j < 4
  · rw [List.getElem?_take_of_lt hj]
    by_cases hij : j = i
    · subst hij
      by_cases hl : j < l.length
      · rw [List.getElem?_set_self hl, List.getElem?_set_self (by simp; omega)]
      · rw [List.getElem?_eq_none (by simp; omega), List.getElem?_eq_none (by simp; omega)]
    · rw [List.getElem?_set_ne (Ne.symm hij), List.getElem?_set_ne (Ne.symm hij), List.getElem?_take_of_lt hj]
  · rw [List.getElem?_eq_none (by simp; omega), List.getElem?_eq_none (by simp; omega)]
theorem evalT {l : List Qd} {e : Ex} {pc : Nat} {t : Th} (hok : okE 5 e = true) (hs : Sg l pc (compE 4 e)) (hpc : t.pc = pc) (hl : t.regs.length = 12) :
    ∃ t', Sil l (compE 4 e).length t t' ∧ t'.pc = (pc + (compE 4 e).length : Nat) ∧ t'.regs.length = 12 ∧ t'.regs.take 4 = t.regs.take 4 ∧ rg t' 4 = evE (t.regs.take 4) e := by
  obtain ⟨t', a1, a2, a3, a4, a5⟩ := evalS e.args (at_ := 4) (d := 5) (op := e.op) (n := e.n) (vars := t.regs.take 4) hok (by omega) (by omega) hs hpc hl rfl
  refine ⟨t', a1, a2, a3, ?_, ?_⟩
  · apply List.ext_getElem?
    intro r
    by_cases hr : r < 4
    · rw [List.getElem?_take_of_lt hr, List.getElem?_take_of_lt hr]; exact a4 r (by omega)
    · rw [List.getElem?_eq_none (by simp; omega), List.getElem?_eq_none (by simp; omega)]
  · unfold rg; rw [a5]; rfl
def Sim1 (l : List Qd) (t : Tk) (th : Th) (bs : List Bx) (K : Nat) : Prop :=
  ∃ k q th1 th2, Sil l k th th1 ∧ k ≤ K ∧ l[th1.pc.toNat]? = some q ∧ stepQ q th1 bs = (th2, (stepP t bs).2.1, (stepP t bs).2.2.1, (stepP t bs).2.2.2) ∧ RelT l (stepP t bs).1 th2 ∧ ((stepP t bs).2.2.2 = 3 ∨ (stepP t bs).2.2.2 = 4 → th2 = th1)
theorem send_sim {l : List Qd} {t : Tk} {th : Th} {bs : List Bx} {s : St1} {r : List St1} {pc lev : Nat} (hl : th.regs.length = 12) (hv : th.regs.take 4 = t.vars) (hr : t.rest.list = s :: r) (k4 : s.k = 4) (hpc : th.pc = pc) (hq : l[pc]? = some ⟨6, 0, 4, 0, s.b⟩) (he : rg th 4 = evE t.vars s.e) (hlev : lev ≤ 3) (hp : Pend l lev (pc + 1) r) :
    ∃ th2, stepQ ⟨6, 0, 4, 0, s.b⟩ th bs = (th2, (stepP t bs).2.1, (stepP t bs).2.2.1, (stepP t bs).2.2.2) ∧ RelT l (stepP t bs).1 th2 ∧ ((stepP t bs).2.2.2 = 3 ∨ (stepP t bs).2.2.2 = 4 → th2 = th) := by
  have e : stepP t bs = ((talkP t bs s r).1, (talkP t bs s r).2.1, [], (talkP t bs s r).2.2) := by unfold stepP; rw [hr]; simp [k4]
  have mid : RelT l t th := ⟨hl, hv, pc, hpc, .inr ⟨s, r, lev, hr, k4, hq, he, hlev, hp⟩⟩
  have e2 : stepQ ⟨6, 0, 4, 0, s.b⟩ th bs = match bs[s.b.toNat]? with
    | none => (th, bs, [], 3)
    | some bx => if (bx.items.length : Int) < bx.room then (⟨th.regs, th.pc + 1⟩, bs.set s.b.toNat ⟨bx.room, bx.items ++ [rg th 4]⟩, [], 1) else (th, bs, [], 3) := by
    unfold stepQ
    rw [if_neg (by simp), if_neg (by simp), if_neg (by simp), if_neg (by simp), if_neg (by simp), if_pos rfl]
    all_goals (cases bs[s.b.toNat]? <;> rfl)
  rw [e, e2]
  unfold talkP
  cases hb : bs[s.b.toNat]? with
  | none => exact ⟨th, rfl, mid, fun _ => rfl⟩
  | some bx =>
    simp only [if_pos k4]
    by_cases hroom : (bx.items.length : Int) < bx.room
    · rw [if_pos hroom, if_pos hroom]
      exact ⟨⟨th.regs, th.pc + 1⟩, by rw [he], ⟨hl, hv, pc + 1, by simp only [hpc]; omega, .inl ⟨lev, hlev, by rw [Sts.list_of]; exact hp⟩⟩, fun h => by simp at h⟩
    · rw [if_neg hroom, if_neg hroom]
      exact ⟨th, rfl, mid, fun _ => rfl⟩
theorem stmt_sim {l : List Qd} {t : Tk} {th : Th} {bs : List Bx} {s : St1} {r : List St1} {pc lev : Nat} {n : Int} (hl : th.regs.length = 12) (hv : th.regs.take 4 = t.vars) (hr : t.rest.list = s :: r) (hpc : th.pc = pc)
    (hs : Sg l pc (cT s pc)) (hok : okT 3 n s = true) (hn : 0 ≤ n) (hp : Pend l lev (pc + (cT s pc).length) r) (hlev : (lev : Int) ≤ 3 - n) : Sim1 l t th bs 31 := by
  obtain ⟨hk, hoe, hsv, hsb, _⟩ := okT_facts hok
  have hlev3 : lev ≤ 3 := by omega
  have hself : Sg l pc (cT s pc) := hs
  obtain ⟨hyy, hzz⟩ := okT_yz hok
  by_cases k5 : s.k = 5
  · have ec : cT s pc = [⟨7, s.v, 0, 0, s.b⟩] := by unfold cT stC; rw [if_neg (by omega), if_neg (by omega), if_pos k5]
    rw [ec] at hs hp
    have e : stepP t bs = ((talkP t bs s r).1, (talkP t bs s r).2.1, [], (talkP t bs s r).2.2) := by unfold stepP; rw [hr]; simp [k5]
    have self : RelT l t th := ⟨hl, hv, pc, hpc, .inl ⟨0, by omega, by rw [hr]; exact .stmt hself hok hn (by rw [ec]; exact hp) hlev⟩⟩
    refine ⟨0, ⟨7, s.v, 0, 0, s.b⟩, th, ?_⟩
    have hq := hs.cons.1
    have e2 : stepQ ⟨7, s.v, 0, 0, s.b⟩ th bs = match bs[s.b.toNat]? with
      | none => (th, bs, [], 3)
      | some bx =>
        match bx.items with
        | [] => (th, bs, [], 3)
        | y :: r => (⟨th.regs.set s.v.toNat y, th.pc + 1⟩, bs.set s.b.toNat ⟨bx.room, r⟩, [], 1) := by
      unfold stepQ
      rw [if_neg (by simp), if_neg (by simp), if_neg (by simp), if_neg (by simp), if_neg (by simp), if_neg (by simp), if_pos rfl]
      all_goals (rcases bs[s.b.toNat]? with _ | ⟨_, _ | _⟩ <;> rfl)
    have hq' : l[th.pc.toNat]? = some ⟨7, s.v, 0, 0, s.b⟩ := by rw [hpc, Int.toNat_natCast]; exact hq
    have hsv := hsv (.inr k5)
    rw [e]
    unfold talkP
    cases hb : bs[s.b.toNat]? with
    | none => exact ⟨th, .refl, by omega, hq', by rw [e2, hb], self, fun _ => rfl⟩
    | some bx =>
      simp only [if_neg (show ¬ s.k = 4 by omega)]
      cases hi : bx.items with
      | nil => exact ⟨th, .refl, by omega, hq', by rw [e2, hb]; simp only [hi], self, fun _ => rfl⟩
      | cons y qq =>
        refine ⟨⟨th.regs.set s.v.toNat y, th.pc + 1⟩, .refl, by omega, hq', by rw [e2, hb]; simp only [hi], ⟨by simpa using hl, by simp only; rw [take_set4 (by omega), hv], pc + 1, by simp only [hpc]; omega, .inl ⟨lev, hlev3, by rw [Sts.list_of]; exact hp⟩⟩, fun h => by simp at h⟩
  by_cases k6 : s.k = 6
  · have ec : cT s pc = [⟨8, 0, 0, 0, 0⟩] := by unfold cT stC; rw [if_neg (by omega), if_neg (by omega), if_neg (by omega), if_pos k6]
    rw [ec] at hs hp
    have e : stepP t bs = (⟨t.vars, Sts.of r⟩, bs, [], 2) := by unfold stepP; rw [hr]; simp [k6]
    rw [show Sim1 l t th bs 31 = _ from rfl]
    unfold Sim1
    rw [e]
    refine ⟨0, ⟨8, 0, 0, 0, 0⟩, th, ⟨th.regs, th.pc + 1⟩, .refl, by omega, by rw [hpc, Int.toNat_natCast]; exact hs.cons.1, by unfold stepQ; rw [if_neg (by simp), if_neg (by simp), if_neg (by simp), if_neg (by simp), if_neg (by simp), if_neg (by simp), if_neg (by simp), if_pos rfl], ⟨hl, hv, pc + 1, by simp only [hpc]; omega, .inl ⟨lev, hlev3, by rw [Sts.list_of]; exact hp⟩⟩, fun h => by simp at h⟩
  have hE := hoe k5 k6
  have hEl := compE_len hE 4
  have fin : ∀ (C : List Qd) (q : Qd) (e' : cT s pc = compE 4 s.e ++ q :: C), ∃ t1, Sil l (compE 4 s.e).length th t1 ∧ t1.pc = (pc + (compE 4 s.e).length : Nat) ∧ t1.regs.length = 12 ∧ t1.regs.take 4 = t.vars ∧ rg t1 4 = evE t.vars s.e ∧ l[t1.pc.toNat]? = some q ∧ Sg l (pc + (compE 4 s.e).length + 1) C := fun C q e' => by
    rw [e'] at hs
    obtain ⟨h1, h2⟩ := hs.app
    obtain ⟨h3, h4⟩ := h2.cons
    obtain ⟨t1, a1, a2, a3, a4, a5⟩ := evalT hE h1 hpc hl
    exact ⟨t1, a1, a2, a3, by rw [a4, hv], by rw [a5, hv], by rw [a2, Int.toNat_natCast]; exact h3, h4⟩
  by_cases k4 : s.k = 4
  · have ec : cT s pc = compE 4 s.e ++ [⟨6, 0, 4, 0, s.b⟩] := by unfold cT stC; rw [if_neg (by omega), if_pos k4]
    obtain ⟨t1, a1, a2, a3, a4, a5, a6, _⟩ := fin [] _ ec
    rw [ec] at hp
    simp only [List.length_append, List.length_singleton] at hp
    rw [← Nat.add_assoc] at hp
    rw [a2, Int.toNat_natCast] at a6
    obtain ⟨th2, b1, b2, b3⟩ := send_sim (bs := bs) a3 a4 hr k4 a2 a6 a5 hlev3 hp
    exact ⟨_, _, t1, th2, a1, by omega, by rw [a2, Int.toNat_natCast]; exact a6, b1, b2, b3⟩
  by_cases k1 : s.k = 1
  · have ec : cT s pc = compE 4 s.e ++ [⟨2, s.v, 4, 0, 0⟩] := by unfold cT stC; rw [if_pos k1]
    obtain ⟨t1, a1, a2, a3, a4, a5, a6, _⟩ := fin [] _ ec
    rw [ec] at hp
    simp only [List.length_append, List.length_singleton] at hp
    have e : stepP t bs = (⟨t.vars.set s.v.toNat (evE t.vars s.e), Sts.of r⟩, bs, [], 1) := by unfold stepP; rw [hr]; simp [k1]
    have hsv := hsv (.inl k1)
    unfold Sim1
    rw [e]
    refine ⟨_, _, t1, ⟨t1.regs.set s.v.toNat (rg t1 4), t1.pc + 1⟩, a1, by omega, a6, by unfold stepQ; rw [if_neg (by simp), if_pos rfl], ⟨by simpa using a3, by simp only; rw [take_set4 (by omega), a4, a5], pc + ((compE 4 s.e).length + 1), by simp only [a2]; omega, .inl ⟨lev, hlev3, by rw [Sts.list_of]; exact hp⟩⟩, fun h => by simp at h⟩
  by_cases k7 : s.k = 7
  · have ec : cT s pc = compE 4 s.e ++ [⟨9, 0, 4, 0, 0⟩] := by unfold cT stC; rw [if_neg k1, if_neg k4, if_neg k5, if_neg k6, if_pos k7]
    obtain ⟨t1, a1, a2, a3, a4, a5, a6, _⟩ := fin [] _ ec
    rw [ec] at hp
    simp only [List.length_append, List.length_singleton] at hp
    have e : stepP t bs = (⟨t.vars, Sts.of r⟩, bs, [evE t.vars s.e], 1) := by unfold stepP; rw [hr]; simp [k7]
    unfold Sim1
    rw [e]
    refine ⟨_, _, t1, ⟨t1.regs, t1.pc + 1⟩, a1, by omega, a6, by unfold stepQ; rw [if_neg (by simp), if_neg (by simp), if_neg (by simp), if_neg (by simp), if_neg (by simp), if_neg (by simp), if_neg (by simp), if_neg (by simp), if_pos rfl, a5], ⟨a3, a4, pc + ((compE 4 s.e).length + 1), by simp only [a2]; omega, .inl ⟨lev, hlev3, by rw [Sts.list_of]; exact hp⟩⟩, fun h => by simp at h⟩
  have k23 : s.k = 2 ∨ s.k = 3 := by omega
  have e : stepP t bs = (⟨t.vars, blkR s r (evE t.vars s.e)⟩, bs, [], 1) := by unfold stepP; rw [hr]; simp only; rw [if_neg (by omega), if_pos k23]
  have hn1 : 1 ≤ n := by
    unfold okT okS1 at hok
    simp only [Bool.and_eq_true, Bool.or_eq_true, decide_eq_true_eq] at hok
    rcases hok.2 with q | q
    · omega
    · exact q.1.1
  have okl : ∀ {f : Sts}, (f.list.length = 0 ∨ okS 3 (n - 1) f = true) → ∀ x ∈ f.list, okT 3 (n - 1) x = true := fun h x hx => by
    rcases h with u | u
    · rw [List.eq_nil_of_length_eq_zero u] at hx; simp at hx
    · rw [okS_mem] at u; exact List.all_eq_true.1 u x hx
  have sq : ∀ (N : Int) (u : Th), stepQ ⟨5, 0, 4, 0, N⟩ u bs = (⟨u.regs, if rg u 4 = 0 then N else u.pc + 1⟩, bs, [], 1) := fun N u => by
    unfold stepQ; rw [if_neg (by simp), if_neg (by simp), if_neg (by simp), if_neg (by simp), if_pos rfl]
  unfold Sim1
  rw [e]
  obtain ⟨Y, hY⟩ : ∃ Y, Y = cS s.body (pc + (compE 4 s.e).length + 1) := ⟨_, rfl⟩
  obtain ⟨Z, hZ⟩ : ∃ Z, Z = cS s.els (pc + (compE 4 s.e).length + 1 + Y.length + 1) := ⟨_, rfl⟩
  have hYl : cS (Sts.of s.body.list) (pc + (compE 4 s.e).length + 1) = Y := by rw [Sts.of_list]; exact hY.symm
  have hZl : cS (Sts.of s.els.list) (pc + (compE 4 s.e).length + 1 + Y.length + 1) = Z := by rw [Sts.of_list]; exact hZ.symm
  by_cases k3 : s.k = 3
  · have ec : cT s pc = compE 4 s.e ++ ⟨5, 0, 4, 0, (pc + (compE 4 s.e).length + 1 + Y.length + 1 : Nat)⟩ :: (Y ++ [⟨4, 0, 0, 0, pc⟩]) := by
      unfold cT; rw [← hY]; unfold stC; rw [if_neg k1, if_neg k4, if_neg k5, if_neg k6, if_neg k7, if_pos k3]
    obtain ⟨t1, a1, a2, a3, a4, a5, a6, a7⟩ := fin _ _ ec
    obtain ⟨h1, h2⟩ := a7.app
    have hp0 := hp
    rw [ec] at hp
    simp only [List.length_append, List.length_cons, List.length_nil] at hp
    refine ⟨_, _, t1, _, a1, by omega, a6, sq _ _, ⟨a3, a4, ?_⟩, fun h => by simp at h⟩
    rw [a5]
    have eb : blkR s r (evE t.vars s.e) = if evE t.vars s.e ≠ 0 then Sts.of (s.body.list ++ (s :: r)) else Sts.of r := by unfold blkR; rw [if_neg (by omega)]
    rw [eb]
    by_cases hx : evE t.vars s.e = 0
    · simp only [hx, if_true]
      refine ⟨_, rfl, .inl ⟨lev, hlev3, ?_⟩⟩
      rw [if_neg (by simp), Sts.list_of]
      rw [show pc + (compE 4 s.e).length + 1 + Y.length + 1 = pc + ((compE 4 s.e).length + (Y.length + (0 + 1) + 1)) by omega]
      exact hp
    · simp only [hx, if_false]
      refine ⟨pc + (compE 4 s.e).length + 1, by rw [a2]; omega, .inl ?_⟩
      rw [if_pos hx, Sts.list_of]
      have back : Pend l 1 (pc + (compE 4 s.e).length + 1 + (cS (Sts.of s.body.list) (pc + (compE 4 s.e).length + 1)).length) (s :: r) := by
        rw [hYl]
        exact .jump (t := pc) h2.cons.1 (.stmt hself hok hn hp0 hlev)
      obtain ⟨lev', u1, u2⟩ := Pend.list (n := n - 1) (by omega) (lev := 1) (by omega) s.body.list _ (okl hyy) (by rw [hYl]; exact h1) back
      exact ⟨lev', by omega, u2⟩
  have k2 : s.k = 2 := by omega
  have eb : blkR s r (evE t.vars s.e) = Sts.of ((if evE t.vars s.e ≠ 0 then s.body else s.els).list ++ r) := by unfold blkR; rw [if_pos k2]
  by_cases hz : s.els.list.length = 0
  · have ec : cT s pc = compE 4 s.e ++ ⟨5, 0, 4, 0, (pc + (compE 4 s.e).length + 1 + Y.length : Nat)⟩ :: Y := by
      unfold cT; rw [← hY]; unfold stC; rw [if_neg k1, if_neg k4, if_neg k5, if_neg k6, if_neg k7, if_neg k3, if_pos hz]
    obtain ⟨t1, a1, a2, a3, a4, a5, a6, a7⟩ := fin _ _ ec
    rw [ec] at hp
    simp only [List.length_append, List.length_cons, List.length_nil] at hp
    rw [show pc + ((compE 4 s.e).length + (Y.length + 1)) = pc + (compE 4 s.e).length + 1 + Y.length by omega] at hp
    refine ⟨_, _, t1, _, a1, by omega, a6, sq _ _, ⟨a3, a4, ?_⟩, fun h => by simp at h⟩
    rw [a5, eb]
    by_cases hx : evE t.vars s.e = 0
    · simp only [hx, if_true]
      refine ⟨_, rfl, .inl ⟨lev, hlev3, ?_⟩⟩
      rw [Sts.list_of]
      have : (if (0 : Int) ≠ 0 then s.body else s.els).list = [] := by rw [if_neg (by simp)]; exact List.eq_nil_of_length_eq_zero hz
      rw [this, List.nil_append]
      exact hp
    · simp only [hx, if_false]
      refine ⟨pc + (compE 4 s.e).length + 1, by rw [a2]; omega, .inl ?_⟩
      rw [Sts.list_of, if_pos hx]
      obtain ⟨lev', u1, u2⟩ := Pend.list (n := n - 1) (by omega) (lev := lev) (by omega) s.body.list _ (okl hyy) (by rw [hYl]; exact a7) (by rw [hYl]; exact hp)
      exact ⟨lev', by omega, u2⟩
  · have ec : cT s pc = compE 4 s.e ++ ⟨5, 0, 4, 0, (pc + (compE 4 s.e).length + 1 + Y.length + 1 : Nat)⟩ :: (Y ++ ⟨4, 0, 0, 0, (pc + (compE 4 s.e).length + 1 + Y.length + 1 + Z.length : Nat)⟩ :: Z) := by
      unfold cT; rw [← hY, ← hZ]; unfold stC; rw [if_neg k1, if_neg k4, if_neg k5, if_neg k6, if_neg k7, if_neg k3, if_neg hz]
    obtain ⟨t1, a1, a2, a3, a4, a5, a6, a7⟩ := fin _ _ ec
    obtain ⟨h1, h2⟩ := a7.app
    obtain ⟨h3, h4⟩ := h2.cons
    rw [ec] at hp
    simp only [List.length_append, List.length_cons, List.length_nil] at hp
    rw [show pc + ((compE 4 s.e).length + (Y.length + (Z.length + 1) + 1)) = pc + (compE 4 s.e).length + 1 + Y.length + 1 + Z.length by omega] at hp
    refine ⟨_, _, t1, _, a1, by omega, a6, sq _ _, ⟨a3, a4, ?_⟩, fun h => by simp at h⟩
    rw [a5, eb]
    by_cases hx : evE t.vars s.e = 0
    · simp only [hx, if_true]
      refine ⟨_, rfl, .inl ?_⟩
      rw [Sts.list_of, if_neg (by simp)]
      obtain ⟨lev', u1, u2⟩ := Pend.list (n := n - 1) (by omega) (lev := lev) (by omega) s.els.list _ (okl hzz) (by rw [hZl]; exact h4) (by rw [hZl]; exact hp)
      exact ⟨lev', by omega, u2⟩
    · simp only [hx, if_false]
      refine ⟨pc + (compE 4 s.e).length + 1, by rw [a2]; omega, .inl ?_⟩
      rw [Sts.list_of, if_pos hx]
      obtain ⟨lev', u1, u2⟩ := Pend.list (n := n - 1) (by omega) (lev := lev + 1) (by omega) s.body.list _ (okl hyy) (by rw [hYl]; exact h1) (by rw [hYl]; exact .jump h3 hp)
      exact ⟨lev', by omega, u2⟩
theorem RelT.sim {l : List Qd} {t : Tk} {th : Th} {bs : List Bx} (h : RelT l t th) : Sim1 l t th bs 35 := by
  obtain ⟨hl, hv, pc, hpc, ⟨lev, hlev, hp⟩ | ⟨s, r, lev, hr, k4, hq, he, hlev, hp⟩⟩ := h
  · obtain ⟨pc', s1, p1⟩ := hp.sil hpc
    have lift : ∀ {K : Nat}, Sim1 l t ⟨th.regs, (pc' : Nat)⟩ bs K → Sim1 l t th bs (K + 3) := fun ⟨k, q, th1, th2, b1, b2, b3⟩ => ⟨lev + k, q, th1, th2, s1.trans b1, by omega, b3⟩
    generalize hR : t.rest.list = R at p1
    cases p1 with
    | done hd =>
      have e : stepP t bs = (t, bs, [], 4) := by unfold stepP; rw [hR]
      have : Sim1 l t ⟨th.regs, (pc' : Nat)⟩ bs 32 := by
        unfold Sim1
        rw [e]
        exact ⟨0, ⟨10, 0, 0, 0, 0⟩, ⟨th.regs, (pc' : Nat)⟩, ⟨th.regs, (pc' : Nat)⟩, .refl, by omega, by simp only [Int.toNat_natCast]; exact hd, by unfold stepQ; simp, ⟨hl, hv, pc', rfl, .inl ⟨0, by omega, by rw [hR]; exact .done hd⟩⟩, fun _ => rfl⟩
      exact lift this
    | stmt a b c d e =>
      have := lift (stmt_sim (bs := bs) hl hv hR rfl a b c d e)
      obtain ⟨k, q, th1, th2, b1, b2, b3⟩ := this
      exact ⟨k, q, th1, th2, b1, by omega, b3⟩
  · obtain ⟨th2, b1, b2, b3⟩ := send_sim (bs := bs) hl hv hr k4 hpc hq he hlev hp
    exact ⟨0, _, th, th2, .refl, by omega, by rw [hpc, Int.toNat_natCast]; exact hq, b1, b2, b3⟩
end Go.Proofs.YtcibjklpaljadaaGreat.AM
namespace Go.Proofs.YtcibjklpaljadaaGreat.AM
set_option linter.unusedSimpArgs false
set_option linter.unusedVariables false
set_option maxRecDepth 100000
set_option maxHeartbeats 2000000
open Go
attribute [-simp] AM.elems
theorem runC_succ {n : Nat} {c : Cw} (h : c.idle < c.threads.length) : runC (n + 1) c = runC n (stepC c) := by
  conv => lhs; unfold runC
  rw [if_pos h]
theorem runC_rest {n : Nat} {c : Cw} (h : ¬ c.idle < c.threads.length) : runC n c = c := by
  cases n with
  | zero => rfl
  | succ n => unfold runC; rw [if_neg h]
theorem runC_add (a b : Nat) : ∀ c : Cw, runC b (runC a c) = runC (a + b) c := by
  induction a with
  | zero => intro c; rw [Nat.zero_add]; rfl
  | succ a ih =>
    intro c
    rw [show a + 1 + b = (a + b) + 1 by omega]
    by_cases h : c.idle < c.threads.length
    · rw [runC_succ h, runC_succ h, ih]
    · rw [runC_rest h, runC_rest h, runC_rest h]
theorem stepC_of {c : Cw} {q : Qd} {th : Th} {l : List Qd} (hl : c.codes[c.turn.toNat]? = some l) (ht : c.threads[c.turn.toNat]? = some th) (hq : l[th.pc.toNat]? = some q) :
    stepC c = ⟨c.codes, c.threads.set c.turn.toNat (stepQ q th c.boxes).1, (stepQ q th c.boxes).2.1, (nextT c.threads.length c.turn c.idle (stepQ q th c.boxes).2.2.2).1, (nextT c.threads.length c.turn c.idle (stepQ q th c.boxes).2.2.2).2, c.out ++ (stepQ q th c.boxes).2.2.1⟩ := by
  unfold stepC qAt; rw [ht, hl]; simp [hq]
theorem sil_run {l : List Qd} {k : Nat} {t t' : Th} (h : Sil l k t t') : ∀ {c : Cw} (m : Nat), c.codes[c.turn.toNat]? = some l → c.threads[c.turn.toNat]? = some t → c.idle < c.threads.length →
    runC (k + m) c = runC m ⟨c.codes, c.threads.set c.turn.toNat t', c.boxes, c.turn, if k = 0 then c.idle else 0, c.out⟩ := by
  induction h with
  | refl =>
    intro c m hl ht hi
    rw [Nat.zero_add, set_same ht, if_pos rfl]
  | @step k q t t1 t2 a b s ih =>
    intro c m hl ht hi
    rw [show k + 1 + m = (k + m) + 1 by omega, runC_succ hi, stepC_of hl ht a, b c.boxes]
    have hlen := (List.getElem?_eq_some_iff.1 ht).1
    have hn : nextT c.threads.length c.turn c.idle 1 = (c.turn, 0) := by unfold nextT; rw [if_pos rfl]
    simp only [hn, List.append_nil]
    have := ih (c := ⟨c.codes, c.threads.set c.turn.toNat t1, c.boxes, c.turn, 0, c.out⟩) m hl (by simp only; rw [List.getElem?_set_self hlen]) (by simp only [List.length_set]; omega)
    rw [this]
    simp only [List.set_set, if_neg (Nat.succ_ne_zero k)]
    congr 1
    split <;> rfl
theorem stillQ {q : Qd} {th : Th} {bs : List Bx} (h : (stepQ q th bs).2.2.2 = 3 ∨ (stepQ q th bs).2.2.2 = 4) : (stepQ q th bs).1 = th ∧ (stepQ q th bs).2.1 = bs ∧ (stepQ q th bs).2.2.1 = [] := by
  unfold stepQ at h ⊢
  by_cases h1 : q.op = 1
  · rw [if_pos h1] at h; simp at h
  rw [if_neg h1] at h ⊢
  by_cases h2 : q.op = 2
  · rw [if_pos h2] at h; simp at h
  rw [if_neg h2] at h ⊢
  by_cases h3 : q.op = 3
  · rw [if_pos h3] at h; simp at h
  rw [if_neg h3] at h ⊢
  by_cases h4 : q.op = 4
  · rw [if_pos h4] at h; simp at h
  rw [if_neg h4] at h ⊢
  by_cases h5 : q.op = 5
  · rw [if_pos h5] at h; simp at h
  rw [if_neg h5] at h ⊢
  by_cases h6 : q.op = 6
  · rw [if_pos h6] at h ⊢
    cases hb : bs[q.n.toNat]? with
    | none => exact ⟨rfl, rfl, rfl⟩
    | some bx =>
      rw [hb] at h
      simp only at h ⊢
      split
      · rename_i hr; rw [if_pos hr] at h; simp at h
      · exact ⟨rfl, rfl, rfl⟩
  rw [if_neg h6] at h ⊢
  by_cases h7 : q.op = 7
  · rw [if_pos h7] at h ⊢
    cases hb : bs[q.n.toNat]? with
    | none => exact ⟨rfl, rfl, rfl⟩
    | some bx =>
      rw [hb] at h
      simp only at h ⊢
      cases hi : bx.items with
      | nil => exact ⟨rfl, rfl, rfl⟩
      | cons y r => rw [hi] at h; simp at h
  rw [if_neg h7] at h ⊢
  by_cases h8 : q.op = 8
  · rw [if_pos h8] at h; simp at h
  rw [if_neg h8] at h ⊢
  by_cases h9 : q.op = 9
  · rw [if_pos h9] at h; simp at h
  rw [if_neg h9]
  exact ⟨rfl, rfl, rfl⟩
structure RelC (w : Wd) (c : Cw) : Prop where
  tl : c.threads.length = w.tasks.length
  rel : ∀ (i : Nat) (l : List Qd) (t : Tk) (th : Th), c.codes[i]? = some l → w.tasks[i]? = some t → c.threads[i]? = some th → RelT l t th
  boxes : c.boxes = w.boxes
  out : c.out = w.out
  turn : c.turn = w.turn
  idle : c.idle ≤ w.idle
  va : vaWd w = true
  vc : vaCw c = true
  park : ∀ j : Int, 1 ≤ j → j ≤ w.idle → ∀ q th, qAt c.codes c.threads ((w.turn - j) % w.tasks.length) = some (q, th) → (stepQ q th c.boxes).2.2.2 = 3 ∨ (stepQ q th c.boxes).2.2.2 = 4
theorem RelC.step {w : Wd} {c : Cw} (h : RelC w c) (hi : w.idle < w.tasks.length) : ∃ m, 1 ≤ m ∧ m ≤ 36 ∧ RelC (stepW w) (runC m c) := by
  obtain ⟨h1, h2, h3, h4⟩ := vaWd_iff.1 h.va
  obtain ⟨g1, g2, g3, g4, g5⟩ := vaCw_iff.1 h.vc
  have htl := h.tl
  have htu := h.turn
  have hidl := h.idle
  obtain ⟨t, ht⟩ : ∃ t, w.tasks[w.turn.toNat]? = some t := ⟨_, List.getElem?_eq_getElem (by omega)⟩
  obtain ⟨l, hl⟩ : ∃ t, c.codes[w.turn.toNat]? = some t := ⟨_, List.getElem?_eq_getElem (by omega)⟩
  obtain ⟨th, hth⟩ : ∃ t, c.threads[w.turn.toNat]? = some t := ⟨_, List.getElem?_eq_getElem (by omega)⟩
  have hlen := (List.getElem?_eq_some_iff.1 hth).1
  have hlenw := (List.getElem?_eq_some_iff.1 ht).1
  obtain ⟨k, q, th1, th2, s1, s2, s3, s4, s5, s6⟩ := (h.rel _ l t th hl ht hth).sim (bs := w.boxes)
  have hcode := step_code' (bs := w.boxes) (h4 t (List.mem_of_getElem? ht))
  have e : stepW w = ⟨w.tasks.set w.turn.toNat (stepP t w.boxes).1, (stepP t w.boxes).2.1, (nextT w.tasks.length w.turn w.idle (stepP t w.boxes).2.2.2).1, (nextT w.tasks.length w.turn w.idle (stepP t w.boxes).2.2.2).2, w.out ++ (stepP t w.boxes).2.2.1⟩ := by
    unfold stepW; rw [ht]
  have hkw := (stepW_keeps h.va hi).1
  obtain ⟨ix, hix⟩ : ∃ ix : Int, ix = if k = 0 then c.idle else 0 := ⟨_, rfl⟩
  have hixl : ix ≤ w.idle ∧ 0 ≤ ix := by rw [hix]; split <;> omega
  have er : runC (k + 1) c = ⟨c.codes, c.threads.set w.turn.toNat th2, (stepP t w.boxes).2.1, (nextT w.tasks.length w.turn ix (stepP t w.boxes).2.2.2).1, (nextT w.tasks.length w.turn ix (stepP t w.boxes).2.2.2).2, w.out ++ (stepP t w.boxes).2.2.1⟩ := by
    rw [sil_run s1 1 (by rw [htu]; exact hl) (by rw [htu]; exact hth) (by omega), ← hix, htu]
    rw [show (1 : Nat) = 0 + 1 from rfl, runC_succ (by simp only [List.length_set]; omega)]
    have := stepC_of (c := ⟨c.codes, c.threads.set w.turn.toNat th1, c.boxes, w.turn, ix, c.out⟩) hl (by simp only; rw [List.getElem?_set_self hlen]) s3
    rw [this]
    simp only [h.boxes, s4, List.set_set, List.length_set, htl, h.out]
    rfl
  refine ⟨k + 1, by omega, by omega, ?_⟩
  have hkc := (runC_keeps (k + 1) h.vc).1
  rw [er] at hkc ⊢
  rw [e] at hkw ⊢
  refine ⟨by simpa using htl, fun i l' t' th' hl' ht' hth' => ?_, rfl, rfl, ?_, ?_, hkw, hkc, fun j hj1 hj2 q' th' hq' => ?_⟩
  · simp only at hl' ht' hth'
    by_cases hit : i = w.turn.toNat
    · subst hit
      rw [List.getElem?_set_self hlenw] at ht'
      rw [List.getElem?_set_self hlen] at hth'
      rw [hl] at hl'
      cases ht'; cases hth'; cases hl'
      exact s5
    · rw [List.getElem?_set_ne (Ne.symm hit)] at ht' hth'
      exact h.rel i l' t' th' hl' ht' hth'
  · simp only
    unfold nextT
    split
    · rfl
    split <;> rfl
  · simp only
    unfold nextT
    split
    · simp
    split
    · simp
    · simp only; omega
  · simp only at hj2 hq' ⊢
    by_cases c1 : (stepP t w.boxes).2.2.2 = 1
    · rw [c1] at hj2; simp [nextT] at hj2; omega
    by_cases c2 : (stepP t w.boxes).2.2.2 = 2
    · rw [c2] at hj2; simp [nextT] at hj2; omega
    have hs : (stepP t w.boxes).2.2.2 = 3 ∨ (stepP t w.boxes).2.2.2 = 4 := by omega
    have e12 := s6 hs
    subst e12
    have hsq : (stepQ q th2 w.boxes).2.2.2 = 3 ∨ (stepQ q th2 w.boxes).2.2.2 = 4 := by rw [s4]; exact hs
    have hbx : (stepP t w.boxes).2.1 = w.boxes := by
      have := (stillQ hsq).2.1
      rw [s4] at this
      exact this
    rw [hbx]
    have en : nextT w.tasks.length w.turn w.idle (stepP t w.boxes).2.2.2 = ((w.turn + 1) % w.tasks.length, w.idle + 1) := by unfold nextT; rw [if_neg c1, if_neg c2]
    rw [en] at hj2 hq'
    simp only [List.length_set] at hj2 hq'
    have hm : (((w.turn + 1) % w.tasks.length - j) % w.tasks.length) = (w.turn + 1 - j) % w.tasks.length := by
      rw [Int.emod_sub_emod]
    rw [hm] at hq'
    by_cases j1 : j = 1
    · subst j1
      rw [show w.turn + 1 - 1 = w.turn by omega, Int.emod_eq_of_lt (by omega) (by omega)] at hq'
      unfold qAt at hq'
      rw [List.getElem?_set_self hlen, hl] at hq'
      simp [s3] at hq'
      obtain ⟨rfl, rfl⟩ := hq'
      exact hsq
    · have hne : ((w.turn + 1 - j) % w.tasks.length) ≠ w.turn := fun he => by
        have m0 := Int.emod_nonneg (w.turn + 1 - j) (show (w.tasks.length : Int) ≠ 0 by omega)
        by_cases hc : 0 ≤ w.turn + 1 - j
        · rw [Int.emod_eq_of_lt hc (by omega)] at he; omega
        · have : (w.turn + 1 - j) % w.tasks.length = w.turn + 1 - j + w.tasks.length := by
            rw [← Int.add_emod_right, Int.emod_eq_of_lt (by omega) (by omega)]
          rw [this] at he; omega
      have m0 := Int.emod_nonneg (w.turn + 1 - j) (show (w.tasks.length : Int) ≠ 0 by omega)
      have := h.park (j - 1) (by omega) (by omega) q' th' (by
        rw [show w.turn - (j - 1) = w.turn + 1 - j by omega]
        unfold qAt at hq' ⊢
        rw [List.getElem?_set_ne (by omega)] at hq'
        exact hq')
      rw [h.boxes] at this
      exact this
theorem RelC.run (n : Nat) : ∀ {w : Wd} {c : Cw}, RelC w c → ∃ m, m ≤ 36 * n ∧ RelC (runW n w) (runC m c) ∧ ((runW n w).idle < (runW n w).tasks.length → n ≤ m) := by
  induction n with
  | zero => intro w c h; exact ⟨0, by omega, h, fun _ => by omega⟩
  | succ n ih =>
    intro w c h
    by_cases hi : w.idle < w.tasks.length
    · obtain ⟨m1, a0, a1, a2⟩ := h.step hi
      obtain ⟨m2, b1, b2, b3⟩ := ih a2
      rw [runC_add] at b2
      rw [runW_succ hi]
      exact ⟨m1 + m2, by omega, b2, fun hh => by have := b3 hh; omega⟩
    · rw [runW_rest hi]
      exact ⟨0, by omega, h, fun hh => absurd hh hi⟩
theorem RelC.new {p : Pg} (hv : vaPg p = true) : RelC (newW p) (newK p.rooms (p.tasks.map compT)) where
  tl := by simp [newW, newK]
  rel := fun i l t th hl ht hth => by
    simp only [newK, newW] at hl ht hth
    rw [List.getElem?_map] at hl ht
    obtain ⟨f, hf, rfl⟩ := Option.map_eq_some_iff.1 hl
    rw [hf] at ht
    simp at ht
    subst ht
    have et : th = ⟨z12, 0⟩ := by
      rw [List.getElem?_map] at hth
      obtain ⟨_, _, rfl⟩ := Option.map_eq_some_iff.1 hth
      rfl
    subst et
    have hv' := hv
    unfold vaPg at hv'
    simp only [Bool.and_eq_true, decide_eq_true_eq, List.all_eq_true] at hv'
    obtain ⟨o1, o2, o3⟩ := vaF_facts (hv'.2 f (List.mem_of_getElem? hf))
    have e0 : cS (Sts.of f.list) 0 = cS f 0 := by rw [Sts.of_list]
    have hd : Pend (compT f) 0 (0 + (cS (Sts.of f.list) 0).length) [] := by
      rw [e0, Nat.zero_add]
      refine .done ?_
      unfold compT
      simp
    obtain ⟨lev, u1, u2⟩ := Pend.list (l := compT f) (n := 3) (by omega) (lev := 0) (by omega) f.list 0 (fun s hs => by rw [okS_mem] at o1; exact List.all_eq_true.1 o1 s hs) (fun i q hq => by
      rw [e0] at hq
      unfold compT
      rw [Nat.zero_add, List.getElem?_append_left (List.getElem?_eq_some_iff.1 hq).1]; exact hq) hd
    rw [List.append_nil] at u2
    exact ⟨rfl, rfl, 0, rfl, .inl ⟨lev, by omega, u2⟩⟩
  boxes := rfl
  out := rfl
  turn := rfl
  idle := Int.le_refl _
  va := (newW_bo hv).1
  vc := newK_va hv
  park := fun j h1 h2 => by simp [newW] at h2; omega
end Go.Proofs.YtcibjklpaljadaaGreat.AM
namespace Go.Proofs.YtcibjklpaljadaaGreat.AM
set_option linter.unusedSimpArgs false
set_option linter.unusedVariables false
set_option maxRecDepth 100000
set_option maxHeartbeats 4000000
open Go
attribute [-simp] AM.elems
end Go.Proofs.YtcibjklpaljadaaGreat.AM
namespace Go.Proofs.YtcibjklpaljadaaGreat.AM
set_option linter.unusedSimpArgs false
set_option linter.unusedVariables false
set_option maxRecDepth 100000
set_option maxHeartbeats 4000000
open Go
attribute [-simp] AM.elems
end Go.Proofs.YtcibjklpaljadaaGreat.AM
namespace Go.Proofs.YtcibjklpaljadaaGreat.AM
set_option linter.unusedSimpArgs false
set_option linter.unusedVariables false
set_option maxRecDepth 100000
set_option maxHeartbeats 4000000
open Go
attribute [-simp] AM.elems
theorem CS.qv {base H H' v B v' B' L'} {ok : Nat → Prop} {u : AV} {l : List Qd} (h : CS base H H' v B v' B' L') (q : QV ok H u l) (hd : ∀ b, ok b → b < H.n → b ∉ grB v B) : QV ok H' u l :=
  q.mono h.le (fun b hb hn => h.2.1.2 b hn (hd b hb hn)) (fun _ h _ => h)
theorem CS.ext' {base H0 H H' v B v' B' L'} (h : CS base H H' v B v' B' L') (x : Ext H0 H) (hb : ∀ b ∈ grB v B, H0.n ≤ b) : Ext H0 H' :=
  ⟨Nat.le_trans x.1 h.le, fun b hb' => (h.2.1.2 b (by have := x.1; omega) (fun hm => by have := hb b hm; omega)).trans (x.2 b hb')⟩
end Go.Proofs.YtcibjklpaljadaaGreat.AM
namespace Go.Proofs.YtcibjklpaljadaaGreat.AM
set_option linter.unusedSimpArgs false
set_option linter.unusedVariables false
set_option maxRecDepth 100000
set_option maxHeartbeats 4000000
open Go
attribute [-simp] AM.elems
section
variable {ok : Nat → Prop} {n : Int} {H : AH} {K : AV → AH → Prop} {w : Fk K} {c : List AV} {s : St1}
end
end Go.Proofs.YtcibjklpaljadaaGreat.AM
namespace Go.Proofs.YtcibjklpaljadaaGreat.AM
set_option linter.unusedSimpArgs false
set_option linter.unusedVariables false
set_option maxRecDepth 100000
set_option maxHeartbeats 4000000
open Go
attribute [-simp] AM.elems
section
variable {ok : Nat → Prop} {n : Int} {H : AH} {K : AV → AH → Prop} {w : Fk K} {c : List AV} {s : St1}
end
section
variable {ok : Nat → Prop} {H : AH} {K : AV → AH → Prop} {w : Fk K} {v : AV} {f : Sts}
end
end Go.Proofs.YtcibjklpaljadaaGreat.AM
namespace Go.Proofs.YtcibjklpaljadaaGreat.AM
set_option linter.unusedSimpArgs false
set_option linter.unusedVariables false
set_option maxRecDepth 100000
set_option maxHeartbeats 4000000
open Go
attribute [-simp] AM.elems
end Go.Proofs.YtcibjklpaljadaaGreat.AM
namespace Go.Proofs.YtcibjklpaljadaaGreat.AM
set_option linter.unusedSimpArgs false
set_option linter.unusedVariables false
set_option maxRecDepth 100000
set_option maxHeartbeats 4000000
open Go
attribute [-simp] AM.elems
def OS (H : AH) (v : AV) (b n sz : Nat) (cs : List AV) : Prop :=
  n ≤ 8589934592 ∧ cs.length = n * sz ∧ ((v = .nils ∧ n = 0) ∨ ∃ c ex, v = .sl b 0 n c ∧ capOk n sz c ∧ b < H.n ∧ H.bk b = some ⟨cs ++ ex, true⟩)
theorem OS.slc {ok : Nat → Prop} {H v b n sz cs} (h : OS H v b n sz cs) (ho : v ≠ .nils → ok b) : SlC ok H v n sz cs := by
  obtain ⟨h1, h2, ⟨rfl, rfl⟩ | ⟨c, ex, rfl, h3, h4, h5⟩⟩ := h
  · exact ⟨h1, h2, .inl ⟨rfl, .inl rfl⟩⟩
  · exact ⟨h1, h2, .inr ⟨b, 0, c, rfl, ⟨ho (by simp), h3⟩, h4, by rw [loadN_bk h5]; exact seg_app h2⟩⟩
theorem OS.flat {H v b n sz cs} (h : OS H v b n sz cs) : v.flat = true := (h.slc (ok := fun _ => True) (fun _ => trivial)).flat
theorem OS.alen {H v b n sz cs} (h : OS H v b n sz cs) : AM.alen v = some n := (h.slc (ok := fun _ => True) (fun _ => trivial)).alen
theorem OS.only {H H' v b n sz cs bs} (h : OS H v b n sz cs) (k : Only bs H H') (hb : ∀ x ∈ grB v b, x ∉ bs) : OS H' v b n sz cs := by
  obtain ⟨h1, h2, ⟨rfl, rfl⟩ | ⟨c, ex, rfl, h3, h4, h5⟩⟩ := h
  · exact ⟨h1, h2, .inl ⟨rfl, rfl⟩⟩
  · exact ⟨h1, h2, .inr ⟨c, ex, rfl, h3, Nat.lt_of_lt_of_le h4 k.1, k.bk h4 (hb b (by simp [grB])) h5⟩⟩
theorem OS.ext {H H' v b n sz cs} (h : OS H v b n sz cs) (k : Ext H H') : OS H' v b n sz cs := h.only (bs := []) k.only (by simp)
theorem OS.mem {H v b n sz cs} (h : OS H v b n sz cs) {x : Nat} (hx : x ∈ grB v b) : x = b ∧ b < H.n := by
  obtain ⟨h1, h2, ⟨rfl, rfl⟩ | ⟨c, ex, rfl, h3, h4, h5⟩⟩ := h
  · simp [grB] at hx
  · simp [grB] at hx; exact ⟨hx, h4⟩
theorem OS.new {G : AH} {n sz : Nat} {cs : List AV} (hn : n ≤ 8589934592) (hc : cs.length = n * sz) : OS (G.push cs) (.sl G.n 0 n (.ex n)) G.n n sz cs :=
  ⟨hn, hc, .inr ⟨_, [], rfl, Nat.le_refl _, Nat.lt_succ_self _, by rw [List.append_nil]; exact push_new⟩⟩
theorem GrS.os {base G v n sz cs B} (h : GrS base G v n sz cs B) : OS G v B n sz cs := by
  obtain ⟨h1, h2, h3⟩ := h
  refine ⟨by omega, h2, ?_⟩
  rcases h3 with ⟨rfl, h4⟩ | ⟨h4, h5, ⟨rfl, h6⟩ | ⟨c, ex, rfl, h7, h8, h9⟩⟩
  · exact .inl ⟨rfl, h4⟩
  · exact .inr ⟨_, [], rfl, Nat.le_refl _, h5, by rw [List.append_nil]; exact h6⟩
  · exact .inr ⟨_, ex, rfl, ⟨h7, rfl⟩, h5, h9⟩
theorem ISl.os {base G v l I} (h : ISl base G v l I) : OS G v I l.length 1 (Ints l) := h.grs.os
abbrev OI (H : AH) (v : AV) (b : Nat) (l : List Int) : Prop := OS H v b l.length 1 (Ints l)
abbrev OQ (H : AH) (v : AV) (b : Nat) (l : List Qd) : Prop := OS H v b l.length 5 (qCs l)
theorem OI.sees {H v b l} (h : OI H v b l) : SeesZ H v l := (show IV (fun _ => True) H v l from h.slc fun _ => trivial).sees
theorem OI.iv {ok : Nat → Prop} {H v b l} (h : OI H v b l) (ho : v ≠ .nils → ok b) : IV ok H v l := h.slc ho
theorem OQ.qv {ok : Nat → Prop} {H v b l} (h : OQ H v b l) (ho : v ≠ .nils → ok b) : QV ok H v l := h.slc ho
def OB (H : AH) (v : AV) (l : List Bx) (B : Nat) (rs : List (AV × Nat)) : Prop :=
  rs.length = l.length ∧ OS H v B l.length 2 (cellsB l rs) ∧ (∀ (i : Nat) (x : Bx) (p : AV × Nat), l[i]? = some x → rs[i]? = some p → OI H p.1 p.2 x.items ∧ B ∉ grB p.1 p.2) ∧
    (∀ (i j : Nat) (p q : AV × Nat), i ≠ j → rs[i]? = some p → rs[j]? = some q → ∀ b ∈ grB p.1 p.2, b ∉ grB q.1 q.2)
def fpO (v : AV) (B : Nat) (rs : List (AV × Nat)) : List Nat := grB v B ++ rs.flatMap fun p => grB p.1 p.2
theorem mem_fpO {v : AV} {B : Nat} {rs : List (AV × Nat)} {b : Nat} : b ∈ fpO v B rs ↔ b ∈ grB v B ∨ ∃ p ∈ rs, b ∈ grB p.1 p.2 := by simp [fpO]
theorem OB.only {H H' v l B rs bs} (h : OB H v l B rs) (k : Only bs H H') (hb : ∀ x ∈ fpO v B rs, x ∉ bs) : OB H' v l B rs := by
  obtain ⟨h1, h2, h3, h4⟩ := h
  exact ⟨h1, h2.only k (fun x hx => hb x (mem_fpO.2 (.inl hx))), fun i x p hx hp => ⟨(h3 i x p hx hp).1.only k (fun y hy => hb y (mem_fpO.2 (.inr ⟨p, List.mem_of_getElem? hp, hy⟩))), (h3 i x p hx hp).2⟩, h4⟩
theorem OB.ext {H H' v l B rs} (h : OB H v l B rs) (k : Ext H H') : OB H' v l B rs := h.only (bs := []) k.only (by simp)
theorem OB.mem {H v l B rs} (h : OB H v l B rs) {b : Nat} (hb : b ∈ fpO v B rs) : b < H.n := by
  obtain ⟨h1, h2, h3, h4⟩ := h
  rcases mem_fpO.1 hb with q | ⟨p, hp, q⟩
  · have := h2.mem q; omega
  · obtain ⟨i, hi, e⟩ := List.getElem_of_mem hp
    have hil : i < l.length := by omega
    have := (h3 i l[i] p (List.getElem?_eq_getElem hil) (by rw [List.getElem?_eq_getElem hi, e])).1.mem q
    omega
theorem cellsB_LF' {H : AH} {ok : Nat → Prop} : ∀ {l : List Bx} {r : List (AV × Nat)}, r.length = l.length → (∀ (i : Nat) (x : Bx) (p : AV × Nat), l[i]? = some x → r[i]? = some p → IV ok H p.1 x.items) → LF 2 (BC ok H) l (cellsB l r)
  | [], [], _, _ => rfl
  | x :: l, p :: r, h, k => ⟨[.I x.room, p.1], cellsB l r, rfl, rfl, ⟨p.1, rfl, k 0 x p rfl rfl⟩, cellsB_LF' (by simpa using h) (fun i y q h1 h2 => k (i + 1) y q (by simpa using h1) (by simpa using h2))⟩
  | [], _ :: _, h, _ => by simp at h
  | _ :: _, [], h, _ => by simp at h
theorem OB.bv {ok : Nat → Prop} {H v l B rs} (h : OB H v l B rs) (ho : ∀ b ∈ fpO v B rs, ok b) : BV ok H v l := by
  obtain ⟨h1, h2, h3, h4⟩ := h
  have gr : ∀ {u : AV} {b : Nat}, u ≠ .nils → b ∈ grB u b := fun {u b} hu => by cases u <;> simp [grB] at hu ⊢
  refine ⟨_, h2.slc fun hv => ho B (mem_fpO.2 (.inl (gr hv))), cellsB_LF' h1 fun i x p hx hp => ?_⟩
  exact (h3 i x p hx hp).1.iv fun hv => ho _ (mem_fpO.2 (.inr ⟨p, List.mem_of_getElem? hp, gr hv⟩))
def ArgI (H : AH) (v : AV) (l : List Int) : Prop := alen v = some l.length ∧ l.length ≤ 9223372036854775807 ∧ v.flat = true ∧ (l.length ≤ 8589934592 → IV (fun _ => True) H v l)
def ArgQ (H : AH) (v : AV) (l : List Qd) : Prop := alen v = some l.length ∧ l.length ≤ 9223372036854775807 ∧ v.flat = true ∧ (l.length ≤ 8589934592 → QV (fun _ => True) H v l)
def ArgB (H : AH) (v : AV) (l : List Bx) : Prop := alen v = some l.length ∧ l.length ≤ 9223372036854775807 ∧ v.flat = true ∧ (l.length ≤ 8589934592 → ∃ ca, SlC (fun _ => True) H v l.length 2 ca ∧ LF 2 (fun c (x : Bx) => ∃ vi, c = [.I x.room, vi] ∧ ArgI H vi x.items) l ca)
theorem ArgI.ext {H H' v l} (h : ArgI H v l) (k : Ext H H') : ArgI H' v l := ⟨h.1, h.2.1, h.2.2.1, fun q => (h.2.2.2 q).ext k⟩
theorem ArgQ.ext {H H' v l} (h : ArgQ H v l) (k : Ext H H') : ArgQ H' v l := ⟨h.1, h.2.1, h.2.2.1, fun q => (h.2.2.2 q).ext k⟩
theorem ArgB.ext {H H' v l} (h : ArgB H v l) (k : Ext H H') : ArgB H' v l := ⟨h.1, h.2.1, h.2.2.1, fun q => let ⟨ca, h1, h2⟩ := h.2.2.2 q; ⟨ca, h1.ext k, h2.imp fun _ _ ⟨vi, e, a⟩ => ⟨vi, e, a.ext k⟩⟩⟩
theorem ArgB.at {H v l} (h : ArgB H v l) (hl : l.length ≤ 8589934592) {i : Nat} {x : Bx} (hi : l[i]? = some x) : ∃ b o cap vi, v = .sl b o l.length cap ∧ b < H.n ∧ H.loadN b (o + i * 2) 2 = some [.I x.room, vi] ∧ ArgI H vi x.items := by
  obtain ⟨ca, h1, h2⟩ := h.2.2.2 hl
  have hil := (List.getElem?_eq_some_iff.1 hi).1
  obtain ⟨b, o, cap, e1, e2, e3, e4⟩ := h1.at hil
  obtain ⟨c, f1, vi, rfl, f2⟩ := h2.get hi
  exact ⟨b, o, cap, vi, e1, e3, by rw [e4 (i * 2) 2 (by omega)]; exact f1, f2⟩
theorem ArgB.bv {H v l} (h : ArgB H v l) (hl : l.length ≤ 8589934592) (hi : ∀ x ∈ l, x.items.length ≤ 8589934592) : BV (fun _ => True) H v l := by
  obtain ⟨ca, h1, h2⟩ := h.2.2.2 hl
  have : ∀ (l : List Bx) (ca : List AV), (∀ x ∈ l, x.items.length ≤ 8589934592) → LF 2 (fun c (x : Bx) => ∃ vi, c = [.I x.room, vi] ∧ ArgI H vi x.items) l ca → LF 2 (BC (fun _ => True) H) l ca := by
    intro l
    induction l with
    | nil => intro ca _ h; exact h
    | cons x l ih =>
      intro ca hi ⟨c, cr, e1, e2, ⟨vi, e3, e4⟩, e5⟩
      exact ⟨c, cr, e1, e2, ⟨vi, e3, e4.2.2.2 (hi x List.mem_cons_self)⟩, ih cr (fun y hy => hi y (List.mem_cons_of_mem _ hy)) e5⟩
  exact ⟨ca, h1, this l ca hi h2⟩
section
variable {H : AH} {K : AV → AH → Prop} {w : Fk K} {n : Int}
theorem K_wszQuadS {v : AV} {k : Nat} (h : alen v = some k) (hk : k ≤ 9223372036854775807) (hn : -1 ≤ n ∧ n ≤ 1048576) : CallF Cd f_wszQuadS [v, .I n] H K w = K (.I (if n - k < 0 then -1 else n - k)) H := by
  rw [CallF_eq e_wszQuadS rfl]
  simp (disch := omega) [h]
  refine cnd_iff (fun hn => ?_) (fun hn => ?_)
  · simp; exact Ki_fin (by rw [if_pos (by omega)])
  · simp; exact Ki_fin (by rw [if_neg (by omega)])
theorem K_wszThread {vr : AV} {pc : Int} {k : Nat} (h : alen vr = some k) (hk : k ≤ 9223372036854775807) (hn : -1 ≤ n ∧ n ≤ 1048576) (c : ∀ H', Ext H H' → K (.I (if n - k < 0 then -1 else n - k)) H') : CallF Cd f_wszThread [.agg [vr, .I pc], .I n] H K w := by
  rw [CallF_eq e_wszThread rfl]
  have cc := c _ (Ext.push H [vr, .I pc])
  by_cases h0 : n - (k : Int) < 0
  · rw [if_pos h0] at cc
    simp (disch := omega) [load_push, K_wszIntS' h hk, h0]
    exact cc
  · rw [if_neg h0] at cc
    simp (disch := omega) [load_push, K_wszIntS' h hk, h0]
    exact cc
theorem K_wszBox {vi : AV} {room : Int} {k : Nat} (h : alen vi = some k) (hk : k ≤ 9223372036854775807) (hn : -1 ≤ n ∧ n ≤ 1048576) (c : ∀ H', Ext H H' → K (.I (if n - k < 0 then -1 else n - k)) H') : CallF Cd f_wszBox [.agg [.I room, vi], .I n] H K w := by
  rw [CallF_eq e_wszBox rfl]
  have cc := c _ (Ext.push H [.I room, vi])
  by_cases h0 : n - (k : Int) < 0
  · rw [if_pos h0] at cc
    simp (disch := omega) [load_push, K_wszIntS' h hk, h0]
    exact cc
  · rw [if_neg h0] at cc
    simp (disch := omega) [load_push, K_wszIntS' h hk, h0]
    exact cc
theorem K_wszBoxS_l {H0 : AH} {v : AV} {l : List Bx} (h : ArgB H0 v l) (hl : l.length ≤ 1048576) {Q : Out → Env → AH → Prop} (hret : ∀ e H, Q .ret e H = bindO (get e 4) fun v => K v H) (hbad : ∀ H', Ext H0 H' → K (.I (-1)) H') {n0 : Int}
    (m i : Nat) (hm : i + m = l.length) {G : AH} (hx : Ext H0 G) {n : Int} (hn : 0 ≤ n ∧ n ≤ n0) (hn0 : n0 ≤ 1048576) (hall : ∀ j < i, ∀ x, l[j]? = some x → x.items.length ≤ 1048576)
    (hQ : ∀ e G' x, 0 ≤ x → x ≤ n0 → (∀ y ∈ l, y.items.length ≤ 1048576) → Ext H0 G' → get e 1 = some (.I x) → Q (.brk 0) e G') :
    W Cd (.loop c_wszBoxS_l0) [(0, v), (1, .I n), (5, .I i)] G Q := by
  induction m generalizing i G n with
  | zero =>
    rw [W_loop_as c_wszBoxS_l0.eq_1]
    have : i = l.length := by omega
    subst this
    simp [h.1]
    exact hQ _ G n hn.1 hn.2 (fun y hy => by
      obtain ⟨j, hj, e⟩ := List.getElem_of_mem hy
      exact hall j hj y (by rw [List.getElem?_eq_getElem hj, e])) hx rfl
  | succ m ih =>
    rw [W_loop_as c_wszBoxS_l0.eq_1]
    have hlt : i < l.length := by omega
    have hlt' : (i : Int) < l.length := by omega
    obtain ⟨x, hxi⟩ : ∃ x, l[i]? = some x := ⟨_, List.getElem?_eq_getElem hlt⟩
    have hal := h.1
    obtain ⟨b, o, cap, vi, e1, hb, l1, ai⟩ := (h.ext hx).at (by omega) hxi
    subst e1
    simp (disch := omega) [hlt', l1]
    refine K_wszBox ai.1 ai.2.1 (by omega) fun H2 x2 => ?_
    by_cases h0 : n - (x.items.length : Int) < 0
    · simp [h0, hret]
      exact hbad H2 (hx.trans x2)
    · have := ih (i + 1) (by omega) (hx.trans x2) (n := n - x.items.length) (by omega) (fun j hj y hy => by
        by_cases hji : j = i
        · subst hji; rw [hxi] at hy; cases hy; omega
        · exact hall j (by omega) y hy)
      simp (disch := omega) [h0]
      simpa using this
theorem K_wszBoxS {v : AV} {l : List Bx} (h : ArgB H v l) (hn : 0 ≤ n ∧ n ≤ 1048576) (k0 : ∀ H', Ext H H' → K (.I (-1)) H')
    (k1 : ∀ H' x, 0 ≤ x → x ≤ n → l.length ≤ 1048576 → (∀ y ∈ l, y.items.length ≤ 1048576) → Ext H H' → K (.I x) H') : CallF Cd f_wszBoxS [v, .I n] H K w := by
  rw [CallF_eq e_wszBoxS rfl]
  have hb := h.2.1
  by_cases h0 : n - (l.length : Int) < 0
  · simp (disch := omega) [h.1, h0]
    exact k0 H (Ext.refl _)
  · simp (disch := omega) [h.1, h0]
    have := K_wszBoxS_l (K := K) h (by omega) (Q := ?_) (fun e H => ?_) k0 (n0 := n) l.length 0 (by omega) (Ext.refl _) (n := n - l.length) (by omega) (by omega) (by simp) ?_
    · simpa using this
    · simp
    · intro e G' x h1 h2 h3 h4 h5
      simp [h5]
      exact k1 G' x h1 h2 (by omega) h3 h4
theorem K_wtoQuad {q : Qd} (k : ∀ H', Ext H H' → K (.agg (qC q)) H') : CallF Cd f_wtoQuad [.agg (qC q)] H K w := by
  rw [CallF_eq e_wtoQuad rfl]
  obtain ⟨op, dst, a, b, n⟩ := q
  simp [qC, load_push, load_put, loadN_push, loadN_put, AH.store]
  refine k _ ?_
  repeat' first | exact Ext.refl _ | apply Ext.to_push | omega | (simp only [push_n, put_n]; omega) | refine Ext.put ?_ ?_
end
end Go.Proofs.YtcibjklpaljadaaGreat.AM
namespace Go.Proofs.YtcibjklpaljadaaGreat.AM
set_option linter.unusedSimpArgs false
set_option linter.unusedVariables false
set_option maxRecDepth 100000
set_option maxHeartbeats 4000000
open Go
attribute [-simp] AM.elems
theorem splice_take {cs vs : List AV} {o : Nat} (h : o + vs.length ≤ cs.length) : (splice cs o vs).take (o + vs.length) = cs.take o ++ vs := by
  unfold splice
  rw [List.take_append_of_le_length (by simp; omega), List.take_of_length_le (by simp; omega)]
theorem splice_len {cs vs : List AV} {o : Nat} (h : o + vs.length ≤ cs.length) : (splice cs o vs).length = cs.length := by
  unfold splice
  simp; omega
section
variable {H : AH} {K : AV → AH → Prop} {w : Fk K}
theorem K_wtoQuadS_l {ok : Nat → Prop} {H0 : AH} {v : AV} {l : List Qd} {B : Nat} (h : QV ok H0 v l) {Q : Out → Env → AH → Prop} (hB : H0.n ≤ B)
    (hQ : ∀ e G', Ext H0 G' → B < G'.n → G'.bk B = some ⟨qCs l, true⟩ → get e 3 = some (.sl B 0 l.length (.ex l.length)) → Q (.brk 0) e G')
    (suf pre : List Qd) (hl : l = pre ++ suf) {G : AH} (cs : List AV) (hx : Ext H0 G) (hBn : B < G.n) (hb : G.bk B = some ⟨cs, true⟩) (hc : cs.length = l.length * 5) (ht : cs.take (pre.length * 5) = qCs pre) :
    W Cd (.loop c_wtoQuadS_l0) [(0, v), (3, .sl B 0 l.length (.ex l.length)), (4, .I pre.length)] G Q := by
  have hbig := h.big
  induction suf generalizing pre G cs with
  | nil =>
    rw [W_loop_as c_wtoQuadS_l0.eq_1]
    simp only [List.append_nil] at hl
    subst hl
    rw [List.take_of_length_le (by omega)] at ht
    subst ht
    simp [h.alen]
    exact hQ _ G hx hBn hb rfl
  | cons q suf ih =>
    rw [W_loop_as c_wtoQuadS_l0.eq_1]
    have hlen : l.length = pre.length + (suf.length + 1) := by rw [hl]; simp
    have hlt' : (pre.length : Int) < l.length := by omega
    have hq : l[pre.length]? = some q := by rw [hl]; simp
    have hal := h.alen
    obtain ⟨b, o, cap, e1, ob, hbn, l1⟩ := (h.ext hx).at hq
    subst e1
    have e5 : (qC q).length = 5 := rfl
    simp (disch := omega) [hlt', l1]
    refine K_wtoQuad fun H2 x2 => ?_
    have b2 := (x2.2 B hBn).trans hb
    have st := store_bk (o := pre.length * 5) (vs := qC q) b2 (by rw [e5]; omega)
    have := ih (pre ++ [q]) (by rw [hl]; simp) (splice cs (pre.length * 5) (qC q)) (G := H2.put B (some ⟨splice cs (pre.length * 5) (qC q), true⟩)) ((hx.trans x2).put hB) (by simp; have := x2.1; omega) put_same (by rw [splice_len (by rw [e5]; omega)]; exact hc) (by
      have := splice_take (cs := cs) (vs := qC q) (o := pre.length * 5) (by rw [e5]; omega)
      rw [e5] at this
      rw [List.length_append, List.length_singleton, Nat.add_mul, Nat.one_mul, this, ht, qCs_app]
      simp [qCs])
    simp (disch := omega) [e5, st]
    simpa [e5] using this
theorem K_wtoQuadS {ok : Nat → Prop} {v : AV} {l : List Qd} (h : QV ok H v l) (k : ∀ v' b H', OQ H' v' b l → v' ≠ .nils → H.n ≤ b → Ext H H' → K v' H') : CallF Cd f_wtoQuadS [v] H K w := by
  rw [CallF_eq e_wtoQuadS rfl]
  have hbig := h.big
  simp (disch := omega) [h.alen]
  have hbg : (l.length : Int) ≤ big := by unfold big; omega
  have := K_wtoQuadS_l (H0 := H) h (B := H.n) (Q := ?_) (Nat.le_refl _) ?_ l [] rfl (G := H.push (List.replicate l.length [.I 0, .I 0, .I 0, .I 0, .I 0]).flatten) (List.replicate l.length [.I 0, .I 0, .I 0, .I 0, .I 0]).flatten (Ext.push _ _) (by simp) push_new (by simp) (by simp [qCs])
  · simpa [hbg] using this
  · intro e G' x hn hb he
    simp [he]
    exact k _ H.n G' ⟨hbig, qCs_len, .inr ⟨_, [], rfl, Nat.le_refl _, hn, by rw [List.append_nil]; exact hb⟩⟩ (by simp) (Nat.le_refl _) x
theorem K_wtoI {v : AV} {l : List Int} (h : SeesZ H v l) (k : ∀ v' b H', OI H' v' b l → H.n ≤ b → Ext H H' → K v' H') : CallF Cd f_wtoIntS [v] H K w :=
  K_wtoIntS h (k _ H.n _ (OS.new h.2.1 (by simp [Ints])) (Nat.le_refl _) (Ext.push _ _))
theorem K_wtoBox {vi : AV} {room : Int} {l : List Int} (h : SeesZ H vi l) (k : ∀ v' b H', OI H' v' b l → H.n ≤ b → b < H'.n → Ext H H' → K (.agg [.I room, v']) H') : CallF Cd f_wtoBox [.agg [.I room, vi]] H K w := by
  have x1 : Ext H (((H.push [.I room, vi]).push [.I 0, .nils]).push [.I room, .nils]) := (Ext.push _ _).trans ((Ext.push _ _).trans (Ext.push _ _))
  rw [CallF_eq e_wtoBox rfl]
  have e : (((H.push [.I room, vi]).push [.I 0, .nils]).push [.I 0, .nils]).put (H.n + 1 + 1) (some ⟨[.I room, .nils], true⟩) = ((H.push [.I room, vi]).push [.I 0, .nils]).push [.I room, .nils] := push_put
  simp [load_push, load_put, AH.store, e]
  refine K_wtoIntS (h.ext x1) ?_
  simp [load_push, load_put, loadN_push, loadN_put, AH.store]
  refine k _ (H.n + 1 + 1 + 1) _ ⟨h.2.1, by simp [Ints], .inr ⟨_, [], rfl, Nat.le_refl _, ?_, ?_⟩⟩ (by omega) (by simp) ?_
  · simp
  · simp
  · repeat' first | exact Ext.refl _ | apply Ext.to_push | omega | (simp only [push_n, put_n]; omega) | refine Ext.put ?_ ?_
theorem K_wtoBoxS_l {ok : Nat → Prop} {H0 : AH} {v : AV} {l : List Bx} {B : Nat} (h : BV ok H0 v l) {Q : Out → Env → AH → Prop} (hB : H0.n ≤ B)
    (hQ : ∀ e G' rs, Ext H0 G' → (∀ p ∈ rs, ∀ b ∈ grB p.1 p.2, H0.n ≤ b) → OB G' (.sl B 0 l.length (.ex l.length)) l B rs → get e 3 = some (.sl B 0 l.length (.ex l.length)) → Q (.brk 0) e G')
    (suf pre : List Bx) (hl : l = pre ++ suf) {G : AH} (cs : List AV) (rs : List (AV × Nat)) (hx : Ext H0 G) (hBn : B < G.n) (hb : G.bk B = some ⟨cs, true⟩) (hc : cs.length = l.length * 2) (ht : cs.take (pre.length * 2) = cellsB pre rs) (hr : rs.length = pre.length)
    (h3 : ∀ (i : Nat) (x : Bx) (p : AV × Nat), pre[i]? = some x → rs[i]? = some p → OI G p.1 p.2 x.items ∧ B < p.2 ∧ p.2 < G.n) (h4 : ∀ (i j : Nat) (p q : AV × Nat), i ≠ j → rs[i]? = some p → rs[j]? = some q → p.2 ≠ q.2) :
    W Cd (.loop c_wtoBoxS_l0) [(0, v), (3, .sl B 0 l.length (.ex l.length)), (4, .I pre.length)] G Q := by
  have hbig := h.big
  have hal := h.alen
  induction suf generalizing pre G cs rs with
  | nil =>
    rw [W_loop_as c_wtoBoxS_l0.eq_1]
    simp only [List.append_nil] at hl
    subst hl
    rw [List.take_of_length_le (by omega)] at ht
    subst ht
    simp [hal]
    have gr : ∀ {u : AV} {b x : Nat}, x ∈ grB u b → x = b := fun h => grB_sub h
    refine hQ _ G rs hx (fun p hp b hbm => ?_) ⟨hr, ⟨hbig, hc, .inr ⟨_, [], rfl, Nat.le_refl _, hBn, by rw [List.append_nil]; exact hb⟩⟩, fun i x p hxi hp => ⟨(h3 i x p hxi hp).1, fun hm => ?_⟩, fun i j p q hij hp hq b hm hm' => ?_⟩ rfl
    · obtain ⟨i, hi, e⟩ := List.getElem_of_mem hp
      have hil : i < l.length := by omega
      have := (h3 i l[i] p (List.getElem?_eq_getElem hil) (by rw [List.getElem?_eq_getElem hi, e])).2
      have := gr hbm
      omega
    · have := (h3 i x p hxi hp).2
      have := gr hm
      omega
    · have := gr hm
      have := gr hm'
      exact h4 i j p q hij hp hq (by omega)
  | cons x suf ih =>
    rw [W_loop_as c_wtoBoxS_l0.eq_1]
    have hlen : l.length = pre.length + (suf.length + 1) := by rw [hl]; simp
    have hlt' : (pre.length : Int) < l.length := by omega
    have hq : l[pre.length]? = some x := by rw [hl]; simp
    obtain ⟨b, o, cap, vi, e1, ob, hbn, l1, iv⟩ := (h.ext hx).at hq
    subst e1
    simp (disch := omega) [hlt', l1]
    refine K_wtoBox iv.sees fun v' b' H2 o2 hb' bn2 x2 => ?_
    have n2 := x2.1
    have b2 := (x2.2 B hBn).trans hb
    have f2 := o2.flat
    have st := store_bk (o := pre.length * 2) (vs := [.I x.room, v']) b2 (by simp; omega)
    have on : Only [B] H2 (H2.put B (some ⟨splice cs (pre.length * 2) [.I x.room, v'], true⟩)) := Only.refl.put (.inr (by simp))
    have := ih (pre ++ [x]) (by rw [hl]; simp) (splice cs (pre.length * 2) [.I x.room, v']) (rs ++ [(v', b')]) (G := H2.put B (some ⟨splice cs (pre.length * 2) [.I x.room, v'], true⟩)) ((hx.trans x2).put hB) (by simp; omega) put_same (by rw [splice_len (by simp; omega)]; exact hc) (by
      have := splice_take (cs := cs) (vs := [.I x.room, v']) (o := pre.length * 2) (by simp; omega)
      simp only [List.length_cons, List.length_nil] at this
      rw [List.length_append, List.length_singleton, Nat.add_mul, Nat.one_mul, this, ht]
      exact cellsB_snoc (x := x) (p := (v', b')) hr) (by simp [hr]) (fun i y p hy hp => ?_) (fun i j p q hij hp hq' => ?_)
    · simp (disch := omega) [f2, flat_cells f2, flat_tup f2, st]
      simpa using this
    · by_cases hi : i < pre.length
      · rw [List.getElem?_append_left hi] at hy
        rw [List.getElem?_append_left (by omega)] at hp
        obtain ⟨q1, q2, q3⟩ := h3 i y p hy hp
        exact ⟨(q1.ext x2).only on (fun z hz => by have := grB_sub hz; simp; omega), q2, by simp; omega⟩
      · have hil := (List.getElem?_eq_some_iff.1 hy).1
        simp at hil
        have hie : i = pre.length := by omega
        subst hie
        rw [List.getElem?_append_right (by omega)] at hy hp
        simp [hr] at hy hp
        subst hy hp
        exact ⟨o2.only on (fun z hz => by have := grB_sub hz; simp; omega), by omega, by simp; omega⟩
    · have key : ∀ {i : Nat} {p : AV × Nat}, (rs ++ [(v', b')])[i]? = some p → (i < rs.length ∧ rs[i]? = some p ∧ p.2 < G.n) ∨ (i = rs.length ∧ p.2 = b') := fun {i p} hp => by
        by_cases hi : i < rs.length
        · rw [List.getElem?_append_left hi] at hp
          have hil : i < pre.length := by omega
          exact .inl ⟨hi, hp, (h3 i _ p (List.getElem?_eq_getElem hil) hp).2.2⟩
        · have hil := (List.getElem?_eq_some_iff.1 hp).1
          simp at hil
          have hie : i = rs.length := by omega
          subst hie
          simp at hp
          exact .inr ⟨rfl, by rw [← hp]⟩
      rcases key hp with ⟨a1, a2, a3⟩ | ⟨a1, a2⟩ <;> rcases key hq' with ⟨c1, c2, c3⟩ | ⟨c1, c2⟩
      · exact h4 i j p q hij a2 c2
      · omega
      · omega
      · omega
theorem K_wtoBoxS {ok : Nat → Prop} {v : AV} {l : List Bx} (h : BV ok H v l) (k : ∀ v' B rs H', OB H' v' l B rs → (∀ b ∈ fpO v' B rs, H.n ≤ b) → Ext H H' → K v' H') : CallF Cd f_wtoBoxS [v] H K w := by
  rw [CallF_eq e_wtoBoxS rfl]
  have hbig := h.big
  simp (disch := omega) [h.alen]
  have hbg : (l.length : Int) ≤ big := by unfold big; omega
  have := K_wtoBoxS_l (H0 := H) h (B := H.n) (Q := ?_) (Nat.le_refl _) ?_ l [] rfl (G := H.push (List.replicate l.length [.I 0, .nils]).flatten) (List.replicate l.length [.I 0, .nils]).flatten [] (Ext.push _ _) (by simp) push_new (by simp) (by simp [cellsB]) rfl (by simp) (by simp)
  · simpa [hbg] using this
  · intro e G' rs x hn ho he
    simp [he]
    refine k _ H.n rs G' ho (fun b hb => ?_) x
    rcases mem_fpO.1 hb with q | ⟨p, hp, q⟩
    · have := grB_sub q; omega
    · exact hn p hp b q
theorem T_weqQuad {q : Qd} (k : ∀ H', Ext H H' → K (.b true) H') : CallF Cd f_weqQuad [.agg (qC q), .agg (qC q)] H K w := by
  rw [CallF_eq e_weqQuad rfl]
  obtain ⟨op, dst, a, b, n⟩ := q
  simp [qC, load_push]
  exact k _ ((Ext.push _ _).trans (Ext.push _ _))
theorem T_weqQuadS_l {o1 o2 : Nat → Prop} {H0 : AH} {va vb : AV} {l : List Qd} {Q : Out → Env → AH → Prop} (h1 : QV o1 H0 va l) (h2 : QV o2 H0 vb l) (hQ : ∀ e H', Ext H0 H' → Q (.brk 0) e H') (m i : Nat) (hm : i + m = l.length) {G : AH} (hx : Ext H0 G) :
    W Cd (.loop c_weqQuadS_l0) [(0, va), (1, vb), (5, .I i)] G Q := by
  have hbig : l.length ≤ 8589934592 := h1.1
  induction m generalizing i G with
  | zero =>
    rw [W_loop_as c_weqQuadS_l0.eq_1]
    have : i = l.length := by omega
    subst this
    simp [h1.alen]
    exact hQ _ G hx
  | succ m ih =>
    rw [W_loop_as c_weqQuadS_l0.eq_1]
    have hlt : i < l.length := by omega
    have hlt' : (i : Int) < l.length := by omega
    obtain ⟨e, he⟩ : ∃ e, l[i]? = some e := ⟨_, List.getElem?_eq_getElem hlt⟩
    obtain ⟨b, o, cap, e1, ob, hb, l1⟩ := (h1.ext hx).at he
    obtain ⟨b2, o2, cap2, e2, ob2, hb2, l2⟩ := (h2.ext hx).at he
    have a1 := h1.alen
    subst e1 e2
    simp (disch := omega) [a1, hlt', l1, l2]
    refine T_weqQuad fun H2 x2 => ?_
    have := ih (i + 1) (by omega) (hx.trans x2)
    simp (disch := omega) [x2]
    simpa using this
theorem T_weqQuadS {o1 o2 : Nat → Prop} {va vb : AV} {l : List Qd} (h1 : QV o1 H va l) (h2 : QV o2 H vb l) (k : ∀ H', Ext H H' → K (.b true) H') : CallF Cd f_weqQuadS [va, vb] H K w := by
  rw [CallF_eq e_weqQuadS rfl]
  simp [h1.alen, h2.alen]
  have := T_weqQuadS_l h1 h2 (Q := ?_) ?_ l.length 0 (by omega) (Ext.refl _)
  · simpa using this
  · intro e H' x; simpa using k H' x
theorem T_weqThread {va vb : AV} {pc : Int} {l : List Int} (h1 : SeesZ H va l) (h2 : SeesZ H vb l) (k : ∀ H', Ext H H' → K (.b true) H') : CallF Cd f_weqThread [.agg [va, .I pc], .agg [vb, .I pc]] H K w := by
  rw [CallF_eq e_weqThread rfl]
  have x := (Ext.push H [va, .I pc]).trans (Ext.push _ [vb, .I pc])
  simp [load_push, K_weqIntS (h1.ext x) (h2.ext x)]
  exact k _ x
theorem T_weqBox {va vb : AV} {room : Int} {l : List Int} (h1 : SeesZ H va l) (h2 : SeesZ H vb l) (k : ∀ H', Ext H H' → K (.b true) H') : CallF Cd f_weqBox [.agg [.I room, va], .agg [.I room, vb]] H K w := by
  rw [CallF_eq e_weqBox rfl]
  have x := (Ext.push H [.I room, va]).trans (Ext.push _ [.I room, vb])
  simp [load_push, K_weqIntS (h1.ext x) (h2.ext x)]
  exact k _ x
theorem T_weqBoxS_l {o1 o2 : Nat → Prop} {H0 : AH} {va vb : AV} {l : List Bx} {Q : Out → Env → AH → Prop} (h1 : BV o1 H0 va l) (h2 : BV o2 H0 vb l) (hQ : ∀ e H', Ext H0 H' → Q (.brk 0) e H') (m i : Nat) (hm : i + m = l.length) {G : AH} (hx : Ext H0 G) :
    W Cd (.loop c_weqBoxS_l0) [(0, va), (1, vb), (5, .I i)] G Q := by
  have hbig : l.length ≤ 8589934592 := h1.big
  induction m generalizing i G with
  | zero =>
    rw [W_loop_as c_weqBoxS_l0.eq_1]
    have : i = l.length := by omega
    subst this
    simp [h1.alen]
    exact hQ _ G hx
  | succ m ih =>
    rw [W_loop_as c_weqBoxS_l0.eq_1]
    have hlt : i < l.length := by omega
    have hlt' : (i : Int) < l.length := by omega
    obtain ⟨e, he⟩ : ∃ e, l[i]? = some e := ⟨_, List.getElem?_eq_getElem hlt⟩
    obtain ⟨b, o, cap, vi, e1, ob, hb, l1, i1⟩ := (h1.ext hx).at he
    obtain ⟨b2, o2, cap2, vi2, e2, ob2, hb2, l2, i2⟩ := (h2.ext hx).at he
    have a1 := h1.alen
    subst e1 e2
    simp (disch := omega) [a1, hlt', l1, l2]
    refine T_weqBox i1.sees i2.sees fun H2 x2 => ?_
    have := ih (i + 1) (by omega) (hx.trans x2)
    simp (disch := omega) [x2]
    simpa using this
theorem T_weqBoxS {o1 o2 : Nat → Prop} {va vb : AV} {l : List Bx} (h1 : BV o1 H va l) (h2 : BV o2 H vb l) (k : ∀ H', Ext H H' → K (.b true) H') : CallF Cd f_weqBoxS [va, vb] H K w := by
  rw [CallF_eq e_weqBoxS rfl]
  simp [h1.alen, h2.alen]
  have := T_weqBoxS_l h1 h2 (Q := ?_) ?_ l.length 0 (by omega) (Ext.refl _)
  · simpa using this
  · intro e H' x; simpa using k H' x
end
end Go.Proofs.YtcibjklpaljadaaGreat.AM
namespace Go.Proofs.YtcibjklpaljadaaGreat.AM
set_option linter.unusedSimpArgs false
set_option linter.unusedVariables false
set_option maxRecDepth 100000
set_option maxHeartbeats 4000000
open Go
attribute [-simp] AM.elems
theorem splice_atN {A B : List AV} {x y : AV} {o : Nat} (h : A.length = o) : splice (A ++ x :: B) o [y] = A ++ y :: B := by subst h; exact splice_at
theorem nums_succ {k : Int} {i : Nat} : nums k (i + 1) = nums k i ++ [k + i] := by simp [nums, List.range_succ]
theorem set_mid {α : Type} {a b : List α} {x y : α} : (a ++ x :: b).set a.length y = a ++ y :: b := by simp
theorem get_mid {α : Type} {a b : List α} {x : α} : (a ++ x :: b)[a.length]? = some x := by simp
section
variable {H : AH} {K : AV → AH → Prop} {w : Fk K}
theorem K_wmarkI_l {b len : Nat} {cap : ACap} {k : Int} {ex : List AV} (hk : 0 ≤ k ∧ k ≤ 1125899906842624) {Q : Out → Env → AH → Prop} {H0 : AH} (hlen : len ≤ 8589934592)
    (hQ : ∀ e G', G'.bk b = some ⟨Ints (nums k len) ++ ex, true⟩ → Only [b] H0 G' → get e 1 = some (.I (k + len)) → Q (.brk 0) e G')
    (suf : List Int) (i : Nat) (hi : i + suf.length = len) {G : AH} (hG : G.bk b = some ⟨Ints (nums k i) ++ (Ints suf ++ ex), true⟩) (hO : Only [b] H0 G) :
    W Cd (.loop c_wmarkIntS_l0) [(0, .sl b 0 len cap), (1, .I (k + i)), (5, .I i)] G Q := by
  induction suf generalizing i G with
  | nil =>
    rw [W_loop_as c_wmarkIntS_l0.eq_1]
    have : i = len := by simpa using hi
    subst this
    simp
    exact hQ _ G (by simpa [Ints] using hG) hO rfl
  | cons z suf ih =>
    rw [W_loop_as c_wmarkIntS_l0.eq_1]
    simp only [List.length_cons] at hi
    have hlt : (i : Int) < len := by omega
    have hl : (Ints (nums k i)).length = i := by rw [Ints_len, nums_len]
    have hG' : G.bk b = some ⟨Ints (nums k i) ++ (.I z :: (Ints suf ++ ex)), true⟩ := hG
    have st := store_bk (o := i) (vs := [.I (k + i)]) hG' (by simp [hl] <;> omega)
    rw [splice_atN hl] at st
    have e : Ints (nums k i) ++ (.I (k + i) :: (Ints suf ++ ex)) = Ints (nums k (i + 1)) ++ (Ints suf ++ ex) := by rw [nums_succ]; simp [Ints]
    rw [e] at st
    have hr := ih (i + 1) (by omega) (G := G.put b (some ⟨Ints (nums k (i + 1)) ++ (Ints suf ++ ex), true⟩)) put_same (hO.put (by simp))
    simp (disch := omega) [hlt, st]
    rw [show k + (i : Int) + 1 = k + ((i + 1 : Nat) : Int) by omega]
    simpa using hr
theorem K_wmarkI {v : AV} {b : Nat} {l : List Int} {k : Int} (h : OI H v b l) (hk : 0 ≤ k ∧ k ≤ 1125899906842624)
    (c : ∀ H', OI H' v b (nums k l.length) → Only (grB v b) H H' → K (.I (k + l.length)) H') : CallF Cd f_wmarkIntS [v, .I k] H K w := by
  rw [CallF_eq e_wmarkIntS rfl]
  obtain ⟨hl, hc, ⟨rfl, h0⟩ | ⟨cap, ex, rfl, h3, h4, h5⟩⟩ := h
  · simp
    rw [W_loop_as c_wmarkIntS_l0.eq_1]
    simp
    have := c H ⟨by simp [nums, h0], by simp [nums, h0, Ints], .inl ⟨rfl, by simp [nums, h0]⟩⟩ Only.refl
    rw [h0] at this
    simpa using this
  · simp
    have := K_wmarkI_l (b := b) (cap := cap) (len := l.length) (k := k) (ex := ex) hk (Q := ?_) (H0 := H) hl ?_ l 0 (by omega) (G := H) (by simpa [nums, Ints] using h5) Only.refl
    · simpa using this
    · intro e G' g1 g2 g3
      simp [g3]
      exact c G' ⟨by rw [nums_len]; exact hl, by simp [Ints], .inr ⟨cap, ex, by rw [nums_len], by rw [nums_len]; exact h3, Nat.lt_of_lt_of_le h4 g2.1, g1⟩⟩ g2
theorem K_wheldI {v : AV} {b : Nat} {k : Int} {n : Nat} (h : OI H v b (nums k n)) (hk : 0 ≤ k ∧ k ≤ 1099511627776) (h1 : K (.I (k + n)) H) : CallF Cd f_wheldIntS [v, .I k] H K w := by
  have := K_wheldIntS (K := K) (w := w) (v := v) (l := List.replicate n (0 : Int)) (k := k) (by rw [List.length_replicate]; exact h.sees) hk (by rw [List.length_replicate]; exact h1)
  exact this
def marksQ : Int → List Qd → List Qd
  | _, [] => []
  | k, _ :: l => ⟨k, k + 1, k + 2, k + 3, k + 4⟩ :: marksQ (k + 5) l
theorem marksQ_len : ∀ {l : List Qd} {k : Int}, (marksQ k l).length = l.length
  | [], _ => rfl
  | _ :: l, k => by simp [marksQ, marksQ_len (l := l)]
theorem K_wmarkQuadS_l {b len : Nat} {cap : ACap} {ex : List AV} {Q : Out → Env → AH → Prop} {H0 : AH} (hlen : len ≤ 8589934592) (suf : List Qd) : ∀ (pre : List Qd) (hi : pre.length + suf.length = len) {k : Int} (hk : 0 ≤ k ∧ k + 5 * suf.length ≤ 1125899906842624) {G : AH} (hG : G.bk b = some ⟨qCs pre ++ (qCs suf ++ ex), true⟩) (hO : Only [b] H0 G)
    (hQ : ∀ e G', G'.bk b = some ⟨qCs (pre ++ marksQ k suf) ++ ex, true⟩ → Only [b] H0 G' → get e 1 = some (.I (k + 5 * suf.length)) → Q (.brk 0) e G'),
    W Cd (.loop c_wmarkQuadS_l0) [(0, .sl b 0 len cap), (1, .I k), (5, .I pre.length)] G Q := by
  induction suf with
  | nil =>
    intro pre hi k hk G hG hO hQ
    rw [W_loop_as c_wmarkQuadS_l0.eq_1]
    have : pre.length = len := by simpa using hi
    subst this
    simp
    exact hQ _ G (by simpa [marksQ, qCs] using hG) hO (by simp [get])
  | cons q suf ih =>
    intro pre hi k hk G hG hO hQ
    rw [W_loop_as c_wmarkQuadS_l0.eq_1]
    simp only [List.length_cons] at hi hk
    have hlt : (pre.length : Int) < len := by omega
    obtain ⟨P, hP⟩ : ∃ P, P = qCs pre := ⟨_, rfl⟩
    have hl : P.length = pre.length * 5 := by rw [hP, qCs_len]
    obtain ⟨R, hR⟩ : ∃ R, R = qCs suf ++ ex := ⟨_, rfl⟩
    have hG0 : G.bk b = some ⟨P ++ (.I q.op :: .I q.dst :: .I q.a :: .I q.b :: .I q.n :: R), true⟩ := by
      rw [hG, hP, hR]; simp [qCs, qC]
    have st0 := store_bk (o := pre.length * 5) (vs := [.I k]) hG0 (by simp [hl])
    rw [splice_atN hl] at st0
    have st1 := store_bk (H := G.put b (some ⟨P ++ (.I k :: .I q.dst :: .I q.a :: .I q.b :: .I q.n :: R), true⟩)) (b := b) (cs := (P ++ [.I k]) ++ (.I q.dst :: .I q.a :: .I q.b :: .I q.n :: R)) (o := pre.length * 5 + 1) (vs := [.I (k + 1)]) (by rw [put_same]; simp) (by simp [hl] <;> omega)
    rw [splice_atN (by simp [hl]), put_put] at st1
    have st2 := store_bk (H := G.put b (some ⟨(P ++ [.I k]) ++ (.I (k + 1) :: .I q.a :: .I q.b :: .I q.n :: R), true⟩)) (b := b) (cs := (P ++ [.I k, .I (k + 1)]) ++ (.I q.a :: .I q.b :: .I q.n :: R)) (o := pre.length * 5 + 2) (vs := [.I (k + 1 + 1)]) (by rw [put_same]; simp) (by simp [hl] <;> omega)
    rw [splice_atN (by simp [hl]), put_put] at st2
    have st3 := store_bk (H := G.put b (some ⟨(P ++ [.I k, .I (k + 1)]) ++ (.I (k + 1 + 1) :: .I q.b :: .I q.n :: R), true⟩)) (b := b) (cs := (P ++ [.I k, .I (k + 1), .I (k + 1 + 1)]) ++ (.I q.b :: .I q.n :: R)) (o := pre.length * 5 + 3) (vs := [.I (k + 1 + 1 + 1)]) (by rw [put_same]; simp) (by simp [hl] <;> omega)
    rw [splice_atN (by simp [hl]), put_put] at st3
    have st4 := store_bk (H := G.put b (some ⟨(P ++ [.I k, .I (k + 1), .I (k + 1 + 1)]) ++ (.I (k + 1 + 1 + 1) :: .I q.n :: R), true⟩)) (b := b) (cs := (P ++ [.I k, .I (k + 1), .I (k + 1 + 1), .I (k + 1 + 1 + 1)]) ++ (.I q.n :: R)) (o := pre.length * 5 + 4) (vs := [.I (k + 1 + 1 + 1 + 1)]) (by rw [put_same]; simp) (by simp [hl] <;> omega)
    rw [splice_atN (by simp [hl]), put_put] at st4
    have hr := ih (pre ++ [⟨k, k + 1, k + 2, k + 3, k + 4⟩]) (by simp; omega) (k := k + 5) ⟨by omega, by omega⟩ (G := G.put b (some ⟨(P ++ [.I k, .I (k + 1), .I (k + 1 + 1), .I (k + 1 + 1 + 1)]) ++ (.I (k + 1 + 1 + 1 + 1) :: R), true⟩)) (by
      rw [put_same, hP, hR, qCs_app]
      rw [show k + 1 + 1 = k + 2 by omega, show k + 2 + 1 = k + 3 by omega, show k + 3 + 1 = k + 4 by omega]
      simp [qCs, qC]) (hO.put (by simp)) (fun e G' g1 g2 g3 => hQ e G' (by rw [g1]; simp [marksQ]) g2 (by rw [g3]; simp only [List.length_cons]; congr 2; omega))
    simp only [List.append_assoc, List.cons_append, List.nil_append] at st1 st2 st3 st4 hr
    simp (disch := omega) [hlt, st0, st1, st2, st3, st4]
    rw [show k + 1 + 1 + 1 + 1 + 1 = k + 5 by omega]
    simpa using hr
theorem K_wmarkQuadS {v : AV} {b : Nat} {l : List Qd} {k : Int} (h : OQ H v b l) (hk : 0 ≤ k ∧ k + 5 * l.length ≤ 1125899906842624)
    (c : ∀ H', OQ H' v b (marksQ k l) → Only (grB v b) H H' → K (.I (k + 5 * l.length)) H') : CallF Cd f_wmarkQuadS [v, .I k] H K w := by
  rw [CallF_eq e_wmarkQuadS rfl]
  obtain ⟨hl, hc, ⟨rfl, h0⟩ | ⟨cap, ex, rfl, h3, h4, h5⟩⟩ := h
  · have hl0 : l = [] := List.eq_nil_of_length_eq_zero h0
    subst hl0
    simp
    rw [W_loop_as c_wmarkQuadS_l0.eq_1]
    simp
    have := c H ⟨by simp [marksQ], by simp [marksQ, qCs], .inl ⟨rfl, rfl⟩⟩ Only.refl
    simpa using this
  · simp
    have := K_wmarkQuadS_l (b := b) (cap := cap) (len := l.length) (ex := ex) (Q := ?_) (H0 := H) hl l [] (by simp) (k := k) hk (G := H) (by simpa [qCs] using h5) Only.refl ?_
    · simpa using this
    · intro e G' g1 g2 g3
      simp [g3]
      exact c G' ⟨by rw [marksQ_len]; exact hl, qCs_len, .inr ⟨cap, ex, by rw [marksQ_len], by rw [marksQ_len]; exact h3, Nat.lt_of_lt_of_le h4 g2.1, g1⟩⟩ g2
def szB (l : List Bx) : Nat := (l.map fun x => 1 + x.items.length).sum
theorem szB_cons {x : Bx} {l : List Bx} : szB (x :: l) = 1 + x.items.length + szB l := rfl
theorem szB_le {m : Nat} : ∀ {l : List Bx}, (∀ x ∈ l, x.items.length ≤ m) → szB l ≤ l.length * (1 + m)
  | [], _ => by simp [szB]
  | x :: l, h => by
    have := szB_le (m := m) (l := l) (fun y hy => h y (List.mem_cons_of_mem _ hy))
    have := h x List.mem_cons_self
    rw [szB_cons, List.length_cons, Nat.add_mul, Nat.one_mul]; omega
def marksB : Int → List Bx → List Bx
  | _, [] => []
  | k, x :: l => ⟨k, nums (k + 1) x.items.length⟩ :: marksB (k + 1 + x.items.length) l
theorem marksB_len : ∀ {l : List Bx} {k : Int}, (marksB k l).length = l.length
  | [], _ => rfl
  | _ :: l, k => by simp [marksB, marksB_len (l := l)]
theorem cellsB_room : ∀ {l : List Bx} {r : List (AV × Nat)} {i : Nat} {x : Bx} {p : AV × Nat} {q : List Int} {k : Int} {ex : List AV}, l[i]? = some x → r[i]? = some p → splice (cellsB l r ++ ex) (i * 2) [.I k] = cellsB (l.set i ⟨k, q⟩) r ++ ex
  | x :: l, p :: r, 0, _, _, _, _, _, h1, h2 => by simp at h1 h2; subst h1 h2; simp [cellsB, splice]
  | x :: l, p :: r, i + 1, y, q', q, k, ex, h1, h2 => by
    have := cellsB_room (l := l) (r := r) (i := i) (q := q) (k := k) (ex := ex) (by simpa using h1) (by simpa using h2)
    simp only [List.set_cons_succ, cellsB, List.cons_append]
    rw [← this]
    unfold splice
    rw [show (i + 1) * 2 = i * 2 + 1 + 1 by omega, show i * 2 + 1 + 1 + [AV.I k].length = i * 2 + [AV.I k].length + 1 + 1 by simp]
    simp [List.take_succ_cons]
  | [], _, i, _, _, _, _, _, h1, _ => by simp at h1
  | _ :: _, [], i, _, _, _, _, _, _, h2 => by simp at h2
theorem OB.set {G G2 : AH} {v : AV} {l : List Bx} {B : Nat} {rs : List (AV × Nat)} {i : Nat} {x : Bx} {p : AV × Nat} {k : Int} {it : List Int} {c : ACap} {ex : List AV} (h : OB G v l B rs) (hx : l[i]? = some x) (hp : rs[i]? = some p) (hv : v = .sl B 0 l.length c) (hc : capOk l.length 2 c)
    (hb : G2.bk B = some ⟨cellsB (l.set i ⟨k, it⟩) rs ++ ex, true⟩) (hbn : B < G2.n) (hi : OI G2 p.1 p.2 it) (ho : Only (B :: grB p.1 p.2) G G2) : OB G2 v (l.set i ⟨k, it⟩) B rs := by
  obtain ⟨h1, h2, h3, h4⟩ := h
  refine ⟨by simpa using h1, ⟨by simpa using h2.1, by rw [cellsB_len (by simpa using h1)], .inr ⟨c, ex, by simpa using hv, by simpa using hc, hbn, hb⟩⟩, fun j y q hy hq => ?_, h4⟩
  by_cases hj : j = i
  · subst hj
    rw [hp] at hq; cases hq
    have hil := (List.getElem?_eq_some_iff.1 hx).1
    rw [List.getElem?_set_self hil] at hy
    cases hy
    exact ⟨hi, (h3 j x p hx hp).2⟩
  · rw [List.getElem?_set_ne (Ne.symm hj)] at hy
    obtain ⟨q1, q2⟩ := h3 j y q hy hq
    refine ⟨q1.only ho fun z hz hm => ?_, q2⟩
    rcases List.mem_cons.1 hm with rfl | hm
    · exact q2 hz
    · exact h4 j i q p hj hq hp z hz hm
theorem K_wmarkBoxS_l {v : AV} {B : Nat} {rs : List (AV × Nat)} {Q : Out → Env → AH → Prop} {H0 : AH} (suf : List Bx) : ∀ (pre : List Bx) {k : Int} (hk : 0 ≤ k ∧ k + szB suf ≤ 1125899906842624) {G : AH} (hG : OB G v (pre ++ suf) B rs) (hO : Only (fpO v B rs) H0 G)
    (hQ : ∀ e G', OB G' v (pre ++ marksB k suf) B rs → Only (fpO v B rs) H0 G' → get e 1 = some (.I (k + szB suf)) → Q (.brk 0) e G'),
    W Cd (.loop c_wmarkBoxS_l0) [(0, v), (1, .I k), (5, .I pre.length)] G Q := by
  induction suf with
  | nil =>
    intro pre k hk G hG hO hQ
    rw [W_loop_as c_wmarkBoxS_l0.eq_1]
    have hal := hG.2.1.alen
    simp only [List.append_nil] at hal hG
    simp [hal]
    exact hQ _ G (by simpa [marksB] using hG) hO (by simp [get, szB])
  | cons x suf ih =>
    intro pre k hk G hG hO hQ
    rw [W_loop_as c_wmarkBoxS_l0.eq_1]
    have hal := hG.2.1.alen
    rw [szB_cons] at hk
    have hbig := hG.2.1.1
    have hlen : (pre ++ x :: suf).length = pre.length + (suf.length + 1) := by simp
    have hlt : (pre.length : Int) < ((pre ++ x :: suf).length : Nat) := by omega
    have hx : (pre ++ x :: suf)[pre.length]? = some x := get_mid
    obtain ⟨p, hp⟩ : ∃ p, rs[pre.length]? = some p := ⟨_, List.getElem?_eq_getElem (by rw [hG.1, hlen]; omega)⟩
    obtain ⟨i1, i2⟩ := hG.2.2.1 _ x p hx hp
    obtain ⟨g1, g2, ⟨_, g3⟩ | ⟨c, ex, hv, g3, g4, g5⟩⟩ := id hG.2.1
    · omega
    obtain ⟨N, hN⟩ : ∃ N, N = (pre ++ x :: suf).length := ⟨_, rfl⟩
    rw [← hN] at hv hal hlt
    subst hv
    have st := store_bk (o := pre.length * 2) (vs := [.I k]) g5 (by rw [List.length_append, cellsB_len hG.1, hlen]; simp; omega)
    rw [cellsB_room (q := nums (k + 1) x.items.length) hx hp] at st
    obtain ⟨G1, hG1⟩ : ∃ G1, G1 = G.put B (some ⟨cellsB ((pre ++ x :: suf).set pre.length ⟨k, nums (k + 1) x.items.length⟩) rs ++ ex, true⟩) := ⟨_, rfl⟩
    have b1 : G1.bk B = some ⟨cellsB ((pre ++ x :: suf).set pre.length ⟨k, nums (k + 1) x.items.length⟩) rs ++ ex, true⟩ := by rw [hG1, put_same]
    have o1 : Only [B] G G1 := by rw [hG1]; exact Only.refl.put (.inr (by simp))
    have n1 : G1.n = G.n := by rw [hG1]; simp
    rw [← hG1] at st
    have ld : G1.load B (pre.length * 2 + 1) = some p.1 := by
      rw [load_bk b1]
      have hx' : ((pre ++ x :: suf).set pre.length ⟨k, nums (k + 1) x.items.length⟩)[pre.length]? = some ⟨k, nums (k + 1) x.items.length⟩ := by rw [set_mid]; exact get_mid
      have := cellsB_get hx' hp
      have hcl : (cellsB ((pre ++ x :: suf).set pre.length ⟨k, nums (k + 1) x.items.length⟩) rs).length = (pre ++ x :: suf).length * 2 := by rw [cellsB_len (by simpa using hG.1), List.length_set]
      rw [List.getElem?_append_left (by rw [hcl, hlen]; omega)]
      unfold seg at this
      rw [if_pos (by rw [hcl, hlen]; omega)] at this
      have h2 := congrArg (fun l => l[1]?) (Option.some.inj this)
      simp at h2
      rw [set_mid]
      exact h2
    have i1' : OI G1 p.1 p.2 x.items := i1.only o1 (fun z hz hm => by simp at hm; subst hm; exact i2 hz)
    simp (disch := omega) [hal, hlt, st]
    simp (disch := omega) [ld]
    refine K_wmarkI i1' (by omega) fun G2 i3 o2 => ?_
    have n2 := o2.1
    have b2 : G2.bk B = some ⟨cellsB ((pre ++ x :: suf).set pre.length ⟨k, nums (k + 1) x.items.length⟩) rs ++ ex, true⟩ := o2.bk (by omega) i2 b1
    have o12 : Only (B :: grB p.1 p.2) G G2 := ⟨by omega, fun z hz hm => by
      simp at hm
      rw [o2.2 z (by omega) hm.2, o1.2 z hz (by simpa using hm.1)]⟩
    have hs := hG.set hx hp (by rw [← hN]) g3 b2 (by omega) i3 o12
    rw [set_mid] at hs
    have hs' : OB G2 (.sl B 0 N c) ((pre ++ [⟨k, nums (k + 1) x.items.length⟩]) ++ suf) B rs := by simpa using hs
    have := ih (pre ++ [⟨k, nums (k + 1) x.items.length⟩]) (k := k + 1 + x.items.length) ⟨by omega, by omega⟩ hs' ⟨Nat.le_trans hO.1 (by omega), fun z hz hm => by
      have hnz : z ∉ B :: grB p.1 p.2 := fun hq => hm (mem_fpO.2 (by
        rcases List.mem_cons.1 hq with rfl | hq
        · exact .inl (by simp [grB])
        · exact .inr ⟨p, List.mem_of_getElem? hp, hq⟩))
      rw [o12.2 z (Nat.lt_of_lt_of_le hz hO.1) hnz, hO.2 z hz hm]⟩ (fun e G' h1 h2 h3 => hQ e G' (by simpa [marksB] using h1) h2 (by rw [h3, szB_cons]; congr 2; omega))
    simp (disch := omega)
    simpa using this
theorem K_wmarkBoxS {v : AV} {l : List Bx} {B : Nat} {rs : List (AV × Nat)} {k : Int} (h : OB H v l B rs) (hk : 0 ≤ k ∧ k + szB l ≤ 1125899906842624)
    (c : ∀ H', OB H' v (marksB k l) B rs → Only (fpO v B rs) H H' → K (.I (k + szB l)) H') : CallF Cd f_wmarkBoxS [v, .I k] H K w := by
  rw [CallF_eq e_wmarkBoxS rfl]
  simp
  have := K_wmarkBoxS_l (v := v) (B := B) (rs := rs) (Q := ?_) (H0 := H) l [] (k := k) hk (G := H) h Only.refl ?_
  · simpa using this
  · intro e G' g1 g2 g3
    simp [g3]
    exact c G' (by simpa using g1) g2
theorem K_wheldBoxS_l {v : AV} {B : Nat} {rs : List (AV × Nat)} {Q : Out → Env → AH → Prop} (suf : List Bx) : ∀ (pre : List Bx) {k : Int} (hk : 0 ≤ k ∧ k + szB suf ≤ 1099511627776) (hG : OB H v (pre ++ marksB k suf) B rs)
    (hQ : ∀ e, get e 1 = some (.I (k + szB suf)) → Q (.brk 0) e H),
    W Cd (.loop c_wheldBoxS_l0) [(0, v), (1, .I k), (5, .I pre.length)] H Q := by
  induction suf with
  | nil =>
    intro pre k hk hG hQ
    rw [W_loop_as c_wheldBoxS_l0.eq_1]
    have hal := hG.2.1.alen
    simp only [marksB, List.append_nil] at hal hG
    simp [hal]
    exact hQ _ (by simp [get, szB])
  | cons x suf ih =>
    intro pre k hk hG hQ
    rw [W_loop_as c_wheldBoxS_l0.eq_1]
    have hal := hG.2.1.alen
    rw [szB_cons] at hk
    simp only [marksB] at hal hG
    have hbig := hG.2.1.1
    have hlen : (pre ++ (⟨k, nums (k + 1) x.items.length⟩ : Bx) :: marksB (k + 1 + x.items.length) suf).length = pre.length + (suf.length + 1) := by simp [marksB_len]
    have hlt : (pre.length : Int) < ((pre ++ (⟨k, nums (k + 1) x.items.length⟩ : Bx) :: marksB (k + 1 + x.items.length) suf).length : Nat) := by omega
    have hx : (pre ++ (⟨k, nums (k + 1) x.items.length⟩ : Bx) :: marksB (k + 1 + x.items.length) suf)[pre.length]? = some ⟨k, nums (k + 1) x.items.length⟩ := get_mid
    obtain ⟨p, hp⟩ : ∃ p, rs[pre.length]? = some p := ⟨_, List.getElem?_eq_getElem (by rw [hG.1, hlen]; omega)⟩
    obtain ⟨i1, i2⟩ := hG.2.2.1 _ _ p hx hp
    obtain ⟨g1, g2, ⟨_, g3⟩ | ⟨c, ex, hv, g3, g4, g5⟩⟩ := id hG.2.1
    · omega
    obtain ⟨N, hN⟩ : ∃ N, N = (pre ++ (⟨k, nums (k + 1) x.items.length⟩ : Bx) :: marksB (k + 1 + x.items.length) suf).length := ⟨_, rfl⟩
    rw [← hN] at hv hal hlt
    subst hv
    have hcl := cellsB_len hG.1
    have sg := cellsB_get hx hp
    unfold seg at sg
    rw [if_pos (by rw [hcl, hlen]; omega)] at sg
    have ld0 : H.load B (pre.length * 2) = some (.I k) := by
      rw [load_bk g5, List.getElem?_append_left (by rw [hcl, hlen]; omega)]
      have h2 := congrArg (fun l => l[0]?) (Option.some.inj sg)
      simpa using h2
    have ld1 : H.load B (pre.length * 2 + 1) = some p.1 := by
      rw [load_bk g5, List.getElem?_append_left (by rw [hcl, hlen]; omega)]
      have h2 := congrArg (fun l => l[1]?) (Option.some.inj sg)
      simpa using h2
    have hr := ih (pre ++ [⟨k, nums (k + 1) x.items.length⟩]) (k := k + 1 + x.items.length) ⟨by omega, by omega⟩ (by simpa using hG) (fun e h3 => hQ e (by rw [h3, szB_cons]; congr 2; omega))
    have q1 : ¬ k + 1 + (x.items.length : Int) < 0 := by omega
    simp (disch := omega) [hal, hlt, ld0, ld1]
    refine K_wheldI (n := x.items.length) i1 (by omega) ?_
    simp (disch := omega) [q1]
    simpa using hr
theorem K_wheldBoxS {v : AV} {l : List Bx} {B : Nat} {rs : List (AV × Nat)} {k : Int} (h : OB H v (marksB k l) B rs) (hk : 0 ≤ k ∧ k + szB l ≤ 1099511627776)
    (c : K (.I (k + szB l)) H) : CallF Cd f_wheldBoxS [v, .I k] H K w := by
  rw [CallF_eq e_wheldBoxS rfl]
  simp
  have := K_wheldBoxS_l (v := v) (B := B) (rs := rs) (Q := ?_) l [] (k := k) hk (by simpa using h) ?_
  · simpa using this
  · intro e g3
    simp [g3]
    exact c
end
end Go.Proofs.YtcibjklpaljadaaGreat.AM
namespace Go.Proofs.YtcibjklpaljadaaGreat.AM
set_option linter.unusedSimpArgs false
set_option linter.unusedVariables false
set_option maxRecDepth 100000
set_option maxHeartbeats 4000000
open Go
attribute [-simp] AM.elems
def regU (use : Bool) (x : Int) : Bool := if use then decide (0 ≤ x ∧ x ≤ 11) else decide (x = 0)
section
variable {ok : Nat → Prop} {H : AH} {K : AV → AH → Prop} {w : Fk K} {v : AV} {l : List Qd}
theorem K_sl21Reg {x : Int} {u : Bool} : CallF Cd f_sl21Reg [.I x, .b u] H K w = K (.b (regU u x)) H := by
  rw [CallF_eq e_sl21Reg rfl]
  cases u <;> simp [K_sl6In, regU]
theorem K_sl21Regs {op dst a b n : Int} {d x y : Bool} : CallF Cd f_sl21Regs [.agg [.I op, .I dst, .I a, .I b, .I n], .b d, .b x, .b y] H K w = K (.b (regU d dst && regU x a && regU y b)) (H.push [.I op, .I dst, .I a, .I b, .I n]) := by
  rw [CallF_eq e_sl21Regs rfl]
  cases h1 : regU d dst <;> cases h2 : regU x a <;> simp [load_push, K_sl21Reg, h1, h2]
theorem K_sQuadValid {q : Qd} {many : Int} (k : ∀ H', Ext H H' → K (.b (quV many q)) H') : CallF Cd f_sQuadValid [.agg (qC q), .I many] H K w := by
  rw [CallF_eq e_sQuadValid rfl]
  obtain ⟨op, dst, a, b, n⟩ := q
  have x1 := Ext.push H [.I op, .I dst, .I a, .I b, .I n]
  have q1 : (H.push [.I op, .I dst, .I a, .I b, .I n]).bk H.n = some ⟨[.I op, .I dst, .I a, .I b, .I n], true⟩ := push_new
  have x2 := x1.trans (Ext.push _ [.I op, .I dst, .I a, .I b, .I n])
  have q2 : ((H.push [.I op, .I dst, .I a, .I b, .I n]).push [.I op, .I dst, .I a, .I b, .I n]).bk H.n = some ⟨[.I op, .I dst, .I a, .I b, .I n], true⟩ := push_old (by simp) q1
  have kk := k _ x2
  have k1 := k _ x1
  clear k
  have done : ∀ {X : Bool}, quV many ⟨op, dst, a, b, n⟩ = X → K (.b X) ((H.push [.I op, .I dst, .I a, .I b, .I n]).push [.I op, .I dst, .I a, .I b, .I n]) := fun e => by rw [← e]; exact kk
  by_cases h1 : op = 1
  · subst h1
    cases hr : (regU true dst && regU false a && regU false b) with
    | false =>
      simp [qC, load_bk q1, loadN_bk q1, K_sl21Regs, hr]
      exact done (by rw [Bool.eq_false_iff] at hr ⊢; intro hh; apply hr; simp [quV, regU, reg] at hh ⊢; omega)
    | true =>
      simp [qC, load_bk q1, loadN_bk q1, K_sl21Regs, hr, load_bk q2, K_sWordValid]
      refine done ?_
      rw [Bool.eq_iff_iff]; simp [quV, regU, reg] at hr ⊢; intro _; omega
  by_cases h2 : op = 2
  · subst h2
    cases hr : (regU true dst && regU true a && regU false b) with
    | false =>
      simp [qC, load_bk q1, loadN_bk q1, K_sl21Regs, hr]
      exact done (by rw [Bool.eq_false_iff] at hr ⊢; intro hh; apply hr; simp [quV, regU, reg] at hh ⊢; omega)
    | true =>
      simp [qC, load_bk q1, loadN_bk q1, K_sl21Regs, hr, load_bk q2]
      refine done ?_
      rw [Bool.eq_iff_iff]; simp [quV, regU, reg] at hr ⊢; omega
  by_cases h3 : op = 3
  · subst h3
    cases hr : (regU true dst && regU true a && regU true b) with
    | false =>
      simp [qC, load_bk q1, loadN_bk q1, K_sl21Regs, hr]
      exact done (by rw [Bool.eq_false_iff] at hr ⊢; intro hh; apply hr; simp [quV, regU, reg] at hh ⊢; omega)
    | true =>
      simp [qC, load_bk q1, loadN_bk q1, K_sl21Regs, hr, load_bk q2, K_sOpValid]
      refine done ?_
      rw [Bool.eq_iff_iff]; simp [quV, regU, reg] at hr ⊢; omega
  by_cases h4 : op = 4
  · subst h4
    cases hr : (regU false dst && regU false a && regU false b) with
    | false =>
      simp [qC, load_bk q1, loadN_bk q1, K_sl21Regs, hr]
      exact done (by rw [Bool.eq_false_iff] at hr ⊢; intro hh; apply hr; simp [quV, regU, reg] at hh ⊢; omega)
    | true =>
      by_cases hn : 0 ≤ n
      · simp [qC, load_bk q1, loadN_bk q1, K_sl21Regs, hr, load_bk q2, hn]
        refine done ?_
        rw [Bool.eq_iff_iff]; simp [quV, regU, reg] at hr ⊢; omega
      · simp [qC, load_bk q1, loadN_bk q1, K_sl21Regs, hr, load_bk q2, hn]
        refine done ?_
        rw [Bool.eq_iff_iff]; simp [quV, regU, reg] at hr ⊢; omega
  by_cases h5 : op = 5
  · subst h5
    cases hr : (regU false dst && regU true a && regU false b) with
    | false =>
      simp [qC, load_bk q1, loadN_bk q1, K_sl21Regs, hr]
      exact done (by rw [Bool.eq_false_iff] at hr ⊢; intro hh; apply hr; simp [quV, regU, reg] at hh ⊢; omega)
    | true =>
      by_cases hn : 0 ≤ n
      · simp [qC, load_bk q1, loadN_bk q1, K_sl21Regs, hr, load_bk q2, hn]
        refine done ?_
        rw [Bool.eq_iff_iff]; simp [quV, regU, reg] at hr ⊢; omega
      · simp [qC, load_bk q1, loadN_bk q1, K_sl21Regs, hr, load_bk q2, hn]
        refine done ?_
        rw [Bool.eq_iff_iff]; simp [quV, regU, reg] at hr ⊢; omega
  by_cases h6 : op = 6
  · subst h6
    cases hr : (regU false dst && regU true a && regU false b) with
    | false =>
      simp [qC, load_bk q1, loadN_bk q1, K_sl21Regs, hr]
      exact done (by rw [Bool.eq_false_iff] at hr ⊢; intro hh; apply hr; simp [quV, regU, reg] at hh ⊢; omega)
    | true =>
      simp [qC, load_bk q1, loadN_bk q1, K_sl21Regs, hr, load_bk q2, K_sl6In]
      refine done ?_
      rw [Bool.eq_iff_iff]; simp [quV, regU, reg] at hr ⊢; omega
  by_cases h7 : op = 7
  · subst h7
    cases hr : (regU true dst && regU false a && regU false b) with
    | false =>
      simp [qC, load_bk q1, loadN_bk q1, K_sl21Regs, hr]
      exact done (by rw [Bool.eq_false_iff] at hr ⊢; intro hh; apply hr; simp [quV, regU, reg] at hh ⊢; omega)
    | true =>
      simp [qC, load_bk q1, loadN_bk q1, K_sl21Regs, hr, load_bk q2, K_sl6In]
      refine done ?_
      rw [Bool.eq_iff_iff]; simp [quV, regU, reg] at hr ⊢; omega
  by_cases h9 : op = 9
  · subst h9
    cases hr : (regU false dst && regU true a && regU false b) with
    | false =>
      simp [qC, load_bk q1, loadN_bk q1, K_sl21Regs, hr]
      exact done (by rw [Bool.eq_false_iff] at hr ⊢; intro hh; apply hr; simp [quV, regU, reg] at hh ⊢; omega)
    | true =>
      simp [qC, load_bk q1, loadN_bk q1, K_sl21Regs, hr, load_bk q2]
      refine done ?_
      rw [Bool.eq_iff_iff]; simp [quV, regU, reg] at hr ⊢; omega
  by_cases h8 : op = 8
  · subst h8
    cases hr : (regU false dst && regU false a && regU false b) with
    | false =>
      simp [qC, load_bk q1, loadN_bk q1, K_sl21Regs, hr]
      exact done (by rw [Bool.eq_false_iff] at hr ⊢; intro hh; apply hr; simp [quV, regU, reg] at hh ⊢; omega)
    | true =>
      simp [qC, load_bk q1, loadN_bk q1, K_sl21Regs, hr, load_bk q2]
      refine done ?_
      rw [Bool.eq_iff_iff]; simp [quV, regU, reg] at hr ⊢; omega
  by_cases h10 : op = 10
  · subst h10
    cases hr : (regU false dst && regU false a && regU false b) with
    | false =>
      simp [qC, load_bk q1, loadN_bk q1, K_sl21Regs, hr]
      exact done (by rw [Bool.eq_false_iff] at hr ⊢; intro hh; apply hr; simp [quV, regU, reg] at hh ⊢; omega)
    | true =>
      simp [qC, load_bk q1, loadN_bk q1, K_sl21Regs, hr, load_bk q2]
      refine done ?_
      rw [Bool.eq_iff_iff]; simp [quV, regU, reg] at hr ⊢; omega
  have e : quV many ⟨op, dst, a, b, n⟩ = false := by simp [quV, h1, h2, h3, h4, h5, h6, h7, h8, h9, h10]
  rw [e] at k1
  simp [qC, load_bk q1, h1, h2, h3, h4, h5, h6, h7, h8, h9, h10]
  exact k1
theorem K_sCodeValid_l {Q : Out → Env → AH → Prop} (h2 : ∀ e H, Q .ret e H = bindO (get e 2) fun v => K v H)
    (m i : Nat) (hm : i + m = l.length) (h : QV ok H v l) (hall : ∀ j < i, ∀ q, l[j]? = some q → quV l.length q = true) (hl : l.length ≤ 600)
    (hbad : l.all (quV l.length) = false → ∀ H', Ext H H' → K (.b false) H')
    (hQ : l.all (quV l.length) = true → ∀ e H', Ext H H' → get e 0 = some v → get e 3 = some (.I l.length) → Q (.brk 0) e H') :
    W Cd (.loop c_sCodeValid_l0) [(0, v), (3, .I l.length), (4, .I i)] H Q := by
  induction m generalizing i H with
  | zero =>
    rw [W_loop_as c_sCodeValid_l0.eq_1]
    have : i = l.length := by omega
    subst this
    simp
    refine hQ ?_ _ H (Ext.refl _) rfl rfl
    rw [List.all_eq_true]
    intro q hq
    obtain ⟨j, hj⟩ := List.mem_iff_getElem?.1 hq
    exact hall j (List.getElem?_eq_some_iff.1 hj).1 q hj
  | succ m ih =>
    rw [W_loop_as c_sCodeValid_l0.eq_1]
    have hlt : i < l.length := by omega
    have hlt' : (i : Int) < l.length := by omega
    obtain ⟨q, hq⟩ : ∃ q, l[i]? = some q := ⟨_, List.getElem?_eq_getElem hlt⟩
    obtain ⟨b, o, cap, e1, ob, hbn, l1⟩ := h.at hq
    have h0 := h
    subst e1
    simp (disch := omega) [hlt', l1]
    refine K_sQuadValid fun H2 x2 => ?_
    cases hv : quV l.length q with
    | false =>
      simp [h2]
      exact hbad (List.all_eq_false.2 ⟨q, List.mem_of_getElem? hq, by rw [hv]; simp⟩) _ x2
    | true =>
      simp (disch := omega)
      have := ih (i + 1) (by omega) (H := H2) (h0.ext x2) (fun j hj q' hq' => by
        by_cases hji : j = i
        · subst hji; rw [hq] at hq'; cases hq'; exact hv
        · exact hall j (by omega) q' hq') (fun hb H' x => hbad hb H' (x2.trans x)) (fun hb e H' x he he' => hQ hb e H' (x2.trans x) he he')
      simpa using this
theorem K_sCodeValid (h : QV ok H v l) (k : ∀ H', Ext H H' → K (.b (codeV l)) H') : CallF Cd f_sCodeValid [v] H K w := by
  rw [CallF_eq e_sCodeValid rfl]
  have hbig := h.big
  by_cases c1 : 1 ≤ l.length ∧ l.length ≤ 600
  · have c1' : (1 : Int) ≤ l.length ∧ (l.length : Int) ≤ 600 := by omega
    simp [h.alen, K_sl6In, c1'.1, c1'.2]
    have := K_sCodeValid_l (K := K) (v := v) (l := l) (ok := ok) (Q := ?_) ?_ l.length 0 (by omega) h (fun j hj => by omega) (by omega) (fun hb H' x => by
      have := k H' x
      unfold codeV at this
      rw [hb] at this
      simpa using this) ?_
    · simpa using this
    · intro e G; simp
    · intro hb e G x he he3
      obtain ⟨q, hq⟩ : ∃ q, l[l.length - 1]? = some q := ⟨_, List.getElem?_eq_getElem (by omega)⟩
      have hlast : l.getLast? = some q := by rw [List.getLast?_eq_getElem?]; exact hq
      have hG := h.ext x
      obtain ⟨b, o, cap, e1, ob, hbn, l1⟩ := hG.at hq
      have ha := hG.alen
      have kk := k G x
      have e2 : codeV l = decide (q.op = 10 ∨ q.op = 4) := by
        unfold codeV lastOp
        rw [hb, hlast, decide_eq_true (by omega)]; rfl
      rw [e2] at kk
      have l0 : G.load b (o + (l.length - 1) * 5) = some (.I q.op) := by simpa [qC] using loadN_get l1 (i := 0) (by omega)
      have et : ((l.length : Int) - 1).toNat = l.length - 1 := by omega
      have c3 : (0 : Int) ≤ (l.length : Int) - 1 := by omega
      have c4 : (l.length : Int) - 1 < l.length := by omega
      subst e1
      simp (disch := omega) [he, he3, ha, et, l0]
      by_cases c10 : q.op = 10
      · simp [c10] at kk ⊢; exact kk
      · simp [c10] at kk
        simp (disch := omega) [c10, et, l0]
        exact kk
  · have e : codeV l = false := by unfold codeV; rw [decide_eq_false c1]; rfl
    have := k H (Ext.refl _)
    rw [e] at this
    have c1' : ¬ ((1 : Int) ≤ l.length ∧ (l.length : Int) ≤ 600) := by omega
    simp [h.alen, K_sl6In, c1']
    exact this
theorem K_sl23Fits {vr : AV} {t : Th} {many : Nat} (hr : SeesZ H vr t.regs) (hm : many ≤ 8589934592) (k : ∀ H', Ext H H' → K (.b (thFit t many)) H') : CallF Cd f_sl23Fits [.agg [vr, .I t.pc], .I many] H K w := by
  rw [CallF_eq e_sl23Fits rfl]
  have x1 := Ext.push H [vr, .I t.pc]
  have kk := k _ x1
  cases hw : (decide ((t.regs.length : Int) = 12) && t.regs.all isW) with
  | false =>
    have e : thFit t many = false := by
      rw [Bool.eq_false_iff] at hw ⊢
      intro hh
      apply hw
      obtain ⟨t1, t2, _⟩ := thFit_iff.1 hh
      simp [t1, t2]
    rw [e] at kk
    simp [load_push, K_sl4Words (hr.ext x1), hw]
    exact kk
  | true =>
    have e : thFit t many = decide (0 ≤ t.pc ∧ t.pc ≤ (many : Int) - 1) := by
      simp only [Bool.and_eq_true, decide_eq_true_eq] at hw
      rw [Bool.eq_iff_iff, thFit_iff]
      simp only [decide_eq_true_eq]
      constructor
      · intro h; omega
      · intro h; exact ⟨by omega, hw.2, by omega, by omega⟩
    rw [e] at kk
    simp (disch := omega) [load_push, K_sl4Words (hr.ext x1), hw, K_sl6In]
    simpa using kk
theorem K_sThreadValid {vr : AV} {t : Th} (hr : SeesZ H vr t.regs) (hv : QV ok H v l) (k : ∀ H', Ext H H' → K (.b (codeV l && thFit t l.length)) H') : CallF Cd f_sThreadValid [.agg [vr, .I t.pc], v] H K w := by
  rw [CallF_eq e_sThreadValid rfl]
  have x1 := Ext.push H [vr, .I t.pc]
  have q1 : (H.push [vr, .I t.pc]).bk H.n = some ⟨[vr, .I t.pc], true⟩ := push_new
  have hbig := hv.big
  simp
  refine K_sCodeValid (hv.ext x1) fun H2 x2 => ?_
  have q2 := (x2.2 H.n (by simp)).trans q1
  have y2 := x1.trans x2
  have kk := fun H' x => k H' (y2.trans x)
  cases hc : codeV l with
  | false =>
    rw [hc] at kk
    simp
    exact kk H2 (Ext.refl _)
  | true =>
    rw [hc] at kk
    simp [loadN_bk q2, hv.alen]
    refine K_sl23Fits (hr.ext y2) hbig fun H3 x3 => ?_
    simp
    simpa using kk H3 x3
theorem K_sl23Quad {q : Qd} {many : Int} (k : ∀ H', Ext H H' → K (.b (boxQ many q)) H') : CallF Cd f_sl23Quad [.agg (qC q), .I many] H K w := by
  rw [CallF_eq e_sl23Quad rfl]
  obtain ⟨op, dst, a, b, n⟩ := q
  have kk := k _ (Ext.push H [.I op, .I dst, .I a, .I b, .I n])
  have q1 : (H.push [.I op, .I dst, .I a, .I b, .I n]).bk H.n = some ⟨[.I op, .I dst, .I a, .I b, .I n], true⟩ := push_new
  by_cases h6 : op = 6
  · subst h6
    simp [boxQ] at kk
    simp [qC, load_bk q1]
    exact kk
  · by_cases h7 : op = 7
    · subst h7
      simp [boxQ] at kk
      simp [qC, load_bk q1]
      exact kk
    · simp [boxQ, h6, h7] at kk
      simp [qC, h6, h7, load_bk q1]
      exact kk
end
end Go.Proofs.YtcibjklpaljadaaGreat.AM
namespace Go.Proofs.YtcibjklpaljadaaGreat.AM
set_option linter.unusedSimpArgs false
set_option linter.unusedVariables false
set_option maxRecDepth 100000
set_option maxHeartbeats 4000000
open Go
attribute [-simp] AM.elems
section
variable {ok : Nat → Prop} {H : AH} {K : AV → AH → Prop} {w : Fk K} {vr : AV} {regs : List Int}
theorem K_sl23Go {x pc : Int} (hr : IV ok H vr regs) (hl : regs.length ≤ 100000000) (k : ∀ v' H', IV (fun b => H.n ≤ b) H' v' regs → Ext H H' → v'.flat = true → K (.agg [v', .I pc]) H') : CallF Cd f_sl23Go [.agg [vr, .I x], .I pc] H K w := by
  rw [CallF_eq e_sl23Go rfl]
  have x1 := (Ext.push H [vr, .I x]).trans (Ext.push _ [.nils, .I 0])
  have q0 : ((H.push [vr, .I x]).push [.nils, .I 0]).bk H.n = some ⟨[vr, .I x], true⟩ := push_old (by simp) push_new
  have q1 : ((H.push [vr, .I x]).push [.nils, .I 0]).bk (H.n + 1) = some ⟨[.nils, .I 0], true⟩ := push_new (H := H.push [vr, .I x])
  have x2 := x1.trans (Ext.push _ ([] : List AV))
  have q0' : (((H.push [vr, .I x]).push [.nils, .I 0]).push []).bk H.n = some ⟨[vr, .I x], true⟩ := push_old (by simp; omega) q0
  obtain ⟨v', H3, B, a1, x3, g3, f3, hB⟩ := app_newG (l := regs) (H := ((H.push [vr, .I x]).push [.nils, .I 0]).push []) (push_new (cs := [])) (Nat.lt_succ_self _) (base := H.n + 2) (by simp) hl
  have e2 := (hr.ext x2).elems
  have e3 : alen vr = some regs.length := SlC.alen hr
  have n3 := x3.1
  simp only [push_n] at n3 a1 hB
  have q2 : H3.bk (H.n + 1) = some ⟨[.nils, .I 0], true⟩ := (x3.2 (H.n + 1) (by simp)).trans (push_old (by simp) q1)
  have st := store_bk (o := 0) (vs := [v', .I pc]) q2 (by simp)
  simp (disch := omega) [load_bk q0', e2, e3, a1, flat_cells f3, flat_tup f3, st, loadN_bk put_same]
  exact k v' _ (g3.iv.mono (by simp) (fun b hb _ => by rw [put_bk, if_neg (by omega)]) (fun b hb _ => by omega)) ((x2.trans x3).put (by omega)) f3
theorem K_sl23Set {x pc r y : Int} (hr : IV ok H vr regs) (hl : regs.length ≤ 100000000) (h0 : 0 ≤ r ∧ r < regs.length) (k : ∀ v' H', IV (fun b => H.n ≤ b) H' v' (regs.set r.toNat y) → Ext H H' → v'.flat = true → K (.agg [v', .I pc]) H') : CallF Cd f_sl23Set [.agg [vr, .I x], .I r, .I y, .I pc] H K w := by
  rw [CallF_eq e_sl23Set rfl]
  have x1 := (Ext.push H [vr, .I x]).trans (Ext.push _ [.nils, .I 0])
  have q0 : ((H.push [vr, .I x]).push [.nils, .I 0]).bk H.n = some ⟨[vr, .I x], true⟩ := push_old (by simp) push_new
  have q1 : ((H.push [vr, .I x]).push [.nils, .I 0]).bk (H.n + 1) = some ⟨[.nils, .I 0], true⟩ := push_new (H := H.push [vr, .I x])
  have x2 := x1.trans (Ext.push _ ([] : List AV))
  have q0' : (((H.push [vr, .I x]).push [.nils, .I 0]).push []).bk H.n = some ⟨[vr, .I x], true⟩ := push_old (by simp; omega) q0
  obtain ⟨v', H3, B, a1, x3, g3, f3, hB⟩ := app_newG (l := regs) (H := ((H.push [vr, .I x]).push [.nils, .I 0]).push []) (push_new (cs := [])) (Nat.lt_succ_self _) (base := H.n + 2) (by simp) hl
  have e2 := (hr.ext x2).elems
  have e3 : alen vr = some regs.length := SlC.alen hr
  have n3 := x3.1
  simp only [push_n] at n3 a1 hB
  have q2 : H3.bk (H.n + 1) = some ⟨[.nils, .I 0], true⟩ := (x3.2 (H.n + 1) (by simp)).trans (push_old (by simp) q1)
  have x4 := Ext.push H3 [v', .I pc]
  have st4 : (H3.push [.nils, .I 0]).store H3.n 0 [v', .I pc] = some (H3.push [v', .I pc]) := by rw [store_bk push_new (by simp), push_put]; rfl
  obtain ⟨cap, G, rfl, s1, s2, s3, s4, s5⟩ := (g3.ext x4).store (i := r.toNat) (c := [.I y]) (by omega) rfl
  have n4 := s3.1
  simp only [push_n] at n4 s5
  rw [Nat.mul_one] at s1 s2
  rw [Ints_set (by omega)] at s2
  have hBn : B ≠ H3.n := by
    have := (g3.mem (b := B) (by simp [grB])).2.2
    omega
  have q5 : G.bk H3.n = some ⟨[.sl B 0 regs.length cap, .I pc], true⟩ := s3.bk (by simp) (by simp; omega) push_new
  have q6 : G.bk (H.n + 1) = some ⟨[.nils, .I 0], true⟩ := s3.bk (by simp; omega) (by simp; omega) (push_old (by omega) q2)
  have st := store_bk (o := 0) (vs := [.sl B 0 regs.length cap, .I pc]) q6 (by simp)
  simp (disch := omega) [load_bk q0', e2, e3, a1, st4, load_push, s1, loadN_bk q5, st, loadN_bk put_same]
  have hlen : (regs.set r.toNat y).length = regs.length := by simp
  have s2' : GrS (H.n + 2) G (.sl B 0 regs.length cap) (regs.set r.toNat y).length 1 (Ints (regs.set r.toNat y)) B := by rw [hlen]; exact s2
  exact k _ _ (s2'.iv.mono (by simp) (fun b hb _ => by rw [put_bk, if_neg (by omega)]) (fun b hb _ => by omega)) ⟨by simp; omega, fun b hb => by rw [put_bk, if_neg (by omega), s3.2 b (by simp; omega) (by simp; omega), push_old (by omega) rfl, x3.2 b (by simp; omega), x2.2 b hb]⟩ rfl
theorem K_sl23Pure {q : Qd} {t : Th} {bs : List Bx} {many : Int} (hr : IV ok H vr t.regs) (h12 : t.regs.length = 12) (hw : t.regs.all isW = true) (hpc : 0 ≤ t.pc ∧ t.pc < 1000) (hv : quV many q = true) (hop : 1 ≤ q.op ∧ q.op ≤ 5)
    (k : ∀ v' H', IV (fun b => H.n ≤ b) H' v' (stepQ q t bs).1.regs → Ext H H' → v'.flat = true → K (.agg [v', .I (stepQ q t bs).1.pc]) H') : CallF Cd f_sl23Pure [.agg (qC q), .agg [vr, .I t.pc]] H K w := by
  rw [CallF_eq e_sl23Pure rfl]
  have x0 := ((Ext.push H (qC q)).trans (Ext.push _ [vr, .I t.pc])).trans (Ext.push _ [.nils, .I 0])
  have q0 : (((H.push (qC q)).push [vr, .I t.pc]).push [.nils, .I 0]).bk H.n = some ⟨qC q, true⟩ := push_old (by simp; omega) (push_old (by simp) push_new)
  have q1 : (((H.push (qC q)).push [vr, .I t.pc]).push [.nils, .I 0]).bk (H.n + 1) = some ⟨[vr, .I t.pc], true⟩ := push_old (by simp) (push_new (H := H.push (qC q)))
  have q2 : (((H.push (qC q)).push [vr, .I t.pc]).push [.nils, .I 0]).bk (H.n + 2) = some ⟨[.nils, .I 0], true⟩ := push_new (H := (H.push (qC q)).push [vr, .I t.pc])
  obtain ⟨G, hG⟩ : ∃ G, G = (((H.push (qC q)).push [vr, .I t.pc]).push [.nils, .I 0]) := ⟨_, rfl⟩
  rw [← hG] at x0 q0 q1 q2
  have nG : G.n = H.n + 3 := by rw [hG]; simp
  have hrG := hr.ext x0
  have fin : ∀ (v' : AV) (H' : AH) (rg' : List Int) (pc' : Int), IV (fun b => G.n ≤ b) H' v' rg' → Ext G H' → v'.flat = true → (stepQ q t bs).1 = ⟨rg', pc'⟩ → ∃ H4, H'.store (H.n + 2) 0 [v', .I pc'] = some H4 ∧ H4.loadN (H.n + 2) 0 2 = some [v', .I pc'] ∧ K (.agg [v', .I pc']) H4 := by
    intro v' H' rg' pc' iv xx ff e
    have b2 := (xx.2 (H.n + 2) (by omega)).trans q2
    have n' := xx.1
    refine ⟨_, store_bk b2 (by simp), by rw [loadN_bk put_same]; rfl, ?_⟩
    have := k v' (H'.put (H.n + 2) (some ⟨splice [.nils, .I 0] 0 [v', .I pc'], true⟩)) (by rw [e]; exact iv.mono (by simp) (fun b hb _ => by rw [put_bk, if_neg (by omega)]) (fun b hb _ => by omega)) ((x0.trans xx).put (by omega)) ff
    rw [e] at this
    exact this
  have at_ : ∀ r : Int, 0 ≤ r ∧ r < 12 → ∃ b o, asSl vr = some (b, o, 12) ∧ G.load b (o + r.toNat) = some (.I (rg t r)) := fun r h => by
    have hi : r.toNat < t.regs.length := by omega
    obtain ⟨b, o, e1, _, e2⟩ := hrG.sees.at hi
    rw [h12] at e1
    refine ⟨b, o, e1, ?_⟩
    rw [e2]
    unfold rg
    rw [List.getElem?_eq_getElem hi]; rfl
  have n1 : (0 : Int) ≤ t.pc + 1 ∧ t.pc + 1 < 2000 := by omega
  have hq : qC q = [.I q.op, .I q.dst, .I q.a, .I q.b, .I q.n] := rfl
  rw [hq] at hG q0 ⊢
  rcases quV_cases hv with ⟨h, hd, hn⟩ | ⟨h, hd, ha⟩ | ⟨h, hd, ha, hb⟩ | ⟨h, hn⟩ | ⟨h, ha, hn⟩ | ⟨h, _⟩ | ⟨h, _⟩ | h | ⟨h, _⟩ | h
  · rw [h] at hG q0 ⊢
    simp (disch := omega) [← hG, load_bk q0, load_bk q1, loadN_bk q1]
    refine K_sl23Set hrG (by omega) (by omega) fun v' H' iv xx ff => ?_
    obtain ⟨H4, f1, f2, f3⟩ := fin v' H' _ _ iv xx ff (by unfold stepQ; rw [if_pos h])
    simp [f1, f2]
    exact f3
  · rw [h] at hG q0 ⊢
    obtain ⟨b, o, e1, e2⟩ := at_ q.a ha
    simp (disch := omega) [← hG, load_bk q0, load_bk q1, loadN_bk q1, e1, e2]
    refine K_sl23Set hrG (by omega) (by omega) fun v' H' iv xx ff => ?_
    obtain ⟨H4, f1, f2, f3⟩ := fin v' H' _ _ iv xx ff (by unfold stepQ; rw [if_neg (by omega), if_pos h])
    have xx' := xx
    rw [hG] at xx'
    simp [xx', f1, f2]
    exact f3
  · rw [h] at hG q0 ⊢
    obtain ⟨b, o, e1, e2⟩ := at_ q.a ha
    obtain ⟨b', o', e1', e2'⟩ := at_ q.b hb
    rw [e1] at e1'
    simp only [Option.some.injEq, Prod.mk.injEq, and_true] at e1'
    obtain ⟨rfl, rfl⟩ := e1'
    have hn : 1 ≤ q.n ∧ q.n ≤ 12 := by
      have := hv
      unfold quV at this
      rw [if_neg (by omega), if_neg (by omega), if_pos h] at this
      simp only [Bool.and_eq_true, decide_eq_true_eq] at this
      exact this.2
    have wa := isW_iff.1 (rg_W hw q.a)
    have wb := isW_iff.1 (rg_W hw q.b)
    simp (disch := omega) [← hG, load_bk q0, load_bk q1, loadN_bk q1, e1, e2, e2', K_sApply hn wa wb]
    refine K_sl23Set (r := q.dst) (y := applyM q.n (rg t q.a) (rg t q.b)) hrG (by omega) (by omega) fun v' H' iv xx ff => ?_
    obtain ⟨H4, f1, f2, f3⟩ := fin v' H' _ _ iv xx ff (by unfold stepQ; rw [if_neg (by omega), if_neg (by omega), if_pos h])
    simp [f1, f2]
    exact f3
  · rw [h] at hG q0 ⊢
    simp (disch := omega) [← hG, load_bk q0, load_bk q1, loadN_bk q1]
    refine K_sl23Go hrG (by omega) fun v' H' iv xx ff => ?_
    obtain ⟨H4, f1, f2, f3⟩ := fin v' H' _ _ iv xx ff (by unfold stepQ; rw [if_neg (by omega), if_neg (by omega), if_neg (by omega), if_pos h])
    simp [f1, f2]
    exact f3
  · rw [h] at hG q0 ⊢
    obtain ⟨b, o, e1, e2⟩ := at_ q.a ha
    by_cases hz : rg t q.a = 0
    · rw [hz] at e2
      simp (disch := omega) [← hG, load_bk q0, load_bk q1, loadN_bk q1, e1, e2]
      refine K_sl23Go hrG (by omega) fun v' H' iv xx ff => ?_
      obtain ⟨H4, f1, f2, f3⟩ := fin v' H' _ _ iv xx ff (by unfold stepQ; rw [if_neg (by omega), if_neg (by omega), if_neg (by omega), if_neg (by omega), if_pos h, if_pos hz])
      simp [f1, f2]
      exact f3
    · simp (disch := omega) [← hG, load_bk q0, load_bk q1, loadN_bk q1, e1, e2, hz]
      refine K_sl23Go hrG (by omega) fun v' H' iv xx ff => ?_
      obtain ⟨H4, f1, f2, f3⟩ := fin v' H' _ _ iv xx ff (by unfold stepQ; rw [if_neg (by omega), if_neg (by omega), if_neg (by omega), if_neg (by omega), if_pos h, if_neg hz])
      simp [f1, f2]
      exact f3
  all_goals exfalso; omega
end
end Go.Proofs.YtcibjklpaljadaaGreat.AM
namespace Go.Proofs.YtcibjklpaljadaaGreat.AM
set_option linter.unusedSimpArgs false
set_option linter.unusedVariables false
set_option maxRecDepth 100000
set_option maxHeartbeats 4000000
open Go
attribute [-simp] AM.elems
theorem vaBs_items {bs : List Bx} (h : vaBs bs = true) : bs.length ≤ 3 ∧ (∀ x ∈ bs, vaB x = true) ∧ ∀ x ∈ bs, x.items.length ≤ 100000000 := by
  unfold vaBs at h
  simp only [Bool.and_eq_true, decide_eq_true_eq] at h
  refine ⟨by omega, fun x hx => List.all_eq_true.1 h.1 x hx, fun x hx => ?_⟩
  have := List.all_eq_true.1 h.1 x hx
  unfold vaB at this
  simp at this
  omega
section
variable {ok o2 : Nat → Prop} {H : AH} {K : AV → AH → Prop} {w : Fk K} {vr vb : AV}
theorem K_sl23Talk {q : Qd} {t : Th} {bs : List Bx} {many : Int} (hr : IV ok H vr t.regs) (hb : BV o2 H vb bs) (h12 : t.regs.length = 12) (hw : t.regs.all isW = true) (hpc : 0 ≤ t.pc ∧ t.pc < 1000) (hv : quV many q = true) (hvb : vaBs bs = true) (hbx : boxQ bs.length q = true) (hop : q.op = 6 ∨ q.op = 7)
    (k : ∀ v' vb' H', IV (fun b => H.n ≤ b) H' v' (stepQ q t bs).1.regs → BV (fun b => H.n ≤ b) H' vb' (stepQ q t bs).2.1 → Ext H H' → v'.flat = true → (stepQ q t bs).2.2.1 = [] → K (.tup [.agg [v', .I (stepQ q t bs).1.pc], vb', .I (stepQ q t bs).2.2.2]) H') : CallF Cd f_sl23Talk [.agg (qC q), .agg [vr, .I t.pc], vb] H K w := by
  obtain ⟨b3, bva, bit⟩ := vaBs_items hvb
  rw [CallF_eq e_sl23Talk rfl]
  have x0 := ((Ext.push H (qC q)).trans (Ext.push _ [vr, .I t.pc])).trans (Ext.push _ [.nils, .I 0])
  have q0 : (((H.push (qC q)).push [vr, .I t.pc]).push [.nils, .I 0]).bk H.n = some ⟨qC q, true⟩ := push_old (by simp; omega) (push_old (by simp) push_new)
  have q1 : (((H.push (qC q)).push [vr, .I t.pc]).push [.nils, .I 0]).bk (H.n + 1) = some ⟨[vr, .I t.pc], true⟩ := push_old (by simp) (push_new (H := H.push (qC q)))
  have q2 : (((H.push (qC q)).push [vr, .I t.pc]).push [.nils, .I 0]).bk (H.n + 2) = some ⟨[.nils, .I 0], true⟩ := push_new (H := (H.push (qC q)).push [vr, .I t.pc])
  obtain ⟨G, hG⟩ : ∃ G, G = (((H.push (qC q)).push [vr, .I t.pc]).push [.nils, .I 0]) := ⟨_, rfl⟩
  rw [← hG] at x0 q0 q1 q2
  have nG : G.n = H.n + 3 := by rw [hG]; simp
  have n1 : (0 : Int) ≤ t.pc + 1 ∧ t.pc + 1 < 2000 := by omega
  have hq : qC q = [.I q.op, .I q.dst, .I q.a, .I q.b, .I q.n] := rfl
  rw [hq] at hG q0 ⊢
  have fin : ∀ (v' vl : AV) (H' : AH) (rg' : List Int) (pc' : Int) (bs' : List Bx) (c : Int), IV (fun b => G.n ≤ b) H' v' rg' → BV (fun b => G.n ≤ b) H' vl bs' → Ext H H' → H'.bk (H.n + 2) = some ⟨[.nils, .I 0], true⟩ → v'.flat = true → stepQ q t bs = (⟨rg', pc'⟩, bs', [], c) → ∃ H4, H'.store (H.n + 2) 0 [v', .I pc'] = some H4 ∧ H4.loadN (H.n + 2) 0 2 = some [v', .I pc'] ∧ K (.tup [.agg [v', .I pc'], vl, .I c]) H4 := by
    intro v' vl H' rg' pc' bs' c iv bv xx b2 ff e
    have n' := xx.1
    refine ⟨_, store_bk b2 (by simp), by rw [loadN_bk put_same]; rfl, ?_⟩
    have := k v' vl (H'.put (H.n + 2) (some ⟨splice [.nils, .I 0] 0 [v', .I pc'], true⟩)) (by rw [e]; exact iv.mono (by simp) (fun b hb _ => by rw [put_bk, if_neg (by omega)]) (fun b hb _ => by omega)) (by rw [e]; exact bv.mono (by simp) (fun b hb _ => by rw [put_bk, if_neg (by omega)]) (fun b hb _ => by omega)) (xx.put (by omega)) ff (by rw [e])
    rw [e] at this
    exact this
  have hsl : (∀ x ∈ bs, x.items.length ≤ 100000000) := bit
  simp [← hG]
  refine K_sl15BoxesCopy bs hsl (hb.ext x0) (by omega) fun vl H1 cs B g1 f1 x2 => ?_
  have m1 := x2.1
  have p0 := (x2.2 H.n (by omega)).trans q0
  have p1 := (x2.2 (H.n + 1) (by omega)).trans q1
  have p2 := (x2.2 (H.n + 2) (by omega)).trans q2
  have y1 := x0.trans x2
  have bv1 : BV (fun b => G.n ≤ b) H1 vl bs := GrS.bv' g1 f1
  have at_ : ∀ r : Int, 0 ≤ r ∧ r < 12 → ∃ b o, asSl vr = some (b, o, 12) ∧ H1.load b (o + r.toNat) = some (.I (rg t r)) := fun r h => by
    have hi : r.toNat < t.regs.length := by omega
    obtain ⟨b, o, e1, _, e2⟩ := (hr.ext y1).sees.at hi
    rw [h12] at e1
    refine ⟨b, o, e1, ?_⟩
    rw [e2]
    unfold rg
    rw [List.getElem?_eq_getElem hi]; rfl
  have hn : 0 ≤ q.n ∧ q.n < bs.length := by
    have h1 : q.n < bs.length := by unfold boxQ at hbx; simp only [decide_eq_true_eq] at hbx; exact hbx hop
    rcases quV_cases hv with ⟨h, _⟩ | ⟨h, _⟩ | ⟨h, _⟩ | ⟨h, _⟩ | ⟨h, _⟩ | ⟨h, _, h0⟩ | ⟨h, _, h0⟩ | h | ⟨h, _⟩ | h <;> omega
  have hi : q.n.toNat < bs.length := by omega
  obtain ⟨bx, hbq⟩ : ∃ x, bs[q.n.toNat]? = some x := ⟨_, List.getElem?_eq_getElem hi⟩
  have hvx := bva bx (List.mem_of_getElem? hbq)
  obtain ⟨bb, bo, bcap, vi, e2, ob2, hbb, lb, iv⟩ := (hb.ext y1).at hbq
  have iv0 := iv
  have chg : ∀ (H5 : AH) (c : List AV) (nb : Bx), Ext H1 H5 → BC (fun b => H1.n ≤ b) H5 c nb → c.length = 2 → ∃ lcap H6, vl = .sl B 0 bs.length lcap ∧ H5.store B (q.n.toNat * 2) c = some H6 ∧ BV (fun b => G.n ≤ b) H6 vl (bs.set q.n.toNat nb) ∧ Only [B] H5 H6 ∧ G.n ≤ B ∧ B < H1.n := by
    intro H5 c nb z5 hc hcl
    have g5 := g1.ext z5
    obtain ⟨lcap, H6, e, s1, s2, s3, s4, s5⟩ := g5.store (i := q.n.toNat) (c := c) hi hcl
    have hB : B < H1.n := by
      rcases g1.2.2 with u | u
      · omega
      · exact u.2.1
    refine ⟨lcap, H6, e, s1, ?_, s3, s4, hB⟩
    have hlf := LF.set (f1.imp fun _ _ h => h.mono (H' := H6) (ok' := fun b => G.n ≤ b ∧ b ≠ B) (Nat.le_trans z5.1 s3.1) (fun b hb hb2 => by
        rw [s3.2 b (Nat.lt_of_lt_of_le hb2 z5.1) (by simp; exact hb.2), z5.2 b hb2]) (fun b hb _ => hb)) (i := q.n.toNat) (a := nb) (c := c) hi
      (show BC (fun b => G.n ≤ b ∧ b ≠ B) H6 c nb from hc.mono s3.1 (fun b hb hb2 => s3.2 b hb2 (by simp; omega)) (fun b hb _ => by omega)) hcl
    have hls : (bs.set q.n.toNat nb).length = bs.length := by simp
    have s2' : GrS G.n H6 vl (bs.set q.n.toNat nb).length 2 (splice cs (q.n.toNat * 2) c) B := by rw [hls]; exact s2
    exact GrS.bv' s2' hlf (by omega)
  have hL : (bs.length : Int) ≤ 3 := by omega
  generalize bs.length = L at *
  subst e2
  rcases hop with h | h
  · have ha : 0 ≤ q.a ∧ q.a < 12 := by rcases quV_cases hv with ⟨h', _⟩ | ⟨h', _⟩ | ⟨h', _⟩ | ⟨h', _⟩ | ⟨h', _⟩ | ⟨h', h0, _⟩ | ⟨h', _⟩ | h' | ⟨h', _⟩ | h' <;> first | exact h0 | (exfalso; omega)
    obtain ⟨b, o, a1, a2⟩ := at_ q.a ha
    rw [h] at p0
    simp (disch := omega) [load_bk p0, load_bk p1, lb, a1, a2]
    refine K_sBoxPut (b := bx) (ok := o2) ⟨vi, rfl, iv0⟩ hvx (rg_W hw q.a) (fun hlt c' H4 hc x4 => ?_) (fun hlt H4 x4 => ?_)
    · obtain ⟨vi2, rfl, iv2⟩ := hc
      have f2 : vi2.flat = true := iv2.src.flat
      have st4 : (H4.push [.I 0, .nils]).store H4.n 0 [.I bx.room, vi2] = some (H4.push [.I bx.room, vi2]) := by rw [store_bk push_new (by simp), push_put]; rfl
      have x5 := x4.trans (Ext.push H4 [.I bx.room, vi2])
      obtain ⟨lcap, H6, rfl, s1, s2, s3, s4, s5⟩ := chg (H4.push [.I bx.room, vi2]) [.I bx.room, vi2] ⟨bx.room, bx.items ++ [rg t q.a]⟩ x5 ⟨vi2, rfl, iv2.ext (Ext.push _ _)⟩ rfl
      have n4 := x4.1
      have n6 := s3.1
      simp only [push_n] at n6
      have r0 : (H4.push [.I bx.room, vi2]).bk H.n = _ := (x5.2 _ (by omega)).trans p0
      have r1 : H6.bk (H.n + 1) = _ := s3.bk (by simp; omega) (by simp; omega) ((x5.2 _ (by omega)).trans p1)
      have r2 : H6.bk (H.n + 2) = _ := s3.bk (by simp; omega) (by simp; omega) ((x5.2 _ (by omega)).trans p2)
      have y6 : Ext H H6 := ⟨by have := y1.1; omega, fun z hz => by rw [s3.2 z (by simp; have := y1.1; omega) (by simp; omega), x5.2 z (by have := y1.1; omega), y1.2 z hz]⟩
      simp (disch := omega) [x4, flat_cells f2, flat_tup f2, st4, load_bk r0, loadN_push, s1]
      simp (disch := omega) [load_bk r1, loadN_bk r1]
      refine K_sl23Go (hr.ext y6) (by omega) fun v' H7 iv7 x7 f7 => ?_
      obtain ⟨H8, e1, e3, e4⟩ := fin v' (.sl B 0 L lcap) H7 t.regs (t.pc + 1) _ 1 (iv7.mono (Nat.le_refl _) (fun _ _ _ => rfl) (fun b hb _ => by omega)) (s2.ext x7) (y6.trans x7) ((x7.2 _ (by omega)).trans r2) f7 (by
        unfold stepQ
        rw [if_neg (by omega), if_neg (by omega), if_neg (by omega), if_neg (by omega), if_neg (by omega), if_pos h, hbq]
        simp only
        rw [if_pos hlt])
      simp [e1, e3]
      exact e4
    · have st4 : (H4.push [.I 0, .nils]).store H4.n 0 [.I 0, .nils] = some (H4.push [.I 0, .nils]) := by rw [store_bk push_new (by simp), push_put]; rfl
      have x5 := x4.trans (Ext.push H4 [.I 0, .nils])
      have n4 := x4.1
      have r1 : (H4.push [.I 0, .nils]).bk (H.n + 1) = _ := (x5.2 _ (by omega)).trans p1
      have r2 : (H4.push [.I 0, .nils]).bk (H.n + 2) = _ := (x5.2 _ (by omega)).trans p2
      simp (disch := omega) [x4, st4, load_bk r1, loadN_bk r1]
      refine K_sl23Go (hr.ext (y1.trans x5)) (by omega) fun v' H7 iv7 x7 f7 => ?_
      obtain ⟨H8, e1, e3, e4⟩ := fin v' vl H7 t.regs t.pc bs 3 (iv7.mono (Nat.le_refl _) (fun _ _ _ => rfl) (fun b hb _ => by simp at hb; omega)) ((bv1.ext x5).ext x7) ((y1.trans x5).trans x7) ((x7.2 _ (by simp; omega)).trans r2) f7 (by
        unfold stepQ
        rw [if_neg (by omega), if_neg (by omega), if_neg (by omega), if_neg (by omega), if_neg (by omega), if_pos h, hbq]
        simp only
        rw [if_neg hlt])
      simp [e1, e3]
      exact e4
  · have hd : 0 ≤ q.dst ∧ q.dst < 12 := by rcases quV_cases hv with ⟨h', _⟩ | ⟨h', _⟩ | ⟨h', _⟩ | ⟨h', _⟩ | ⟨h', _⟩ | ⟨h', _⟩ | ⟨h', h0, _⟩ | h' | ⟨h', _⟩ | h' <;> first | exact h0 | (exfalso; omega)
    rw [h] at p0
    simp (disch := omega) [load_bk p0, load_bk p1, lb]
    refine K_sBoxTake (b := bx) (ok := o2) ⟨vi, rfl, iv0⟩ hvx (fun y r hyr c' H4 hc x4 => ?_) (fun hnil H4 x4 => ?_)
    · obtain ⟨vi2, rfl, iv2⟩ := hc
      have f2 : vi2.flat = true := iv2.src.flat
      have st4 : (H4.push [.I 0, .nils]).store H4.n 0 [.I bx.room, vi2] = some (H4.push [.I bx.room, vi2]) := by rw [store_bk push_new (by simp), push_put]; rfl
      have x5 := x4.trans (Ext.push H4 [.I bx.room, vi2])
      obtain ⟨lcap, H6, rfl, s1, s2, s3, s4, s5⟩ := chg (H4.push [.I bx.room, vi2]) [.I bx.room, vi2] ⟨bx.room, r⟩ x5 ⟨vi2, rfl, iv2.ext (Ext.push _ _)⟩ rfl
      have n4 := x4.1
      have n6 := s3.1
      simp only [push_n] at n6
      have r0 : (H4.push [.I bx.room, vi2]).bk H.n = _ := (x5.2 _ (by omega)).trans p0
      have r0' : H6.bk H.n = _ := s3.bk (by simp; omega) (by simp; omega) r0
      have r1 : H6.bk (H.n + 1) = _ := s3.bk (by simp; omega) (by simp; omega) ((x5.2 _ (by omega)).trans p1)
      have r2 : H6.bk (H.n + 2) = _ := s3.bk (by simp; omega) (by simp; omega) ((x5.2 _ (by omega)).trans p2)
      have y6 : Ext H H6 := ⟨by have := y1.1; omega, fun z hz => by rw [s3.2 z (by simp; have := y1.1; omega) (by simp; omega), x5.2 z (by have := y1.1; omega), y1.2 z hz]⟩
      simp (disch := omega) [flat_cells f2, flat_tup f2, st4, load_bk r0, loadN_push, s1]
      simp (disch := omega) [load_bk r1, loadN_bk r1, load_bk r0']
      refine K_sl23Set (hr.ext y6) (by omega) (by omega) fun v' H7 iv7 x7 f7 => ?_
      obtain ⟨H8, e1, e3, e4⟩ := fin v' (.sl B 0 L lcap) H7 (t.regs.set q.dst.toNat y) (t.pc + 1) _ 1 (iv7.mono (Nat.le_refl _) (fun _ _ _ => rfl) (fun b hb _ => by omega)) (s2.ext x7) (y6.trans x7) ((x7.2 _ (by omega)).trans r2) f7 (by
        unfold stepQ
        rw [if_neg (by omega), if_neg (by omega), if_neg (by omega), if_neg (by omega), if_neg (by omega), if_neg (by omega), if_pos h, hbq]
        simp only
        rw [hyr])
      simp [e1, e3]
      exact e4
    · have st4 : (H4.push [.I 0, .nils]).store H4.n 0 [.I 0, .nils] = some (H4.push [.I 0, .nils]) := by rw [store_bk push_new (by simp), push_put]; rfl
      have x5 := x4.trans (Ext.push H4 [.I 0, .nils])
      have n4 := x4.1
      have r1 : (H4.push [.I 0, .nils]).bk (H.n + 1) = _ := (x5.2 _ (by omega)).trans p1
      have r2 : (H4.push [.I 0, .nils]).bk (H.n + 2) = _ := (x5.2 _ (by omega)).trans p2
      simp (disch := omega) [st4, load_bk r1, loadN_bk r1]
      refine K_sl23Go (hr.ext (y1.trans x5)) (by omega) fun v' H7 iv7 x7 f7 => ?_
      obtain ⟨H8, e1, e3, e4⟩ := fin v' vl H7 t.regs t.pc bs 3 (iv7.mono (Nat.le_refl _) (fun _ _ _ => rfl) (fun b hb _ => by simp at hb; omega)) ((bv1.ext x5).ext x7) ((y1.trans x5).trans x7) ((x7.2 _ (by simp; omega)).trans r2) f7 (by
        unfold stepQ
        rw [if_neg (by omega), if_neg (by omega), if_neg (by omega), if_neg (by omega), if_neg (by omega), if_neg (by omega), if_pos h, hbq]
        simp only
        rw [hnil])
      simp [e1, e3]
      exact e4
end
end Go.Proofs.YtcibjklpaljadaaGreat.AM
namespace Go.Proofs.YtcibjklpaljadaaGreat.AM
set_option linter.unusedSimpArgs false
set_option linter.unusedVariables false
set_option maxRecDepth 100000
set_option maxHeartbeats 4000000
open Go
attribute [-simp] AM.elems
section
variable {ok o2 o3 : Nat → Prop} {H : AH} {K : AV → AH → Prop} {w : Fk K} {vr vb vc : AV}
theorem K_sl23Step {q : Qd} {t : Th} {bs : List Bx} {many : Int} (hr : IV ok H vr t.regs) (hb : BV o2 H vb bs) (h12 : t.regs.length = 12) (hw : t.regs.all isW = true) (hpc : 0 ≤ t.pc ∧ t.pc < 1000) (hv : quV many q = true) (hvb : vaBs bs = true) (hbx : boxQ bs.length q = true)
    (k : ∀ v' vb' vo' H', IV (fun b => H.n ≤ b) H' v' (stepQ q t bs).1.regs → BV (fun b => H.n ≤ b) H' vb' (stepQ q t bs).2.1 → IV (fun b => H.n ≤ b) H' vo' (stepQ q t bs).2.2.1 → Ext H H' → v'.flat = true → K (.tup [.agg [v', .I (stepQ q t bs).1.pc], vb', vo', .I (stepQ q t bs).2.2.2]) H') : CallF Cd f_sl23Step [.agg (qC q), .agg [vr, .I t.pc], vb] H K w := by
  obtain ⟨b3, bva, bit⟩ := vaBs_items hvb
  rw [CallF_eq e_sl23Step rfl]
  have x0 := ((Ext.push H (qC q)).trans (Ext.push _ [vr, .I t.pc])).trans (Ext.push _ [.nils, .I 0])
  have q0 : (((H.push (qC q)).push [vr, .I t.pc]).push [.nils, .I 0]).bk H.n = some ⟨qC q, true⟩ := push_old (by simp; omega) (push_old (by simp) push_new)
  have q1 : (((H.push (qC q)).push [vr, .I t.pc]).push [.nils, .I 0]).bk (H.n + 1) = some ⟨[vr, .I t.pc], true⟩ := push_old (by simp) (push_new (H := H.push (qC q)))
  have q2 : (((H.push (qC q)).push [vr, .I t.pc]).push [.nils, .I 0]).bk (H.n + 2) = some ⟨[.nils, .I 0], true⟩ := push_new (H := (H.push (qC q)).push [vr, .I t.pc])
  obtain ⟨G, hG⟩ : ∃ G, G = (((H.push (qC q)).push [vr, .I t.pc]).push [.nils, .I 0]) := ⟨_, rfl⟩
  rw [← hG] at x0 q0 q1 q2
  have nG : G.n = H.n + 3 := by rw [hG]; simp
  have n1 : (0 : Int) ≤ t.pc + 1 ∧ t.pc + 1 < 2000 := by omega
  have hq : qC q = [.I q.op, .I q.dst, .I q.a, .I q.b, .I q.n] := rfl
  have hG0 := hG
  have Q0 := q0
  rw [hq] at hG q0
  have l5 : G.loadN H.n 0 5 = some (qC q) := by rw [loadN_bk q0]; rfl
  have fin : ∀ (v' vl vo' : AV) (H' : AH) (rg' : List Int) (pc' : Int) (bs' : List Bx) (out : List Int) (c : Int), IV (fun b => G.n ≤ b) H' v' rg' → BV (fun b => G.n ≤ b) H' vl bs' → IV (fun b => G.n ≤ b) H' vo' out → Ext G H' → v'.flat = true → stepQ q t bs = (⟨rg', pc'⟩, bs', out, c) → ∃ H4, H'.store (H.n + 2) 0 [v', .I pc'] = some H4 ∧ H4.loadN (H.n + 2) 0 2 = some [v', .I pc'] ∧ K (.tup [.agg [v', .I pc'], vl, vo', .I c]) H4 ∧ ∀ b, b ≠ H.n + 2 → H4.bk b = H'.bk b := by
    intro v' vl vo' H' rg' pc' bs' out c iv bv io xx ff e
    have n' := xx.1
    have b2 := (xx.2 (H.n + 2) (by omega)).trans q2
    refine ⟨_, store_bk b2 (by simp), by rw [loadN_bk put_same]; rfl, ?_, fun b hb => by rw [put_bk, if_neg hb]⟩
    have := k v' vl vo' (H'.put (H.n + 2) (some ⟨splice [.nils, .I 0] 0 [v', .I pc'], true⟩)) (by rw [e]; exact iv.mono (by simp) (fun b hb _ => by rw [put_bk, if_neg (by omega)]) (fun b hb _ => by omega)) (by rw [e]; exact bv.mono (by simp) (fun b hb _ => by rw [put_bk, if_neg (by omega)]) (fun b hb _ => by omega)) (by rw [e]; exact io.mono (by simp) (fun b hb _ => by rw [put_bk, if_neg (by omega)]) (fun b hb _ => by omega)) ((x0.trans xx).put (by omega)) ff
    rw [e] at this
    exact this
  have emp : ∀ H' : AH, G.n ≤ H'.n → IV (fun b => G.n ≤ b) (H'.push []) (.sl H'.n 0 0 (.ex 0)) [] := fun H' hn => ⟨by simp, rfl, .inr ⟨H'.n, 0, _, rfl, ⟨hn, by simp [capOk]⟩, by simp, by rw [loadN_bk push_new]; rfl⟩⟩
  have hrG := hr.ext x0
  have hbG := hb.ext x0
  by_cases h67 : q.op = 6 ∨ q.op = 7
  · have e1 : stepQ q t bs = ((stepQ q t bs).1, (stepQ q t bs).2.1, (stepQ q t bs).2.2.1, (stepQ q t bs).2.2.2) := rfl
    have go : CallF Cd f_sl23Talk [.agg (qC q), .agg [vr, .I t.pc], vb] G (fun v H' => ∃ v' vb', v = .tup [.agg [v', .I (stepQ q t bs).1.pc], vb', .I (stepQ q t bs).2.2.2] ∧ IV (fun b => G.n ≤ b) H' v' (stepQ q t bs).1.regs ∧ BV (fun b => G.n ≤ b) H' vb' (stepQ q t bs).2.1 ∧ Ext G H' ∧ v'.flat = true ∧ (stepQ q t bs).2.2.1 = []) (Fk.mk _) :=
      K_sl23Talk hrG hbG h12 hw hpc hv hvb hbx h67 fun v' vb' H' a1 a2 a3 a4 a5 => ⟨v', vb', rfl, a1, a2, a3, a4, a5⟩
    have tail : ∀ (v' vb' : AV) (H' : AH), IV (fun b => G.n ≤ b) H' v' (stepQ q t bs).1.regs → BV (fun b => G.n ≤ b) H' vb' (stepQ q t bs).2.1 → Ext G H' → v'.flat = true → (stepQ q t bs).2.2.1 = [] → ∃ H4, ((H'.push [v', .I (stepQ q t bs).1.pc]).push []).store (H.n + 2) 0 [v', .I (stepQ q t bs).1.pc] = some H4 ∧ H4.loadN (H.n + 2) 0 2 = some [v', .I (stepQ q t bs).1.pc] ∧ K (.tup [.agg [v', .I (stepQ q t bs).1.pc], vb', .sl (H'.n + 1) 0 0 (.ex 0), .I (stepQ q t bs).2.2.2]) H4 := by
      intro v' vb' H' a1 a2 a3 a4 a5
      have x5 := Ext.push H' [v', .I (stepQ q t bs).1.pc]
      have x6 := x5.trans (Ext.push _ ([] : List AV))
      obtain ⟨H4, f1, f2, f3, _⟩ := fin v' vb' (.sl (H'.n + 1) 0 0 (.ex 0)) ((H'.push [v', .I (stepQ q t bs).1.pc]).push []) (stepQ q t bs).1.regs (stepQ q t bs).1.pc (stepQ q t bs).2.1 [] (stepQ q t bs).2.2.2 (a1.ext x6) (a2.ext x6) (by have := emp (H'.push [v', .I (stepQ q t bs).1.pc]) (by have := a3.1; simp; omega); simpa using this) (a3.trans x6) a4 (by rw [← a5])
      exact ⟨H4, f1, f2, f3⟩
    clear go
    rcases h67 with h | h
    · rw [h] at q0
      simp (disch := omega) [hG0.symm, load_bk q0, l5, loadN_bk q1]
      refine K_sl23Talk hrG hbG h12 hw hpc hv hvb hbx (.inl h) fun v' vb' H' a1 a2 a3 a4 a5 => ?_
      obtain ⟨H4, f1, f2, f3⟩ := tail v' vb' H' a1 a2 a3 a4 a5
      have st4 : (H'.push [.nils, .I 0]).store H'.n 0 [v', .I (stepQ q t bs).1.pc] = some (H'.push [v', .I (stepQ q t bs).1.pc]) := by rw [store_bk push_new (by simp), push_put]; rfl
      simp (disch := omega) [st4, loadN_push, f1, f2]
      exact f3
    · rw [h] at q0
      simp (disch := omega) [hG0.symm, load_bk q0, l5, loadN_bk q1]
      refine K_sl23Talk hrG hbG h12 hw hpc hv hvb hbx (.inr h) fun v' vb' H' a1 a2 a3 a4 a5 => ?_
      obtain ⟨H4, f1, f2, f3⟩ := tail v' vb' H' a1 a2 a3 a4 a5
      have st4 : (H'.push [.nils, .I 0]).store H'.n 0 [v', .I (stepQ q t bs).1.pc] = some (H'.push [v', .I (stepQ q t bs).1.pc]) := by rw [store_bk push_new (by simp), push_put]; rfl
      simp (disch := omega) [st4, loadN_push, f1, f2]
      exact f3
  by_cases h10 : q.op = 10
  · rw [h10] at q0
    simp (disch := omega) [hG0.symm, load_bk q0, load_bk q1, loadN_bk q1]
    refine K_sl23Go hrG (by omega) fun v' H2 iv2 x2 f2 => ?_
    have n2 := x2.1
    simp
    refine K_sl15BoxesCopy bs bit (hbG.ext x2) (by omega) fun vl H3 cs B g1 f1 x3 => ?_
    have n3 := x3.1
    have x4 := Ext.push H3 ([] : List AV)
    obtain ⟨H4, e1, e2, e3, _⟩ := fin v' vl (.sl H3.n 0 0 (.ex 0)) (H3.push []) t.regs t.pc bs [] 4 ((iv2.ext x3).ext x4) (((GrS.bv' g1 f1).ext x4).mono (Nat.le_refl _) (fun _ _ _ => rfl) (fun b hb _ => by omega)) (emp H3 (by omega)) ((x2.trans x3).trans x4) f2 (by
      unfold stepQ
      rw [if_neg (by omega), if_neg (by omega), if_neg (by omega), if_neg (by omega), if_neg (by omega), if_neg (by omega), if_neg (by omega), if_neg (by omega), if_neg (by omega)])
    simp [e1, e2]
    exact e3
  by_cases h8 : q.op = 8
  · rw [h8] at q0
    simp (disch := omega) [hG0.symm, load_bk q0, load_bk q1, loadN_bk q1]
    refine K_sl23Go hrG (by omega) fun v' H2 iv2 x2 f2 => ?_
    have n2 := x2.1
    simp
    refine K_sl15BoxesCopy bs bit (hbG.ext x2) (by omega) fun vl H3 cs B g1 f1 x3 => ?_
    have n3 := x3.1
    have x4 := Ext.push H3 ([] : List AV)
    obtain ⟨H4, e1, e2, e3, _⟩ := fin v' vl (.sl H3.n 0 0 (.ex 0)) (H3.push []) t.regs (t.pc + 1) bs [] 2 ((iv2.ext x3).ext x4) (((GrS.bv' g1 f1).ext x4).mono (Nat.le_refl _) (fun _ _ _ => rfl) (fun b hb _ => by omega)) (emp H3 (by omega)) ((x2.trans x3).trans x4) f2 (by
      unfold stepQ
      rw [if_neg (by omega), if_neg (by omega), if_neg (by omega), if_neg (by omega), if_neg (by omega), if_neg (by omega), if_neg (by omega), if_pos h8])
    simp [e1, e2]
    exact e3
  by_cases h9 : q.op = 9
  · have ha : 0 ≤ q.a ∧ q.a < 12 := by rcases quV_cases hv with ⟨h', _⟩ | ⟨h', _⟩ | ⟨h', _⟩ | ⟨h', _⟩ | ⟨h', _⟩ | ⟨h', _⟩ | ⟨h', _⟩ | h' | ⟨h', h0⟩ | h' <;> first | exact h0 | (exfalso; omega)
    rw [h9] at q0
    simp (disch := omega) [hG0.symm, load_bk q0, load_bk q1, loadN_bk q1]
    refine K_sl23Go hrG (by omega) fun v' H2 iv2 x2 f2 => ?_
    have n2 := x2.1
    have x2' := x2
    rw [hG0] at x2'
    simp [x2']
    refine K_sl15BoxesCopy bs bit (hbG.ext x2) (by omega) fun vl H3 cs B g1 f1 x3 => ?_
    have n3 := x3.1
    have x23 := x2.trans x3
    have hi : q.a.toNat < t.regs.length := by omega
    obtain ⟨b, o, a1, ab, a2⟩ := (hrG.ext x23).sees.at hi
    rw [h12] at a1
    have a2' : H3.load b (o + q.a.toNat) = some (.I (rg t q.a)) := by
      rw [a2]; unfold rg; rw [List.getElem?_eq_getElem hi]; rfl
    have p0 := (x23.2 H.n (by omega)).trans q0
    have p1 := (x23.2 (H.n + 1) (by omega)).trans q1
    have x4 := Ext.push H3 [.I (rg t q.a)]
    have io : IV (fun b => G.n ≤ b) (H3.push [.I (rg t q.a)]) (.sl H3.n 0 1 (.ex 1)) [rg t q.a] := ⟨by simp, rfl, .inr ⟨H3.n, 0, _, rfl, ⟨by omega, by simp [capOk]⟩, by simp, by rw [loadN_bk push_new]; rfl⟩⟩
    obtain ⟨H4, e1, e2, e3, e4⟩ := fin v' vl (.sl H3.n 0 1 (.ex 1)) (H3.push [.I (rg t q.a)]) t.regs (t.pc + 1) bs [rg t q.a] 1 ((iv2.ext x3).ext x4) (((GrS.bv' g1 f1).ext x4).mono (Nat.le_refl _) (fun _ _ _ => rfl) (fun b hb _ => by omega)) io (x23.trans x4) f2 (by
      unfold stepQ
      rw [if_neg (by omega), if_neg (by omega), if_neg (by omega), if_neg (by omega), if_neg (by omega), if_neg (by omega), if_neg (by omega), if_neg (by omega), if_pos h9])
    have hbn : b ≠ H.n + 2 := by
      obtain ⟨b', o', c1, c2, _⟩ := hr.sees.at hi
      rw [h12, a1] at c1
      simp only [Option.some.injEq, Prod.mk.injEq] at c1
      omega
    have u1 := e4 (H.n + 1) (by omega)
    have u2 := e4 H.n (by omega)
    have u3 := e4 b hbn
    have u4 := e4 H3.n (by omega)
    simp (disch := omega) [x3, load_bk p0, load_bk p1, a1, a2', e1, e2, u1, u2, u3, u4]
    exact e3
  · have hop : 1 ≤ q.op ∧ q.op ≤ 5 := by rcases quV_cases hv with ⟨h', _⟩ | ⟨h', _⟩ | ⟨h', _⟩ | ⟨h', _⟩ | ⟨h', _⟩ | ⟨h', _⟩ | ⟨h', _⟩ | h' | ⟨h', _⟩ | h' <;> omega
    have h6 : ¬ q.op = 6 := by omega
    have h7 : ¬ q.op = 7 := by omega
    simp (disch := omega) [hG0.symm, load_bk q0, l5, loadN_bk q1, h6, h7, h8, h9, h10]
    refine K_sl23Pure (bs := bs) hrG h12 hw hpc hv hop fun v' H2 iv2 x2 f2 => ?_
    have n2 := x2.1
    simp
    refine K_sl15BoxesCopy bs bit (hbG.ext x2) (by omega) fun vl H3 cs B g1 f1 x3 => ?_
    have n3 := x3.1
    have x4 := Ext.push H3 ([] : List AV)
    obtain ⟨H4, e1, e2, e3, _⟩ := fin v' vl (.sl H3.n 0 0 (.ex 0)) (H3.push []) (stepQ q t bs).1.regs (stepQ q t bs).1.pc bs [] 1 ((iv2.ext x3).ext x4) (((GrS.bv' g1 f1).ext x4).mono (Nat.le_refl _) (fun _ _ _ => rfl) (fun b hb _ => by omega)) (emp H3 (by omega)) ((x2.trans x3).trans x4) f2 (by
      unfold stepQ
      have : q.op = 1 ∨ q.op = 2 ∨ q.op = 3 ∨ q.op = 4 ∨ q.op = 5 := by omega
      rcases this with h | h | h | h | h <;> simp [h])
    simp [e1, e2]
    exact e3
end
end Go.Proofs.YtcibjklpaljadaaGreat.AM
namespace Go.Proofs.YtcibjklpaljadaaGreat.AM
set_option linter.unusedSimpArgs false
set_option linter.unusedVariables false
set_option maxRecDepth 100000
set_option maxHeartbeats 4000000
open Go
attribute [-simp] AM.elems
theorem RB.ob {base H v bs B rs} (h : RB base H v bs B rs) : OB H v bs B rs :=
  ⟨h.1, h.2.1.os, fun i x p hx hp => ⟨(h.2.2.1 i x p hx hp).1.os, (h.2.2.1 i x p hx hp).2⟩, h.2.2.2.1⟩
theorem RB.fp {base H v bs B rs} (h : RB base H v bs B rs) {x : Nat} (hx : x ∈ fpO v B rs) : x ∈ fpB B rs := by
  rw [mem_fpB]
  rcases mem_fpO.1 hx with q | q
  · refine .inl ⟨fun e => ?_, grB_sub q⟩
    have hb : bs = [] := List.eq_nil_of_length_eq_zero (by rw [← h.1, e]; rfl)
    rw [h.2.2.2.2 hb] at q
    simp [grB] at q
  · exact .inr q
structure ThR (n : Nat) (H : AH) (vr vb vo : AV) (R B : Nat) (rs : List (AV × Nat)) (O : Nat) (rg : List Int) (bs : List Bx) (out : List Int) : Prop where
  r : OI H vr R rg
  b : OB H vb bs B rs
  o : OI H vo O out
  d1 : ∀ b ∈ grB vr R, n ≤ b ∧ b ∉ fpO vb B rs ∧ b ∉ grB vo O
  d2 : ∀ b ∈ fpO vb B rs, n ≤ b ∧ b ∉ grB vo O
  d3 : ∀ b ∈ grB vo O, n ≤ b
section
variable {ok o2 o3 : Nat → Prop} {H : AH} {K : AV → AH → Prop} {w : Fk K} {vr vb vc : AV}
end
end Go.Proofs.YtcibjklpaljadaaGreat.AM
namespace Go.Proofs.YtcibjklpaljadaaGreat.AM
set_option linter.unusedSimpArgs false
set_option linter.unusedVariables false
set_option maxRecDepth 100000
set_option maxHeartbeats 8000000
open Go
attribute [-simp] AM.elems
theorem ThR.only {n : Nat} {H H' : AH} {vr vb vo : AV} {R B : Nat} {rs : List (AV × Nat)} {O : Nat} {rg : List Int} {bs : List Bx} {out : List Int} {xs : List Nat} (h : ThR n H vr vb vo R B rs O rg bs out) (k : Only xs H H') (hx : ∀ b ∈ xs, b < n) : ThR n H' vr vb vo R B rs O rg bs out :=
  ⟨h.r.only k (fun b hb hm => by have := hx b hm; have := (h.d1 b hb).1; omega), h.b.only k (fun b hb hm => by have := hx b hm; have := (h.d2 b hb).1; omega), h.o.only k (fun b hb hm => by have := hx b hm; have := h.d3 b hb; omega), h.d1, h.d2, h.d3⟩
theorem ThR.ext {n : Nat} {H H' : AH} {vr vb vo : AV} {R B : Nat} {rs : List (AV × Nat)} {O : Nat} {rg : List Int} {bs : List Bx} {out : List Int} (h : ThR n H vr vb vo R B rs O rg bs out) (k : Ext H H') : ThR n H' vr vb vo R B rs O rg bs out := h.only (xs := []) k.only (by simp)
theorem ThR.bv {n : Nat} {H : AH} {vr vb vo : AV} {R B : Nat} {rs : List (AV × Nat)} {O : Nat} {rg : List Int} {bs : List Bx} {out : List Int} (h : ThR n H vr vb vo R B rs O rg bs out) : BV (fun _ => True) H vb bs := h.b.bv fun _ _ => trivial
theorem Only.fresh {bs H0 H H'} (k : Only bs H H') (h : Ext H0 H) (hb : ∀ b ∈ bs, H0.n ≤ b) : Ext H0 H' := ⟨Nat.le_trans h.1 k.1, fun b hbn => (k.2 b (Nat.lt_of_lt_of_le hbn h.1) (fun hm => by have := hb b hm; omega)).trans (h.2 b hbn)⟩
end Go.Proofs.YtcibjklpaljadaaGreat.AM
namespace Go.Proofs.YtcibjklpaljadaaGreat.AM
set_option linter.unusedSimpArgs false
set_option linter.unusedVariables false
set_option maxRecDepth 100000
set_option maxHeartbeats 4000000
open Go Go.RowKit
attribute [-simp] AM.elems
theorem cell_spot {w : World} {x : Addr} {v : Value} (h : w.cell? x = some v) : x.spot = none := by
  unfold World.cell? at h
  cases hx : x.spot with
  | none => rfl
  | some q =>
    rw [hx] at h
    split at h
    · simp at h
    · cases h
theorem add_spot {x : Addr} (h : x.spot = none) (i : Nat) : x.add i = ⟨x.block, x.off + i, none⟩ := by
  unfold Addr.add
  split
  · subst i; cases x; cases h; rfl
  · cases x; cases h; rfl
def AtC (w : World) (ρ : Rho) (x : Addr) (cs : List AV) : Prop := ∀ (i : Nat) c, cs[i]? = some c → c.flat = true ∧ ∃ v, w.cell? (x.add i) = some v ∧ VR ρ c v
def recB (a : Option Addr) (cs : List AV) : Nat × Nat × List AV := ((a.map (·.block)).getD 0, (a.map (·.off)).getD 0, cs)
def IsRec (w : World) (ρ : Rho) (a : Option Addr) (len cap sz : Nat) (cs : List AV) : Prop :=
  (a = none ∧ len = 0 ∧ cap = 0 ∧ cs = []) ∨ ∃ x, a = some x ∧ len ≤ cap ∧ cap ≤ maxLen ∧ cs.length = cap * sz ∧ AtC w ρ x cs
theorem rec_lies {w : World} {ρ : Rho} {a len cap sz cs} (h : IsRec w ρ a len cap sz cs) : ∀ (i : Nat) x, (recB a cs).2.2[i]? = some x → x.flat = true ∧ ∃ v, w.cell? ⟨(recB a cs).1, (recB a cs).2.1 + i, none⟩ = some v ∧ VR ρ x v := by
  intro i c hc
  rcases h with ⟨_, _, _, rfl⟩ | ⟨x, rfl, _, _, _, h⟩
  · simp [recB] at hc
  · obtain ⟨f, v, h1, h2⟩ := h i c hc
    have hs : x.spot = none := by
      obtain ⟨c0, hc0⟩ : ∃ c0, cs[0]? = some c0 := ⟨_, List.getElem?_eq_getElem (by have := (List.getElem?_eq_some_iff.1 hc).1; simp only [recB] at this; omega)⟩
      obtain ⟨_, v0, h3, _⟩ := h 0 c0 hc0
      have := cell_spot h3
      unfold Addr.add at this
      simpa using this
    rw [add_spot hs] at h1
    exact ⟨f, v, h1, h2⟩
theorem rec_spot {w : World} {ρ : Rho} {x : Addr} {cs : List AV} (h : AtC w ρ x cs) (h0 : cs.length ≠ 0) : x.spot = none := by
  obtain ⟨c0, hc0⟩ : ∃ c0, cs[0]? = some c0 := ⟨_, List.getElem?_eq_getElem (by omega)⟩
  obtain ⟨_, v0, h3, _⟩ := h 0 c0 hc0
  have := cell_spot h3
  unfold Addr.add at this
  simpa using this
theorem rec_v {w : World} {bs : Bs} {ρ : Rho} {a len cap sz cs} (h : IsRec w ρ a len cap sz cs) (hz : 0 < sz) {j : Nat} (hj : bs[j]? = some (recB a cs)) : VR (rho0 w.heap.size bs) (rowV (w.heap.size + j) a len cap) (.slice a len cap) := by
  unfold rowV
  by_cases hc : cap = 0
  · rcases h with ⟨rfl, rfl, rfl, rfl⟩ | ⟨x, rfl, h1, _, h3, h4⟩
    · simp only [if_true]; exact .nils
    · subst hc
      have : len = 0 := by omega
      subst this
      simp only [reduceCtorEq, if_false, if_true]
      exact .esl x 0
  · rcases h with ⟨_, _, h, _⟩ | ⟨x, rfl, h1, _, h3, h4⟩
    · exact absurd h hc
    have hcl : cs.length ≠ 0 := by
      rw [h3]
      have := Nat.mul_le_mul_right sz (Nat.pos_of_ne_zero hc)
      omega
    have hs := rec_spot h4 hcl
    simp only [reduceCtorEq, if_false, hc]
    have := @VR.slR (rho0 w.heap.size bs) (w.heap.size + j) 0 x.block x.off cs.length len cap (by
      simp only [rho0]
      rw [if_neg (by omega), Nat.add_sub_cancel_left, hj]
      simp only [recB, Option.bind_some, Option.map_some, Option.getD_some]
      rw [if_neg (by omega)]) h1
    have e : x = ⟨x.block, x.off + 0, none⟩ := by cases x; cases hs; rfl
    rw [← e] at this
    exact this
theorem rec_sees {w : World} {bs : Bs} {ρ : Rho} {a len cap sz cs} (h : IsRec w ρ a len cap sz cs) {j : Nat} (hj : bs[j]? = some (recB a cs)) (hl : len ≤ 8589934592) : SlC (fun _ => True) (heap0 w.heap.size bs) (rowV (w.heap.size + j) a len cap) len sz (cs.take (len * sz)) := by
  unfold rowV
  have hb : w.heap.size + j < (heap0 w.heap.size bs).n := by
    have := (List.getElem?_eq_some_iff.1 hj).1
    simp only [heap0]; omega
  rcases h with ⟨rfl, rfl, rfl, rfl⟩ | ⟨x, rfl, h1, _, h3, h4⟩
  · simp only [if_true]
    exact ⟨by omega, by simp, .inl ⟨rfl, .inl rfl⟩⟩
  · have hle := Nat.mul_le_mul_right sz h1
    refine ⟨hl, by rw [List.length_take, h3]; omega, ?_⟩
    by_cases hc : cap = 0
    · simp only [reduceCtorEq, if_false, hc, if_true]
      exact .inl ⟨by omega, by simp⟩
    · simp only [reduceCtorEq, if_false, hc]
      have hbk : (heap0 w.heap.size bs).bk (w.heap.size + j) = some ⟨cs, false⟩ := by
        simp only [heap0]
        rw [if_neg (by omega), Nat.add_sub_cancel_left, hj]
        rfl
      refine .inr ⟨w.heap.size + j, 0, .ro, rfl, ⟨trivial, trivial⟩, hb, ?_⟩
      rw [loadN_bk hbk]
      unfold seg
      rw [if_pos (by rw [h3]; omega)]
      rfl
theorem rec_alen {w : World} {ρ : Rho} {a len cap sz cs} {b : Nat} (h : IsRec w ρ a len cap sz cs) : alen (rowV b a len cap) = some len ∧ len ≤ 9223372036854775807 := by
  unfold rowV
  rcases h with ⟨rfl, rfl, rfl, rfl⟩ | ⟨x, rfl, h1, h2, h3, h4⟩
  · simp only [if_true]; exact ⟨rfl, by omega⟩
  · have hm : len ≤ 9223372036854775807 := by simp [maxLen] at h2; omega
    by_cases hc : cap = 0
    · simp only [reduceCtorEq, if_false, hc, if_true]
      have : len = 0 := by omega
      subst this
      exact ⟨rfl, hm⟩
    · simp only [reduceCtorEq, if_false, hc]
      exact ⟨rfl, hm⟩
theorem row_rec {w : World} {ρ : Rho} {a len cap zs} (h : IsRow .i64 w a len cap zs) : IsRec w ρ a len cap 1 (Ints zs) := by
  rcases h with ⟨rfl, rfl, rfl, rfl⟩ | ⟨x, rfl, h1, h2, h3, h4, _⟩
  · exact .inl ⟨rfl, rfl, rfl, rfl⟩
  · refine .inr ⟨x, rfl, h1, h2, by simp [Ints, h3], fun i c hc => ?_⟩
    simp only [Ints, List.getElem?_map, Option.map_eq_some_iff] at hc
    obtain ⟨n, hn, rfl⟩ := hc
    have hi := (List.getElem?_eq_some_iff.1 hn).1
    have : zs.getD i 0 = n := by simp [List.getD, hn]
    exact ⟨rfl, _, h4 i hi, by rw [this]; exact .i _ _⟩
theorem row_argI {w : World} {bs : Bs} {a len cap zs} (h : IsRow .i64 w a len cap zs) {j : Nat} (hj : bs[j]? = some (recB a (Ints zs))) : ArgI (heap0 w.heap.size bs) (rowV (w.heap.size + j) a len cap) (zs.take len) := by
  have hr := row_rec (ρ := rho0 w.heap.size bs) h
  have hl : (zs.take len).length = len := by
    rw [List.length_take]
    rcases h with ⟨rfl, rfl, rfl, rfl⟩ | ⟨x, rfl, h1, h2, h3, h4, _⟩
    · rfl
    · omega
  obtain ⟨a1, a2⟩ := rec_alen (b := w.heap.size + j) hr
  refine ⟨by rw [hl]; exact a1, by omega, rowV_flat, fun hle => ?_⟩
  have := rec_sees hr hj (by omega)
  unfold IV
  rw [hl]
  have e : Ints (zs.take len) = (Ints zs).take (len * 1) := by simp [Ints]
  rw [e]
  exact this
def IsQ (w : World) (a : Option Addr) (len cap : Nat) (L : List Qd) : Prop :=
  (a = none ∧ len = 0 ∧ cap = 0 ∧ L = []) ∨ ∃ x, a = some x ∧ len ≤ cap ∧ cap ≤ maxLen ∧ L.length = cap ∧ ∀ (i : Nat) q, L[i]? = some q → ∀ (j : Nat) c, [q.op, q.dst, q.a, q.b, q.n][j]? = some c → w.cell? (x.add (i * 5 + j)) = some (.int .i64 c)
theorem qCs_get {L : List Qd} {i : Nat} {c : AV} (h : (qCs L)[i]? = some c) : ∃ q z, L[i / 5]? = some q ∧ [q.op, q.dst, q.a, q.b, q.n][i % 5]? = some z ∧ c = .I z := by
  induction L generalizing i with
  | nil => simp [qCs] at h
  | cons q L ih =>
    have e : qCs (q :: L) = qC q ++ qCs L := rfl
    have e5 : (qC q).length = 5 := rfl
    rw [e] at h
    by_cases hi : i < 5
    · rw [List.getElem?_append_left (by omega)] at h
      have h1 : i / 5 = 0 := by omega
      have h2 : i % 5 = i := by omega
      rw [h1, h2]
      have hq : qC q = [q.op, q.dst, q.a, q.b, q.n].map fun z => .I z := rfl
      rw [hq, List.getElem?_map, Option.map_eq_some_iff] at h
      obtain ⟨z, hz, rfl⟩ := h
      exact ⟨q, z, rfl, hz, rfl⟩
    · rw [List.getElem?_append_right (by omega), e5] at h
      obtain ⟨q', z, h1, h2, h3⟩ := ih h
      have e1 : i / 5 = (i - 5) / 5 + 1 := by omega
      have e2 : i % 5 = (i - 5) % 5 := by omega
      rw [e1, e2]
      exact ⟨q', z, h1, h2, h3⟩
theorem isQ_rec {w : World} {ρ : Rho} {a len cap L} (h : IsQ w a len cap L) : IsRec w ρ a len cap 5 (qCs L) := by
  rcases h with ⟨rfl, rfl, rfl, rfl⟩ | ⟨x, rfl, h1, h2, h3, h4⟩
  · exact .inl ⟨rfl, rfl, rfl, rfl⟩
  · refine .inr ⟨x, rfl, h1, h2, by rw [qCs_len, h3], fun i c hc => ?_⟩
    obtain ⟨q, z, g1, g2, rfl⟩ := qCs_get hc
    have := h4 _ q g1 _ z g2
    rw [show i / 5 * 5 + i % 5 = i by omega] at this
    exact ⟨rfl, _, this, .i _ _⟩
theorem qCs_take : ∀ {L : List Qd} {n : Nat}, qCs (L.take n) = (qCs L).take (n * 5)
  | [], n => by simp [qCs]
  | q :: L, 0 => by simp [qCs]
  | q :: L, n + 1 => by
    have e : qCs (q :: L) = qC q ++ qCs L := rfl
    have e' : qCs ((q :: L).take (n + 1)) = qC q ++ qCs (L.take n) := rfl
    have e5 : (qC q).length = 5 := rfl
    rw [e, e', qCs_take (L := L) (n := n), List.take_append, List.take_of_length_le (l := qC q) (by rw [e5]; omega), e5, show (n + 1) * 5 - 5 = n * 5 by omega]
theorem isQ_arg {w : World} {bs : Bs} {a len cap L} (h : IsQ w a len cap L) {j : Nat} (hj : bs[j]? = some (recB a (qCs L))) : ArgQ (heap0 w.heap.size bs) (rowV (w.heap.size + j) a len cap) (L.take len) := by
  have hr := isQ_rec (ρ := rho0 w.heap.size bs) h
  have hl : (L.take len).length = len := by
    rw [List.length_take]
    rcases h with ⟨rfl, rfl, rfl, rfl⟩ | ⟨x, rfl, h1, h2, h3, _⟩
    · rfl
    · omega
  obtain ⟨a1, a2⟩ := rec_alen (b := w.heap.size + j) hr
  refine ⟨by rw [hl]; exact a1, by omega, rowV_flat, fun hle => ?_⟩
  have := rec_sees hr hj (by omega)
  unfold QV
  rw [hl]
  rw [qCs_take]
  exact this
end Go.Proofs.YtcibjklpaljadaaGreat.AM
namespace Go.Proofs.YtcibjklpaljadaaGreat.AM
set_option linter.unusedSimpArgs false
set_option linter.unusedVariables false
set_option maxRecDepth 100000
set_option maxHeartbeats 4000000
open Go Go.RowKit
attribute [-simp] AM.elems
structure BRow where
  room : Int
  a : Option Addr
  len : Nat
  cap : Nat
  zs : List Int
def IsBs (w : World) (a : Option Addr) (len cap : Nat) (L : List BRow) : Prop :=
  (a = none ∧ len = 0 ∧ cap = 0 ∧ L = []) ∨ ∃ x, a = some x ∧ len ≤ cap ∧ cap ≤ maxLen ∧ L.length = cap ∧ ∀ (i : Nat) r, L[i]? = some r → w.cell? (x.add (i * 2)) = some (.int .i64 r.room) ∧ w.cell? (x.add (i * 2 + 1)) = some (.slice r.a r.len r.cap) ∧ IsRow .i64 w r.a r.len r.cap r.zs
def boxCells : Nat → List BRow → List AV
  | _, [] => []
  | n, r :: L => .I r.room :: rowV n r.a r.len r.cap :: boxCells (n + 1) L
theorem boxCells_len : ∀ {L : List BRow} {n : Nat}, (boxCells n L).length = L.length * 2
  | [], _ => rfl
  | r :: L, n => by simp [boxCells, boxCells_len (L := L)]; omega
def BRow.box (r : BRow) : Bx := ⟨r.room, r.zs.take r.len⟩
theorem boxCells_get : ∀ {L : List BRow} {n i : Nat} {c : AV}, (boxCells n L)[i]? = some c → ∃ r, L[i / 2]? = some r ∧ ((i % 2 = 0 ∧ c = .I r.room) ∨ (i % 2 = 1 ∧ c = rowV (n + i / 2) r.a r.len r.cap))
  | [], n, i, c, h => by simp [boxCells] at h
  | r :: L, n, 0, c, h => by simp [boxCells] at h; exact ⟨r, rfl, .inl ⟨rfl, h.symm⟩⟩
  | r :: L, n, 1, c, h => by simp [boxCells] at h; exact ⟨r, rfl, .inr ⟨rfl, h.symm⟩⟩
  | r :: L, n, i + 2, c, h => by
    have h' : (boxCells (n + 1) L)[i]? = some c := by simpa [boxCells] using h
    obtain ⟨r', g1, g2⟩ := boxCells_get h'
    have e1 : (i + 2) / 2 = i / 2 + 1 := by omega
    have e2 : (i + 2) % 2 = i % 2 := by omega
    rw [e1, e2]
    refine ⟨r', g1, ?_⟩
    rcases g2 with g2 | ⟨g2, g3⟩
    · exact .inl g2
    · exact .inr ⟨g2, by rw [g3, Nat.add_assoc, Nat.add_comm 1]⟩
theorem isBs_rec {w : World} {bs : Bs} {a len cap} {L : List BRow} {j0 : Nat} (h : IsBs w a len cap L) (hit : ∀ (i : Nat) r, L[i]? = some r → bs[j0 + i]? = some (recB r.a (Ints r.zs))) : IsRec w (rho0 w.heap.size bs) a len cap 2 (boxCells (w.heap.size + j0) L) := by
  rcases h with ⟨rfl, rfl, rfl, rfl⟩ | ⟨x, rfl, h1, h2, h3, h4⟩
  · exact .inl ⟨rfl, rfl, rfl, rfl⟩
  · refine .inr ⟨x, rfl, h1, h2, by rw [boxCells_len, h3], fun i c hc => ?_⟩
    obtain ⟨r, g1, ⟨g2, rfl⟩ | ⟨g2, rfl⟩⟩ := boxCells_get hc
    · have := (h4 _ r g1).1
      rw [show i / 2 * 2 = i by omega] at this
      exact ⟨rfl, _, this, .i _ _⟩
    · obtain ⟨_, q1, q2⟩ := h4 _ r g1
      rw [show i / 2 * 2 + 1 = i by omega] at q1
      refine ⟨rowV_flat, _, q1, ?_⟩
      have := rec_v (bs := bs) (row_rec (ρ := rho0 w.heap.size bs) q2) (by omega) (hit _ r g1)
      rwa [← Nat.add_assoc] at this
theorem boxCells_LF {H : AH} : ∀ {L : List BRow} {n : Nat}, (∀ (i : Nat) r, L[i]? = some r → ArgI H (rowV (n + i) r.a r.len r.cap) r.box.items) → LF 2 (fun c (x : Bx) => ∃ vi, c = [.I x.room, vi] ∧ ArgI H vi x.items) (L.map BRow.box) (boxCells n L)
  | [], _, _ => rfl
  | r :: L, n, h => ⟨[.I r.room, rowV n r.a r.len r.cap], boxCells (n + 1) L, rfl, rfl, ⟨_, rfl, h 0 r rfl⟩, boxCells_LF fun i r' hr => by
    have := h (i + 1) r' (by simpa using hr)
    rwa [show n + (i + 1) = n + 1 + i by omega] at this⟩
theorem isBs_arg {w : World} {bs : Bs} {a len cap} {L : List BRow} {j0 j : Nat} (h : IsBs w a len cap L) (hit : ∀ (i : Nat) r, L[i]? = some r → bs[j0 + i]? = some (recB r.a (Ints r.zs))) (hj : bs[j]? = some (recB a (boxCells (w.heap.size + j0) L))) : ArgB (heap0 w.heap.size bs) (rowV (w.heap.size + j) a len cap) ((L.map BRow.box).take len) := by
  have hr := isBs_rec h hit
  have hl : ((L.map BRow.box).take len).length = len := by
    rw [List.length_take, List.length_map]
    rcases h with ⟨rfl, rfl, rfl, rfl⟩ | ⟨x, rfl, h1, h2, h3, _⟩
    · rfl
    · omega
  obtain ⟨a1, a2⟩ := rec_alen (b := w.heap.size + j) hr
  refine ⟨by rw [hl]; exact a1, by omega, rowV_flat, fun hle => ?_⟩
  have hs := rec_sees hr hj (by omega)
  refine ⟨_, by rw [hl]; exact hs, ?_⟩
  refine LF.take (boxCells_LF fun i r hri => ?_) len
  have hir : IsRow .i64 w r.a r.len r.cap r.zs := by
    rcases h with ⟨rfl, rfl, rfl, rfl⟩ | ⟨x, rfl, h1, h2, h3, h4⟩
    · simp at hri
    · exact (h4 i r hri).2.2
  have := row_argI hir (hit i r hri)
  rwa [← Nat.add_assoc] at this
def itemsB (L : List BRow) : Bs := L.map fun r => recB r.a (Ints r.zs)
end Go.Proofs.YtcibjklpaljadaaGreat.AM
namespace Go.Proofs.YtcibjklpaljadaaGreat.AM
set_option linter.unusedSimpArgs false
set_option linter.unusedVariables false
set_option maxRecDepth 100000
open Go Go.RowKit Go.ChangeShapes Go.WideShapes Go.ChangeAt Go.Joins Go.Deep
section
variable {D0 : Type} {enc : TypeId × Value → D0} {P : Program} {w : World} {base : Nat} {held : Bool}
theorem open_row {ts ti : TypeId} {fuel : Nat} {u : Value} {y : DataW D0 × List MemPlace} (hs : P.underlying ts = some (.slice ti)) (hi : P.underlying ti = some (.int .i64)) (hc : P.cellsOf ti = 1)
    (h : DataW.trod enc P w base (fun _ => true) held fuel ts [u] = some y) : ∃ a len cap zs, u = .slice a len cap ∧ IsRow .i64 w a len cap zs := by
  rcases open_ints hs hi hc h with ⟨hcs, _⟩ | ⟨x, l, c, zs, hcs, _, hl, hm, hz, _, hcell, hwz⟩
  · simp only [List.cons.injEq, and_true] at hcs
    exact ⟨none, 0, 0, [], hcs, .inl ⟨rfl, rfl, rfl, rfl⟩⟩
  · simp only [List.cons.injEq, and_true] at hcs
    exact ⟨some x, l, c, zs, hcs, .inr ⟨x, rfl, hl, hm, by simpa using hz, hcell, hwz⟩⟩
instance : Inhabited BRow := ⟨⟨0, none, 0, 0, []⟩⟩
instance : Inhabited Qd := ⟨⟨0, 0, 0, 0, 0⟩⟩
theorem open_quads {t e ti : TypeId} {f0 f1 f2 f3 f4 : Field} {fuel : Nat} {u : Value} {x : DataW D0 × List MemPlace} (ht : P.underlying t = some (.slice e)) (he : P.underlying e = some (.struct #[f0, f1, f2, f3, f4])) (hi : P.underlying ti = some (.int .i64))
    (ce : P.cellsOf e = 5) (ci : P.cellsOf ti = 1) (t0 : f0.type = ti ∧ f0.offset = 0) (t1 : f1.type = ti ∧ f1.offset = 1) (t2 : f2.type = ti ∧ f2.offset = 2) (t3 : f3.type = ti ∧ f3.offset = 3) (t4 : f4.type = ti ∧ f4.offset = 4)
    (h : DataW.trod enc P w base (fun _ => true) held fuel t [u] = some x) : ∃ a len cap L, u = .slice a len cap ∧ IsQ w a len cap L := by
  rcases open_slice ht h with ⟨hcs, _⟩ | ⟨a, len, cap, m, n, D, Pl, hcs, hb, hl, hm, hmm, _, hx⟩
  · simp only [List.cons.injEq, and_true] at hcs
    exact ⟨none, 0, 0, [], hcs, .inl ⟨rfl, rfl, rfl, rfl⟩⟩
  · simp only [List.cons.injEq, and_true] at hcs
    simp only [if_true] at hmm
    subst hmm
    have each : ∀ i, i < m → ∃ q : Qd, ∀ (j : Nat) c, [q.op, q.dst, q.a, q.b, q.n][j]? = some c → w.cell? (a.add (i * 5 + j)) = some (.int .i64 c) := by
      intro i hi'
      obtain ⟨cs', h1, h2⟩ := hx i hi'
      rw [ce] at h1
      obtain ⟨_, hlen, hcell⟩ := World.cells?_some h1
      obtain ⟨xs, k, _, _, _, hxl, hf⟩ := DataW.trod_struct he h2
      match xs, hxl, cs', hlen with
      | [y0, y1, y2, y3, y4], _, [v0, v1, v2, v3, v4], _ =>
        have g0 := hf 0 f0 rfl
        have g1 := hf 1 f1 rfl
        have g2 := hf 2 f2 rfl
        have g3 := hf 3 f3 rfl
        have g4 := hf 4 f4 rfl
        simp [t0.1, t0.2, ci] at g0
        simp [t1.1, t1.2, ci] at g1
        simp [t2.1, t2.2, ci] at g2
        simp [t3.1, t3.2, ci] at g3
        simp [t4.1, t4.2, ci] at g4
        obtain ⟨z0, e0, _⟩ := DataW.trod_int hi g0
        obtain ⟨z1, e1, _⟩ := DataW.trod_int hi g1
        obtain ⟨z2, e2, _⟩ := DataW.trod_int hi g2
        obtain ⟨z3, e3, _⟩ := DataW.trod_int hi g3
        obtain ⟨z4, e4, _⟩ := DataW.trod_int hi g4
        simp only [List.cons.injEq, and_true] at e0 e1 e2 e3 e4
        have c0 := hcell 0 (by omega)
        have c1 := hcell 1 (by omega)
        have c2 := hcell 2 (by omega)
        have c3 := hcell 3 (by omega)
        have c4 := hcell 4 (by omega)
        rw [add_add] at c0 c1 c2 c3 c4
        simp [e0] at c0
        simp [e1] at c1
        simp [e2] at c2
        simp [e3] at c3
        simp [e4] at c4
        refine ⟨⟨z0, z1, z2, z3, z4⟩, fun j c hj => ?_⟩
        match j, hj with
        | 0, hj => simp at hj; subst hj; exact c0
        | 1, hj => simp at hj; subst hj; exact c1
        | 2, hj => simp at hj; subst hj; exact c2
        | 3, hj => simp at hj; subst hj; exact c3
        | 4, hj => simp at hj; subst hj; exact c4
        | j + 5, hj => simp at hj
    obtain ⟨q, hq⟩ := choose_lt each
    refine ⟨some a, len, m, (List.range m).map q, hcs, .inr ⟨a, rfl, hl, hm, by simp, fun i q' hi' => ?_⟩⟩
    have hlt := (List.getElem?_eq_some_iff.1 hi').1
    simp at hlt
    rw [List.getElem?_map, List.getElem?_range hlt] at hi'
    simp at hi'
    subst hi'
    exact hq i hlt
theorem open_boxes {t e ti ts : TypeId} {f0 f1 : Field} {fuel : Nat} {u : Value} {x : DataW D0 × List MemPlace} (ht : P.underlying t = some (.slice e)) (he : P.underlying e = some (.struct #[f0, f1])) (hi : P.underlying ti = some (.int .i64)) (hs : P.underlying ts = some (.slice ti))
    (ce : P.cellsOf e = 2) (ci : P.cellsOf ti = 1) (cs : P.cellsOf ts = 1) (t0 : f0.type = ti ∧ f0.offset = 0) (t1 : f1.type = ts ∧ f1.offset = 1)
    (h : DataW.trod enc P w base (fun _ => true) held fuel t [u] = some x) : ∃ a len cap L, u = .slice a len cap ∧ IsBs w a len cap L := by
  rcases open_slice_pairs ht he ce t0.2 t1.2 (by rw [t0.1]; exact ci) (by rw [t1.1]; exact cs) h with ⟨hcs, _⟩ | ⟨a, len, cap, m, n, V0, V1, D0, D1, P0, P1, hcs, hb, hl, hm, hmm, _, hx⟩
  · simp only [List.cons.injEq, and_true] at hcs
    exact ⟨none, 0, 0, [], hcs, .inl ⟨rfl, rfl, rfl, rfl⟩⟩
  · simp only [List.cons.injEq, and_true] at hcs
    simp only [if_true] at hmm
    subst hmm
    have each : ∀ i, i < m → ∃ r : BRow, w.cell? (a.add (i * 2)) = some (.int .i64 r.room) ∧ w.cell? (a.add (i * 2 + 1)) = some (.slice r.a r.len r.cap) ∧ IsRow .i64 w r.a r.len r.cap r.zs := by
      intro i hi'
      obtain ⟨h1, h2, h3, h4⟩ := hx i hi'
      rw [t0.1] at h3
      rw [t1.1] at h4
      obtain ⟨z, e0, _⟩ := DataW.trod_int hi h3
      simp only [List.cons.injEq, and_true] at e0
      obtain ⟨a', l', c', zs, e1, hr⟩ := open_row hs hi ci h4
      exact ⟨⟨z, a', l', c', zs⟩, by rw [h1, e0], by rw [h2, e1], hr⟩
    obtain ⟨q, hq⟩ := choose_lt each
    refine ⟨some a, len, m, (List.range m).map q, hcs, .inr ⟨a, rfl, hl, hm, by simp, fun i r hi' => ?_⟩⟩
    have hlt := (List.getElem?_eq_some_iff.1 hi').1
    simp at hlt
    rw [List.getElem?_map, List.getElem?_range hlt] at hi'
    simp at hi'
    subst hi'
    exact hq i hlt
end
end Go.Proofs.YtcibjklpaljadaaGreat.AM
namespace Go.Proofs.YtcibjklpaljadaaGreat.AM
set_option linter.unusedSimpArgs false
set_option linter.unusedVariables false
set_option maxRecDepth 100000
set_option maxHeartbeats 4000000
open Go
attribute [-simp] AM.elems
structure Nest (α : Type) where
  sz : Nat
  cl : α → AV → List AV
  n : α → Nat
  k : Nat
  cs : α → List AV
  hsz : ∀ x v, (cl x v).length = sz
def nestC : Nest (List Qd) := ⟨1, fun _ v => [v], fun l => l.length, 5, qCs, fun _ _ => rfl⟩
def nestT : Nest Th := ⟨2, fun t v => [v, .I t.pc], fun t => t.regs.length, 1, fun t => Ints t.regs, fun _ _ => rfl⟩
section
variable {α : Type} {N : Nest α}
def cellsG (N : Nest α) : List α → List (AV × Nat) → List AV
  | x :: l, p :: r => N.cl x p.1 ++ cellsG N l r
  | _, _ => []
theorem cellsG_len : ∀ {l : List α} {r : List (AV × Nat)}, r.length = l.length → (cellsG N l r).length = l.length * N.sz
  | [], [], _ => by simp [cellsG]
  | x :: l, p :: r, h => by have := cellsG_len (l := l) (r := r) (by simpa using h); simp [cellsG, this, N.hsz, Nat.add_mul]; omega
  | [], p :: r, h => by simp at h
  | x :: l, [], h => by simp at h
theorem cellsG_get : ∀ {l : List α} {r : List (AV × Nat)} {i : Nat} {x : α} {p : AV × Nat}, l[i]? = some x → r[i]? = some p → ∀ {ex : List AV}, seg (cellsG N l r ++ ex) (i * N.sz) N.sz = some (N.cl x p.1)
  | x :: l, p :: r, 0, _, _, h1, h2, ex => by
    simp at h1 h2; subst h1 h2
    unfold seg
    rw [if_pos (by simp [cellsG, N.hsz])]
    simp [cellsG, ← N.hsz x p.1]
  | x :: l, p :: r, i + 1, y, q, h1, h2, ex => by
    have := cellsG_get (l := l) (r := r) (i := i) (by simpa using h1) (by simpa using h2) (ex := ex)
    rw [← this]
    unfold seg
    have e : (i + 1) * N.sz = N.sz + i * N.sz := by rw [Nat.add_mul]; omega
    have e2 : cellsG N (x :: l) (p :: r) ++ ex = N.cl x p.1 ++ (cellsG N l r ++ ex) := by simp [cellsG]
    rw [e, e2, List.length_append, N.hsz]
    by_cases hq : i * N.sz + N.sz ≤ (cellsG N l r ++ ex).length
    · rw [if_pos (by omega), if_pos hq]
      congr 2
      rw [List.drop_append, N.hsz, List.drop_of_length_le (by rw [N.hsz]; omega), List.nil_append, show N.sz + i * N.sz - N.sz = i * N.sz by omega]
    · rw [if_neg (by omega), if_neg hq]
  | [], _, i, _, _, h1, _, _ => by simp at h1
  | _ :: _, [], i, _, _, _, h2, _ => by simp at h2
theorem cellsG_snoc : ∀ {l : List α} {r : List (AV × Nat)} {x : α} {p : AV × Nat}, r.length = l.length → cellsG N l r ++ N.cl x p.1 = cellsG N (l ++ [x]) (r ++ [p])
  | [], [], _, _, _ => by simp [cellsG]
  | y :: l, q :: r, x, p, h => by simp only [cellsG, List.cons_append, List.append_assoc, cellsG_snoc (l := l) (r := r) (x := x) (p := p) (by simpa using h)]
  | [], _ :: _, _, _, h => by simp at h
  | _ :: _, [], _, _, h => by simp at h
def OG (N : Nest α) (H : AH) (v : AV) (l : List α) (B : Nat) (rs : List (AV × Nat)) : Prop :=
  rs.length = l.length ∧ OS H v B l.length N.sz (cellsG N l rs) ∧ (∀ (i : Nat) (x : α) (p : AV × Nat), l[i]? = some x → rs[i]? = some p → OS H p.1 p.2 (N.n x) N.k (N.cs x) ∧ B ∉ grB p.1 p.2) ∧
    (∀ (i j : Nat) (p q : AV × Nat), i ≠ j → rs[i]? = some p → rs[j]? = some q → ∀ b ∈ grB p.1 p.2, b ∉ grB q.1 q.2)
theorem OG.only {H H' v l B rs bs} (h : OG N H v l B rs) (k : Only bs H H') (hb : ∀ x ∈ fpO v B rs, x ∉ bs) : OG N H' v l B rs := by
  obtain ⟨h1, h2, h3, h4⟩ := h
  exact ⟨h1, h2.only k (fun x hx => hb x (mem_fpO.2 (.inl hx))), fun i x p hx hp => ⟨(h3 i x p hx hp).1.only k (fun y hy => hb y (mem_fpO.2 (.inr ⟨p, List.mem_of_getElem? hp, hy⟩))), (h3 i x p hx hp).2⟩, h4⟩
theorem OG.ext {H H' v l B rs} (h : OG N H v l B rs) (k : Ext H H') : OG N H' v l B rs := h.only (bs := []) k.only (by simp)
theorem OG.mem {H v l B rs} (h : OG N H v l B rs) {b : Nat} (hb : b ∈ fpO v B rs) : b < H.n := by
  obtain ⟨h1, h2, h3, h4⟩ := h
  rcases mem_fpO.1 hb with q | ⟨p, hp, q⟩
  · have := h2.mem q; omega
  · obtain ⟨i, hi, e⟩ := List.getElem_of_mem hp
    have hil : i < l.length := by omega
    have := (h3 i l[i] p (List.getElem?_eq_getElem hil) (by rw [List.getElem?_eq_getElem hi, e])).1.mem q
    omega
theorem grB_in {u : AV} {b : Nat} (hu : u ≠ .nils) : b ∈ grB u b := by cases u <;> simp [grB] at hu ⊢
theorem cellsG_LF {E : List AV → α → Prop} : ∀ {l : List α} {r : List (AV × Nat)}, r.length = l.length → (∀ (i : Nat) (x : α) (p : AV × Nat), l[i]? = some x → r[i]? = some p → E (N.cl x p.1) x) → LF N.sz E l (cellsG N l r)
  | [], [], _, _ => rfl
  | x :: l, p :: r, h, k => ⟨N.cl x p.1, cellsG N l r, rfl, N.hsz _ _, k 0 x p rfl rfl, cellsG_LF (by simpa using h) (fun i y q h1 h2 => k (i + 1) y q (by simpa using h1) (by simpa using h2))⟩
  | [], _ :: _, h, _ => by simp at h
  | _ :: _, [], h, _ => by simp at h
theorem OG.lf {E : List AV → α → Prop} {ok : Nat → Prop} {H v l B rs} (h : OG N H v l B rs) (ho : ∀ b ∈ fpO v B rs, ok b) (k : ∀ (x : α) (p : AV × Nat), SlC ok H p.1 (N.n x) N.k (N.cs x) → E (N.cl x p.1) x) : ∃ ca, SlC ok H v l.length N.sz ca ∧ LF N.sz E l ca := by
  obtain ⟨h1, h2, h3, h4⟩ := h
  refine ⟨_, h2.slc fun hv => ho B (mem_fpO.2 (.inl (grB_in hv))), cellsG_LF h1 fun i x p hx hp => ?_⟩
  exact k x p ((h3 i x p hx hp).1.slc fun hv => ho _ (mem_fpO.2 (.inr ⟨p, List.mem_of_getElem? hp, grB_in hv⟩)))
theorem OG.at {H v l B rs} (h : OG N H v l B rs) {i : Nat} {x : α} (hx : l[i]? = some x) : ∃ p c ex, rs[i]? = some p ∧ v = .sl B 0 l.length c ∧ capOk l.length N.sz c ∧ B < H.n ∧ H.bk B = some ⟨cellsG N l rs ++ ex, true⟩ ∧ H.loadN B (i * N.sz) N.sz = some (N.cl x p.1) ∧ OS H p.1 p.2 (N.n x) N.k (N.cs x) ∧ B ∉ grB p.1 p.2 := by
  obtain ⟨h1, h2, h3, h4⟩ := h
  have hi := (List.getElem?_eq_some_iff.1 hx).1
  obtain ⟨p, hp⟩ : ∃ p, rs[i]? = some p := ⟨_, List.getElem?_eq_getElem (by omega)⟩
  obtain ⟨g1, g2, ⟨_, g3⟩ | ⟨c, ex, hv, g3, g4, g5⟩⟩ := h2
  · omega
  · exact ⟨p, c, ex, hp, hv, g3, g4, g5, by rw [loadN_bk g5]; exact cellsG_get hx hp, h3 i x p hx hp⟩
def OGp (N : Nest α) (G : AH) (B : Nat) (pre : List α) (rs : List (AV × Nat)) (cs : List AV) (n : Nat) : Prop :=
  B < G.n ∧ G.bk B = some ⟨cs, true⟩ ∧ cs.length = n * N.sz ∧ cs.take (pre.length * N.sz) = cellsG N pre rs ∧ rs.length = pre.length ∧
    (∀ (i : Nat) (x : α) (p : AV × Nat), pre[i]? = some x → rs[i]? = some p → OS G p.1 p.2 (N.n x) N.k (N.cs x) ∧ B < p.2 ∧ p.2 < G.n) ∧ (∀ (i j : Nat) (p q : AV × Nat), i ≠ j → rs[i]? = some p → rs[j]? = some q → p.2 ≠ q.2)
theorem OGp.nil {G : AH} {B n : Nat} {cs : List AV} (h1 : B < G.n) (h2 : G.bk B = some ⟨cs, true⟩) (h3 : cs.length = n * N.sz) : OGp N G B [] [] cs n :=
  ⟨h1, h2, h3, by simp [cellsG], rfl, by simp, by simp⟩
theorem OGp.done {G : AH} {B : Nat} {l : List α} {rs : List (AV × Nat)} {cs : List AV} (hn : l.length ≤ 8589934592) (h : OGp N G B l rs cs l.length) : OG N G (.sl B 0 l.length (.ex l.length)) l B rs ∧ (∀ p ∈ rs, ∀ b ∈ grB p.1 p.2, B < b) := by
  obtain ⟨h1, h2, h3, h4, h5, h6, h7⟩ := h
  rw [List.take_of_length_le (by omega)] at h4
  subst h4
  have gr : ∀ {u : AV} {b x : Nat}, x ∈ grB u b → x = b := fun h => grB_sub h
  refine ⟨⟨h5, ⟨hn, h3, .inr ⟨_, [], rfl, Nat.le_refl _, h1, by rw [List.append_nil]; exact h2⟩⟩, fun i x p hxi hp => ⟨(h6 i x p hxi hp).1, fun hm => ?_⟩, fun i j p q hij hp hq b hm hm' => ?_⟩, fun p hp b hbm => ?_⟩
  · have := (h6 i x p hxi hp).2
    have := gr hm
    omega
  · have := gr hm
    have := gr hm'
    exact h7 i j p q hij hp hq (by omega)
  · obtain ⟨i, hi, e⟩ := List.getElem_of_mem hp
    have hil : i < l.length := by omega
    have := (h6 i l[i] p (List.getElem?_eq_getElem hil) (by rw [List.getElem?_eq_getElem hi, e])).2
    have := gr hbm
    omega
theorem OGp.snoc {G H2 : AH} {B n : Nat} {pre : List α} {rs : List (AV × Nat)} {cs : List AV} {x : α} {v' : AV} {b' : Nat} (h : OGp N G B pre rs cs n) (hlt : pre.length < n) (x2 : Ext G H2) (o : OS H2 v' b' (N.n x) N.k (N.cs x)) (hb' : G.n ≤ b') (bn : b' < H2.n) :
    ∃ cs', H2.store B (pre.length * N.sz) (N.cl x v') = some (H2.put B (some ⟨cs', true⟩)) ∧ OGp N (H2.put B (some ⟨cs', true⟩)) B (pre ++ [x]) (rs ++ [(v', b')]) cs' n := by
  obtain ⟨h1, h2, h3, h4, h5, h6, h7⟩ := h
  have n2 := x2.1
  have b2 := (x2.2 B h1).trans h2
  have hm := Nat.mul_le_mul_right N.sz (show pre.length + 1 ≤ n from hlt)
  rw [Nat.add_mul, Nat.one_mul] at hm
  have hl : pre.length * N.sz + (N.cl x v').length ≤ cs.length := by rw [N.hsz, h3]; exact hm
  have on : Only [B] H2 (H2.put B (some ⟨splice cs (pre.length * N.sz) (N.cl x v'), true⟩)) := Only.refl.put (.inr (by simp))
  refine ⟨_, store_bk b2 hl, by simp; omega, put_same, by rw [splice_len hl]; exact h3, ?_, by simp [h5], fun i y p hy hp => ?_, fun i j p q hij hp hq' => ?_⟩
  · have := splice_take (cs := cs) (vs := N.cl x v') (o := pre.length * N.sz) hl
    rw [N.hsz] at this
    rw [List.length_append, List.length_singleton, Nat.add_mul, Nat.one_mul, this, h4]
    exact cellsG_snoc (x := x) (p := (v', b')) h5
  · by_cases hi : i < pre.length
    · rw [List.getElem?_append_left hi] at hy
      rw [List.getElem?_append_left (by omega)] at hp
      obtain ⟨q1, q2, q3⟩ := h6 i y p hy hp
      exact ⟨(q1.ext x2).only on (fun z hz => by have := grB_sub hz; simp; omega), q2, by simp; omega⟩
    · have hil := (List.getElem?_eq_some_iff.1 hy).1
      simp at hil
      have hie : i = pre.length := by omega
      subst hie
      rw [List.getElem?_append_right (by omega)] at hy hp
      simp [h5] at hy hp
      subst hy hp
      exact ⟨o.only on (fun z hz => by have := grB_sub hz; simp; omega), by omega, by simp; omega⟩
  · have key : ∀ {i : Nat} {p : AV × Nat}, (rs ++ [(v', b')])[i]? = some p → (i < rs.length ∧ rs[i]? = some p ∧ p.2 < G.n) ∨ (i = rs.length ∧ p.2 = b') := fun {i p} hp => by
      by_cases hi : i < rs.length
      · rw [List.getElem?_append_left hi] at hp
        have hil : i < pre.length := by omega
        exact .inl ⟨hi, hp, (h6 i _ p (List.getElem?_eq_getElem hil) hp).2.2⟩
      · have hil := (List.getElem?_eq_some_iff.1 hp).1
        simp at hil
        have hie : i = rs.length := by omega
        subst hie
        simp at hp
        exact .inr ⟨rfl, by rw [← hp]⟩
    rcases key hp with ⟨a1, a2, a3⟩ | ⟨a1, a2⟩ <;> rcases key hq' with ⟨c1, c2, c3⟩ | ⟨c1, c2⟩
    · exact h7 i j p q hij a2 c2
    · omega
    · omega
    · omega
theorem OG.put {G G2 : AH} {v : AV} {pre suf : List α} {B : Nat} {rs : List (AV × Nat)} {x y : α} {p : AV × Nat} {c : ACap} {ex : List AV} (h : OG N G v (pre ++ x :: suf) B rs) (hp : rs[pre.length]? = some p) (hv : v = .sl B 0 (pre ++ x :: suf).length c) (hc : capOk (pre ++ x :: suf).length N.sz c)
    (hb : G2.bk B = some ⟨cellsG N (pre ++ y :: suf) rs ++ ex, true⟩) (hbn : B < G2.n) (hi : OS G2 p.1 p.2 (N.n y) N.k (N.cs y)) (ho : Only (B :: grB p.1 p.2) G G2) : OG N G2 v (pre ++ y :: suf) B rs := by
  obtain ⟨h1, h2, h3, h4⟩ := h
  have hx : (pre ++ x :: suf)[pre.length]? = some x := get_mid
  have el : (pre ++ y :: suf).length = (pre ++ x :: suf).length := by simp
  refine ⟨by rw [el]; exact h1, ⟨by rw [el]; exact h2.1, by rw [cellsG_len (by rw [el]; exact h1)], .inr ⟨c, ex, by rw [el]; exact hv, by rw [el]; exact hc, hbn, hb⟩⟩, fun j z q hz hq => ?_, h4⟩
  by_cases hj : j = pre.length
  · subst hj
    rw [hp] at hq; cases hq
    rw [get_mid] at hz
    cases hz
    exact ⟨hi, (h3 _ x p hx hp).2⟩
  · have hz' : (pre ++ x :: suf)[j]? = some z := by
      rw [← hz]
      by_cases hjl : j < pre.length
      · rw [List.getElem?_append_left hjl, List.getElem?_append_left hjl]
      · rw [List.getElem?_append_right (by omega), List.getElem?_append_right (by omega)]
        obtain ⟨d, hd⟩ : ∃ d, j - pre.length = d + 1 := ⟨j - pre.length - 1, by omega⟩
        rw [hd]; simp
    obtain ⟨q1, q2⟩ := h3 j z q hz' hq
    refine ⟨q1.only ho fun u hu hm => ?_, q2⟩
    rcases List.mem_cons.1 hm with rfl | hm
    · exact q2 hu
    · exact h4 j _ q p hj hq hp u hu hm
end
end Go.Proofs.YtcibjklpaljadaaGreat.AM
