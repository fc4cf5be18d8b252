/-
  The abstract machine and its walks, merged by program out of smaller texts (part 6). No condition.
-/
import Derived.Test.YtmecbehegmgbhaaGreatYM5
namespace Go.Proofs.YtmecbehegmgbhaaGreat.AM
set_option linter.unusedSimpArgs false
set_option linter.unusedVariables false
set_option maxRecDepth 100000
set_option maxHeartbeats 4000000
open Go
attribute [-simp] AM.elems
theorem stepQ_four {q : Qd} {th : Th} {bs : List Bx} (h : 1 ≤ q.op ∧ q.op ≤ 10) : (stepQ q th bs).2.2.2 = 4 ↔ q.op = 10 := by
  unfold stepQ
  by_cases h1 : q.op = 1
  · rw [if_pos h1]; simp; omega
  rw [if_neg h1]
  by_cases h2 : q.op = 2
  · rw [if_pos h2]; simp; omega
  rw [if_neg h2]
  by_cases h3 : q.op = 3
  · rw [if_pos h3]; simp; omega
  rw [if_neg h3]
  by_cases h4 : q.op = 4
  · rw [if_pos h4]; simp; omega
  rw [if_neg h4]
  by_cases h5 : q.op = 5
  · rw [if_pos h5]; simp; omega
  rw [if_neg h5]
  by_cases h6 : q.op = 6
  · rw [if_pos h6]
    cases bs[q.n.toNat]? with
    | none => simp; omega
    | some bx => simp only; split <;> simp <;> omega
  rw [if_neg h6]
  by_cases h7 : q.op = 7
  · rw [if_pos h7]
    rcases bs[q.n.toNat]? with _ | ⟨_, _ | _⟩ <;> simp <;> omega
  rw [if_neg h7]
  by_cases h8 : q.op = 8
  · rw [if_pos h8]; simp; omega
  rw [if_neg h8]
  by_cases h9 : q.op = 9
  · rw [if_pos h9]; simp; omega
  rw [if_neg h9]
  simp; omega
theorem stepP_four {t : Tk} {bs : List Bx} : (stepP t bs).2.2.2 = 4 ↔ t.rest.list.length = 0 := by
  unfold stepP
  cases hr : t.rest.list with
  | nil => simp
  | cons s r =>
    simp only [List.length_cons]
    constructor
    · intro h
      exfalso
      by_cases k45 : s.k = 4 ∨ s.k = 5
      · rw [if_pos k45] at h
        unfold talkP at h
        rcases hb : bs[s.b.toNat]? with _ | bx
        · rw [hb] at h; simp at h
        · rw [hb] at h
          simp only at h
          by_cases k4 : s.k = 4
          · rw [if_pos k4] at h
            split at h <;> simp at h
          · rw [if_neg k4] at h
            cases hi : bx.items with
            | nil => rw [hi] at h; simp at h
            | cons y q => rw [hi] at h; simp at h
      · rw [if_neg k45] at h
        split at h
        · simp at h
        split at h
        · simp at h
        split at h <;> simp at h
    · intro h; omega
theorem end_eq {l : List Qd} {t : Tk} {th : Th} {bs : List Bx} {q : Qd} (h : RelT l t th) (hq : l[th.pc.toNat]? = some q) (ho : 1 ≤ q.op ∧ q.op ≤ 10) (hp : (stepQ q th bs).2.2.2 = 3 ∨ (stepQ q th bs).2.2.2 = 4) : q.op = 10 ↔ t.rest.list.length = 0 := by
  obtain ⟨k, q', th1, th2, s1, s2, s3, s4, s5, s6⟩ := h.sim (bs := bs)
  cases s1 with
  | refl =>
    rw [hq] at s3
    cases s3
    rw [← stepQ_four (th := th) (bs := bs) ho, ← stepP_four (bs := bs), s4]
  | step a b c =>
    rw [hq] at a
    cases a
    rw [b bs] at hp
    simp at hp
theorem crew_back {p : Pg} {n : Nat} (hv : vaPg p = true) {c : Cw} (hc : c = runC n (newK p.rooms (p.tasks.map compT))) (hr : ¬ c.idle < c.threads.length) : outW (runW n (newW p)) = outK c := by
  have hi : ¬ (runW n (newW p)).idle < (runW n (newW p)).tasks.length := fun hi => by
    obtain ⟨m, hm, hrel, hle⟩ := (RelC.new hv).run n
    have := hle hi
    have e : runC m (newK p.rooms (p.tasks.map compT)) = c := by
      have h2 := runC_add n (m - n) (newK p.rooms (p.tasks.map compT))
      rw [← hc, runC_rest hr, show n + (m - n) = m by omega] at h2
      exact h2.symm
    rw [e] at hrel
    have h1 := hrel.idle
    have h2 := hrel.tl
    omega
  have e : c = runC (36 * n + 3) (newK p.rooms (p.tasks.map compT)) := by
    have h2 := runC_add n (36 * n + 3 - n) (newK p.rooms (p.tasks.map compT))
    rw [← hc, runC_rest hr, show n + (36 * n + 3 - n) = 36 * n + 3 by omega] at h2
    exact h2
  obtain ⟨k1, k2, k3, k4, k5, k6, k7⟩ := crew_rest hv hi (Nat.le_refl _) e
  have hvc : vaCw c = true := by rw [hc]; exact (runC_keeps n (newK_va hv)).1
  obtain ⟨w1, w2, w3, w4, w5⟩ := vaCw_iff.1 hvc
  have hvw := (runW_keeps n (newW_bo hv).1)
  have v1 := (vaWd_iff.1 hvw.1).1
  unfold outW outK
  rw [k4, k5]
  have r1 : decide (c.idle = (c.threads.length : Int)) = true := by simp only [decide_eq_true_eq]; omega
  have r2 : decide ((runW n (newW p)).idle = ((runW n (newW p)).tasks.length : Int)) = true := by simp only [decide_eq_true_eq]; omega
  rw [r1, r2]
  congr 1
  apply List.ext_getElem?
  intro i
  by_cases hil : i < (runW n (newW p)).tasks.length
  · obtain ⟨t, ht⟩ : ∃ t, (runW n (newW p)).tasks[i]? = some t := ⟨_, List.getElem?_eq_getElem hil⟩
    obtain ⟨th, hth⟩ : ∃ t, c.threads[i]? = some t := ⟨_, List.getElem?_eq_getElem (by omega)⟩
    obtain ⟨l, hl⟩ : ∃ t, c.codes[i]? = some t := ⟨_, List.getElem?_eq_getElem (by omega)⟩
    obtain ⟨va1, va2, va3⟩ := vaTh_iff.1 (w5 i l th hl hth)
    obtain ⟨_, _, pc0, pc1⟩ := thFit_iff.1 va2
    obtain ⟨q, hq⟩ : ∃ q, l[th.pc.toNat]? = some q := ⟨_, List.getElem?_eq_getElem (by omega)⟩
    have hop : 1 ≤ q.op ∧ q.op ≤ 10 := by
      have := quV_cases ((codeV_facts va1).2.2.1 q (List.mem_of_getElem? hq))
      omega
    have hpk := k7 i q th (by omega) (by omega) (by unfold qAt; rw [Int.toNat_natCast, hth, hl]; simp [hq])
    have := end_eq (k6 i l t th hl ht hth) hq hop hpk
    rw [List.getElem?_map, List.getElem?_map, ht, zip_get hl hth]
    simp only [Option.map_some]
    congr 1
    unfold endK
    simp only [hq]
    exact decide_eq_decide.2 this.symm
  · rw [List.getElem?_eq_none (by simp; omega), List.getElem?_eq_none (by simp; omega)]
theorem K_sDrawCompileProgram {H : AH} {K : AV → AH → Prop} {w : Fk K} {v : AV} {zs : List Int} (h : SlI H .u8 v zs) (hz : ∀ n ∈ zs, 0 ≤ n ∧ n < 256) (hl : zs.length ≤ 1048576)
    (k : ∀ c p H', PgC (fun _ => True) H' c p → (∀ f ∈ p.tasks, ctS f ≤ 1001) → p.tasks.length ≤ 6 → p.rooms.length ≤ 4 → Ext H H' → K (.agg c) H') : CallF Cd f_sDrawCompileProgram [v] H K w := by
  rw [CallF_eq e_sDrawCompileProgram rfl]
  simp
  refine K_l6Open (SlI.ext h (Ext.push _ _)) hz hl fun H0 hR0 hS0 => ?_
  have hR0 : Rdx H0 (H.n + 1) 0 := ⟨0, by omega, by omega, by simpa using hR0⟩
  have n0 := hS0.1
  simp only [push_n] at n0
  have qR : H0.bk H.n = some ⟨[.nils, .nils], true⟩ := hS0.at (by simp) (by simp) push_new
  have hr0 := hR0.lt
  simp
  refine K_sl92Wrong hR0 (by omega) fun c p H1 pc hct ht hr hR1 hS1 => ?_
  have n1 := hS1.1
  obtain ⟨vr, vt, rfl, _, _⟩ := id pc
  have q1 : H1.bk H.n = some ⟨[.nils, .nils], true⟩ := hS1.at (by omega) (by omega) qR
  have st : H1.store H.n 0 [vr, vt] = some (H1.put H.n (some ⟨[vr, vt], true⟩)) := store_bk q1 (by simp)
  simp [st, loadN_bk put_same]
  refine k _ p _ (pc.mono (by simp) (fun b hb _ => by rw [put_bk, if_neg (by omega)]) (fun _ _ _ => trivial)) hct ht hr ⟨by simp; omega, fun b hb => ?_⟩
  rw [put_bk, if_neg (by omega), hS1.2 b (by omega) (by omega), hS0.2 b (by simp; omega) (by simp; omega)]
  exact push_old hb rfl
theorem law_FnCrewBack {H : AH} {v : AV} {zs : List Int} (h : SlI H .u8 v zs) (hz : ∀ n ∈ zs, 0 ≤ n ∧ n < 256) : CallK Cd f_wFnCrewBack [v] H fun v _ => v = .b true := by
  rw [CallK_F, CallF_eq e_wFnCrewBack rfl]
  have hlen : alen v = some zs.length := by
    rcases h with ⟨rfl, rfl⟩ | ⟨rfl, rfl⟩ | ⟨b, rest, hb, rfl, hb2⟩ <;> rfl
  simp [hlen]
  refine cnd_mk (fun _ => by simp) (fun hl => ?_)
  simp
  refine K_sDrawCompileProgram h hz (by omega) fun c p H1 pc hct htl hrl x01 => ?_
  obtain ⟨vr, vt, rfl, ir, lt⟩ := id pc
  have x1 := Ext.push H1 [vr, vt]
  simp [store_push2e, loadN_push]
  have hszv : vaPg p = true → ∀ f ∈ p.tasks, (cS f 0).length ≤ 90000 := fun hv f hf => by
    have hvp := hv
    unfold vaPg at hvp
    simp only [Bool.and_eq_true, decide_eq_true_eq, List.all_eq_true] at hvp
    obtain ⟨o1, o2, o3⟩ := vaF_facts (hvp.2 f hf)
    have := cS_len o1 0
    omega
  refine K_iCompileProgram (pc.ext x1) (fun f hf => by have := hct f hf; omega) hszv (fun hv H2 x2 => ?_) (fun hv vcs H2 clv x2 => ?_)
  · have q3 : H2.bk H1.n = some ⟨[vr, vt], true⟩ := (x2.2 _ (by simp)).trans push_new
    simp [loadN_bk q3]
    refine K_sCompileProgram (pc.ext (x1.trans x2)) (fun f hf => by have := hct f hf; omega) fun v4 H4 cl4 x4 => ?_
    rw [hv, if_neg (by simp)] at cl4
    rw [hv]
    simp
    refine T_wsameCodes (o1 := fun _ => True) (CLV.nil (.inl rfl)) cl4 ?_
    simp
    exact T_wsameCodes (o1 := fun _ => True) (CLV.nil (.inl rfl)) cl4 (by simp)
  · have q3 : H2.bk H1.n = some ⟨[vr, vt], true⟩ := (x2.2 _ (by simp)).trans push_new
    simp [loadN_bk q3]
    refine K_sCompileProgram (pc.ext (x1.trans x2)) (fun f hf => by have := hct f hf; omega) fun v4 H4 cl4 x4 => ?_
    rw [hv, if_pos rfl] at cl4
    rw [hv]
    have p3 := (x4.2 H1.n (by have := x2.1; simp at this; omega)).trans q3
    simp
    refine T_wsameCodes (clv.ext x4) cl4 ?_
    obtain ⟨hva, bo, bx⟩ := newW_bo hv
    have hvp := hv
    unfold vaPg at hvp
    simp only [Bool.and_eq_true, decide_eq_true_eq, List.all_eq_true] at hvp
    have hrm : vaRm p.rooms = true := hvp.1.1
    have hvk := newK_va hv
    simp [load_bk p3]
    have y4 := (x1.trans x2).trans x4
    refine K_wcrewOf (ir.ext y4) (clv.ext x4) hrm hvk (by omega) fun cz H5 cwz x5 => ?_
    rw [show (120 : Int).toNat = 120 from rfl] at cwz
    have hkk := runC_keeps 120 hvk
    have hcc := runC_codes 120 (w := newK p.rooms (p.tasks.map compT))
    have hbk := @crew_back p 120 hv
    obtain ⟨cf, hcf⟩ : ∃ w, w = runC 120 (newK p.rooms (p.tasks.map compT)) := ⟨_, rfl⟩
    have hbk := hbk hcf
    rw [← hcf] at cwz hkk hcc
    simp
    have hol : cf.out.length ≤ 1000000 := by have := hkk.2.1; simp [newK] at this; omega
    refine K_iCrewOutcome cwz hkk.1 hol fun c6 H6 oc x6 => ?_
    have n1 : H1.n < H4.n := by have := x2.1; have := x4.1; simp at *; omega
    have p36 := ((x5.trans x6).2 H1.n n1).trans p3
    obtain ⟨O, hO⟩ : ∃ O, O = outK cf := ⟨_, rfl⟩
    rw [← hO] at oc
    obtain ⟨v1, v2, v3, rfl, i1, i2, i3⟩ := id oc
    have x9 := Ext.push H6 [v1, v2, v3, .b O.rest]
    have q9 : (H6.push [v1, v2, v3, .b O.rest]).bk H6.n = some ⟨[v1, v2, v3, .b O.rest], true⟩ := push_new
    have n6 : H1.n < H6.n := by have := x5.1; have := x6.1; omega
    have p39 := (x9.2 H1.n n6).trans p36
    have hel : (O.ended.length : Int) = p.tasks.length := by rw [hO]; simp [outK, hcc.1, hcc.2, newK]
    have hel' : O.ended.length = p.tasks.length := by omega
    have lta := lt.alen
    have i3a := i3.alen
    cases hR : O.rest with
    | false =>
      rw [hR] at q9 p39
      simp [store_push4, load_bk q9, i3a, load_bk p39, lta, hel, hel']
    | true =>
      have hid : ¬ cf.idle < cf.threads.length := by
        have h5 := hR
        rw [hO] at h5
        simp only [outK, decide_eq_true_eq] at h5
        omega
      have heq := hbk hid
      rw [hR] at q9 p39 x9
      simp [store_push4, load_bk q9, loadN_bk p39]
      refine K_wrestOf (pc.ext ((y4.trans (x5.trans x6)).trans x9)) hv (by omega) fun cy Hb oy xbb => ?_
      rw [show (120 : Int).toNat = 120 from rfl, heq, ← hO] at oy
      have qc := (xbb.2 H6.n (by simp)).trans q9
      simp [xbb, loadN_bk qc]
      have i123 : OC (fun _ => True) Hb [v1, v2, v3, .b true] O := by
        rw [hR] at oc
        exact ((oc.ext x9).ext xbb).mono (Nat.le_refl _) (fun _ _ _ => rfl) (fun _ _ _ => trivial)
      refine T_wsameOutcome oy i123 fun Hc xc => ?_
      simp [xc]
end Go.Proofs.YtmecbehegmgbhaaGreat.AM
