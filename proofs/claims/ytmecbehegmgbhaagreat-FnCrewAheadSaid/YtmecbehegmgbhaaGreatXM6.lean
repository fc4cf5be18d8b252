/-
  The abstract machine and its walks, merged by program out of smaller texts (part 6). No condition.
-/
import Derived.Test.YtmecbehegmgbhaaGreatXM5
namespace Go.Proofs.YtmecbehegmgbhaaGreat.AM
set_option linter.unusedSimpArgs false
set_option linter.unusedVariables false
set_option maxRecDepth 100000
set_option maxHeartbeats 4000000
open Go
attribute [-simp] AM.elems
theorem crew_rest {p : Pg} {n N : Nat} (hv : vaPg p = true) (hi : ¬ (runW n (newW p)).idle < (runW n (newW p)).tasks.length) (hN : 36 * n + 3 ≤ N) {c : Cw} (hc : c = runC N (newK p.rooms (p.tasks.map compT))) :
    ¬ c.idle < c.threads.length ∧ c.codes = p.tasks.map compT ∧ c.threads.length = (runW n (newW p)).tasks.length ∧ c.out = (runW n (newW p)).out ∧ c.boxes = (runW n (newW p)).boxes ∧
      (∀ (i : Nat) (l : List Qd) (t : Tk) (th : Th), c.codes[i]? = some l → (runW n (newW p)).tasks[i]? = some t → c.threads[i]? = some th → RelT l t th) ∧
      (∀ (t : Int) q th, 0 ≤ t → t < c.threads.length → qAt c.codes c.threads t = some (q, th) → (stepQ q th c.boxes).2.2.2 = 3 ∨ (stepQ q th c.boxes).2.2.2 = 4) := by
  obtain ⟨m, hm, hr, _⟩ := (RelC.new hv).run n
  have hp := hr.parked hi
  have v1 := (vaCw_iff.1 hr.vc).1
  obtain ⟨u1, u2, u3, u4⟩ := park_run 3 hr.vc hp (by have := (vaCw_iff.1 hr.vc).2.2.1; omega)
  rw [runC_add] at u1 u2 u3 u4
  have e : c = runC (m + 3) (newK p.rooms (p.tasks.map compT)) := by
    have := runC_add (m + 3) (N - (m + 3)) (newK p.rooms (p.tasks.map compT))
    rw [runC_rest u1, show m + 3 + (N - (m + 3)) = N by omega] at this
    rw [hc]; exact this.symm
  have ec : ∀ k, (runC k (newK p.rooms (p.tasks.map compT))).codes = p.tasks.map compT := fun k => (runC_codes k).1
  rw [e]
  refine ⟨u1, ec _, by rw [u2]; exact hr.tl, by rw [u4]; exact hr.out, by rw [u3]; exact hr.boxes, fun i l t th hl ht hth => ?_, fun t q th h0 h1 hq => ?_⟩
  · rw [u2] at hth
    rw [ec] at hl
    exact hr.rel i l t th (by rw [ec]; exact hl) ht hth
  · rw [u2] at h1 hq
    rw [ec] at hq
    rw [u3]
    exact hp t q th h0 h1 (by rw [ec]; exact hq)
theorem CrewVars_l {w : Wd} {c : Cw} (htl : c.threads.length = w.tasks.length) (h3 : w.tasks.length ≤ 3) (hv : ∀ (i : Nat) (t : Tk) (th : Th), w.tasks[i]? = some t → c.threads[i]? = some th → th.regs.length = 12 ∧ th.regs.take 4 = t.vars) {o1 o2 : Nat → Prop} {P8 P12 : Nat} {vt vt' a1 a2 a3 a4 b0 b1 b2 b3 b4 : AV} {H : AH} {Q : Out → Env → AH → Prop}
    (g8 : H.bk P8 = some ⟨[vt, a1, a2, a3, a4], true⟩) (g12 : H.bk P12 = some ⟨[b0, vt', b1, b2, b3, b4], true⟩) (tv : TV o1 H vt w.tasks) (thv : ThV o2 H vt' c.threads) (m i : Nat) (hm : i + m = w.tasks.length) (hQ : ∀ e, Q (.brk 0) e H) :
    W Cd (.loop c_wFnCrewVars_l0) [(8, .ptr P8 0), (12, .ptr P12 0), (13, .I i)] H Q := by
  induction m generalizing i with
  | zero =>
    rw [W_loop_as c_wFnCrewVars_l0.eq_1]
    have : i = w.tasks.length := by omega
    subst this
    simp [load_bk g8, tv.alen]
    exact hQ _
  | succ m ih =>
    rw [W_loop_as c_wFnCrewVars_l0.eq_1]
    have hlt : i < w.tasks.length := by omega
    have hlt' : (i : Int) < w.tasks.length := by omega
    have hltc : (i : Int) < c.threads.length := by omega
    obtain ⟨t, ht⟩ : ∃ x, w.tasks[i]? = some x := ⟨_, List.getElem?_eq_getElem hlt⟩
    obtain ⟨th, hth⟩ : ∃ x, c.threads[i]? = some x := ⟨_, List.getElem?_eq_getElem (by omega)⟩
    obtain ⟨r1, r2⟩ := hv i t th ht hth
    obtain ⟨b, o, cap, vv, vr, e1, ob, hbn, l1, iv, sv⟩ := tv.at ht
    obtain ⟨b', o', cap', vr', e2, ob', hbn', l2, iv'⟩ := thv.at hth
    have l1' : H.load b (o + i * 2) = some vv := by simpa using loadN_get l1 (i := 0) (by omega)
    have l2' : H.load b' (o' + i * 2) = some vr' := by simpa using loadN_get l2 (i := 0) (by omega)
    obtain ⟨v', s1, s2, s3⟩ := SlC.part iv' (i := 0) (j := 4) (Nat.zero_le _) (by omega) (by omega) (lo := none) (hi := some (.I 4)) rfl (by simp [bnd, aint] <;> omega)
    have e4 : (List.take ((4 - 0) * 1) (List.drop (0 * 1) (Ints th.regs))) = Ints t.vars := by rw [← r2]; simp [Ints]
    rw [e4] at s2
    have hl4 : t.vars.length = 4 := by rw [← r2]; simp; omega
    have i2 : IV o2 H v' t.vars := by unfold IV; rw [hl4]; exact s2
    have rcc := ih (i + 1) (by omega)
    have htl' : (c.threads.length : Int) = w.tasks.length := by omega
    have tva := tv.alen
    have thva := thv.alen
    subst e1
    subst e2
    simp (disch := omega) [load_bk g8, load_bk g12, tva, thva, hlt', hltc, htl, l1', l2', s1]
    refine T_wsameInts i2.sees iv.sees ?_
    simp (disch := omega) [Ext.refl]
    simpa using rcc
theorem law_FnCrewVars {H : AH} {v : AV} {zs : List Int} (h : SlI H .u8 v zs) (hz : ∀ n ∈ zs, 0 ≤ n ∧ n < 256) : CallK Cd f_wFnCrewVars [v] H fun v _ => v = .b true := by
  rw [CallK_F, CallF_eq e_wFnCrewVars rfl]
  have hlen : alen v = some zs.length := by
    rcases h with ⟨rfl, rfl⟩ | ⟨rfl, rfl⟩ | ⟨b, rest, hb, rfl, hb2⟩ <;> rfl
  simp [hlen]
  refine cnd_mk (fun _ => by simp) (fun hl => ?_)
  simp
  refine K_sDrawWorldNew h hz (by omega) fun c p H1 pc hct htl hrl x01 => ?_
  obtain ⟨vr, vt, rfl, _, _⟩ := id pc
  have x1 := Ext.push H1 [vr, vt]
  simp [store_push2e, loadN_push]
  refine K_iWorldNew (pc.ext x1) (fun f hf => by have := hct f hf; omega) fun c2 H2 wc2 x2 => ?_
  obtain ⟨W, hW⟩ : ∃ W, W = (if vaPg p = true then newW p else zeroW) := ⟨_, rfl⟩
  rw [← hW] at wc2
  obtain ⟨vt2, vb2, vo2, rfl, _, _, _⟩ := id wc2
  have n2 : H1.n < H2.n := by have := x2.1; simp at this; omega
  have q3 : H2.bk H1.n = some ⟨[vr, vt], true⟩ := (x2.2 _ (by simp)).trans push_new
  have x3 := Ext.push H2 [vt2, vb2, .I W.turn, .I W.idle, vo2]
  have q3' : (H2.push [vt2, vb2, .I W.turn, .I W.idle, vo2]).bk H1.n = some ⟨[vr, vt], true⟩ := (x3.2 _ n2).trans q3
  have y3 := (x1.trans x2).trans x3
  simp [store_push5e, loadN_bk q3']
  refine K_sWorldNew (pc.ext y3) (fun f hf => by have := hct f hf; omega) fun c4 H4 wc4 x4 => ?_
  rw [← hW] at wc4
  obtain ⟨vt4, vb4, vo4, rfl, _, _, _⟩ := id wc4
  have x5 := Ext.push H4 [vt4, vb4, .I W.turn, .I W.idle, vo4]
  have n4 : H2.n < H4.n := by have := x4.1; simp at this; omega
  have q5 : (H4.push [vt4, vb4, .I W.turn, .I W.idle, vo4]).bk H2.n = some ⟨[vt2, vb2, .I W.turn, .I W.idle, vo2], true⟩ := (x5.2 _ n4).trans ((x4.2 _ (by simp)).trans push_new)
  simp [store_push5e, loadN_bk q5, loadN_push]
  have y5 := (x3.trans x4).trans x5
  refine T_wsameWorld (wc2.ext y5) (wc4.ext x5) fun H7 x7 => ?_
  have z2 := y5.trans x7
  have z1 := (x1.trans x2).trans z2
  have z0 := x01.trans z1
  have hn7 : H1.n < H7.n ∧ H2.n < H7.n ∧ H1.n < H2.n := by have := x7.1; simp at this; omega
  have p3 : H7.bk H1.n = some ⟨[vr, vt], true⟩ := (z2.2 _ n2).trans q3
  have p5 : H7.bk H2.n = some ⟨[vt2, vb2, .I W.turn, .I W.idle, vo2], true⟩ := (x7.2 _ (by simp; omega)).trans q5
  have p7 : H7.bk H4.n = some ⟨[vt4, vb4, .I W.turn, .I W.idle, vo4], true⟩ := (x7.2 _ (by simp)).trans push_new
  have pc7 := pc.ext z1
  have wc7 := wc2.ext z2
  have wc47 := wc4.ext (x5.trans x7)
  clear z1 z2 y5 y3 x2 x4 x7 x5 x3 x1 x01 pc wc2 wc4 q3 q3' q5 n2 n4
  cases hv : vaPg p with
  | false =>
    simp [loadN_bk p5, loadN_bk p7]
    exact T_wsameWorld wc7 wc47 fun H8 x8 => by simp
  | true =>
  rw [hv, if_pos rfl] at hW
  subst hW
  obtain ⟨hva, bo, bx⟩ := newW_bo hv
  have hvp := hv
  unfold vaPg at hvp
  simp only [Bool.and_eq_true, decide_eq_true_eq, List.all_eq_true] at hvp
  have hsz : ∀ f ∈ p.tasks, (cS f 0).length ≤ 90000 := fun f hf => by
    obtain ⟨o1, o2, o3⟩ := vaF_facts (hvp.2 f hf)
    have := cS_len o1 0
    omega
  have hrm : vaRm p.rooms = true := hvp.1.1
  have hvk := newK_va hv
  simp
  simp [loadN_bk p5]
  have hkw := runW_keeps 60 hva
  have e1 : runF 60 (newW p) = (runW 60 (newW p), true) := by unfold runF; rw [if_pos ⟨hva, by omega, by omega⟩]; rfl
  have bo2 := bo.2
  refine K_iWorldRun wc7 bo.ct (by omega) (fun _ => bo.le (by simp)) (by omega) fun c8 H8 wc8 x8 => ?_
  rw [e1] at wc8 ⊢
  simp only at wc8 ⊢
  obtain ⟨wf, hwf⟩ : ∃ w, w = runW 60 (newW p) := ⟨_, rfl⟩
  have hcr := @crew_rest p 60 2440 hv
  rw [← hwf] at wc8 hkw hcr
  obtain ⟨vt8, vb8, vo8, rfl, tv8, _, _⟩ := id wc8
  have n8 := x8.1
  have x9 := Ext.push H8 [vt8, vb8, .I wf.turn, .I wf.idle, vo8]
  have q9 : (H8.push [vt8, vb8, .I wf.turn, .I wf.idle, vo8]).bk H8.n = some ⟨[vt8, vb8, .I wf.turn, .I wf.idle, vo8], true⟩ := push_new
  have p39 := ((x8.trans x9).2 H1.n (by omega)).trans p3
  simp [store_push5e, loadN_bk p39]
  refine K_iCompileProgram (pc7.ext (x8.trans x9)) (fun f hf => by have := hct f hf; omega) (fun _ => hsz) (fun hh => by rw [hv] at hh; cases hh) fun _ vcs Ha clv xa => ?_
  have qa := (xa.2 H8.n (by simp)).trans q9
  have p3a := (xa.2 H1.n (by simp; omega)).trans p39
  have tva := tv8.alen
  simp [load_bk qa, tva]
  by_cases hi : wf.idle < wf.tasks.length
  · simp [hi]
  simp [hi, load_bk p3a]
  have hcr := hcr hi (by omega) rfl
  obtain ⟨_, _, e, ir, _⟩ := id pc7
  simp only [List.cons.injEq, and_true] at e
  obtain ⟨rfl, rfl⟩ := e
  refine K_wcrewOf ((ir.ext (x8.trans x9)).ext xa) clv hrm hvk (by omega) fun cz Hb cwz xb => ?_
  rw [show (2440 : Int).toNat = 2440 from rfl] at cwz
  obtain ⟨cf, hcf⟩ : ∃ w, w = runC 2440 (newK p.rooms (p.tasks.map compT)) := ⟨_, rfl⟩
  rw [← hcf] at cwz hcr
  obtain ⟨k1, k2, k3, k4, k5, k6, k7⟩ := hcr
  obtain ⟨vcz, vtz, vbz, voz, rfl, clz, tvz, _, _⟩ := id cwz
  have xc := Ext.push Hb [vcz, vtz, vbz, .I cf.turn, .I cf.idle, voz]
  have stc : (Hb.push zK).store Hb.n 0 [vcz, vtz, vbz, .I cf.turn, .I cf.idle, voz] = some (Hb.push [vcz, vtz, vbz, .I cf.turn, .I cf.idle, voz]) := by
    rw [store_bk push_new (by simp), push_put]; rfl
  have qc : (Hb.push [vcz, vtz, vbz, .I cf.turn, .I cf.idle, voz]).bk Hb.n = some ⟨[vcz, vtz, vbz, .I cf.turn, .I cf.idle, voz], true⟩ := push_new
  have q8c := ((xb.trans xc).2 H8.n (by have := xa.1; simp at this; omega)).trans qa
  simp [stc]
  have hnl : wf.tasks.length ≤ 3 := by have := (vaWd_iff.1 hkw.1).1; omega
  have hcl : cf.codes.length = wf.tasks.length := by rw [k2, hkw.2.1]; simp [newW]
  have := CrewVars_l (w := wf) (c := cf) k3 hnl (fun i t th ht hth => by
    obtain ⟨l, hl⟩ : ∃ l, cf.codes[i]? = some l := ⟨_, List.getElem?_eq_getElem (by have := (List.getElem?_eq_some_iff.1 ht).1; omega)⟩
    have := k6 i l t th hl ht hth
    exact ⟨this.1, this.2.1⟩) (Q := ?_) q8c qc ((((tv8.ext x9).ext xa).ext xb).ext xc) (tvz.ext xc) wf.tasks.length 0 (by omega) ?_
  · simpa using this
  · intro e; simp
end Go.Proofs.YtmecbehegmgbhaaGreat.AM
namespace Go.Proofs.YtmecbehegmgbhaaGreat.AM
set_option linter.unusedSimpArgs false
set_option linter.unusedVariables false
set_option maxRecDepth 100000
set_option maxHeartbeats 4000000
open Go
attribute [-simp] AM.elems
theorem law_FnCrewAhead {H : AH} {v v' : AV} {zs zs' : List Int} (h : SlI H .u8 v zs) (hz : ∀ n ∈ zs, 0 ≤ n ∧ n < 256) (h' : SlI H .u8 v' zs') (hz' : ∀ n ∈ zs', 0 ≤ n ∧ n < 256) : CallK Cd f_wFnCrewAhead [v, v'] H fun v _ => v = .b true := by
  rw [CallK_F, CallF_eq e_wFnCrewAhead rfl]
  have hlen : alen v = some zs.length := by
    rcases h with ⟨rfl, rfl⟩ | ⟨rfl, rfl⟩ | ⟨b, rest, hb, rfl, hb2⟩ <;> rfl
  have hlen' : alen v' = some zs'.length := by
    rcases h' with ⟨rfl, rfl⟩ | ⟨rfl, rfl⟩ | ⟨b, rest, hb, rfl, hb2⟩ <;> rfl
  by_cases hl : (1048576 : Int) < zs.length
  · simp [hlen, hl]
  by_cases hl' : (1048576 : Int) < zs'.length
  · simp [hlen, hlen', hl, hl']
  simp [hlen, hlen', hl, hl']
  refine K_sDrawWorldNew h hz (by omega) fun c p H1 pc hct htl hrl x01 => ?_
  obtain ⟨vr, vt, rfl, _, _⟩ := id pc
  have x1 := Ext.push H1 [vr, vt]
  simp [store_push2e, loadN_push]
  refine K_iWorldNew (pc.ext x1) (fun f hf => by have := hct f hf; omega) fun c2 H2 wc2 x2 => ?_
  obtain ⟨W, hW⟩ : ∃ W, W = (if vaPg p = true then newW p else zeroW) := ⟨_, rfl⟩
  rw [← hW] at wc2
  obtain ⟨vt2, vb2, vo2, rfl, _, _, _⟩ := id wc2
  have n2 : H1.n < H2.n := by have := x2.1; simp at this; omega
  have q3 : H2.bk H1.n = some ⟨[vr, vt], true⟩ := (x2.2 _ (by simp)).trans push_new
  have x3 := Ext.push H2 [vt2, vb2, .I W.turn, .I W.idle, vo2]
  have q3' : (H2.push [vt2, vb2, .I W.turn, .I W.idle, vo2]).bk H1.n = some ⟨[vr, vt], true⟩ := (x3.2 _ n2).trans q3
  have y3 := (x1.trans x2).trans x3
  simp [store_push5e, loadN_bk q3']
  refine K_sWorldNew (pc.ext y3) (fun f hf => by have := hct f hf; omega) fun c4 H4 wc4 x4 => ?_
  rw [← hW] at wc4
  obtain ⟨vt4, vb4, vo4, rfl, _, _, _⟩ := id wc4
  have x5 := Ext.push H4 [vt4, vb4, .I W.turn, .I W.idle, vo4]
  have n4 : H2.n < H4.n := by have := x4.1; simp at this; omega
  have q5 : (H4.push [vt4, vb4, .I W.turn, .I W.idle, vo4]).bk H2.n = some ⟨[vt2, vb2, .I W.turn, .I W.idle, vo2], true⟩ := (x5.2 _ n4).trans ((x4.2 _ (by simp)).trans push_new)
  simp [store_push5e, loadN_bk q5, loadN_push]
  have y5 := (x3.trans x4).trans x5
  refine T_wsameWorld (wc2.ext y5) (wc4.ext x5) fun H7 x7 => ?_
  have z2 := y5.trans x7
  have z1 := (x1.trans x2).trans z2
  have z0 := x01.trans z1
  have hn7 : H1.n < H7.n ∧ H2.n < H7.n ∧ H1.n < H2.n := by have := x7.1; simp at this; omega
  have p3 : H7.bk H1.n = some ⟨[vr, vt], true⟩ := (z2.2 _ n2).trans q3
  have p5 : H7.bk H2.n = some ⟨[vt2, vb2, .I W.turn, .I W.idle, vo2], true⟩ := (x7.2 _ (by simp; omega)).trans q5
  have p7 : H7.bk H4.n = some ⟨[vt4, vb4, .I W.turn, .I W.idle, vo4], true⟩ := (x7.2 _ (by simp)).trans push_new
  have pc7 := pc.ext z1
  have wc7 := wc2.ext z2
  have wc47 := wc4.ext (x5.trans x7)
  clear z1 z2 y5 y3 x2 x4 x7 x5 x3 x1 x01 pc wc2 wc4 q3 q3' q5 n2 n4
  cases hv : vaPg p with
  | false =>
    simp [loadN_bk p5, loadN_bk p7]
    exact T_wsameWorld wc7 wc47 fun H8 x8 => by simp
  | true =>
  rw [hv, if_pos rfl] at hW
  subst hW
  obtain ⟨hva, bo, bx⟩ := newW_bo hv
  have hvp := hv
  unfold vaPg at hvp
  simp only [Bool.and_eq_true, decide_eq_true_eq, List.all_eq_true] at hvp
  have hsz : ∀ f ∈ p.tasks, (cS f 0).length ≤ 90000 := fun f hf => by
    obtain ⟨o1, o2, o3⟩ := vaF_facts (hvp.2 f hf)
    have := cS_len o1 0
    omega
  have hrm : vaRm p.rooms = true := hvp.1.1
  have hvk := newK_va hv
  simp
  simp [loadN_bk p3]
  refine K_wrestOf pc7 hv (by omega) fun c9 H8 oc x8 => ?_
  rw [show (60 : Int).toNat = 60 from rfl] at oc
  have hk := runW_keeps 60 hva
  have hcr := @crew_rest p 60 2440 hv
  obtain ⟨O, hO⟩ : ∃ O, O = outW (runW 60 (newW p)) := ⟨_, rfl⟩
  rw [← hO] at oc
  have n8 := x8.1
  obtain ⟨v1, v2, v3, rfl, i1, i2, i3⟩ := id oc
  have x9 := Ext.push H8 [v1, v2, v3, .b O.rest]
  have q9 : (H8.push [v1, v2, v3, .b O.rest]).bk H8.n = some ⟨[v1, v2, v3, .b O.rest], true⟩ := push_new
  have p9 := ((x8.trans x9).2 H1.n (by omega)).trans p3
  simp [store_push4, loadN_bk p9]
  refine K_iCompileProgram (pc7.ext (x8.trans x9)) (fun f hf => by have := hct f hf; omega) (fun _ => hsz) (fun hh => by rw [hv] at hh; cases hh) fun _ vcs Ha clv xa => ?_
  have qa := (xa.2 H8.n (by simp)).trans q9
  have p3a := (xa.2 H1.n (by simp; omega)).trans p9
  obtain ⟨_, _, e, ir, lt⟩ := id pc7
  simp only [List.cons.injEq, and_true] at e
  obtain ⟨rfl, rfl⟩ := e
  obtain ⟨R, hR⟩ : ∃ R : Nat, R = zs'.length % 500 := ⟨_, rfl⟩
  have hRl : R < 500 := by omega
  have eR : ((zs'.length : Int)).tmod 500 = R := by rw [Int.tmod_eq_emod_of_nonneg (by omega)]; omega
  simp (disch := omega) [load_bk p3a, hlen', eR]
  refine K_wcrewOf (n := R) ((ir.ext (x8.trans x9)).ext xa) clv hrm hvk (by omega) fun cz Hb cwz xb => ?_
  rw [Int.toNat_natCast] at cwz
  have hkR := runC_keeps R hvk
  have hcR := runC_codes R (w := newK p.rooms (p.tasks.map compT))
  have hpre : ∃ q, (runC 2440 (newK p.rooms (p.tasks.map compT))).out = (runC R (newK p.rooms (p.tasks.map compT))).out ++ q := by
    obtain ⟨_, _, q, hq⟩ := runC_keeps (2440 - R) hkR.1
    rw [runC_add, show R + (2440 - R) = 2440 by omega] at hq
    exact ⟨q, hq⟩
  obtain ⟨cf, hcf⟩ : ∃ w, w = runC R (newK p.rooms (p.tasks.map compT)) := ⟨_, rfl⟩
  rw [← hcf] at cwz hkR hcR hpre
  obtain ⟨vcz, vtz, vbz, voz, rfl, clz, tvz, _, iz⟩ := id cwz
  have xc := Ext.push Hb [vcz, vtz, vbz, .I cf.turn, .I cf.idle, voz]
  have stc : (Hb.push zK).store Hb.n 0 [vcz, vtz, vbz, .I cf.turn, .I cf.idle, voz] = some (Hb.push [vcz, vtz, vbz, .I cf.turn, .I cf.idle, voz]) := by
    rw [store_bk push_new (by simp), push_put]; rfl
  have qc : (Hb.push [vcz, vtz, vbz, .I cf.turn, .I cf.idle, voz]).bk Hb.n = some ⟨[vcz, vtz, vbz, .I cf.turn, .I cf.idle, voz], true⟩ := push_new
  have q8c := ((xb.trans xc).2 H8.n (by have := xa.1; simp at this; omega)).trans qa
  have p3c := ((xb.trans xc).2 H1.n (by have := xa.1; simp at this; omega)).trans p3a
  have htl2 : cf.threads.length = p.tasks.length := by rw [hcR.2]; simp [newK]
  have lta := lt.alen
  have tza := tvz.alen
  have htl3 : (cf.threads.length : Int) = p.tasks.length := by omega
  cases hRest : O.rest with
  | false =>
    rw [hRest] at q8c
    simp (disch := omega) [stc, load_bk q8c, load_bk qc, load_bk p3c, lta, tza, htl3, htl2]
  | true =>
  have hid : ¬ (runW 60 (newW p)).idle < (runW 60 (newW p)).tasks.length := by
    have h5 := hRest
    rw [hO] at h5
    simp only [outW, decide_eq_true_eq] at h5
    omega
  obtain ⟨_, _, _, k4, _⟩ := hcr hid (by omega) rfl
  obtain ⟨q, hq⟩ := hpre
  rw [k4] at hq
  have hOo : O.out = cf.out ++ q := by rw [hO, ← hq]; rfl
  rw [hRest] at q8c
  simp (disch := omega) [stc, load_bk q8c, load_bk qc, load_bk p3c, lta, tza, htl3, htl2]
  rw [hOo] at i1
  exact T_wfirstInts ((((i1.ext x9).ext xa).ext xb).ext xc) (iz.ext xc) (by simp)
end Go.Proofs.YtmecbehegmgbhaaGreat.AM
namespace Go.Proofs.YtmecbehegmgbhaaGreat.AM
set_option linter.unusedSimpArgs false
set_option linter.unusedVariables false
set_option maxRecDepth 100000
set_option maxHeartbeats 4000000
open Go
attribute [-simp] AM.elems
theorem CS.qv {base H H' v B v' B' L'} {ok : Nat → Prop} {u : AV} {l : List Qd} (h : CS base H H' v B v' B' L') (q : QV ok H u l) (hd : ∀ b, ok b → b < H.n → b ∉ grB v B) : QV ok H' u l :=
  q.mono h.le (fun b hb hn => h.2.1.2 b hn (hd b hb hn)) (fun _ h _ => h)
end Go.Proofs.YtmecbehegmgbhaaGreat.AM
namespace Go.Proofs.YtmecbehegmgbhaaGreat.AM
set_option linter.unusedSimpArgs false
set_option linter.unusedVariables false
set_option maxRecDepth 100000
set_option maxHeartbeats 4000000
open Go
attribute [-simp] AM.elems
section
variable {ok : Nat → Prop} {n : Int} {H : AH} {K : AV → AH → Prop} {w : Fk K} {c : List AV} {s : St1}
end
end Go.Proofs.YtmecbehegmgbhaaGreat.AM
namespace Go.Proofs.YtmecbehegmgbhaaGreat.AM
set_option linter.unusedSimpArgs false
set_option linter.unusedVariables false
set_option maxRecDepth 100000
set_option maxHeartbeats 4000000
open Go
attribute [-simp] AM.elems
section
variable {ok : Nat → Prop} {n : Int} {H : AH} {K : AV → AH → Prop} {w : Fk K} {c : List AV} {s : St1}
end
section
variable {ok : Nat → Prop} {H : AH} {K : AV → AH → Prop} {w : Fk K} {v : AV} {f : Sts}
end
end Go.Proofs.YtmecbehegmgbhaaGreat.AM
namespace Go.Proofs.YtmecbehegmgbhaaGreat.AM
set_option linter.unusedSimpArgs false
set_option linter.unusedVariables false
set_option maxRecDepth 100000
set_option maxHeartbeats 4000000
open Go
attribute [-simp] AM.elems
end Go.Proofs.YtmecbehegmgbhaaGreat.AM
