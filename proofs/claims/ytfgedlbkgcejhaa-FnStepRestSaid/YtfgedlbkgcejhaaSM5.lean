/-
  The abstract machine and its walks, merged by program out of smaller texts (part 5). No condition.
-/
import Derived.Test.YtfgedlbkgcejhaaSM4
namespace Go.Proofs.Ytfgedlbkgcejhaa.AM
set_option linter.unusedSimpArgs false
set_option linter.unusedVariables false
set_option maxRecDepth 100000
set_option maxHeartbeats 2000000
open Go
attribute [-simp] AM.elems
theorem law_FnStep {H : AH} {v : AV} {zs : List Int} (h : SlI H .u8 v zs) (hz : ∀ n ∈ zs, 0 ≤ n ∧ n < 256) : CallK Cd f_wFnStep [v] H fun v _ => v = .b true := by
  rw [CallK_F, CallF_eq e_wFnStep rfl]
  have hlen : alen v = some zs.length := by
    rcases h with ⟨rfl, rfl⟩ | ⟨rfl, rfl⟩ | ⟨b, rest, hb, rfl, hb2⟩ <;> rfl
  simp [hlen]
  refine cnd_mk (fun _ => by simp) (fun hl => ?_)
  simp
  refine K_sDrawTaskStep h hz (by omega) fun c vb t bs H1 tc bv hct fv => ?_
  obtain ⟨vv, vr, rfl, iv, sv⟩ := id tc
  simp [store_push2, loadN_push]
  have x1 := Ext.push H1 [vv, vr]
  refine K_iTaskStep (tc.ext x1) (bv.ext x1) (by omega) fun c2 vb2 p2 H2 tc2 bv2 iv2 x2 fv2 fp2 => ?_
  have y2 := x1.trans x2
  have n2 := y2.1
  obtain ⟨cv2, cr2, rfl, i2, s2⟩ := id tc2
  have q3 : H2.bk H1.n = some ⟨[vv, vr], true⟩ := (x2.2 _ (by simp)).trans push_new
  have n3 : H1.n < H2.n := by have := x2.1; simp at this; omega
  have x3 := Ext.push H2 [cv2, cr2]
  have q3' : (H2.push [cv2, cr2]).bk H1.n = some ⟨[vv, vr], true⟩ := (x3.2 _ n3).trans q3
  simp [store_push2, loadN_bk q3']
  refine K_sTaskStep (tc.ext (y2.trans x3)) (bv.ext (y2.trans x3)) (by omega) fun c4 vb4 p4 H4 tc4 bv4 iv4 x4 fv4 fp4 => ?_
  obtain ⟨cv4, cr4, rfl, i4, s4⟩ := id tc4
  have y4 := x3.trans x4
  have x5 := Ext.push H4 [cv4, cr4]
  have n4 : H2.n < H4.n := by have := x4.1; simp at this; omega
  have q5 : (H4.push [cv4, cr4]).bk H2.n = some ⟨[cv2, cr2], true⟩ := (x5.2 _ n4).trans ((x4.2 _ (by simp)).trans push_new)
  simp [store_push2, loadN_bk q5, loadN_push]
  refine T_wsameTask (tc2.ext (y4.trans x5)) (tc4.ext x5) fun H6 x6 => ?_
  simp
  refine T_wsameBoxes (bv2.ext ((y4.trans x5).trans x6)) (bv4.ext (x5.trans x6)) fun H7 x7 => ?_
  simp
  have z7 := (x5.trans x6).trans x7
  have z2 := y4.trans z7
  have z1 := y2.trans z2
  have hn7 : H1.n < H7.n ∧ H2.n < H7.n ∧ H1.n < H2.n := by have := z7.1; omega
  have p3 : H7.bk H1.n = some ⟨[vv, vr], true⟩ := (z2.2 _ n3).trans q3
  have p5 : H7.bk H2.n = some ⟨[cv2, cr2], true⟩ := ((x6.trans x7).2 _ (by simp; omega)).trans q5
  have tc7 := tc.ext z1
  have bv7 := bv.ext z1
  have tc27 := tc2.ext z2
  have bv27 := bv2.ext z2
  have iv27 := iv2.ext z2
  refine T_wsameInts iv27.sees (iv4.ext z7).sees ?_
  clear z1 z2 z7 y2 y4 x2 x4 x6 x7 x5 x3 x1 tc2 bv2 iv2 tc4 bv4 iv4 tc bv iv sv i2 s2 i4 s4 q3 q3' q5 n2 n3 n4 h
  have cases_ok : stOk t bs = false ∧ stepF t bs = (⟨[], .nil⟩, [], [], 0) ∨ stOk t bs = true ∧ stepF t bs = stepP t bs := by
    unfold stepF
    cases stOk t bs <;> simp
  generalize stepF t bs = F at *
  rcases cases_ok with ⟨hok, e⟩ | ⟨hok, rfl⟩
  · subst e
    simp
  obtain ⟨hva, hvb, hrd⟩ := stOk_iff.1 hok
  obtain ⟨u1, u2, u3, u4, u5, u6⟩ := step_keeps hva hvb hrd
  obtain ⟨f1, f2, f3, f4⟩ := vaT_facts hva
  have hc0 := step_code hva hrd
  obtain ⟨vv', vr', ee, iv, sv⟩ := id tc7
  cases ee
  obtain ⟨cv2', cr2', ee, i2, s2⟩ := id tc27
  cases ee
  have hn0 : ¬ (stepP t bs).2.2.2 = 0 := by omega
  have hlen2 := bv27.alen
  have hlen1 := bv7.alen
  have hbs3 : bs.length ≤ 3 := (vaBs_facts hvb).1
  simp [hn0]
  have := L_FnStep (m := (stepP t bs).2.1.length) (i := 0) (x := .ptr H2.n 0) (Q := ?_) (by omega) bv7 bv27 u2 u4 u3 (by omega) ?_
  · simpa using this
  · intro e G xg h5 h6 h4
    have p5' : G.bk H2.n = some ⟨[cv2, cr2], true⟩ := (xg.2 _ hn7.2.1).trans p5
    simp [h5, loadN_bk p5', h4, h6]
    refine K_iTaskValid (tc27.ext xg) (by have := ctS_sum_le u1 u6; have := @len_ctS t.rest; omega) fun H8 x8 => ?_
    rw [u1]
    simp [hlen2, hlen1, u3]
theorem law_FnStepStill {H : AH} {v : AV} {zs : List Int} (h : SlI H .u8 v zs) (hz : ∀ n ∈ zs, 0 ≤ n ∧ n < 256) : CallK Cd f_wFnStepStill [v] H fun v _ => v = .b true := by
  rw [CallK_F, CallF_eq e_wFnStepStill rfl]
  have hlen : alen v = some zs.length := by
    rcases h with ⟨rfl, rfl⟩ | ⟨rfl, rfl⟩ | ⟨b, rest, hb, rfl, hb2⟩ <;> rfl
  simp [hlen]
  refine cnd_mk (fun _ => by simp) (fun hl => ?_)
  simp
  refine K_sDrawTaskStep h hz (by omega) fun c vb t bs H1 tc bv hct fv => ?_
  obtain ⟨vv, vr, rfl, iv, sv⟩ := id tc
  simp [store_push2, loadN_push]
  have x1 := Ext.push H1 [vv, vr]
  refine K_iTaskStep (tc.ext x1) (bv.ext x1) (by omega) fun c2 vb2 p2 H2 tc2 bv2 iv2 x2 fv2 fp2 => ?_
  have y2 := x1.trans x2
  have n2 := y2.1
  obtain ⟨cv2, cr2, rfl, i2, s2⟩ := id tc2
  have q3 : H2.bk H1.n = some ⟨[vv, vr], true⟩ := (x2.2 _ (by simp)).trans push_new
  have n3 : H1.n < H2.n := by have := x2.1; simp at this; omega
  have x3 := Ext.push H2 [cv2, cr2]
  have q3' : (H2.push [cv2, cr2]).bk H1.n = some ⟨[vv, vr], true⟩ := (x3.2 _ n3).trans q3
  simp [store_push2, loadN_bk q3']
  refine K_sTaskStep (tc.ext (y2.trans x3)) (bv.ext (y2.trans x3)) (by omega) fun c4 vb4 p4 H4 tc4 bv4 iv4 x4 fv4 fp4 => ?_
  obtain ⟨cv4, cr4, rfl, i4, s4⟩ := id tc4
  have y4 := x3.trans x4
  have x5 := Ext.push H4 [cv4, cr4]
  have n4 : H2.n < H4.n := by have := x4.1; simp at this; omega
  have q5 : (H4.push [cv4, cr4]).bk H2.n = some ⟨[cv2, cr2], true⟩ := (x5.2 _ n4).trans ((x4.2 _ (by simp)).trans push_new)
  simp [store_push2, loadN_bk q5, loadN_push]
  refine T_wsameTask (tc2.ext (y4.trans x5)) (tc4.ext x5) fun H6 x6 => ?_
  simp
  refine T_wsameBoxes (bv2.ext ((y4.trans x5).trans x6)) (bv4.ext (x5.trans x6)) fun H7 x7 => ?_
  simp
  have z7 := (x5.trans x6).trans x7
  have z2 := y4.trans z7
  have z1 := y2.trans z2
  have hn7 : H1.n < H7.n ∧ H2.n < H7.n ∧ H1.n < H2.n := by have := z7.1; omega
  have p3 : H7.bk H1.n = some ⟨[vv, vr], true⟩ := (z2.2 _ n3).trans q3
  have p5 : H7.bk H2.n = some ⟨[cv2, cr2], true⟩ := ((x6.trans x7).2 _ (by simp; omega)).trans q5
  have tc7 := tc.ext z1
  have bv7 := bv.ext z1
  have tc27 := tc2.ext z2
  have bv27 := bv2.ext z2
  have iv27 := iv2.ext z2
  refine T_wsameInts iv27.sees (iv4.ext z7).sees ?_
  clear z1 z2 z7 y2 y4 x2 x4 x6 x7 x5 x3 x1 tc2 bv2 iv2 tc4 bv4 iv4 tc bv iv sv i2 s2 i4 s4 q3 q3' q5 n2 n3 n4 h
  have cases_ok : stOk t bs = false ∧ stepF t bs = (⟨[], .nil⟩, [], [], 0) ∨ stOk t bs = true ∧ stepF t bs = stepP t bs := by
    unfold stepF
    cases stOk t bs <;> simp
  generalize stepF t bs = F at *
  rcases cases_ok with ⟨hok, e⟩ | ⟨hok, rfl⟩
  · subst e
    simp
  obtain ⟨hva, hvb, hrd⟩ := stOk_iff.1 hok
  obtain ⟨u1, u2, u3, u4, u5, u6⟩ := step_keeps hva hvb hrd
  obtain ⟨f1, f2, f3, f4⟩ := vaT_facts hva
  have hc0 := step_code hva hrd
  obtain ⟨vv', vr', ee, iv, sv⟩ := id tc7
  cases ee
  obtain ⟨cv2', cr2', ee, i2, s2⟩ := id tc27
  cases ee
  by_cases h34 : (stepP t bs).2.2.2 = 3 ∨ (stepP t bs).2.2.2 = 4
  · obtain ⟨e1, e2, e3⟩ := step_still hva h34
    rw [e1] at tc27
    rw [e2] at bv27
    rw [e3] at iv27
    have hal := iv27.alen
    rcases h34 with k3 | k3
    all_goals
      simp [k3, loadN_bk p3, loadN_bk p5]
      refine T_wsameTask tc27 tc7 fun H8 x8 => ?_
      simp
      refine T_wsameBoxes (bv27.ext x8) (bv7.ext x8) fun H9 x9 => ?_
      simp [hal]
  · have k3 : ¬ (stepP t bs).2.2.2 = 3 := fun h => h34 (.inl h)
    have k4 : ¬ (stepP t bs).2.2.2 = 4 := fun h => h34 (.inr h)
    simp [k3, k4]
theorem law_FnStepEnd {H : AH} {v : AV} {zs : List Int} (h : SlI H .u8 v zs) (hz : ∀ n ∈ zs, 0 ≤ n ∧ n < 256) : CallK Cd f_wFnStepEnd [v] H fun v _ => v = .b true := by
  rw [CallK_F, CallF_eq e_wFnStepEnd rfl]
  have hlen : alen v = some zs.length := by
    rcases h with ⟨rfl, rfl⟩ | ⟨rfl, rfl⟩ | ⟨b, rest, hb, rfl, hb2⟩ <;> rfl
  simp [hlen]
  refine cnd_mk (fun _ => by simp) (fun hl => ?_)
  simp
  refine K_sDrawTaskStep h hz (by omega) fun c vb t bs H1 tc bv hct fv => ?_
  obtain ⟨vv, vr, rfl, iv, sv⟩ := id tc
  simp [store_push2, loadN_push]
  have x1 := Ext.push H1 [vv, vr]
  refine K_iTaskStep (tc.ext x1) (bv.ext x1) (by omega) fun c2 vb2 p2 H2 tc2 bv2 iv2 x2 fv2 fp2 => ?_
  have y2 := x1.trans x2
  have n2 := y2.1
  obtain ⟨cv2, cr2, rfl, i2, s2⟩ := id tc2
  have q3 : H2.bk H1.n = some ⟨[vv, vr], true⟩ := (x2.2 _ (by simp)).trans push_new
  have n3 : H1.n < H2.n := by have := x2.1; simp at this; omega
  have x3 := Ext.push H2 [cv2, cr2]
  have q3' : (H2.push [cv2, cr2]).bk H1.n = some ⟨[vv, vr], true⟩ := (x3.2 _ n3).trans q3
  simp [store_push2, loadN_bk q3']
  refine K_sTaskStep (tc.ext (y2.trans x3)) (bv.ext (y2.trans x3)) (by omega) fun c4 vb4 p4 H4 tc4 bv4 iv4 x4 fv4 fp4 => ?_
  obtain ⟨cv4, cr4, rfl, i4, s4⟩ := id tc4
  have y4 := x3.trans x4
  have x5 := Ext.push H4 [cv4, cr4]
  have n4 : H2.n < H4.n := by have := x4.1; simp at this; omega
  have q5 : (H4.push [cv4, cr4]).bk H2.n = some ⟨[cv2, cr2], true⟩ := (x5.2 _ n4).trans ((x4.2 _ (by simp)).trans push_new)
  simp [store_push2, loadN_bk q5, loadN_push]
  refine T_wsameTask (tc2.ext (y4.trans x5)) (tc4.ext x5) fun H6 x6 => ?_
  simp
  refine T_wsameBoxes (bv2.ext ((y4.trans x5).trans x6)) (bv4.ext (x5.trans x6)) fun H7 x7 => ?_
  simp
  have z7 := (x5.trans x6).trans x7
  have z2 := y4.trans z7
  have z1 := y2.trans z2
  have hn7 : H1.n < H7.n ∧ H2.n < H7.n ∧ H1.n < H2.n := by have := z7.1; omega
  have p3 : H7.bk H1.n = some ⟨[vv, vr], true⟩ := (z2.2 _ n3).trans q3
  have p5 : H7.bk H2.n = some ⟨[cv2, cr2], true⟩ := ((x6.trans x7).2 _ (by simp; omega)).trans q5
  have tc7 := tc.ext z1
  have bv7 := bv.ext z1
  have tc27 := tc2.ext z2
  have bv27 := bv2.ext z2
  have iv27 := iv2.ext z2
  refine T_wsameInts iv27.sees (iv4.ext z7).sees ?_
  clear z1 z2 z7 y2 y4 x2 x4 x6 x7 x5 x3 x1 tc2 bv2 iv2 tc4 bv4 iv4 tc bv iv sv i2 s2 i4 s4 q3 q3' q5 n2 n3 n4 h
  have cases_ok : stOk t bs = false ∧ stepF t bs = (⟨[], .nil⟩, [], [], 0) ∨ stOk t bs = true ∧ stepF t bs = stepP t bs := by
    unfold stepF
    cases stOk t bs <;> simp
  generalize stepF t bs = F at *
  rcases cases_ok with ⟨hok, e⟩ | ⟨hok, rfl⟩
  · subst e
    simp
  obtain ⟨hva, hvb, hrd⟩ := stOk_iff.1 hok
  obtain ⟨u1, u2, u3, u4, u5, u6⟩ := step_keeps hva hvb hrd
  obtain ⟨f1, f2, f3, f4⟩ := vaT_facts hva
  have hc0 := step_code hva hrd
  obtain ⟨vv', vr', ee, iv, sv⟩ := id tc7
  cases ee
  obtain ⟨cv2', cr2', ee, i2, s2⟩ := id tc27
  cases ee
  have hsees := i2.sees
  have hsees0 := iv.sees
  cases hr : t.rest.list with
  | nil =>
    have e : stepP t bs = (t, bs, [], 4) := by unfold stepP; rw [hr]
    have halr : alen vr = some 0 := by rw [sv.alen, hr]; rfl
    rw [e] at tc27 bv27 iv27 i2 s2 hsees ⊢
    simp [load_bk p3, halr]
  | cons s r =>
    obtain ⟨b, o, cap, cc, e1, ob, hbn, l1, s1⟩ := sv.head hr
    have hl' : t.rest.list.length = r.length + 1 := by rw [hr]; rfl
    rw [hl'] at e1
    subst e1
    obtain ⟨va, vy, vz, rfl, ea, ey, ez⟩ := s1
    obtain ⟨q1, q2, q3, q4, q5⟩ := okT_facts (f3 s (by rw [hr]; exact List.mem_cons_self)).1
    have hbigr := sv.big
    rw [hr] at hbigr
    simp at hbigr
    have hnz : ¬ ((r.length : Int) + 1 = 0) := by omega
    have hpos : (0 : Int) < (r.length : Int) + 1 := by omega
    have g0 := loadN_get l1 (i := 0) (by omega)
    have g1 := loadN_get l1 (i := 1) (by omega)
    have g2 := loadN_get l1 (i := 2) (by omega)
    have g3 := loadN_part l1 (j := 3) (n := 3) (by omega)
    have g6 := loadN_get l1 (i := 6) (by omega)
    have g7 := loadN_get l1 (i := 7) (by omega)
    simp [seg] at g0 g1 g2 g3 g6 g7
    have hal : alen (.sl b o (r.length + 1) cap) = some (r.length + 1) := rfl
    by_cases k6 : s.k = 6
    · have e : stepP t bs = (⟨t.vars, Sts.of r⟩, bs, [], 2) := by unfold stepP; rw [hr]; simp [k6]
      rw [e]
      rw [k6] at g0
      simp (disch := omega) [load_bk p3, hnz, hpos, g0]
    · have hne : ¬ (stepP t bs).2.2.2 = 4 ∧ ¬ (stepP t bs).2.2.2 = 2 := by
        unfold stepP
        rw [hr]
        simp only
        split
        · unfold talkP
          split
          · simp
          · split
            · split <;> simp
            · split <;> simp
        split
        · simp
        split
        · simp
        simp [k6]
      have hn0 : ¬ (stepP t bs).2.2.2 = 0 := by omega
      simp (disch := omega) [load_bk p3, hnz, hpos, g0, hne.1, hne.2, k6, hn0]
theorem law_FnStepPrint {H : AH} {v : AV} {zs : List Int} (h : SlI H .u8 v zs) (hz : ∀ n ∈ zs, 0 ≤ n ∧ n < 256) : CallK Cd f_wFnStepPrint [v] H fun v _ => v = .b true := by
  rw [CallK_F, CallF_eq e_wFnStepPrint rfl]
  have hlen : alen v = some zs.length := by
    rcases h with ⟨rfl, rfl⟩ | ⟨rfl, rfl⟩ | ⟨b, rest, hb, rfl, hb2⟩ <;> rfl
  simp [hlen]
  refine cnd_mk (fun _ => by simp) (fun hl => ?_)
  simp
  refine K_sDrawTaskStep h hz (by omega) fun c vb t bs H1 tc bv hct fv => ?_
  obtain ⟨vv, vr, rfl, iv, sv⟩ := id tc
  simp [store_push2, loadN_push]
  have x1 := Ext.push H1 [vv, vr]
  refine K_iTaskStep (tc.ext x1) (bv.ext x1) (by omega) fun c2 vb2 p2 H2 tc2 bv2 iv2 x2 fv2 fp2 => ?_
  have y2 := x1.trans x2
  have n2 := y2.1
  obtain ⟨cv2, cr2, rfl, i2, s2⟩ := id tc2
  have q3 : H2.bk H1.n = some ⟨[vv, vr], true⟩ := (x2.2 _ (by simp)).trans push_new
  have n3 : H1.n < H2.n := by have := x2.1; simp at this; omega
  have x3 := Ext.push H2 [cv2, cr2]
  have q3' : (H2.push [cv2, cr2]).bk H1.n = some ⟨[vv, vr], true⟩ := (x3.2 _ n3).trans q3
  simp [store_push2, loadN_bk q3']
  refine K_sTaskStep (tc.ext (y2.trans x3)) (bv.ext (y2.trans x3)) (by omega) fun c4 vb4 p4 H4 tc4 bv4 iv4 x4 fv4 fp4 => ?_
  obtain ⟨cv4, cr4, rfl, i4, s4⟩ := id tc4
  have y4 := x3.trans x4
  have x5 := Ext.push H4 [cv4, cr4]
  have n4 : H2.n < H4.n := by have := x4.1; simp at this; omega
  have q5 : (H4.push [cv4, cr4]).bk H2.n = some ⟨[cv2, cr2], true⟩ := (x5.2 _ n4).trans ((x4.2 _ (by simp)).trans push_new)
  simp [store_push2, loadN_bk q5, loadN_push]
  refine T_wsameTask (tc2.ext (y4.trans x5)) (tc4.ext x5) fun H6 x6 => ?_
  simp
  refine T_wsameBoxes (bv2.ext ((y4.trans x5).trans x6)) (bv4.ext (x5.trans x6)) fun H7 x7 => ?_
  simp
  have z7 := (x5.trans x6).trans x7
  have z2 := y4.trans z7
  have z1 := y2.trans z2
  have hn7 : H1.n < H7.n ∧ H2.n < H7.n ∧ H1.n < H2.n := by have := z7.1; omega
  have p3 : H7.bk H1.n = some ⟨[vv, vr], true⟩ := (z2.2 _ n3).trans q3
  have p5 : H7.bk H2.n = some ⟨[cv2, cr2], true⟩ := ((x6.trans x7).2 _ (by simp; omega)).trans q5
  have tc7 := tc.ext z1
  have bv7 := bv.ext z1
  have tc27 := tc2.ext z2
  have bv27 := bv2.ext z2
  have iv27 := iv2.ext z2
  refine T_wsameInts iv27.sees (iv4.ext z7).sees ?_
  clear z1 z2 z7 y2 y4 x2 x4 x6 x7 x5 x3 x1 tc2 bv2 iv2 tc4 bv4 iv4 tc bv iv sv i2 s2 i4 s4 q3 q3' q5 n2 n3 n4 h
  have cases_ok : stOk t bs = false ∧ stepF t bs = (⟨[], .nil⟩, [], [], 0) ∨ stOk t bs = true ∧ stepF t bs = stepP t bs := by
    unfold stepF
    cases stOk t bs <;> simp
  generalize stepF t bs = F at *
  rcases cases_ok with ⟨hok, e⟩ | ⟨hok, rfl⟩
  · subst e
    simp
  obtain ⟨hva, hvb, hrd⟩ := stOk_iff.1 hok
  obtain ⟨u1, u2, u3, u4, u5, u6⟩ := step_keeps hva hvb hrd
  obtain ⟨f1, f2, f3, f4⟩ := vaT_facts hva
  have hc0 := step_code hva hrd
  obtain ⟨vv', vr', ee, iv, sv⟩ := id tc7
  cases ee
  obtain ⟨cv2', cr2', ee, i2, s2⟩ := id tc27
  cases ee
  have hsees := i2.sees
  have hsees0 := iv.sees
  cases hr : t.rest.list with
  | nil =>
    have e : stepP t bs = (t, bs, [], 4) := by unfold stepP; rw [hr]
    have halr : alen vr = some 0 := by rw [sv.alen, hr]; rfl
    rw [e] at tc27 bv27 iv27 i2 s2 hsees ⊢
    simp [load_bk p3, halr]
  | cons s r =>
    obtain ⟨b, o, cap, cc, e1, ob, hbn, l1, s1⟩ := sv.head hr
    have hl' : t.rest.list.length = r.length + 1 := by rw [hr]; rfl
    rw [hl'] at e1
    subst e1
    obtain ⟨va, vy, vz, rfl, ea, ey, ez⟩ := s1
    obtain ⟨q1, q2, q3, q4, q5⟩ := okT_facts (f3 s (by rw [hr]; exact List.mem_cons_self)).1
    have hbigr := sv.big
    rw [hr] at hbigr
    simp at hbigr
    have hnz : ¬ ((r.length : Int) + 1 = 0) := by omega
    have hpos : (0 : Int) < (r.length : Int) + 1 := by omega
    have g0 := loadN_get l1 (i := 0) (by omega)
    have g1 := loadN_get l1 (i := 1) (by omega)
    have g2 := loadN_get l1 (i := 2) (by omega)
    have g3 := loadN_part l1 (j := 3) (n := 3) (by omega)
    have g6 := loadN_get l1 (i := 6) (by omega)
    have g7 := loadN_get l1 (i := 7) (by omega)
    simp [seg] at g0 g1 g2 g3 g6 g7
    have hn0 : ¬ (stepP t bs).2.2.2 = 0 := by omega
    by_cases k7 : s.k = 7
    · have e : stepP t bs = (⟨t.vars, Sts.of r⟩, bs, [evE t.vars s.e], 1) := by unfold stepP; rw [hr]; simp [k7]
      rw [e] at iv27 ⊢
      rw [k7] at g0
      simp (disch := omega) [load_bk p3, hnz, hpos, g0, g3]
      refine K_iExprEval ea hsees0 f1 f2 (q2 (by omega) (by omega)) fun H8 x8 => ?_
      obtain ⟨b9, o9, e9, hb9, l9⟩ := (iv27.ext x8).sees.at (i := 0) (show 0 < 1 by omega)
      have hal := iv27.alen
      have hal : alen p2 = some 1 := hal
      have e9 : asSl p2 = some (b9, o9, 1) := e9
      have l9 : H8.load b9 o9 = some (.I (evE t.vars s.e)) := l9
      simp [x8, hal, e9, l9]
    · have e : (stepP t bs).2.2.1 = [] := by
        unfold stepP; rw [hr]; simp only
        split
        · rfl
        split
        · rfl
        split
        · rfl
        rw [if_pos (by omega)]
      rw [e] at iv27
      have hal := iv27.alen
      simp (disch := omega) [load_bk p3, hnz, hpos, g0, hn0, k7, hal]
end Go.Proofs.Ytfgedlbkgcejhaa.AM
namespace Go.Proofs.Ytfgedlbkgcejhaa.AM
set_option linter.unusedSimpArgs false
set_option linter.unusedVariables false
set_option maxRecDepth 100000
set_option maxHeartbeats 2000000
open Go
attribute [-simp] AM.elems
theorem law_FnStepSet {H : AH} {v : AV} {zs : List Int} (h : SlI H .u8 v zs) (hz : ∀ n ∈ zs, 0 ≤ n ∧ n < 256) : CallK Cd f_wFnStepSet [v] H fun v _ => v = .b true := by
  rw [CallK_F, CallF_eq e_wFnStepSet rfl]
  have hlen : alen v = some zs.length := by
    rcases h with ⟨rfl, rfl⟩ | ⟨rfl, rfl⟩ | ⟨b, rest, hb, rfl, hb2⟩ <;> rfl
  simp [hlen]
  refine cnd_mk (fun _ => by simp) (fun hl => ?_)
  simp
  refine K_sDrawTaskStep h hz (by omega) fun c vb t bs H1 tc bv hct fv => ?_
  obtain ⟨vv, vr, rfl, iv, sv⟩ := id tc
  simp [store_push2, loadN_push]
  have x1 := Ext.push H1 [vv, vr]
  refine K_iTaskStep (tc.ext x1) (bv.ext x1) (by omega) fun c2 vb2 p2 H2 tc2 bv2 iv2 x2 fv2 fp2 => ?_
  have y2 := x1.trans x2
  have n2 := y2.1
  obtain ⟨cv2, cr2, rfl, i2, s2⟩ := id tc2
  have q3 : H2.bk H1.n = some ⟨[vv, vr], true⟩ := (x2.2 _ (by simp)).trans push_new
  have n3 : H1.n < H2.n := by have := x2.1; simp at this; omega
  have x3 := Ext.push H2 [cv2, cr2]
  have q3' : (H2.push [cv2, cr2]).bk H1.n = some ⟨[vv, vr], true⟩ := (x3.2 _ n3).trans q3
  simp [store_push2, loadN_bk q3']
  refine K_sTaskStep (tc.ext (y2.trans x3)) (bv.ext (y2.trans x3)) (by omega) fun c4 vb4 p4 H4 tc4 bv4 iv4 x4 fv4 fp4 => ?_
  obtain ⟨cv4, cr4, rfl, i4, s4⟩ := id tc4
  have y4 := x3.trans x4
  have x5 := Ext.push H4 [cv4, cr4]
  have n4 : H2.n < H4.n := by have := x4.1; simp at this; omega
  have q5 : (H4.push [cv4, cr4]).bk H2.n = some ⟨[cv2, cr2], true⟩ := (x5.2 _ n4).trans ((x4.2 _ (by simp)).trans push_new)
  simp [store_push2, loadN_bk q5, loadN_push]
  refine T_wsameTask (tc2.ext (y4.trans x5)) (tc4.ext x5) fun H6 x6 => ?_
  simp
  refine T_wsameBoxes (bv2.ext ((y4.trans x5).trans x6)) (bv4.ext (x5.trans x6)) fun H7 x7 => ?_
  simp
  have z7 := (x5.trans x6).trans x7
  have z2 := y4.trans z7
  have z1 := y2.trans z2
  have hn7 : H1.n < H7.n ∧ H2.n < H7.n ∧ H1.n < H2.n := by have := z7.1; omega
  have p3 : H7.bk H1.n = some ⟨[vv, vr], true⟩ := (z2.2 _ n3).trans q3
  have p5 : H7.bk H2.n = some ⟨[cv2, cr2], true⟩ := ((x6.trans x7).2 _ (by simp; omega)).trans q5
  have tc7 := tc.ext z1
  have bv7 := bv.ext z1
  have tc27 := tc2.ext z2
  have bv27 := bv2.ext z2
  have iv27 := iv2.ext z2
  refine T_wsameInts iv27.sees (iv4.ext z7).sees ?_
  clear z1 z2 z7 y2 y4 x2 x4 x6 x7 x5 x3 x1 tc2 bv2 iv2 tc4 bv4 iv4 tc bv iv sv i2 s2 i4 s4 q3 q3' q5 n2 n3 n4 h
  have cases_ok : stOk t bs = false ∧ stepF t bs = (⟨[], .nil⟩, [], [], 0) ∨ stOk t bs = true ∧ stepF t bs = stepP t bs := by
    unfold stepF
    cases stOk t bs <;> simp
  generalize stepF t bs = F at *
  rcases cases_ok with ⟨hok, e⟩ | ⟨hok, rfl⟩
  · subst e
    simp
  obtain ⟨hva, hvb, hrd⟩ := stOk_iff.1 hok
  obtain ⟨u1, u2, u3, u4, u5, u6⟩ := step_keeps hva hvb hrd
  obtain ⟨f1, f2, f3, f4⟩ := vaT_facts hva
  have hc0 := step_code hva hrd
  obtain ⟨vv', vr', ee, iv, sv⟩ := id tc7
  cases ee
  obtain ⟨cv2', cr2', ee, i2, s2⟩ := id tc27
  cases ee
  have hsees := i2.sees
  have hsees0 := iv.sees
  cases hr : t.rest.list with
  | nil =>
    have e : stepP t bs = (t, bs, [], 4) := by unfold stepP; rw [hr]
    have halr : alen vr = some 0 := by rw [sv.alen, hr]; rfl
    rw [e] at tc27 bv27 iv27 i2 s2 hsees ⊢
    simp [load_bk p3, halr]
  | cons s r =>
    obtain ⟨b, o, cap, cc, e1, ob, hbn, l1, s1⟩ := sv.head hr
    have hl' : t.rest.list.length = r.length + 1 := by rw [hr]; rfl
    rw [hl'] at e1
    subst e1
    obtain ⟨va, vy, vz, rfl, ea, ey, ez⟩ := s1
    obtain ⟨q1, q2, q3, q4, q5⟩ := okT_facts (f3 s (by rw [hr]; exact List.mem_cons_self)).1
    have hbigr := sv.big
    rw [hr] at hbigr
    simp at hbigr
    have hnz : ¬ ((r.length : Int) + 1 = 0) := by omega
    have hpos : (0 : Int) < (r.length : Int) + 1 := by omega
    have g0 := loadN_get l1 (i := 0) (by omega)
    have g1 := loadN_get l1 (i := 1) (by omega)
    have g2 := loadN_get l1 (i := 2) (by omega)
    have g3 := loadN_part l1 (j := 3) (n := 3) (by omega)
    have g6 := loadN_get l1 (i := 6) (by omega)
    have g7 := loadN_get l1 (i := 7) (by omega)
    simp [seg] at g0 g1 g2 g3 g6 g7
    have hn0 : ¬ (stepP t bs).2.2.2 = 0 := by omega
    by_cases k1 : s.k = 1
    · have e : stepP t bs = (⟨t.vars.set s.v.toNat (evE t.vars s.e), Sts.of r⟩, bs, [], 1) := by unfold stepP; rw [hr]; simp [k1]
      obtain ⟨hv0, hv4⟩ := q3 (.inl k1)
      rw [e] at i2 s2 bv27 ⊢
      rw [k1] at g0
      simp (disch := omega) [load_bk p3, hnz, hpos, g0, g3]
      refine K_iExprEval ea hsees0 f1 f2 (q2 (by omega) (by omega)) fun H8 x8 => ?_
      have p38 := (x8.2 _ hn7.1).trans p3
      have p58 := (x8.2 _ hn7.2.1).trans p5
      simp [x8, load_push, hn7, Nat.ne_of_lt, load_bk p38]
      have xa := Ext.push H8 []
      have n8 := x8.1
      obtain ⟨v9, H9, B9, a1, a2, a3, a4, a5⟩ := app_copy (n := 4) (sz := 1) (cs := Ints t.vars) (push_new (H := H8) (cs := [])) (by simp) (by omega) (by rw [Ints_len, f1])
      have xc := xa.trans a2
      have yc := x8.trans xc
      have n9 := xc.1
      have he : AM.elems (H8.push []) 1 vv = some (Ints t.vars) := ((iv.ext (x8.trans xa))).elems
      have hal : alen vv = some 4 := by rw [hsees0.1, f1]
      have hp3n : ¬ H1.n = H8.n := by omega
      have p39 := (xc.2 _ (by omega)).trans p38
      have p59 := (xc.2 _ (by omega)).trans p58
      obtain ⟨cap9, G, z1, z2, z3, z4, z5, z6⟩ := a3.store (i := s.v.toNat) (c := [.I (evE t.vars s.e)]) (by omega) rfl
      have m9 := loadN_extE l1 yc hbn
      have w1 := loadN_get m9 (i := 1) (by omega)
      simp at w1
      have ng := z4.1
      have p3G := (z4.2 _ (by omega) (by simp; omega)).trans p39
      have p5G := (z4.2 _ (by omega) (by simp; omega)).trans p59
      rw [Nat.mul_one] at z2
      subst z1
      simp (disch := omega) [hp3n, he, hal, a1, load_bk p39, w1, z2, load_bk p5G, load_bk p3G]
      have hio : ∀ {okx : Nat → Prop} {vx lx}, IV okx H7 vx lx → IV (fun b => b < H7.n) G vx lx := fun hx => hx.mono (by omega) (fun b _ hb => by rw [z4.2 b (by omega) (by simp; omega), yc.2 b hb]) (fun b _ hb => hb)
      have hbo : ∀ {okx : Nat → Prop} {vx lx}, BV okx H7 vx lx → BV (fun b => b < H7.n) G vx lx := fun hx => hx.mono (by omega) (fun b _ hb => by rw [z4.2 b (by omega) (by simp; omega), yc.2 b hb]) (fun b _ hb => hb)
      have hso : ∀ {okx : Nat → Prop} {vx lx}, SV okx H7 vx lx → SV (fun b => b < H7.n) G vx lx := fun hx => hx.mono (by omega) (fun b _ hb => by rw [z4.2 b (by omega) (by simp; omega), yc.2 b hb]) (fun b _ hb => hb)
      have hset : splice (Ints t.vars) s.v.toNat [.I (evE t.vars s.e)] = Ints (t.vars.set s.v.toNat (evE t.vars s.e)) := Ints_set (by omega)
      rw [Nat.mul_one, hset] at z3
      have z3' : GrS H8.n G (.sl B9 0 4 cap9) (t.vars.set s.v.toNat (evE t.vars s.e)).length 1 (Ints (t.vars.set s.v.toNat (evE t.vars s.e))) B9 := by simpa [f1] using z3
      refine T_wsameInts (hio i2).sees z3'.iv.sees ?_
      simp
      refine T_wsameBoxes (hbo bv27) (hbo bv7) fun HA xA => ?_
      have p3A := (xA.2 _ (by omega)).trans p3G
      have p5A := (xA.2 _ (by omega)).trans p5G
      obtain ⟨vt, t1, t2, t3⟩ := sv.tail hr
      simp [xA, load_bk p3A, load_bk p5A, t1]
      refine T_wsameStmts _ ((hso s2).ext xA) ((hso t2).ext xA) fun HB xB => ?_
      simp [xB]
    · simp (disch := omega) [load_bk p3, hnz, hpos, g0, k1, hn0]
theorem law_FnStepIf {H : AH} {v : AV} {zs : List Int} (h : SlI H .u8 v zs) (hz : ∀ n ∈ zs, 0 ≤ n ∧ n < 256) : CallK Cd f_wFnStepIf [v] H fun v _ => v = .b true := by
  rw [CallK_F, CallF_eq e_wFnStepIf rfl]
  have hlen : alen v = some zs.length := by
    rcases h with ⟨rfl, rfl⟩ | ⟨rfl, rfl⟩ | ⟨b, rest, hb, rfl, hb2⟩ <;> rfl
  simp [hlen]
  refine cnd_mk (fun _ => by simp) (fun hl => ?_)
  simp
  refine K_sDrawTaskStep h hz (by omega) fun c vb t bs H1 tc bv hct fv => ?_
  obtain ⟨vv, vr, rfl, iv, sv⟩ := id tc
  simp [store_push2, loadN_push]
  have x1 := Ext.push H1 [vv, vr]
  refine K_iTaskStep (tc.ext x1) (bv.ext x1) (by omega) fun c2 vb2 p2 H2 tc2 bv2 iv2 x2 fv2 fp2 => ?_
  have y2 := x1.trans x2
  have n2 := y2.1
  obtain ⟨cv2, cr2, rfl, i2, s2⟩ := id tc2
  have q3 : H2.bk H1.n = some ⟨[vv, vr], true⟩ := (x2.2 _ (by simp)).trans push_new
  have n3 : H1.n < H2.n := by have := x2.1; simp at this; omega
  have x3 := Ext.push H2 [cv2, cr2]
  have q3' : (H2.push [cv2, cr2]).bk H1.n = some ⟨[vv, vr], true⟩ := (x3.2 _ n3).trans q3
  simp [store_push2, loadN_bk q3']
  refine K_sTaskStep (tc.ext (y2.trans x3)) (bv.ext (y2.trans x3)) (by omega) fun c4 vb4 p4 H4 tc4 bv4 iv4 x4 fv4 fp4 => ?_
  obtain ⟨cv4, cr4, rfl, i4, s4⟩ := id tc4
  have y4 := x3.trans x4
  have x5 := Ext.push H4 [cv4, cr4]
  have n4 : H2.n < H4.n := by have := x4.1; simp at this; omega
  have q5 : (H4.push [cv4, cr4]).bk H2.n = some ⟨[cv2, cr2], true⟩ := (x5.2 _ n4).trans ((x4.2 _ (by simp)).trans push_new)
  simp [store_push2, loadN_bk q5, loadN_push]
  refine T_wsameTask (tc2.ext (y4.trans x5)) (tc4.ext x5) fun H6 x6 => ?_
  simp
  refine T_wsameBoxes (bv2.ext ((y4.trans x5).trans x6)) (bv4.ext (x5.trans x6)) fun H7 x7 => ?_
  simp
  have z7 := (x5.trans x6).trans x7
  have z2 := y4.trans z7
  have z1 := y2.trans z2
  have hn7 : H1.n < H7.n ∧ H2.n < H7.n ∧ H1.n < H2.n := by have := z7.1; omega
  have p3 : H7.bk H1.n = some ⟨[vv, vr], true⟩ := (z2.2 _ n3).trans q3
  have p5 : H7.bk H2.n = some ⟨[cv2, cr2], true⟩ := ((x6.trans x7).2 _ (by simp; omega)).trans q5
  have tc7 := tc.ext z1
  have bv7 := bv.ext z1
  have tc27 := tc2.ext z2
  have bv27 := bv2.ext z2
  have iv27 := iv2.ext z2
  refine T_wsameInts iv27.sees (iv4.ext z7).sees ?_
  clear z1 z2 z7 y2 y4 x2 x4 x6 x7 x5 x3 x1 tc2 bv2 iv2 tc4 bv4 iv4 tc bv iv sv i2 s2 i4 s4 q3 q3' q5 n2 n3 n4 h
  have cases_ok : stOk t bs = false ∧ stepF t bs = (⟨[], .nil⟩, [], [], 0) ∨ stOk t bs = true ∧ stepF t bs = stepP t bs := by
    unfold stepF
    cases stOk t bs <;> simp
  generalize stepF t bs = F at *
  rcases cases_ok with ⟨hok, e⟩ | ⟨hok, rfl⟩
  · subst e
    simp
  obtain ⟨hva, hvb, hrd⟩ := stOk_iff.1 hok
  obtain ⟨u1, u2, u3, u4, u5, u6⟩ := step_keeps hva hvb hrd
  obtain ⟨f1, f2, f3, f4⟩ := vaT_facts hva
  have hc0 := step_code hva hrd
  obtain ⟨vv', vr', ee, iv, sv⟩ := id tc7
  cases ee
  obtain ⟨cv2', cr2', ee, i2, s2⟩ := id tc27
  cases ee
  have hsees := i2.sees
  have hsees0 := iv.sees
  cases hr : t.rest.list with
  | nil =>
    have e : stepP t bs = (t, bs, [], 4) := by unfold stepP; rw [hr]
    have halr : alen vr = some 0 := by rw [sv.alen, hr]; rfl
    rw [e] at tc27 bv27 iv27 i2 s2 hsees ⊢
    simp [load_bk p3, halr]
  | cons s r =>
    obtain ⟨b, o, cap, cc, e1, ob, hbn, l1, s1⟩ := sv.head hr
    have hl' : t.rest.list.length = r.length + 1 := by rw [hr]; rfl
    rw [hl'] at e1
    subst e1
    obtain ⟨va, vy, vz, rfl, ea, ey, ez⟩ := s1
    obtain ⟨q1, q2, q3, q4, q5⟩ := okT_facts (f3 s (by rw [hr]; exact List.mem_cons_self)).1
    have hbigr := sv.big
    rw [hr] at hbigr
    simp at hbigr
    have hnz : ¬ ((r.length : Int) + 1 = 0) := by omega
    have hpos : (0 : Int) < (r.length : Int) + 1 := by omega
    have g0 := loadN_get l1 (i := 0) (by omega)
    have g1 := loadN_get l1 (i := 1) (by omega)
    have g2 := loadN_get l1 (i := 2) (by omega)
    have g3 := loadN_part l1 (j := 3) (n := 3) (by omega)
    have g6 := loadN_get l1 (i := 6) (by omega)
    have g7 := loadN_get l1 (i := 7) (by omega)
    simp [seg] at g0 g1 g2 g3 g6 g7
    have hn0 : ¬ (stepP t bs).2.2.2 = 0 := by omega
    by_cases kk : s.k = 2
    · have e : stepP t bs = (⟨t.vars, blkR s r (evE t.vars s.e)⟩, bs, [], 1) := by unfold stepP; rw [hr]; simp [kk]
      obtain ⟨w1, w2⟩ := body_len (vaW_iff.2 (f3 s (by rw [hr]; exact List.mem_cons_self)))
      have hrl : r.length ≤ 2000 := by have := @len_ctS t.rest; omega
      rw [e] at i2 s2 bv27 hsees ⊢
      rw [kk] at g0
      simp (disch := omega) [load_bk p3, hnz, hpos, g0, g3]
      refine K_iExprEval ea hsees0 f1 f2 (q2 (by omega) (by omega)) fun H8 x8 => ?_
      have p38 := (x8.2 _ hn7.1).trans p3
      have p58 := (x8.2 _ hn7.2.1).trans p5
      have n8 := x8.1
      have m8 := loadN_extE l1 x8 hbn
      have g6' := loadN_get m8 (i := 6) (by omega)
      have g7' := loadN_get m8 (i := 7) (by omega)
      simp at g6' g7'
      obtain ⟨vt, t1, t2, t3⟩ := sv.tail hr
      have run : ∀ (vf : AV) (ff : Sts), vf.flat = true → SV (fun _ => True) H7 vf ff → ff.list.length ≤ 16 → blkR s r (evE t.vars s.e) = Sts.of (ff.list ++ r) → 
          ∃ c1 g HA, AM.elems (H8.push []) 8 vf = some c1 ∧ aapp (H8.push []) 8 (.sl H8.n 0 0 (.ex 0)) ff.list.length c1 = some (g, HA) ∧ Ext (H8.push []) HA ∧ g.flat = true ∧ alen vf = some ff.list.length ∧
          ∃ c2 v HB, AM.elems HA 8 vt = some c2 ∧ aapp HA 8 g r.length c2 = some (v, HB) ∧ (∀ b, b < H8.n → HB.bk b = HA.bk b) ∧ HA.n ≤ HB.n ∧ SV (fun _ => True) HB v (blkR s r (evE t.vars s.e)) ∧ v.flat = true ∧ alen vt = some r.length := by
        intro vf ff hfl hsv hlen heq
        have xa := Ext.push H8 []
        have h1 : SV (fun b => b < H7.n) (H8.push []) vf ff := hsv.mono (by simp; omega) (fun b _ hb => (x8.trans xa).2 b hb) (fun b _ hb => hb)
        obtain ⟨c1, g, HA, B, z1, z2, z3, z4, z5, z6⟩ := app_two (push_new (H := H8) (cs := [])) (by simp) (fun b hb => by omega) h1 (by omega)
        have na := z3.1
        simp only [push_n] at na
        have h2 : SV (fun b => b < H7.n) HA vt (Sts.of r) := t2.mono (by omega) (fun b _ hb => ((x8.trans xa).trans z3).2 b hb) (fun b _ hb => hb)
        obtain ⟨c2, v, HB, y1, y2, y3, y4, y5, y6⟩ := app_more (by omega) z5 z6 (fun b hb => by omega) h2 (by rw [Sts.list_of]; omega)
        rw [Sts.list_of] at y2 y5
        rw [heq]
        exact ⟨c1, g, HA, z1, z2, z3, z4, hsv.alen, c2, v, HB, y1, y2, y3, y4, y5, y6, by rw [t2.alen, Sts.list_of]⟩
      simp (disch := omega) [x8, load_bk p38, hpos, g7']
      have both : ∃ vf ff, SV (fun _ => True) H7 vf ff ∧ ff.list.length ≤ 16 ∧ blkR s r (evE t.vars s.e) = Sts.of (ff.list ++ r) ∧ vf = if evE t.vars s.e = 0 then vz else vy := by
        by_cases h0 : evE t.vars s.e = 0
        · exact ⟨vz, s.els, ez.mono (Nat.le_refl _) (fun _ _ _ => rfl) (fun _ _ _ => trivial), w2, by unfold blkR; simp [kk, h0], by rw [if_pos h0]⟩
        · exact ⟨vy, s.body, ey.mono (Nat.le_refl _) (fun _ _ _ => rfl) (fun _ _ _ => trivial), w1, by unfold blkR; simp [kk, h0], by rw [if_neg h0]⟩
      obtain ⟨vf, ff, b1, b2, b3, b4⟩ := both
      obtain ⟨c1, g, HA, r1, r2, r3, r4, r5, c2, v9, HB, r6, r7, r8, r9, r10, r11, r12⟩ := run vf ff b1.flat b1 b2 b3
      have na := r3.1
      simp only [push_n] at na
      have p3A := ((Ext.push H8 []).trans r3).2 H1.n (by omega) |>.trans p38
      have p5A := ((Ext.push H8 []).trans r3).2 H2.n (by omega) |>.trans p58
      have p5B := (r8 H2.n (by omega)).trans p5A
      have hneq : ¬ H1.n = H8.n ∧ ¬ H2.n = H8.n := by omega
      have s2' : SV (fun b => b < H7.n) HB cr2 (blkR s r (evE t.vars s.e)) := s2.mono (by omega) (fun b _ hb => (r8 b (by omega)).trans (((x8.trans (Ext.push H8 [])).trans r3).2 b hb)) (fun b _ hb => hb)
      have last : ∀ (Q1 : AV → AH → Prop) (ww : Fk Q1), (∀ H', Ext HB H' → Q1 (.b true) H') → CallF Cd f_wsameStmts [cr2, v9] HB Q1 ww := fun Q1 ww h => T_wsameStmts _ s2' r10 h
      by_cases h0 : evE t.vars s.e = 0
      · rw [if_pos h0] at b4
        subst b4
        rw [h0] at *
        simp (disch := omega) [load_bk p38, load_bk p58]
        refine T_wsameInts (hsees.ext x8) (hsees0.ext x8) ?_
        simp (disch := omega) [load_bk p58, load_push, hneq, r1, r5, r2, r3, load_bk p3A, t1, r6, r12, r7]
        refine ⟨r8 _ (by omega), last _ _ fun H' x' => ?_⟩
        simp [x']
      · rw [if_neg h0] at b4
        subst b4
        simp (disch := omega) [h0, hpos, load_bk p38, load_bk p58, g6']
        refine T_wsameInts (hsees.ext x8) (hsees0.ext x8) ?_
        simp (disch := omega) [load_bk p58, load_push, hneq, r1, r5, r2, r3, load_bk p3A, t1, r6, r12, r7]
        refine ⟨r8 _ (by omega), last _ _ fun H' x' => ?_⟩
        simp [x']
    · simp (disch := omega) [load_bk p3, hnz, hpos, g0, kk, hn0]
theorem law_FnStepWhile {H : AH} {v : AV} {zs : List Int} (h : SlI H .u8 v zs) (hz : ∀ n ∈ zs, 0 ≤ n ∧ n < 256) : CallK Cd f_wFnStepWhile [v] H fun v _ => v = .b true := by
  rw [CallK_F, CallF_eq e_wFnStepWhile rfl]
  have hlen : alen v = some zs.length := by
    rcases h with ⟨rfl, rfl⟩ | ⟨rfl, rfl⟩ | ⟨b, rest, hb, rfl, hb2⟩ <;> rfl
  simp [hlen]
  refine cnd_mk (fun _ => by simp) (fun hl => ?_)
  simp
  refine K_sDrawTaskStep h hz (by omega) fun c vb t bs H1 tc bv hct fv => ?_
  obtain ⟨vv, vr, rfl, iv, sv⟩ := id tc
  simp [store_push2, loadN_push]
  have x1 := Ext.push H1 [vv, vr]
  refine K_iTaskStep (tc.ext x1) (bv.ext x1) (by omega) fun c2 vb2 p2 H2 tc2 bv2 iv2 x2 fv2 fp2 => ?_
  have y2 := x1.trans x2
  have n2 := y2.1
  obtain ⟨cv2, cr2, rfl, i2, s2⟩ := id tc2
  have q3 : H2.bk H1.n = some ⟨[vv, vr], true⟩ := (x2.2 _ (by simp)).trans push_new
  have n3 : H1.n < H2.n := by have := x2.1; simp at this; omega
  have x3 := Ext.push H2 [cv2, cr2]
  have q3' : (H2.push [cv2, cr2]).bk H1.n = some ⟨[vv, vr], true⟩ := (x3.2 _ n3).trans q3
  simp [store_push2, loadN_bk q3']
  refine K_sTaskStep (tc.ext (y2.trans x3)) (bv.ext (y2.trans x3)) (by omega) fun c4 vb4 p4 H4 tc4 bv4 iv4 x4 fv4 fp4 => ?_
  obtain ⟨cv4, cr4, rfl, i4, s4⟩ := id tc4
  have y4 := x3.trans x4
  have x5 := Ext.push H4 [cv4, cr4]
  have n4 : H2.n < H4.n := by have := x4.1; simp at this; omega
  have q5 : (H4.push [cv4, cr4]).bk H2.n = some ⟨[cv2, cr2], true⟩ := (x5.2 _ n4).trans ((x4.2 _ (by simp)).trans push_new)
  simp [store_push2, loadN_bk q5, loadN_push]
  refine T_wsameTask (tc2.ext (y4.trans x5)) (tc4.ext x5) fun H6 x6 => ?_
  simp
  refine T_wsameBoxes (bv2.ext ((y4.trans x5).trans x6)) (bv4.ext (x5.trans x6)) fun H7 x7 => ?_
  simp
  have z7 := (x5.trans x6).trans x7
  have z2 := y4.trans z7
  have z1 := y2.trans z2
  have hn7 : H1.n < H7.n ∧ H2.n < H7.n ∧ H1.n < H2.n := by have := z7.1; omega
  have p3 : H7.bk H1.n = some ⟨[vv, vr], true⟩ := (z2.2 _ n3).trans q3
  have p5 : H7.bk H2.n = some ⟨[cv2, cr2], true⟩ := ((x6.trans x7).2 _ (by simp; omega)).trans q5
  have tc7 := tc.ext z1
  have bv7 := bv.ext z1
  have tc27 := tc2.ext z2
  have bv27 := bv2.ext z2
  have iv27 := iv2.ext z2
  refine T_wsameInts iv27.sees (iv4.ext z7).sees ?_
  clear z1 z2 z7 y2 y4 x2 x4 x6 x7 x5 x3 x1 tc2 bv2 iv2 tc4 bv4 iv4 tc bv iv sv i2 s2 i4 s4 q3 q3' q5 n2 n3 n4 h
  have cases_ok : stOk t bs = false ∧ stepF t bs = (⟨[], .nil⟩, [], [], 0) ∨ stOk t bs = true ∧ stepF t bs = stepP t bs := by
    unfold stepF
    cases stOk t bs <;> simp
  generalize stepF t bs = F at *
  rcases cases_ok with ⟨hok, e⟩ | ⟨hok, rfl⟩
  · subst e
    simp
  obtain ⟨hva, hvb, hrd⟩ := stOk_iff.1 hok
  obtain ⟨u1, u2, u3, u4, u5, u6⟩ := step_keeps hva hvb hrd
  obtain ⟨f1, f2, f3, f4⟩ := vaT_facts hva
  have hc0 := step_code hva hrd
  obtain ⟨vv', vr', ee, iv, sv⟩ := id tc7
  cases ee
  obtain ⟨cv2', cr2', ee, i2, s2⟩ := id tc27
  cases ee
  have hsees := i2.sees
  have hsees0 := iv.sees
  cases hr : t.rest.list with
  | nil =>
    have e : stepP t bs = (t, bs, [], 4) := by unfold stepP; rw [hr]
    have halr : alen vr = some 0 := by rw [sv.alen, hr]; rfl
    rw [e] at tc27 bv27 iv27 i2 s2 hsees ⊢
    simp [load_bk p3, halr]
  | cons s r =>
    obtain ⟨b, o, cap, cc, e1, ob, hbn, l1, s1⟩ := sv.head hr
    have hl' : t.rest.list.length = r.length + 1 := by rw [hr]; rfl
    rw [hl'] at e1
    subst e1
    obtain ⟨va, vy, vz, rfl, ea, ey, ez⟩ := s1
    obtain ⟨q1, q2, q3, q4, q5⟩ := okT_facts (f3 s (by rw [hr]; exact List.mem_cons_self)).1
    have hbigr := sv.big
    rw [hr] at hbigr
    simp at hbigr
    have hnz : ¬ ((r.length : Int) + 1 = 0) := by omega
    have hpos : (0 : Int) < (r.length : Int) + 1 := by omega
    have g0 := loadN_get l1 (i := 0) (by omega)
    have g1 := loadN_get l1 (i := 1) (by omega)
    have g2 := loadN_get l1 (i := 2) (by omega)
    have g3 := loadN_part l1 (j := 3) (n := 3) (by omega)
    have g6 := loadN_get l1 (i := 6) (by omega)
    have g7 := loadN_get l1 (i := 7) (by omega)
    simp [seg] at g0 g1 g2 g3 g6 g7
    have hn0 : ¬ (stepP t bs).2.2.2 = 0 := by omega
    by_cases kk : s.k = 3
    · have e : stepP t bs = (⟨t.vars, blkR s r (evE t.vars s.e)⟩, bs, [], 1) := by unfold stepP; rw [hr]; simp [kk]
      obtain ⟨w1, w2⟩ := body_len (vaW_iff.2 (f3 s (by rw [hr]; exact List.mem_cons_self)))
      have hrl : r.length ≤ 2000 := by have := @len_ctS t.rest; omega
      rw [e] at i2 s2 bv27 hsees ⊢
      rw [kk] at g0
      simp (disch := omega) [load_bk p3, hnz, hpos, g0, g3]
      refine K_iExprEval ea hsees0 f1 f2 (q2 (by omega) (by omega)) fun H8 x8 => ?_
      have p38 := (x8.2 _ hn7.1).trans p3
      have p58 := (x8.2 _ hn7.2.1).trans p5
      have n8 := x8.1
      have m8 := loadN_extE l1 x8 hbn
      have g6' := loadN_get m8 (i := 6) (by omega)
      have g7' := loadN_get m8 (i := 7) (by omega)
      simp at g6' g7'
      obtain ⟨vt, t1, t2, t3⟩ := sv.tail hr
      simp (disch := omega) [x8, load_bk p38, t1]
      by_cases h0 : evE t.vars s.e = 0
      · have eb : blkR s r (evE t.vars s.e) = Sts.of r := by unfold blkR; simp [kk, h0]
        rw [eb] at s2
        rw [h0] at *
        simp (disch := omega) [load_bk p38, load_bk p58]
        refine T_wsameInts (hsees.ext x8) (hsees0.ext x8) ?_
        simp (disch := omega) [load_bk p58]
        refine T_wsameStmts _ (s2.ext x8) (t2.ext x8) fun H' x' => ?_
        simp
      · have eb : blkR s r (evE t.vars s.e) = Sts.of (s.body.list ++ t.rest.list) := by unfold blkR; simp [kk, h0, hr]
        have xa := Ext.push H8 []
        have h1 : SV (fun b => b < H7.n) (H8.push []) vy s.body := ey.mono (by simp; omega) (fun b _ hb => (x8.trans xa).2 b hb) (fun b _ hb => hb)
        obtain ⟨c1, g, HA, B, z1, z2, z3, z4, z5, z6⟩ := app_two (push_new (H := H8) (cs := [])) (by simp) (fun b hb => by omega) h1 (by omega)
        have na := z3.1
        simp only [push_n] at na
        have h2 : SV (fun b => b < H7.n) HA (.sl b o (r.length + 1) cap) t.rest := sv.mono (by omega) (fun b _ hb => ((x8.trans xa).trans z3).2 b hb) (fun b _ hb => hb)
        obtain ⟨c2, v9, HB, y1, y2, y3, y4, y5, y6⟩ := app_more (by omega) z5 z6 (fun b hb => by omega) h2 (by omega)
        rw [hl'] at y2
        rw [← eb] at y5
        have hneq : (¬ H1.n = H8.n ∧ ¬ H2.n = H8.n) ∧ ¬ b = H8.n := by omega
        have p3A := (xa.trans z3).2 H1.n (by omega) |>.trans p38
        have p5B := (y3 H2.n (by omega)).trans ((xa.trans z3).2 H2.n (by omega) |>.trans p58)
        have p3B := (y3 H1.n (by omega)).trans p3A
        have hio : ∀ {okx : Nat → Prop} {vx lx}, IV okx H7 vx lx → IV (fun b => b < H7.n) HB vx lx := fun hx => hx.mono (by omega) (fun b _ hb => (y3 b (by omega)).trans (((x8.trans xa).trans z3).2 b hb)) (fun b _ hb => hb)
        have hso : ∀ {okx : Nat → Prop} {vx lx}, SV okx H7 vx lx → SV (fun b => b < H7.n) HB vx lx := fun hx => hx.mono (by omega) (fun b _ hb => (y3 b (by omega)).trans (((x8.trans xa).trans z3).2 b hb)) (fun b _ hb => hb)
        simp (disch := omega) [h0, hpos, load_push, hneq, load_bk p38, g6', z1, ey.alen, z2, z3, load_bk p3A, y1, y2, load_bk p5B, load_bk p3B]
        refine T_wsameInts (hio i2).sees (hio iv).sees ?_
        simp (disch := omega) [load_bk p5B]
        refine T_wsameStmts _ (hso s2) y5 fun H' x' => ?_
        simp
    · simp (disch := omega) [load_bk p3, hnz, hpos, g0, kk, hn0]
end Go.Proofs.Ytfgedlbkgcejhaa.AM
namespace Go.Proofs.Ytfgedlbkgcejhaa.AM
set_option linter.unusedSimpArgs false
set_option linter.unusedVariables false
set_option maxRecDepth 100000
set_option maxHeartbeats 2000000
open Go
attribute [-simp] AM.elems
theorem law_FnStepSend {H : AH} {v : AV} {zs : List Int} (h : SlI H .u8 v zs) (hz : ∀ n ∈ zs, 0 ≤ n ∧ n < 256) : CallK Cd f_wFnStepSend [v] H fun v _ => v = .b true := by
  rw [CallK_F, CallF_eq e_wFnStepSend rfl]
  have hlen : alen v = some zs.length := by
    rcases h with ⟨rfl, rfl⟩ | ⟨rfl, rfl⟩ | ⟨b, rest, hb, rfl, hb2⟩ <;> rfl
  simp [hlen]
  refine cnd_mk (fun _ => by simp) (fun hl => ?_)
  simp
  refine K_sDrawTaskStep h hz (by omega) fun c vb t bs H1 tc bv hct fv => ?_
  obtain ⟨vv, vr, rfl, iv, sv⟩ := id tc
  simp [store_push2, loadN_push]
  have x1 := Ext.push H1 [vv, vr]
  refine K_iTaskStep (tc.ext x1) (bv.ext x1) (by omega) fun c2 vb2 p2 H2 tc2 bv2 iv2 x2 fv2 fp2 => ?_
  have y2 := x1.trans x2
  have n2 := y2.1
  obtain ⟨cv2, cr2, rfl, i2, s2⟩ := id tc2
  have q3 : H2.bk H1.n = some ⟨[vv, vr], true⟩ := (x2.2 _ (by simp)).trans push_new
  have n3 : H1.n < H2.n := by have := x2.1; simp at this; omega
  have x3 := Ext.push H2 [cv2, cr2]
  have q3' : (H2.push [cv2, cr2]).bk H1.n = some ⟨[vv, vr], true⟩ := (x3.2 _ n3).trans q3
  simp [store_push2, loadN_bk q3']
  refine K_sTaskStep (tc.ext (y2.trans x3)) (bv.ext (y2.trans x3)) (by omega) fun c4 vb4 p4 H4 tc4 bv4 iv4 x4 fv4 fp4 => ?_
  obtain ⟨cv4, cr4, rfl, i4, s4⟩ := id tc4
  have y4 := x3.trans x4
  have x5 := Ext.push H4 [cv4, cr4]
  have n4 : H2.n < H4.n := by have := x4.1; simp at this; omega
  have q5 : (H4.push [cv4, cr4]).bk H2.n = some ⟨[cv2, cr2], true⟩ := (x5.2 _ n4).trans ((x4.2 _ (by simp)).trans push_new)
  simp [store_push2, loadN_bk q5, loadN_push]
  refine T_wsameTask (tc2.ext (y4.trans x5)) (tc4.ext x5) fun H6 x6 => ?_
  simp
  refine T_wsameBoxes (bv2.ext ((y4.trans x5).trans x6)) (bv4.ext (x5.trans x6)) fun H7 x7 => ?_
  simp
  have z7 := (x5.trans x6).trans x7
  have z2 := y4.trans z7
  have z1 := y2.trans z2
  have hn7 : H1.n < H7.n ∧ H2.n < H7.n ∧ H1.n < H2.n := by have := z7.1; omega
  have p3 : H7.bk H1.n = some ⟨[vv, vr], true⟩ := (z2.2 _ n3).trans q3
  have p5 : H7.bk H2.n = some ⟨[cv2, cr2], true⟩ := ((x6.trans x7).2 _ (by simp; omega)).trans q5
  have tc7 := tc.ext z1
  have bv7 := bv.ext z1
  have tc27 := tc2.ext z2
  have bv27 := bv2.ext z2
  have iv27 := iv2.ext z2
  refine T_wsameInts iv27.sees (iv4.ext z7).sees ?_
  clear z1 z2 z7 y2 y4 x2 x4 x6 x7 x5 x3 x1 tc2 bv2 iv2 tc4 bv4 iv4 tc bv iv sv i2 s2 i4 s4 q3 q3' q5 n2 n3 n4 h
  have cases_ok : stOk t bs = false ∧ stepF t bs = (⟨[], .nil⟩, [], [], 0) ∨ stOk t bs = true ∧ stepF t bs = stepP t bs := by
    unfold stepF
    cases stOk t bs <;> simp
  generalize stepF t bs = F at *
  rcases cases_ok with ⟨hok, e⟩ | ⟨hok, rfl⟩
  · subst e
    simp
  obtain ⟨hva, hvb, hrd⟩ := stOk_iff.1 hok
  obtain ⟨u1, u2, u3, u4, u5, u6⟩ := step_keeps hva hvb hrd
  obtain ⟨f1, f2, f3, f4⟩ := vaT_facts hva
  have hc0 := step_code hva hrd
  obtain ⟨vv', vr', ee, iv, sv⟩ := id tc7
  cases ee
  obtain ⟨cv2', cr2', ee, i2, s2⟩ := id tc27
  cases ee
  have hsees := i2.sees
  have hsees0 := iv.sees
  cases hr : t.rest.list with
  | nil =>
    have e : stepP t bs = (t, bs, [], 4) := by unfold stepP; rw [hr]
    have halr : alen vr = some 0 := by rw [sv.alen, hr]; rfl
    rw [e] at tc27 bv27 iv27 i2 s2 hsees ⊢
    simp [load_bk p3, halr]
  | cons s r =>
    obtain ⟨b, o, cap, cc, e1, ob, hbn, l1, s1⟩ := sv.head hr
    have hl' : t.rest.list.length = r.length + 1 := by rw [hr]; rfl
    rw [hl'] at e1
    subst e1
    obtain ⟨va, vy, vz, rfl, ea, ey, ez⟩ := s1
    obtain ⟨q1, q2, q3, q4, q5⟩ := okT_facts (f3 s (by rw [hr]; exact List.mem_cons_self)).1
    have hbigr := sv.big
    rw [hr] at hbigr
    simp at hbigr
    have hnz : ¬ ((r.length : Int) + 1 = 0) := by omega
    have hpos : (0 : Int) < (r.length : Int) + 1 := by omega
    have g0 := loadN_get l1 (i := 0) (by omega)
    have g1 := loadN_get l1 (i := 1) (by omega)
    have g2 := loadN_get l1 (i := 2) (by omega)
    have g3 := loadN_part l1 (j := 3) (n := 3) (by omega)
    have g6 := loadN_get l1 (i := 6) (by omega)
    have g7 := loadN_get l1 (i := 7) (by omega)
    simp [seg] at g0 g1 g2 g3 g6 g7
    have hn0 : ¬ (stepP t bs).2.2.2 = 0 := by omega
    by_cases hd : (stepP t bs).2.2.2 = 1
    rotate_left
    · simp (disch := omega) [hd, load_bk p3, hnz, hpos, g0]
    by_cases kk : s.k = 4
    rotate_left
    · simp (disch := omega) [hd, load_bk p3, hnz, hpos, g0, kk]
    have hsb := q4 (.inl kk)
    have hlt : s.b < bs.length := by unfold rdT at hrd; rw [hr] at hrd; simp at hrd; omega
    obtain ⟨bx, hbx⟩ : ∃ x, bs[s.b.toNat]? = some x := ⟨_, List.getElem?_eq_getElem (by omega)⟩
    have hbv : vaB bx = true := by
      unfold vaBs at hvb
      simp only [Bool.and_eq_true] at hvb
      exact List.all_eq_true.1 hvb.1 bx (List.mem_of_getElem? hbx)
    rw [kk] at g0
    simp (disch := omega) [hd, load_bk p3, hnz, hpos, g0, g2]
    obtain ⟨bb, ob, capb, vi, be, obk, bbn, lb, bi⟩ := bv7.at hbx
    have hbl := (vaBs_facts hvb).1
    have hst0 : stepP t bs = ((talkP t bs s r).1, (talkP t bs s r).2.1, [], (talkP t bs s r).2.2) := by unfold stepP; rw [hr]; simp [kk]
    by_cases hroom : (bx.items.length : Int) < bx.room
    rotate_left
    · exfalso
      rw [hst0] at hd
      unfold talkP at hd
      simp [kk, hbx, hroom] at hd
    have e : stepP t bs = (⟨t.vars, Sts.of r⟩, bs.set s.b.toNat ⟨bx.room, bx.items ++ [evE t.vars s.e]⟩, [], 1) := by rw [hst0]; unfold talkP; simp [kk, hbx, hroom]
    rw [e] at i2 bv27 hsees
    simp (disch := omega) [load_bk p3, hpos, g3]
    refine K_iExprEval ea hsees0 f1 f2 (q2 (by omega) (by omega)) fun H8 x8 => ?_
    have n8 := x8.1
    have p58 := (x8.2 _ hn7.2.1).trans p5
    have p38 := (x8.2 _ hn7.1).trans p3
    have lb8 := loadN_extE lb x8 bbn
    have hsb' : (s.b.toNat : Int) = s.b := by omega
    have hwx : isW (evE t.vars s.e) = true := evE_word f2 s.e.args (d := 5) (q2 (by omega) (by omega))
    subst be
    simp (disch := omega) [x8, hlt, hsb.1, lb8]
    refine K_iBoxPut (b := bx) ⟨vi, rfl, bi.ext x8⟩ hbv hwx hroom fun c9 H9 bc9 x9 => ?_
    obtain ⟨vi9, rfl, bi9⟩ := bc9
    have xx := (x8.trans x9).trans (Ext.push H9 [.I bx.room, vi9])
    have n9 := x9.1
    have p5c := (xx.2 _ hn7.2.1).trans p5
    have p3c := (xx.2 _ hn7.1).trans p3
    have hx2 : (bs.set s.b.toNat (⟨bx.room, bx.items ++ [evE t.vars s.e]⟩ : Bx))[s.b.toNat]? = some ⟨bx.room, bx.items ++ [evE t.vars s.e]⟩ := by rw [List.getElem?_set_self (by omega)]
    obtain ⟨b2, o2, cap2, v2, e2, ok2, b2n, l2, iv2'⟩ := (bv27.ext xx).at hx2
    have bv2x := bv27.ext xx
    have hsl : (bs.set s.b.toNat (⟨bx.room, bx.items ++ [evE t.vars s.e]⟩ : Bx)).length = bs.length := List.length_set ..
    rw [hsl] at e2
    subst e2
    have hb8 : s.b ≤ 3 := by omega
    have lb9 : (H9.push [.I bx.room, vi9]).loadN H9.n 0 2 = some [.I bx.room, vi9] := by rw [loadN_push]; simp [seg]
    simp (disch := omega) [store_push2b, hlt, hsb.1, l2, lb9]
    refine T_wsameBox (b := ⟨bx.room, bx.items ++ [evE t.vars s.e]⟩) ⟨v2, rfl, iv2'⟩ ⟨vi9, rfl, bi9.ext (Ext.push H9 _)⟩ fun HA xA => ?_
    simp [xA]
    refine (congrArg (fun z => CallF Cd f_wsameElse [_, _, .I z] _ _ _) hsb').mp (T_wsameElse (bv2x.ext xA) (bv7.ext (xx.trans xA)) (by simp) (fun i hi => by rw [List.getElem?_set_ne (by omega)]) fun HB xB => ?_)
    have p5B := ((xA.trans xB).2 _ (by have := xx.1; omega)).trans p5c
    have p3B := ((xA.trans xB).2 _ (by have := xx.1; omega)).trans p3c
    simp [xB, load_bk p5B, load_bk p3B]
    refine T_wsameInts (hsees.ext ((xx.trans xA).trans xB)) (hsees0.ext ((xx.trans xA).trans xB)) ?_
    simp
theorem law_FnStepRecv {H : AH} {v : AV} {zs : List Int} (h : SlI H .u8 v zs) (hz : ∀ n ∈ zs, 0 ≤ n ∧ n < 256) : CallK Cd f_wFnStepRecv [v] H fun v _ => v = .b true := by
  rw [CallK_F, CallF_eq e_wFnStepRecv rfl]
  have hlen : alen v = some zs.length := by
    rcases h with ⟨rfl, rfl⟩ | ⟨rfl, rfl⟩ | ⟨b, rest, hb, rfl, hb2⟩ <;> rfl
  simp [hlen]
  refine cnd_mk (fun _ => by simp) (fun hl => ?_)
  simp
  refine K_sDrawTaskStep h hz (by omega) fun c vb t bs H1 tc bv hct fv => ?_
  obtain ⟨vv, vr, rfl, iv, sv⟩ := id tc
  simp [store_push2, loadN_push]
  have x1 := Ext.push H1 [vv, vr]
  refine K_iTaskStep (tc.ext x1) (bv.ext x1) (by omega) fun c2 vb2 p2 H2 tc2 bv2 iv2 x2 fv2 fp2 => ?_
  have y2 := x1.trans x2
  have n2 := y2.1
  obtain ⟨cv2, cr2, rfl, i2, s2⟩ := id tc2
  have q3 : H2.bk H1.n = some ⟨[vv, vr], true⟩ := (x2.2 _ (by simp)).trans push_new
  have n3 : H1.n < H2.n := by have := x2.1; simp at this; omega
  have x3 := Ext.push H2 [cv2, cr2]
  have q3' : (H2.push [cv2, cr2]).bk H1.n = some ⟨[vv, vr], true⟩ := (x3.2 _ n3).trans q3
  simp [store_push2, loadN_bk q3']
  refine K_sTaskStep (tc.ext (y2.trans x3)) (bv.ext (y2.trans x3)) (by omega) fun c4 vb4 p4 H4 tc4 bv4 iv4 x4 fv4 fp4 => ?_
  obtain ⟨cv4, cr4, rfl, i4, s4⟩ := id tc4
  have y4 := x3.trans x4
  have x5 := Ext.push H4 [cv4, cr4]
  have n4 : H2.n < H4.n := by have := x4.1; simp at this; omega
  have q5 : (H4.push [cv4, cr4]).bk H2.n = some ⟨[cv2, cr2], true⟩ := (x5.2 _ n4).trans ((x4.2 _ (by simp)).trans push_new)
  simp [store_push2, loadN_bk q5, loadN_push]
  refine T_wsameTask (tc2.ext (y4.trans x5)) (tc4.ext x5) fun H6 x6 => ?_
  simp
  refine T_wsameBoxes (bv2.ext ((y4.trans x5).trans x6)) (bv4.ext (x5.trans x6)) fun H7 x7 => ?_
  simp
  have z7 := (x5.trans x6).trans x7
  have z2 := y4.trans z7
  have z1 := y2.trans z2
  have hn7 : H1.n < H7.n ∧ H2.n < H7.n ∧ H1.n < H2.n := by have := z7.1; omega
  have p3 : H7.bk H1.n = some ⟨[vv, vr], true⟩ := (z2.2 _ n3).trans q3
  have p5 : H7.bk H2.n = some ⟨[cv2, cr2], true⟩ := ((x6.trans x7).2 _ (by simp; omega)).trans q5
  have tc7 := tc.ext z1
  have bv7 := bv.ext z1
  have tc27 := tc2.ext z2
  have bv27 := bv2.ext z2
  have iv27 := iv2.ext z2
  refine T_wsameInts iv27.sees (iv4.ext z7).sees ?_
  clear z1 z2 z7 y2 y4 x2 x4 x6 x7 x5 x3 x1 tc2 bv2 iv2 tc4 bv4 iv4 tc bv iv sv i2 s2 i4 s4 q3 q3' q5 n2 n3 n4 h
  have cases_ok : stOk t bs = false ∧ stepF t bs = (⟨[], .nil⟩, [], [], 0) ∨ stOk t bs = true ∧ stepF t bs = stepP t bs := by
    unfold stepF
    cases stOk t bs <;> simp
  generalize stepF t bs = F at *
  rcases cases_ok with ⟨hok, e⟩ | ⟨hok, rfl⟩
  · subst e
    simp
  obtain ⟨hva, hvb, hrd⟩ := stOk_iff.1 hok
  obtain ⟨u1, u2, u3, u4, u5, u6⟩ := step_keeps hva hvb hrd
  obtain ⟨f1, f2, f3, f4⟩ := vaT_facts hva
  have hc0 := step_code hva hrd
  obtain ⟨vv', vr', ee, iv, sv⟩ := id tc7
  cases ee
  obtain ⟨cv2', cr2', ee, i2, s2⟩ := id tc27
  cases ee
  have hsees := i2.sees
  have hsees0 := iv.sees
  cases hr : t.rest.list with
  | nil =>
    have e : stepP t bs = (t, bs, [], 4) := by unfold stepP; rw [hr]
    have halr : alen vr = some 0 := by rw [sv.alen, hr]; rfl
    rw [e] at tc27 bv27 iv27 i2 s2 hsees ⊢
    simp [load_bk p3, halr]
  | cons s r =>
    obtain ⟨b, o, cap, cc, e1, ob, hbn, l1, s1⟩ := sv.head hr
    have hl' : t.rest.list.length = r.length + 1 := by rw [hr]; rfl
    rw [hl'] at e1
    subst e1
    obtain ⟨va, vy, vz, rfl, ea, ey, ez⟩ := s1
    obtain ⟨q1, q2, q3, q4, q5⟩ := okT_facts (f3 s (by rw [hr]; exact List.mem_cons_self)).1
    have hbigr := sv.big
    rw [hr] at hbigr
    simp at hbigr
    have hnz : ¬ ((r.length : Int) + 1 = 0) := by omega
    have hpos : (0 : Int) < (r.length : Int) + 1 := by omega
    have g0 := loadN_get l1 (i := 0) (by omega)
    have g1 := loadN_get l1 (i := 1) (by omega)
    have g2 := loadN_get l1 (i := 2) (by omega)
    have g3 := loadN_part l1 (j := 3) (n := 3) (by omega)
    have g6 := loadN_get l1 (i := 6) (by omega)
    have g7 := loadN_get l1 (i := 7) (by omega)
    simp [seg] at g0 g1 g2 g3 g6 g7
    have hn0 : ¬ (stepP t bs).2.2.2 = 0 := by omega
    by_cases hd : (stepP t bs).2.2.2 = 1
    rotate_left
    · simp (disch := omega) [hd, load_bk p3, hnz, hpos, g0]
    by_cases kk : s.k = 5
    rotate_left
    · simp (disch := omega) [hd, load_bk p3, hnz, hpos, g0, kk]
    have hsb := q4 (.inr kk)
    have hlt : s.b < bs.length := by unfold rdT at hrd; rw [hr] at hrd; simp at hrd; omega
    obtain ⟨bx, hbx⟩ : ∃ x, bs[s.b.toNat]? = some x := ⟨_, List.getElem?_eq_getElem (by omega)⟩
    have hbv : vaB bx = true := by
      unfold vaBs at hvb
      simp only [Bool.and_eq_true] at hvb
      exact List.all_eq_true.1 hvb.1 bx (List.mem_of_getElem? hbx)
    rw [kk] at g0
    simp (disch := omega) [hd, load_bk p3, hnz, hpos, g0, g2]
    obtain ⟨bb, ob, capb, vi, be, obk, bbn, lb, bi⟩ := bv7.at hbx
    have hbl := (vaBs_facts hvb).1
    have hst0 : stepP t bs = ((talkP t bs s r).1, (talkP t bs s r).2.1, [], (talkP t bs s r).2.2) := by unfold stepP; rw [hr]; simp [kk]
    have hsv := q3 (.inr kk)
    cases hit : bx.items with
    | nil =>
      exfalso
      rw [hst0] at hd
      unfold talkP at hd
      simp [kk, hbx, hit] at hd
    | cons y qq =>
    have e : stepP t bs = (⟨t.vars.set s.v.toNat y, Sts.of r⟩, bs.set s.b.toNat ⟨bx.room, qq⟩, [], 1) := by rw [hst0]; unfold talkP; simp [kk, hbx, hit]
    rw [e] at i2 s2 bv27 hsees
    have lb8 := lb
    have hsb' : (s.b.toNat : Int) = s.b := by omega
    subst be
    simp (disch := omega) [hlt, hsb.1, lb8]
    refine K_iBoxTake (b := bx) ⟨vi, rfl, bi⟩ hbv hit fun c9 H9 bc9 x9 => ?_
    obtain ⟨vi9, rfl, bi9⟩ := bc9
    have xx := x9.trans (Ext.push H9 [.I bx.room, vi9])
    have n9 := x9.1
    have p5c := (xx.2 _ hn7.2.1).trans p5
    have p3c := (xx.2 _ hn7.1).trans p3
    have hx2 : (bs.set s.b.toNat (⟨bx.room, qq⟩ : Bx))[s.b.toNat]? = some ⟨bx.room, qq⟩ := by rw [List.getElem?_set_self (by omega)]
    obtain ⟨b2, o2, cap2, v2, e2, ok2, b2n, l2, iv2'⟩ := (bv27.ext xx).at hx2
    have bv2x := bv27.ext xx
    have hsl : (bs.set s.b.toNat (⟨bx.room, qq⟩ : Bx)).length = bs.length := List.length_set ..
    rw [hsl] at e2
    subst e2
    have hb8 : s.b ≤ 3 := by omega
    have lb9 : (H9.push [.I bx.room, vi9]).loadN H9.n 0 2 = some [.I bx.room, vi9] := by rw [loadN_push]; simp [seg]
    simp (disch := omega) [store_push2, hlt, hsb.1, l2, lb9]
    refine T_wsameBox (b := ⟨bx.room, qq⟩) ⟨v2, rfl, iv2'⟩ ⟨vi9, rfl, bi9.ext (Ext.push H9 _)⟩ fun HA xA => ?_
    simp [xA]
    refine (congrArg (fun z => CallF Cd f_wsameElse [_, _, .I z] _ _ _) hsb').mp (T_wsameElse (bv2x.ext xA) (bv7.ext (xx.trans xA)) (by simp) (fun i hi => by rw [List.getElem?_set_ne (by omega)]) fun HB xB => ?_)
    have zB := (xx.trans xA).trans xB
    have p5B := ((xA.trans xB).2 _ (by have := xx.1; omega)).trans p5c
    have p3B := ((xA.trans xB).2 _ (by have := xx.1; omega)).trans p3c
    have g1B := loadN_get (loadN_extE l1 zB hbn) (i := 1) (by omega)
    simp at g1B
    have hvl : s.v.toNat < (t.vars.set s.v.toNat y).length := by simp; omega
    obtain ⟨bq, oq, eq1, bqn, eq2⟩ := (hsees.ext zB).at (i := s.v.toNat) hvl
    have eq1 : asSl cv2 = some (bq, oq, 4) := by rw [eq1]; simp [f1]
    have eq2 : HB.load bq (oq + s.v.toNat) = some (.I y) := by rw [eq2]; simp
    obtain ⟨vt, t1, t2, t3⟩ := sv.tail hr
    simp (disch := omega) [xB, load_bk p5B, load_bk p3B, hpos, g1B, eq1, hsv, eq2, t1]
    refine T_wsameStmts _ (s2.ext zB) (t2.ext zB) fun H' x' => ?_
    simp [x']
end Go.Proofs.Ytfgedlbkgcejhaa.AM
namespace Go.Proofs.Ytfgedlbkgcejhaa.AM
set_option linter.unusedSimpArgs false
set_option linter.unusedVariables false
set_option maxRecDepth 100000
set_option maxHeartbeats 2000000
open Go
attribute [-simp] AM.elems
theorem law_FnStepRest {H : AH} {v : AV} {zs : List Int} (h : SlI H .u8 v zs) (hz : ∀ n ∈ zs, 0 ≤ n ∧ n < 256) : CallK Cd f_wFnStepRest [v] H fun v _ => v = .b true := by
  rw [CallK_F, CallF_eq e_wFnStepRest rfl]
  have hlen : alen v = some zs.length := by
    rcases h with ⟨rfl, rfl⟩ | ⟨rfl, rfl⟩ | ⟨b, rest, hb, rfl, hb2⟩ <;> rfl
  simp [hlen]
  refine cnd_mk (fun _ => by simp) (fun hl => ?_)
  simp
  refine K_sDrawTaskStep h hz (by omega) fun c vb t bs H1 tc bv hct fv => ?_
  obtain ⟨vv, vr, rfl, iv, sv⟩ := id tc
  simp [store_push2, loadN_push]
  have x1 := Ext.push H1 [vv, vr]
  refine K_iTaskStep (tc.ext x1) (bv.ext x1) (by omega) fun c2 vb2 p2 H2 tc2 bv2 iv2 x2 fv2 fp2 => ?_
  have y2 := x1.trans x2
  have n2 := y2.1
  obtain ⟨cv2, cr2, rfl, i2, s2⟩ := id tc2
  have q3 : H2.bk H1.n = some ⟨[vv, vr], true⟩ := (x2.2 _ (by simp)).trans push_new
  have n3 : H1.n < H2.n := by have := x2.1; simp at this; omega
  have x3 := Ext.push H2 [cv2, cr2]
  have q3' : (H2.push [cv2, cr2]).bk H1.n = some ⟨[vv, vr], true⟩ := (x3.2 _ n3).trans q3
  simp [store_push2, loadN_bk q3']
  refine K_sTaskStep (tc.ext (y2.trans x3)) (bv.ext (y2.trans x3)) (by omega) fun c4 vb4 p4 H4 tc4 bv4 iv4 x4 fv4 fp4 => ?_
  obtain ⟨cv4, cr4, rfl, i4, s4⟩ := id tc4
  have y4 := x3.trans x4
  have x5 := Ext.push H4 [cv4, cr4]
  have n4 : H2.n < H4.n := by have := x4.1; simp at this; omega
  have q5 : (H4.push [cv4, cr4]).bk H2.n = some ⟨[cv2, cr2], true⟩ := (x5.2 _ n4).trans ((x4.2 _ (by simp)).trans push_new)
  simp [store_push2, loadN_bk q5, loadN_push]
  refine T_wsameTask (tc2.ext (y4.trans x5)) (tc4.ext x5) fun H6 x6 => ?_
  simp
  refine T_wsameBoxes (bv2.ext ((y4.trans x5).trans x6)) (bv4.ext (x5.trans x6)) fun H7 x7 => ?_
  simp
  have z7 := (x5.trans x6).trans x7
  have z2 := y4.trans z7
  have z1 := y2.trans z2
  have hn7 : H1.n < H7.n ∧ H2.n < H7.n ∧ H1.n < H2.n := by have := z7.1; omega
  have p3 : H7.bk H1.n = some ⟨[vv, vr], true⟩ := (z2.2 _ n3).trans q3
  have p5 : H7.bk H2.n = some ⟨[cv2, cr2], true⟩ := ((x6.trans x7).2 _ (by simp; omega)).trans q5
  have tc7 := tc.ext z1
  have bv7 := bv.ext z1
  have tc27 := tc2.ext z2
  have bv27 := bv2.ext z2
  have iv27 := iv2.ext z2
  refine T_wsameInts iv27.sees (iv4.ext z7).sees ?_
  clear z1 z2 z7 y2 y4 x2 x4 x6 x7 x5 x3 x1 tc2 bv2 iv2 tc4 bv4 iv4 tc bv iv sv i2 s2 i4 s4 q3 q3' q5 n2 n3 n4 h
  have cases_ok : stOk t bs = false ∧ stepF t bs = (⟨[], .nil⟩, [], [], 0) ∨ stOk t bs = true ∧ stepF t bs = stepP t bs := by
    unfold stepF
    cases stOk t bs <;> simp
  generalize stepF t bs = F at *
  rcases cases_ok with ⟨hok, e⟩ | ⟨hok, rfl⟩
  · subst e
    simp
  obtain ⟨hva, hvb, hrd⟩ := stOk_iff.1 hok
  obtain ⟨u1, u2, u3, u4, u5, u6⟩ := step_keeps hva hvb hrd
  obtain ⟨f1, f2, f3, f4⟩ := vaT_facts hva
  have hc0 := step_code hva hrd
  obtain ⟨vv', vr', ee, iv, sv⟩ := id tc7
  cases ee
  obtain ⟨cv2', cr2', ee, i2, s2⟩ := id tc27
  cases ee
  by_cases hd4 : (stepP t bs).2.2.2 = 4
  · simp [hd4]
  have hn0 : ¬ (stepP t bs).2.2.2 = 0 := by omega
  have xa := Ext.push H7 yC
  have xb := xa.trans (Ext.push (H7.push yC) [])
  have hne1 : ¬ H1.n = H7.n ∧ ¬ H1.n = H7.n + 1 ∧ ¬ H2.n = H7.n ∧ ¬ H2.n = H7.n + 1 := by omega
  have hctt : t.rest.list.length ≤ 2000 := by have := @len_ctS t.rest; omega
  obtain ⟨c1, g, HA, c2, v9, HB, z1, z2, z3, y1, y2, zB, nB, y5, y6, yg⟩ := app_yield (H := H7.push yC) (fun b => b < H7.n) (fun b hb => by simp; omega) (sv.mono (by simp <;> omega) (fun b _ hb => xb.2 b hb) (fun b _ hb => hb)) (by omega)
  have zB' : ∀ b, b ≤ H7.n → HB.bk b = (H7.push yC).bk b := fun b hb => zB b (by simp; omega)
  have zB7 : ∀ b, b < H7.n → HB.bk b = H7.bk b := fun b hb => (zB' b (by omega)).trans (xa.2 b hb)
  simp only [push_n] at z1 z2 nB
  have na := z3.1
  simp only [push_n] at na
  have p3A := ((xb.trans z3).2 _ hn7.1).trans p3
  have qA : HA.bk H7.n = some ⟨yC, true⟩ := (z3.2 _ (by simp <;> omega)).trans (push_old (by simp) push_new)
  have hal : alen vr = some t.rest.list.length := sv.alen
  have qB1 : HB.bk H1.n = HA.bk H1.n := (zB7 _ hn7.1).trans (((xb.trans z3).2 _ hn7.1).symm)
  have fvv : vv.flat = true := SlC.flat iv
  have fcv : cv2.flat = true := SlC.flat i2
  simp only [yC] at *
  simp [hn0, hd4, flat_cells fvv, flat_tup fvv, store_push8, load_push, hne1, load_bk p3, z1, hal, z2, z3, loadN_bk qA, y1, y2]
  refine ⟨by rw [if_neg (by omega)]; exact qB1, ?_⟩
  have tcB : TC (fun _ => True) HB [vv, v9] ⟨t.vars, Sts.of (t.rest.list ++ [yieldS])⟩ := ⟨vv, v9, rfl, (iv.mono (ok' := fun _ => True) (by omega) (fun b _ hb => zB7 b hb) (fun _ _ _ => trivial)), y5⟩
  have bvB : BV (fun _ => True) HB vb bs := bv7.mono (by omega) (fun b _ hb => zB7 b hb) (fun _ _ _ => trivial)
  have hstep := step_rest hva hvb hrd hd4
  simp [flat_cells fvv, flat_tup fvv, flat_cells yg, flat_tup yg]
  refine K_iTaskStep tcB bvB (by simp only [ctS_of, List.map_append, List.sum_append, List.map_cons, List.map_nil, List.sum_cons, List.sum_nil]; rw [← ctS_sum]; have : ctT yieldS = 1 := rfl; omega) fun cC vbC pC HC tcC bvC ivC xC fvC fpC => ?_
  obtain ⟨cvC, crC, rfl, iC, sC⟩ := id tcC
  rw [hstep] at tcC bvC ivC ⊢
  have nC := xC.1
  have zC : ∀ b, b < H7.n → HC.bk b = H7.bk b := fun b hb => (xC.2 b (by omega)).trans (zB7 b hb)
  have p5C := (zC _ hn7.2.1).trans p5
  have qC : HC.bk H7.n = some ⟨yC, true⟩ := (xC.2 _ (by omega)).trans ((zB' H7.n (Nat.le_refl _)).trans push_new)
  have xd := Ext.push HC [cvC, crC]
  have p5D := (xd.2 _ (by omega)).trans p5C
  have qD := (xd.2 _ (by omega)).trans qC
  have zD : ∀ b, b < H7.n → (HC.push [cvC, crC]).bk b = H7.bk b := fun b hb => (xd.2 b (by omega)).trans (zC b hb)
  have xe := Ext.push (HC.push [cvC, crC]) []
  have hl2 : (stepP t bs).1.rest.list.length ≤ 3000 := by omega
  obtain ⟨d1, g', HD, d2, w9, HE, k1, k2, k3, k4, k5, k6, k7, k8, k9, k10⟩ := app_yield (H := HC.push [cvC, crC]) (fun b => b < H7.n) (fun b hb => by simp; omega) (s2.mono (by simp <;> omega) (fun b _ hb => (xe.2 b (by simp; omega)).trans (zD b hb)) (fun b _ hb => hb)) (by omega)
  simp only [push_n] at k1 k2 k6 k7
  have nd := k3.1
  simp only [push_n] at nd
  have p5E := (k3.2 _ (by simp; omega)).trans ((xe.2 _ (by simp; omega)).trans p5D)
  have qE := (k3.2 _ (by simp; omega)).trans ((xe.2 _ (by simp; omega)).trans qD)
  have hne2 : ¬ H2.n = HC.n ∧ ¬ H2.n = HC.n + 1 := by omega
  have hal2 : alen cr2 = some (stepP t bs).1.rest.list.length := s2.alen
  simp only [yC] at *
  simp [xC, flat_cells fcv, flat_tup fcv, store_push2, load_push, hne2, load_bk p5D, load_bk p5C, k1, hal2, k2, k3, loadN_bk qE, k4, k5]
  refine ⟨by rw [k6 _ (by omega), p5D, if_neg (by omega), p5E], ?_⟩
  have zE : ∀ b, b < H7.n → HE.bk b = H7.bk b := fun b hb => (k6 b (by omega)).trans (zD b hb)
  have xf := Ext.push HE [cv2, w9]
  have tcE : TC (fun _ => True) (HE.push [cv2, w9]) [cv2, w9] ⟨(stepP t bs).1.vars, Sts.of ((stepP t bs).1.rest.list ++ [yieldS])⟩ := (show TC (fun _ => True) HE [cv2, w9] ⟨(stepP t bs).1.vars, Sts.of ((stepP t bs).1.rest.list ++ [yieldS])⟩ from ⟨cv2, w9, rfl, (i2.mono (ok' := fun _ => True) (by omega) (fun b _ hb => zE b hb) (fun _ _ _ => trivial)), k8⟩).ext xf
  have xCE : ∀ b, b < HC.n → HE.bk b = HC.bk b := fun b hb => (k6 b (by omega)).trans (xd.2 b hb)
  have tcC' : TC (fun _ => True) (HE.push [cv2, w9]) [cvC, crC] ⟨(stepP t bs).1.vars, Sts.of ((stepP t bs).1.rest.list ++ [yieldS])⟩ := (tcC.mono (ok' := fun _ => True) (by omega) (fun b _ hb => xCE b hb) (fun _ _ _ => trivial)).ext xf
  have bvC' : BV (fun _ => True) (HE.push [cv2, w9]) vbC (stepP t bs).2.1 := (bvC.mono (ok' := fun _ => True) (by omega) (fun b _ hb => xCE b hb) (fun _ _ _ => trivial)).ext xf
  have ivC' : IV (fun _ => True) (HE.push [cv2, w9]) pC (stepP t bs).2.2.1 := (ivC.mono (ok' := fun _ => True) (by omega) (fun b _ hb => xCE b hb) (fun _ _ _ => trivial)).ext xf
  have bvE : BV (fun _ => True) (HE.push [cv2, w9]) vb2 (stepP t bs).2.1 := (bv27.mono (ok' := fun _ => True) (by omega) (fun b _ hb => zE b hb) (fun _ _ _ => trivial)).ext xf
  have ivE : IV (fun _ => True) (HE.push [cv2, w9]) p2 (stepP t bs).2.2.1 := (iv27.mono (ok' := fun _ => True) (by omega) (fun b _ hb => zE b hb) (fun _ _ _ => trivial)).ext xf
  have q14 : (HE.push [cv2, w9]).bk HC.n = some ⟨[cvC, crC], true⟩ := (xf.2 _ (by omega)).trans ((k6 _ (by omega)).trans push_new)
  simp [flat_cells fcv, flat_tup fcv, flat_cells k10, flat_tup k10, store_push2, loadN_bk q14, loadN_push]
  refine T_wsameTask tcC' tcE fun HF xF => ?_
  simp
  refine T_wsameBoxes (bvC'.ext xF) (bvE.ext xF) fun HG xG => ?_
  simp
  refine T_wsameInts (ivC'.ext (xF.trans xG)).sees (ivE.ext (xF.trans xG)).sees ?_
  simp
end Go.Proofs.Ytfgedlbkgcejhaa.AM
namespace Go.Proofs.Ytfgedlbkgcejhaa.AM
set_option linter.unusedSimpArgs false
set_option linter.unusedVariables false
set_option maxRecDepth 100000
set_option maxHeartbeats 2000000
open Go
attribute [-simp] AM.elems
theorem law_FnStepWait {H : AH} {v : AV} {zs : List Int} (h : SlI H .u8 v zs) (hz : ∀ n ∈ zs, 0 ≤ n ∧ n < 256) : CallK Cd f_wFnStepWait [v] H fun v _ => v = .b true := by
  rw [CallK_F, CallF_eq e_wFnStepWait rfl]
  have hlen : alen v = some zs.length := by
    rcases h with ⟨rfl, rfl⟩ | ⟨rfl, rfl⟩ | ⟨b, rest, hb, rfl, hb2⟩ <;> rfl
  simp [hlen]
  refine cnd_mk (fun _ => by simp) (fun hl => ?_)
  simp
  refine K_sDrawTaskStep h hz (by omega) fun c vb t bs H1 tc bv hct fv => ?_
  obtain ⟨vv, vr, rfl, iv, sv⟩ := id tc
  simp [store_push2, loadN_push]
  have x1 := Ext.push H1 [vv, vr]
  refine K_iTaskStep (tc.ext x1) (bv.ext x1) (by omega) fun c2 vb2 p2 H2 tc2 bv2 iv2 x2 fv2 fp2 => ?_
  have y2 := x1.trans x2
  have n2 := y2.1
  obtain ⟨cv2, cr2, rfl, i2, s2⟩ := id tc2
  have q3 : H2.bk H1.n = some ⟨[vv, vr], true⟩ := (x2.2 _ (by simp)).trans push_new
  have n3 : H1.n < H2.n := by have := x2.1; simp at this; omega
  have x3 := Ext.push H2 [cv2, cr2]
  have q3' : (H2.push [cv2, cr2]).bk H1.n = some ⟨[vv, vr], true⟩ := (x3.2 _ n3).trans q3
  simp [store_push2, loadN_bk q3']
  refine K_sTaskStep (tc.ext (y2.trans x3)) (bv.ext (y2.trans x3)) (by omega) fun c4 vb4 p4 H4 tc4 bv4 iv4 x4 fv4 fp4 => ?_
  obtain ⟨cv4, cr4, rfl, i4, s4⟩ := id tc4
  have y4 := x3.trans x4
  have x5 := Ext.push H4 [cv4, cr4]
  have n4 : H2.n < H4.n := by have := x4.1; simp at this; omega
  have q5 : (H4.push [cv4, cr4]).bk H2.n = some ⟨[cv2, cr2], true⟩ := (x5.2 _ n4).trans ((x4.2 _ (by simp)).trans push_new)
  simp [store_push2, loadN_bk q5, loadN_push]
  refine T_wsameTask (tc2.ext (y4.trans x5)) (tc4.ext x5) fun H6 x6 => ?_
  simp
  refine T_wsameBoxes (bv2.ext ((y4.trans x5).trans x6)) (bv4.ext (x5.trans x6)) fun H7 x7 => ?_
  simp
  have z7 := (x5.trans x6).trans x7
  have z2 := y4.trans z7
  have z1 := y2.trans z2
  have hn7 : H1.n < H7.n ∧ H2.n < H7.n ∧ H1.n < H2.n := by have := z7.1; omega
  have p3 : H7.bk H1.n = some ⟨[vv, vr], true⟩ := (z2.2 _ n3).trans q3
  have p5 : H7.bk H2.n = some ⟨[cv2, cr2], true⟩ := ((x6.trans x7).2 _ (by simp; omega)).trans q5
  have tc7 := tc.ext z1
  have bv7 := bv.ext z1
  have tc27 := tc2.ext z2
  have bv27 := bv2.ext z2
  have iv27 := iv2.ext z2
  refine T_wsameInts iv27.sees (iv4.ext z7).sees ?_
  clear z1 z2 z7 y2 y4 x2 x4 x6 x7 x5 x3 x1 tc2 bv2 iv2 tc4 bv4 iv4 tc bv iv sv i2 s2 i4 s4 q3 q3' q5 n2 n3 n4 h
  have cases_ok : stOk t bs = false ∧ stepF t bs = (⟨[], .nil⟩, [], [], 0) ∨ stOk t bs = true ∧ stepF t bs = stepP t bs := by
    unfold stepF
    cases stOk t bs <;> simp
  generalize stepF t bs = F at *
  rcases cases_ok with ⟨hok, e⟩ | ⟨hok, rfl⟩
  · subst e
    simp
  obtain ⟨hva, hvb, hrd⟩ := stOk_iff.1 hok
  obtain ⟨u1, u2, u3, u4, u5, u6⟩ := step_keeps hva hvb hrd
  obtain ⟨f1, f2, f3, f4⟩ := vaT_facts hva
  have hc0 := step_code hva hrd
  obtain ⟨vv', vr', ee, iv, sv⟩ := id tc7
  cases ee
  obtain ⟨cv2', cr2', ee, i2, s2⟩ := id tc27
  cases ee
  have hsees := i2.sees
  have hsees0 := iv.sees
  cases hr : t.rest.list with
  | nil =>
    have e : stepP t bs = (t, bs, [], 4) := by unfold stepP; rw [hr]
    have halr : alen vr = some 0 := by rw [sv.alen, hr]; rfl
    rw [e] at tc27 bv27 iv27 i2 s2 hsees ⊢
    simp
  | cons s r =>
    obtain ⟨b, o, cap, cc, e1, ob, hbn, l1, s1⟩ := sv.head hr
    have hl' : t.rest.list.length = r.length + 1 := by rw [hr]; rfl
    rw [hl'] at e1
    subst e1
    obtain ⟨va, vy, vz, rfl, ea, ey, ez⟩ := s1
    obtain ⟨q1, q2, q3, q4, q5⟩ := okT_facts (f3 s (by rw [hr]; exact List.mem_cons_self)).1
    have hbigr := sv.big
    rw [hr] at hbigr
    simp at hbigr
    have hnz : ¬ ((r.length : Int) + 1 = 0) := by omega
    have hpos : (0 : Int) < (r.length : Int) + 1 := by omega
    have g0 := loadN_get l1 (i := 0) (by omega)
    have g1 := loadN_get l1 (i := 1) (by omega)
    have g2 := loadN_get l1 (i := 2) (by omega)
    have g3 := loadN_part l1 (j := 3) (n := 3) (by omega)
    have g6 := loadN_get l1 (i := 6) (by omega)
    have g7 := loadN_get l1 (i := 7) (by omega)
    simp [seg] at g0 g1 g2 g3 g6 g7
    by_cases hd : (stepP t bs).2.2.2 = 3
    rotate_left
    · simp [hd]
    have hbl := (vaBs_facts hvb).1
    have hk45 : s.k = 4 ∨ s.k = 5 := by
      by_cases h : s.k = 4 ∨ s.k = 5
      · exact h
      · have := step_wait (bx := ⟨0, []⟩) hr q1 hd (fun h' => absurd h' h)
        omega
    have hsb := q4 hk45
    have hlt : s.b < bs.length := by unfold rdT at hrd; rw [hr] at hrd; simp at hrd; omega
    obtain ⟨bx, hbx⟩ : ∃ x, bs[s.b.toNat]? = some x := ⟨_, List.getElem?_eq_getElem (by omega)⟩
    have hw := step_wait hr q1 hd (fun _ => hbx)
    have hbv := (vaBs_facts hvb).2 bx (List.mem_of_getElem? hbx)
    obtain ⟨bb, ob, capb, vi, be, obk, bbn, lb, bi⟩ := bv7.at hbx
    have hb8 : s.b ≤ 3 := by omega
    subst be
    have xa := Ext.push H7 [.I s.k, .I s.v, .I s.b, .I s.e.op, .I s.e.n, va, vy, vz]
    have xb := xa.trans (Ext.push (H7.push [.I s.k, .I s.v, .I s.b, .I s.e.op, .I s.e.n, va, vy, vz]) [])
    obtain ⟨cs, slc, lf⟩ := id bv7
    obtain ⟨v9, HA, B, a1, a2, a3, a4, a5⟩ := app_copy (n := bs.length) (sz := 2) (cs := cs) (push_new (H := H7.push [.I s.k, .I s.v, .I s.b, .I s.e.op, .I s.e.n, va, vy, vz]) (cs := [])) (by simp) (by omega) slc.2.1
    have he := (slc.ext xb).elems
    simp only [push_n] at a1
    have xA := xb.trans a2
    have nA := a2.1
    simp only [push_n] at nA
    have p3b := (xb.2 _ hn7.1).trans p3
    have p3A := (xA.2 _ hn7.1).trans p3
    have qA : HA.bk H7.n = some ⟨[.I s.k, .I s.v, .I s.b, .I s.e.op, .I s.e.n, va, vy, vz], true⟩ := (a2.2 _ (by simp <;> omega)).trans (push_old (by simp) push_new)
    have lbA := loadN_extE lb xA bbn
    have r0 := loadN_get lbA (i := 0) (by omega)
    have r1 := loadN_get lbA (i := 1) (by omega)
    simp at r0 r1
    obtain ⟨cap9, G, z1, z2, z3, z4, z5, z6⟩ := a3.store (i := s.b.toNat) (c := [.I bx.room, .nils]) (by omega) rfl
    subst z1
    simp only [push_n] at z5
    have ng := z4.1
    have hGk : ∀ b, b < H7.n → G.bk b = H7.bk b := fun b hb => (z4.2 b (by omega) (by simp; omega)).trans (xA.2 b hb)
    have qG : G.bk H7.n = some ⟨[.I s.k, .I s.v, .I s.b, .I s.e.op, .I s.e.n, va, vy, vz], true⟩ := (z4.2 _ (by omega) (by simp; omega)).trans qA
    have p3G := (hGk _ hn7.1).trans p3
    have hali : alen vi = some bx.items.length := bi.alen
    have hnb : ¬ bb = H7.n := by omega
    have lfG0 : LF 2 (BC (fun b => b < H7.n) G) bs cs := lf.imp (fun c x h => h.mono (by omega) (fun b _ hb => hGk b hb) (fun _ _ hb => hb))
    have lfG : LF 2 (BC (fun _ => True) G) bs cs := lfG0.imp (fun c x h => h.mono (by omega) (fun b _ hb => rfl) (fun _ _ hb => trivial))
    have st13 : (H7.push [.I 0, .I 0, .I 0, .I 0, .I 0, .nils, .nils, .nils]).store H7.n 0 [.I s.k, .I s.v, .I s.b, .I s.e.op, .I s.e.n, va, vy, vz] = some (H7.push [.I s.k, .I s.v, .I s.b, .I s.e.op, .I s.e.n, va, vy, vz]) := store_push8 rfl
    have hl2 : cs.length = bs.length * 2 := slc.2.1
    simp (disch := omega) [hd, load_bk p3, hpos, l1, st13, he, a1, load_bk qA, hlt, hsb.1, r0, r1, hali, z2]
    rcases hw with ⟨k4, hfull⟩ | ⟨k5, hemp⟩
    · have hfl : (bx.items.length : Int) = bx.room := by omega
      have hvn : vaBs (bs.set s.b.toNat ⟨bx.room, []⟩) = true := vaBs_set hvb (by unfold vaB; simp; omega)
      have bvG : BV (fun _ => True) G (.sl B 0 bs.length cap9) (bs.set s.b.toNat ⟨bx.room, []⟩) := by
        refine ⟨splice cs (s.b.toNat * 2) [.I bx.room, .nils], ?_, lfG.set (by omega) ⟨.nils, rfl, IV.nilp (.inl rfl)⟩ rfl⟩
        have := z3.ivB (ok := fun _ => True) (fun _ _ => trivial)
        rw [List.length_set]
        exact this
      have hst : stepF t (bs.set s.b.toNat ⟨bx.room, []⟩) = (⟨t.vars, Sts.of r⟩, (bs.set s.b.toNat ⟨bx.room, []⟩).set s.b.toNat ⟨bx.room, [] ++ [evE t.vars s.e]⟩, [], 1) := by
        unfold stepF
        rw [if_pos (stOk_iff.2 ⟨hva, hvn, by rw [List.length_set]; exact hrd⟩)]
        unfold stepP talkP
        rw [hr]
        have hx2 : (bs.set s.b.toNat (⟨bx.room, []⟩ : Bx))[s.b.toNat]? = some ⟨bx.room, []⟩ := by rw [List.getElem?_set_self (by omega)]
        have : (0 : Int) < bx.room := by omega
        simp [k4, hx2, this]
      simp (disch := omega) [load_bk qG, k4, loadN_bk p3G]
      refine K_iTaskStep (tc7.mono (ok' := fun _ => True) (by omega) (fun b _ hb => hGk b hb) (fun _ _ _ => trivial)) bvG (by omega) fun c8 v8 p8 H8 tc8 bv8 iv8 x8 fv8 fp8 => ?_
      rw [hst] at tc8 ⊢
      obtain ⟨u, w', rfl, _, _⟩ := tc8
      have q8 := ((x8.trans (Ext.push H8 [u, w'])).2 _ (by omega)).trans qG
      simp [store_push2, load_bk q8, k4, hfl]
    · have hali0 : bx.items.length = 0 := by rw [hemp]; rfl
      obtain ⟨cap7, G2, w1, w2, w3, w4, w5, w6⟩ := (z3.ext (Ext.push G [.I 5])).storeAt (o := s.b.toNat * 2 + 1) (c := [.sl G.n 0 1 (.ex 1)]) (by simp) (by simp; omega)
      cases w1
      have n2 := w4.1
      simp only [push_n] at n2
      rw [splice_two (by omega)] at w3
      have hvn : vaBs (bs.set s.b.toNat ⟨bx.room, [5]⟩) = true := vaBs_set hvb (by unfold vaB; simp; exact ⟨by omega, by decide⟩)
      have hG2k : ∀ b, b < H7.n + 1 → G2.bk b = G.bk b := fun b hb => (w4.2 b (by simp; omega) (by simp; omega)).trans (push_old (by omega) rfl)
      have bvG : BV (fun _ => True) G2 (.sl B 0 bs.length cap9) (bs.set s.b.toNat ⟨bx.room, [5]⟩) := by
        refine ⟨splice cs (s.b.toNat * 2) [.I bx.room, .sl G.n 0 1 (.ex 1)], ?_, (lfG0.imp (fun c x h => h.mono (by omega) (fun b hb _ => hG2k b (by omega)) (fun _ _ _ => trivial))).set (by omega) ⟨.sl G.n 0 1 (.ex 1), rfl, ?_⟩ rfl⟩
        · have := w3.ivB (ok := fun _ => True) (fun _ _ => trivial)
          rw [List.length_set]
          exact this
        · refine ⟨by simp, rfl, .inr ⟨G.n, 0, _, rfl, ⟨trivial, by simp [capOk]⟩, by omega, ?_⟩⟩
          rw [loadN_bk ((w4.2 G.n (by simp) (by simp; omega)).trans push_new)]
          rfl
      have hst : stepF t (bs.set s.b.toNat ⟨bx.room, [5]⟩) = (⟨t.vars.set s.v.toNat 5, Sts.of r⟩, (bs.set s.b.toNat ⟨bx.room, [5]⟩).set s.b.toNat ⟨bx.room, []⟩, [], 1) := by
        unfold stepF
        rw [if_pos (stOk_iff.2 ⟨hva, hvn, by rw [List.length_set]; exact hrd⟩)]
        unfold stepP talkP
        rw [hr]
        have hx2 : (bs.set s.b.toNat (⟨bx.room, [5]⟩ : Bx))[s.b.toNat]? = some ⟨bx.room, [5]⟩ := by rw [List.getElem?_set_self (by omega)]
        simp [k5, hx2]
      have hb7 : ∀ b, b < H7.n → G2.bk b = H7.bk b := fun b hb => (hG2k b (by omega)).trans (hGk b hb)
      have qG2 := (hG2k H7.n (by omega)).trans qG
      have p32 := (hb7 _ hn7.1).trans p3
      have lbG := loadN_extE lb ⟨by omega, hGk⟩ bbn
      have r1G := loadN_get lbG (i := 1) (by omega)
      simp at r1G
      have qGp := ((Ext.push G [.I 5]).2 _ (by omega)).trans qG
      have hsv := q3 (.inr k5)
      simp (disch := omega) [load_bk qG, load_bk qGp, k5, hlt, hsb.1, r1G, hali, hali0, w2, loadN_bk p32]
      refine K_iTaskStep (tc7.mono (ok' := fun _ => True) (by omega) (fun b _ hb => hb7 b hb) (fun _ _ _ => trivial)) bvG (by omega) fun c8 v8 p8 H8 tc8 bv8 iv8 x8 fv8 fp8 => ?_
      rw [hst] at tc8 ⊢
      obtain ⟨u, w', rfl, iu, _⟩ := tc8
      have xp8 := Ext.push H8 [u, w']
      have q8 := ((x8.trans xp8).2 _ (by omega)).trans qG2
      obtain ⟨bq, oq, eq1, bqn, eq2⟩ := (iu.ext xp8).sees.at (i := s.v.toNat) (by simp; omega)
      have eq1 : asSl u = some (bq, oq, 4) := by rw [eq1]; simp [f1]
      have eq2 : (H8.push [u, w']).load bq (oq + s.v.toNat) = some (.I 5) := by rw [eq2]; simp
      simp (disch := omega) [store_push2, load_bk q8, k5, load_push, eq1, hsv, eq2]
end Go.Proofs.Ytfgedlbkgcejhaa.AM
