/-
  The abstract machine and its walks, merged by program out of smaller texts (part 4). No condition.
-/
import Derived.Test.YtmecbehegmgbhaaGreatTM3
namespace Go.Proofs.YtmecbehegmgbhaaGreat.AM
set_option linter.unusedSimpArgs false
set_option linter.unusedVariables false
set_option maxRecDepth 100000
set_option maxHeartbeats 2000000
open Go
theorem SV.tail {ok H v f} (h : SV ok H v f) {s : St1} {r : List St1} (hr : f.list = s :: r) : ∃ v', aslice 8 v (some (.I 1)) none none = some v' ∧ SV ok H v' (Sts.of r) ∧ v'.flat = true := by
  obtain ⟨v', a1, a2, a3⟩ := h.part (i := 1) (j := f.list.length) (lo := some (.I 1)) (hi := none) (by rw [hr]; simp) (Nat.le_refl _) (by simp [bnd, aint]) rfl
  refine ⟨v', a1, ?_, a3⟩
  rw [hr] at a2
  simpa using a2
theorem cp_tail {f : Sts} {s : St1} {r : List St1} (hr : f.list = s :: r) (h : cpS f = true) : cpS (Sts.of r) = true := by
  have := cpS_drop (i := 1) h
  rw [hr] at this
  simpa using this
theorem ct_tail {f : Sts} {s : St1} {r : List St1} (hr : f.list = s :: r) : ctS (Sts.of r) ≤ ctS f := by
  have := ctS_drop (f := f) (i := 1)
  rw [hr] at this
  simpa using this
section
variable {ok : Nat → Prop} {H : AH} {K : AV → AH → Prop} {w : Fk K} {c : List AV} {t : Tk} {s : St1} {r : List St1}
theorem K_sl15Set {v x : Int} (h : TC ok H c t) (hr : t.rest.list = s :: r) (hcp : cpS t.rest = true) (hct : ctS t.rest ≤ 100000) (hv : 0 ≤ v ∧ v < t.vars.length) (hvl : t.vars.length ≤ 1000)
    (k : ∀ c' H', TC (fun b => H.n ≤ b) H' c' ⟨t.vars.set v.toNat x, Sts.of r⟩ → Ext H H' → K (.agg c') H') : CallF Cd f_sl15Set [.agg c, .I v, .I x] H K w := by
  obtain ⟨vv, vr, rfl, h1, h2⟩ := h
  rw [CallF_eq e_sl15Set rfl]
  have x0 : Ext H (((H.push [vv, vr]).push [.nils, .nils]).push []) := ((Ext.push _ _).trans (Ext.push _ _)).trans (Ext.push _ _)
  obtain ⟨v', H1, B1, b1, x1, g1, f1, hB1⟩ := app_newG (l := t.vars) (H := ((H.push [vv, vr]).push [.nils, .nils]).push []) (push_new (cs := [])) (Nat.lt_succ_self _) (base := H.n + 2) (by simp) (by omega)
  have e1 := (h1.ext x0).src.elems
  have e2 := h1.sees.1
  have n1 := x1.1
  simp only [push_n] at n1 b1 hB1
  have q0 : H1.bk H.n = some ⟨[vv, vr], true⟩ := (x1.2 H.n (by simp; omega)).trans (push_old (by simp; omega) (push_old (by simp) push_new))
  have q1 : H1.bk (H.n + 1) = some ⟨[.nils, .nils], true⟩ := (x1.2 (H.n + 1) (by simp)).trans (push_old (by simp) push_new)
  obtain ⟨vt, t1, t2, t3⟩ := h2.tail hr
  simp (disch := omega) [-AM.elems, load_push, e1, e2, b1, x1, load_bk q0, t1]
  refine K_sl11Copy (Sts.of r) (t2.ext (x0.trans x1)) (cp_tail hr hcp) (by have := ct_tail hr; omega) fun vr' H2 cs B u1 u2 x2 => ?_
  have fr := u1.flat
  have n2 := x2.1
  have x3 := Ext.push H2 [v', vr']
  have g3 := (g1.ext x2).ext x3
  obtain ⟨cap, H3, rfl, s1, s2, s3, s4, s5⟩ := g3.store (i := v.toNat) (c := [.I x]) (by omega) rfl
  rw [Nat.mul_one] at s1
  have hB0 : B1 < H1.n := by
    rcases g1.2.2 with q | q
    · cases q.1
    · exact q.2.1
  have hB : B1 < H2.n := by
    have := g1.2.2
    rcases this with q | q
    · cases q.1
    · omega
  have q2 : (H2.push [.sl B1 0 t.vars.length cap, vr']).bk H2.n = some ⟨[.sl B1 0 t.vars.length cap, vr'], true⟩ := push_new
  have q3 : H3.bk H2.n = some ⟨[.sl B1 0 t.vars.length cap, vr'], true⟩ := s3.bk (by simp) (by simp; omega) q2
  have q4 : H3.bk (H.n + 1) = some ⟨[.nils, .nils], true⟩ := s3.bk (by simp; omega) (by simp; omega) (push_old (by omega) ((x2.2 _ (by omega)).trans q1))
  have n3 := s3.1
  simp only [push_n] at n3
  have st : H3.store (H.n + 1) 0 [.sl B1 0 t.vars.length cap, vr'] = some (H3.put (H.n + 1) (some ⟨[.sl B1 0 t.vars.length cap, vr'], true⟩)) := store_bk q4 (by simp)
  have hvz : v.toNat < t.vars.length := by omega
  have fr' := flat_cells fr
  have stA : (H2.push [.nils, .nils]).store H2.n 0 [.sl B1 0 t.vars.length cap, vr'] = some (H2.push [.sl B1 0 t.vars.length cap, vr']) := by
    rw [store_bk push_new (by simp), push_put]; rfl
  simp (disch := omega) [x2, fr', flat_tup fr, stA, load_bk q2, s1, loadN_bk q3, st, loadN_bk put_same]
  have o3 : Only [H.n + 1] H3 (H3.put (H.n + 1) (some ⟨[.sl B1 0 t.vars.length cap, vr'], true⟩)) := Only.refl.put (by simp)
  have s2' := s2.only o3 (by simp)
  have e3 : splice (Ints t.vars) (v.toNat * 1) [.I x] = Ints (t.vars.set v.toNat x) := by rw [Nat.mul_one]; exact Ints_set hvz
  rw [e3] at s2'
  have hl : (t.vars.set v.toNat x).length = t.vars.length := by simp
  refine k _ _ ⟨.sl B1 0 t.vars.length cap, vr', rfl, ?_, ?_⟩ ⟨by simp; omega, fun b hb => ?_⟩
  · show SlC _ _ _ _ _ _
    rw [hl]
    exact s2'.slc.mono (Nat.le_refl _) (fun _ _ _ => rfl) (fun b hb _ => by omega)
  · refine (u1.sv u2).mono (by simp; omega) (fun b hb hb2 => ?_) (fun b hb _ => by omega)
    rw [put_bk, if_neg (by omega), s3.2 b (by simp; omega) (by simp; omega), push_old hb2 rfl]
  · rw [put_bk, if_neg (by omega), s3.2 b (by simp; omega) (by simp; omega), push_old (by omega) rfl, x2.2 b (by omega), x1.2 b (by simp; omega), x0.2 b hb]
theorem K_sl15Ahead {v1 v2 : AV} {a b : Sts} (h1 : SV ok H v1 a) (h2 : SV ok H v2 b) (c1 : cpS a = true) (c2 : cpS b = true) (t1 : ctS a ≤ 100000) (t2 : ctS b ≤ 100000)
    (k : ∀ v' H', SV (fun b => H.n ≤ b) H' v' (Sts.of (a.list ++ b.list)) → Ext H H' → v'.flat = true → K v' H') : CallF Cd f_sl15Ahead [v1, v2] H K w := by
  rw [CallF_eq e_sl15Ahead rfl]
  simp
  refine K_sl11Copy a h1 c1 t1 fun w1 H1 cs1 B1 u1 u2 x1 => ?_
  simp
  refine K_sl11Copy b (h2.ext x1) c2 t2 fun w2 H2 cs2 B2 y1 y2 x2 => ?_
  have l1 := len_ctS (f := a)
  have l2 := len_ctS (f := b)
  obtain ⟨v', H3, B3, a1, a2, a3, a4⟩ := (u1.ext x2).app (by have := x1.1; have := x2.1; omega) (k := b.list.length) (new := cs2) (by rw [y1.2.1]) (by omega)
  have e1 := y1.elems
  have e2 := y1.alen
  simp [-AM.elems, e1, e2, a1]
  have n1 := x1.1
  have n2 := x2.1
  have n3 := a4.1
  have hm : ∀ x, x ∈ grB w1 B1 → x = B1 ∧ H.n ≤ B1 := fun x hx => ⟨(u1.mem hx).1, (u1.mem hx).2.1⟩
  have hm2 : ∀ x, x ∈ grB w1 B1 → B1 < H1.n := fun x hx => (u1.mem hx).2.2
  have hB : (B3 = B1 ∧ H.n ≤ B1 ∧ B1 < H1.n) ∨ B3 = H2.n := by
    rcases a3 with q | q
    · exact .inl ⟨q.1, (hm _ q.2).2, hm2 _ q.2⟩
    · exact .inr q
  have k1 := (SF.ext u2 x2).mono (H' := H3) (ok' := fun b => H.n ≤ b ∧ b ≠ B3) n3 (fun x hx hx2 => a4.2 x hx2 (fun hq => hx.2 (hm x hq).1)) (fun x hx hx2 => ⟨hx.1, by
    rcases hB with q | q
    · rw [q.1]; exact hx.2
    · omega⟩)
  have k2 := y2.mono (H' := H3) (ok' := fun b => H.n ≤ b ∧ b ≠ B3) n3 (fun x hx hx2 => a4.2 x hx2 (fun hq => by have := hm x hq; have := hm2 x hq; omega)) (fun x hx hx2 => by omega)
  have hlen : (Sts.of (a.list ++ b.list)).list.length = a.list.length + b.list.length := by rw [Sts.list_of]; simp
  refine k _ _ (GrS.sv (B := B3) (by rw [hlen]; exact a2) (SF.app k1 k2)) ⟨by omega, fun x hx => ?_⟩ a2.flat
  rw [a4.2 x (by omega) (fun hq => by have := hm x hq; omega), x2.2 x (by omega), x1.2 x hx]
end
/-- May a step go on (is the mailbox of the first statement there)? -/
def rdT (t : Tk) (many : Nat) : Bool :=
  match t.rest.list with
  | [] => true
  | s :: _ => decide (s.k ≠ 4 ∧ s.k ≠ 5) || decide (s.b < many)
section
variable {ok : Nat → Prop} {H : AH} {K : AV → AH → Prop} {w : Fk K} {c : List AV} {t : Tk} {s : St1} {r : List St1}
theorem SV.head {H : AH} {v : AV} {f : Sts} (h : SV ok H v f) (hr : f.list = s :: r) : ∃ b o cap c, v = .sl b o f.list.length cap ∧ ok b ∧ b < H.n ∧ H.loadN b o 8 = some c ∧ S1 ok H c s := by
  obtain ⟨b, o, cap, c, h1, h2, h3, h4, h5⟩ := h.at (i := 0) (s := s) (by rw [hr]; rfl)
  exact ⟨b, o, cap, c, h1, h2, h3, by simpa using h4, h5⟩
theorem K_sl15Ready {vb : AV} {many : Nat} (h : TC ok H c t) (hb : alen vb = some many) (hm : many ≤ 8589934592) (k : ∀ H', Ext H H' → K (.b (rdT t many)) H') : CallF Cd f_sl15Ready [.agg c, vb] H K w := by
  obtain ⟨vv, vr, rfl, h1, h2⟩ := h
  rw [CallF_eq e_sl15Ready rfl]
  have ha := h2.alen
  have hbig := h2.big
  have x0 := Ext.push H [vv, vr]
  unfold rdT at k
  cases hr : t.rest.list with
  | nil =>
    rw [hr] at ha k
    simp [load_push, ha]
    exact k _ x0
  | cons s r =>
    obtain ⟨b, o, cap, c, e1, ob, hbn, l1, s1⟩ := h2.head hr
    have hl : t.rest.list.length = r.length + 1 := by rw [hr]; rfl
    rw [hl] at e1
    subst e1
    rw [hr] at k
    have l2 := loadN_extE l1 x0 hbn
    obtain ⟨va, vy, vz, rfl, _⟩ := s1
    have x1 := x0.trans (Ext.push (H.push [vv, AV.sl b o (r.length + 1) cap]) [.I s.k, .I s.v, .I s.b, .I s.e.op, .I s.e.n, va, vy, vz])
    have hp : ¬ ((r.length : Int) + 1) = 0 := by omega
    by_cases k4 : s.k = 4
    · simp (disch := omega) [load_push, hp, l2, AH.store, push_put, push_put1, k4, hb]
      simpa [k4] using k _ x1
    by_cases k5 : s.k = 5
    · simp (disch := omega) [load_push, hp, l2, AH.store, push_put, push_put1, k4, k5, hb]
      simpa [k5] using k _ x1
    · simp (disch := omega) [load_push, hp, l2, AH.store, push_put, push_put1, k4, k5, hb]
      simpa [k4, k5] using k _ x1
end
end Go.Proofs.YtmecbehegmgbhaaGreat.AM
namespace Go.Proofs.YtmecbehegmgbhaaGreat.AM
set_option linter.unusedSimpArgs false
set_option linter.unusedVariables false
set_option maxRecDepth 100000
set_option maxHeartbeats 2000000
open Go
/-- What is left to run behind an if or a while. -/
def blkR (s : St1) (r : List St1) (x : Int) : Sts :=
  if s.k = 2 then Sts.of ((if x ≠ 0 then s.body else s.els).list ++ r) else if x ≠ 0 then Sts.of (s.body.list ++ (s :: r)) else Sts.of r
section
variable {ok : Nat → Prop} {H : AH} {K : AV → AH → Prop} {w : Fk K} {c : List AV} {t : Tk} {s : St1} {r : List St1}
theorem K_sl15Block (h : TC ok H c t) (hr : t.rest.list = s :: r) (hk : s.k = 2 ∨ s.k = 3) (hcp : cpS t.rest = true) (hct : ctS t.rest ≤ 100000) (hoe : okE 5 s.e = true) (h4 : t.vars.length = 4) (hw : t.vars.all isW = true)
    (k : ∀ c' H', TC (fun b => H.n ≤ b) H' c' ⟨t.vars, blkR s r (evE t.vars s.e)⟩ → Ext H H' → K (.agg c') H') : CallF Cd f_sl15Block [.agg c] H K w := by
  obtain ⟨vv, vr, rfl, h1, h2⟩ := h
  rw [CallF_eq e_sl15Block rfl]
  obtain ⟨b, o, cap, cc, e1, ob, hbn, l1, s1⟩ := h2.head hr
  obtain ⟨va, vy, vz, rfl, ea, ey, ez⟩ := s1
  have hl : t.rest.list.length = r.length + 1 := by rw [hr]; rfl
  rw [hl] at e1
  subst e1
  have hmem : s ∈ t.rest.list := by rw [hr]; simp
  have hcm := ctS_mem hmem
  have hcps : cpT s = true := by rw [cpS_mem] at hcp; exact List.all_eq_true.1 hcp s hmem
  unfold cpT at hcps
  simp only [Bool.and_eq_true] at hcps
  obtain ⟨vt, t1, t2, t3⟩ := h2.tail hr
  have x0 : Ext H ((H.push [vv, .sl b o (r.length + 1) cap]).push [.nils, .nils]) := (Ext.push _ _).trans (Ext.push _ _)
  have x1 : Ext H ((((H.push [vv, .sl b o (r.length + 1) cap]).push [.nils, .nils]).push [.I s.k, .I s.v, .I s.b, .I s.e.op, .I s.e.n, va, vy, vz]).push []) := (x0.trans (Ext.push _ _)).trans (Ext.push _ _)
  have l2 := loadN_extE l1 x0 hbn
  obtain ⟨v', H1, B1, b1, x2, g1, f1, hB1⟩ := app_newG (l := t.vars) (H := (((H.push [vv, .sl b o (r.length + 1) cap]).push [.nils, .nils]).push [.I s.k, .I s.v, .I s.b, .I s.e.op, .I s.e.n, va, vy, vz]).push []) (push_new (cs := [])) (Nat.lt_succ_self _) (base := H.n + 2) (by simp) (by omega)
  have e2 := (h1.ext x1).src.elems
  have e3 := h1.sees.1
  have n1 := x2.1
  simp only [push_n] at n1 b1 hB1
  have q0 : H1.bk H.n = some ⟨[vv, .sl b o (r.length + 1) cap], true⟩ := (x2.2 H.n (by simp only [push_n]; omega)).trans (push_old (by simp only [push_n]; omega) (push_old (by simp only [push_n]; omega) (push_old (by simp) push_new)))
  have q1 : H1.bk (H.n + 1) = some ⟨[.nils, .nils], true⟩ := (x2.2 (H.n + 1) (by simp only [push_n]; omega)).trans (push_old (by simp only [push_n]; omega) (push_old (by simp) push_new))
  have q2 : H1.bk (H.n + 2) = some ⟨[.I s.k, .I s.v, .I s.b, .I s.e.op, .I s.e.n, va, vy, vz], true⟩ := (x2.2 (H.n + 2) (by simp)).trans (push_old (by simp) push_new)
  have x3 : Ext H (H1.push [v', .nils]) := (x1.trans x2).trans (Ext.push _ _)
  have q3 : (H1.push [v', .nils]).bk (H.n + 2) = _ := push_old (by omega) q2
  have q3' : (H1.push [v', .nils]).bk H.n = _ := push_old (by omega) q0
  have w3 : (H1.push [v', .nils]).loadN (H.n + 2) 3 3 = some [.I s.e.op, .I s.e.n, va] := by rw [loadN_bk q3]; rfl
  have stA : (H1.push [.nils, .nils]).store H1.n 0 [v', .nils] = some (H1.push [v', .nils]) := by
    rw [store_bk push_new (by simp), push_put]; rfl
  have hB0 : B1 < H1.n := by
    rcases g1.2.2 with q | q
    · rw [q.2] at h4; cases h4
    · exact q.2.1
  simp (disch := omega) [-AM.elems, load_push, l2, AH.store, push_put, push_put1, push_put2, e2, e3, b1, flat_cells f1, flat_tup f1]
  simp (disch := omega) [stA, w3, load_bk q3']
  refine K_sl4Eval s.e.args (d := 5) (ea.ext x3) (h1.ext x3).sees h4 hw hoe fun H3 x4 => ?_
  have q4 := (x4.2 (H.n + 2) (by simp; omega)).trans q3
  have q4' := (x4.2 H.n (by simp; omega)).trans q3'
  have q5 : H3.bk H1.n = some ⟨[v', .nils], true⟩ := (x4.2 H1.n (by simp)).trans push_new
  have q6 : H3.bk (H.n + 1) = some ⟨[.nils, .nils], true⟩ := (x4.2 (H.n + 1) (by simp; omega)).trans (push_old (by omega) q1)
  have x5 := x3.trans x4
  have n4 := x4.1
  simp only [push_n] at n4
  have ev : evE t.vars s.e = evE1 t.vars s.e.op s.e.n (evF t.vars s.e.args) := rfl
  rw [ev] at k
  generalize evE1 t.vars s.e.op s.e.n (evF t.vars s.e.args) = X at *
  have g4 := (g1.ext (Ext.push _ [v', .nils])).ext x4
  unfold blkR at k
  have ct := ct_tail hr
  have cp := cp_tail hr hcp
  rcases hk with hk | hk <;> by_cases hx : X = 0
  · -- kind 2, no
    have kk : s.k = 2 := hk
    simp [kk, hx, Sts.list_of] at k
    rw [kk] at q4
    simp (disch := omega) [x4, load_bk q4, load_bk q4', hx, t1]
    refine K_sl15Ahead (ez.ext x5) (t2.ext x5) hcps.2 cp (by omega) (by omega) fun W H5 sv x6 fw => ?_
    rw [Sts.list_of] at sv
    have q7 := (x6.2 H1.n (by omega)).trans q5
    have q8 := (x6.2 (H.n + 1) (by omega)).trans q6
    have n5 := x6.1
    have st7 : H5.store H1.n 1 [W] = some (H5.put H1.n (some ⟨[v', W], true⟩)) := store_bk q7 (by simp)
    have q9 : (H5.put H1.n (some ⟨[v', W], true⟩)).bk (H.n + 1) = _ := put_other (by omega) q8
    have st8 : (H5.put H1.n (some ⟨[v', W], true⟩)).store (H.n + 1) 0 [v', W] = some ((H5.put H1.n (some ⟨[v', W], true⟩)).put (H.n + 1) (some ⟨[v', W], true⟩)) := store_bk q9 (by simp)
    simp (disch := omega) [x6, flat_cells fw, flat_tup fw, st7, loadN_bk put_same, st8]
    have o6 : ∀ b, b ≠ H.n + 1 → b ≠ H1.n → ((H5.put H1.n (some ⟨[v', W], true⟩)).put (H.n + 1) (some ⟨[v', W], true⟩)).bk b = H5.bk b := fun b h1 h2 => by rw [put_bk, if_neg h1, put_bk, if_neg h2]
    have n6 : ((H5.put H1.n (some ⟨[v', W], true⟩)).put (H.n + 1) (some ⟨[v', W], true⟩)).n = H5.n := rfl
    generalize ((H5.put H1.n (some ⟨[v', W], true⟩)).put (H.n + 1) (some ⟨[v', W], true⟩)) = H6 at *
    refine k _ _ ⟨v', W, rfl, ?_, ?_⟩ ⟨by omega, fun b hb => ?_⟩
    · show SlC _ _ _ _ _ _
      exact (g4.ext x6).ivB (ok := fun b => H.n + 2 ≤ b ∧ b ≠ H1.n) (fun h _ => ⟨h, by omega⟩) |>.mono (H' := H6) (ok' := fun b => H.n ≤ b) (by omega) (fun b hb _ => o6 b (by omega) hb.2) (fun b hb _ => by omega)
    · exact sv.mono (H' := H6) (ok' := fun b => H.n ≤ b) (by omega) (fun b hb _ => o6 b (by omega) (by omega)) (fun b hb _ => by omega)
    · rw [o6 b (by omega) (by omega), x6.2 b (by omega), x5.2 b hb]
  · -- kind 2, yes
    have kk : s.k = 2 := hk
    simp [kk, hx, Sts.list_of] at k
    rw [kk] at q4
    simp (disch := omega) [x4, load_bk q4, load_bk q4', hx, t1]
    refine K_sl15Ahead (ey.ext x5) (t2.ext x5) hcps.1.2 cp (by omega) (by omega) fun W H5 sv x6 fw => ?_
    rw [Sts.list_of] at sv
    have q7 := (x6.2 H1.n (by omega)).trans q5
    have q8 := (x6.2 (H.n + 1) (by omega)).trans q6
    have n5 := x6.1
    have st7 : H5.store H1.n 1 [W] = some (H5.put H1.n (some ⟨[v', W], true⟩)) := store_bk q7 (by simp)
    have q9 : (H5.put H1.n (some ⟨[v', W], true⟩)).bk (H.n + 1) = _ := put_other (by omega) q8
    have st8 : (H5.put H1.n (some ⟨[v', W], true⟩)).store (H.n + 1) 0 [v', W] = some ((H5.put H1.n (some ⟨[v', W], true⟩)).put (H.n + 1) (some ⟨[v', W], true⟩)) := store_bk q9 (by simp)
    simp (disch := omega) [x6, flat_cells fw, flat_tup fw, st7, loadN_bk put_same, st8]
    have o6 : ∀ b, b ≠ H.n + 1 → b ≠ H1.n → ((H5.put H1.n (some ⟨[v', W], true⟩)).put (H.n + 1) (some ⟨[v', W], true⟩)).bk b = H5.bk b := fun b h1 h2 => by rw [put_bk, if_neg h1, put_bk, if_neg h2]
    have n6 : ((H5.put H1.n (some ⟨[v', W], true⟩)).put (H.n + 1) (some ⟨[v', W], true⟩)).n = H5.n := rfl
    generalize ((H5.put H1.n (some ⟨[v', W], true⟩)).put (H.n + 1) (some ⟨[v', W], true⟩)) = H6 at *
    refine k _ _ ⟨v', W, rfl, ?_, ?_⟩ ⟨by omega, fun b hb => ?_⟩
    · show SlC _ _ _ _ _ _
      exact (g4.ext x6).ivB (ok := fun b => H.n + 2 ≤ b ∧ b ≠ H1.n) (fun h _ => ⟨h, by omega⟩) |>.mono (H' := H6) (ok' := fun b => H.n ≤ b) (by omega) (fun b hb _ => o6 b (by omega) hb.2) (fun b hb _ => by omega)
    · exact sv.mono (H' := H6) (ok' := fun b => H.n ≤ b) (by omega) (fun b hb _ => o6 b (by omega) (by omega)) (fun b hb _ => by omega)
    · rw [o6 b (by omega) (by omega), x6.2 b (by omega), x5.2 b hb]
  · -- kind 3, no
    have kk : s.k = 3 := hk
    simp [kk, hx, Sts.list_of] at k
    rw [kk] at q4
    simp (disch := omega) [x4, load_bk q4, load_bk q4', hx, t1]
    refine K_sl11Copy (Sts.of r) (t2.ext x5) cp (by omega) fun W H5 cs B u1 u2 x6 => ?_
    have sv := u1.sv u2
    have fw := u1.flat
    have q7 := (x6.2 H1.n (by omega)).trans q5
    have q8 := (x6.2 (H.n + 1) (by omega)).trans q6
    have n5 := x6.1
    have st7 : H5.store H1.n 1 [W] = some (H5.put H1.n (some ⟨[v', W], true⟩)) := store_bk q7 (by simp)
    have q9 : (H5.put H1.n (some ⟨[v', W], true⟩)).bk (H.n + 1) = _ := put_other (by omega) q8
    have st8 : (H5.put H1.n (some ⟨[v', W], true⟩)).store (H.n + 1) 0 [v', W] = some ((H5.put H1.n (some ⟨[v', W], true⟩)).put (H.n + 1) (some ⟨[v', W], true⟩)) := store_bk q9 (by simp)
    simp (disch := omega) [x6, flat_cells fw, flat_tup fw, st7, loadN_bk put_same, st8]
    have o6 : ∀ b, b ≠ H.n + 1 → b ≠ H1.n → ((H5.put H1.n (some ⟨[v', W], true⟩)).put (H.n + 1) (some ⟨[v', W], true⟩)).bk b = H5.bk b := fun b h1 h2 => by rw [put_bk, if_neg h1, put_bk, if_neg h2]
    have n6 : ((H5.put H1.n (some ⟨[v', W], true⟩)).put (H.n + 1) (some ⟨[v', W], true⟩)).n = H5.n := rfl
    generalize ((H5.put H1.n (some ⟨[v', W], true⟩)).put (H.n + 1) (some ⟨[v', W], true⟩)) = H6 at *
    refine k _ _ ⟨v', W, rfl, ?_, ?_⟩ ⟨by omega, fun b hb => ?_⟩
    · show SlC _ _ _ _ _ _
      exact (g4.ext x6).ivB (ok := fun b => H.n + 2 ≤ b ∧ b ≠ H1.n) (fun h _ => ⟨h, by omega⟩) |>.mono (H' := H6) (ok' := fun b => H.n ≤ b) (by omega) (fun b hb _ => o6 b (by omega) hb.2) (fun b hb _ => by omega)
    · exact sv.mono (H' := H6) (ok' := fun b => H.n ≤ b) (by omega) (fun b hb _ => o6 b (by omega) (by omega)) (fun b hb _ => by omega)
    · rw [o6 b (by omega) (by omega), x6.2 b (by omega), x5.2 b hb]
  · -- kind 3, yes
    have kk : s.k = 3 := hk
    simp [kk, hx, Sts.list_of] at k
    rw [kk] at q4
    simp (disch := omega) [x4, load_bk q4, load_bk q4', hx, t1]
    refine K_sl15Ahead (ey.ext x5) (h2.ext x5) hcps.1.2 hcp (by omega) (by omega) fun W H5 sv x6 fw => ?_
    rw [hr] at sv
    have q7 := (x6.2 H1.n (by omega)).trans q5
    have q8 := (x6.2 (H.n + 1) (by omega)).trans q6
    have n5 := x6.1
    have st7 : H5.store H1.n 1 [W] = some (H5.put H1.n (some ⟨[v', W], true⟩)) := store_bk q7 (by simp)
    have q9 : (H5.put H1.n (some ⟨[v', W], true⟩)).bk (H.n + 1) = _ := put_other (by omega) q8
    have st8 : (H5.put H1.n (some ⟨[v', W], true⟩)).store (H.n + 1) 0 [v', W] = some ((H5.put H1.n (some ⟨[v', W], true⟩)).put (H.n + 1) (some ⟨[v', W], true⟩)) := store_bk q9 (by simp)
    simp (disch := omega) [x6, flat_cells fw, flat_tup fw, st7, loadN_bk put_same, st8]
    have o6 : ∀ b, b ≠ H.n + 1 → b ≠ H1.n → ((H5.put H1.n (some ⟨[v', W], true⟩)).put (H.n + 1) (some ⟨[v', W], true⟩)).bk b = H5.bk b := fun b h1 h2 => by rw [put_bk, if_neg h1, put_bk, if_neg h2]
    have n6 : ((H5.put H1.n (some ⟨[v', W], true⟩)).put (H.n + 1) (some ⟨[v', W], true⟩)).n = H5.n := rfl
    generalize ((H5.put H1.n (some ⟨[v', W], true⟩)).put (H.n + 1) (some ⟨[v', W], true⟩)) = H6 at *
    refine k _ _ ⟨v', W, rfl, ?_, ?_⟩ ⟨by omega, fun b hb => ?_⟩
    · show SlC _ _ _ _ _ _
      exact (g4.ext x6).ivB (ok := fun b => H.n + 2 ≤ b ∧ b ≠ H1.n) (fun h _ => ⟨h, by omega⟩) |>.mono (H' := H6) (ok' := fun b => H.n ≤ b) (by omega) (fun b hb _ => o6 b (by omega) hb.2) (fun b hb _ => by omega)
    · exact sv.mono (H' := H6) (ok' := fun b => H.n ≤ b) (by omega) (fun b hb _ => o6 b (by omega) (by omega)) (fun b hb _ => by omega)
    · rw [o6 b (by omega) (by omega), x6.2 b (by omega), x5.2 b hb]
end
end Go.Proofs.YtmecbehegmgbhaaGreat.AM
namespace Go.Proofs.YtmecbehegmgbhaaGreat.AM
set_option linter.unusedSimpArgs false
set_option linter.unusedVariables false
set_option maxRecDepth 100000
set_option maxHeartbeats 2000000
open Go
/-- What a send or a receive comes to. -/
def talkP (t : Tk) (bs : List Bx) (s : St1) (r : List St1) : Tk × List Bx × Int :=
  match bs[s.b.toNat]? with
  | none => (t, bs, 3)
  | some b =>
    if s.k = 4 then
      if b.items.length < b.room then (⟨t.vars, Sts.of r⟩, bs.set s.b.toNat ⟨b.room, b.items ++ [evE t.vars s.e]⟩, 1) else (t, bs, 3)
    else match b.items with
      | [] => (t, bs, 3)
      | y :: q => (⟨t.vars.set s.v.toNat y, Sts.of r⟩, bs.set s.b.toNat ⟨b.room, q⟩, 1)
theorem GrS.bv {base G v l cs B} (h : GrS base G v l.length 2 cs B) (k : LF 2 (BC (fun b => base ≤ b ∧ b ≠ B) G) l cs) : BV (fun b => base ≤ b) G v l :=
  ⟨cs, h.slc, k.imp fun _ _ h => h.mono (Nat.le_refl _) (fun _ _ _ => rfl) (fun _ h _ => h.1)⟩
theorem GrS.bv' {base base' G v l cs B} (h : GrS base G v l.length 2 cs B) (k : LF 2 (BC (fun b => base' ≤ b ∧ b ≠ B) G) l cs) (hb : base ≤ base' := by omega) : BV (fun b => base ≤ b) G v l :=
  ⟨cs, h.slc, k.imp fun _ _ h => h.mono (Nat.le_refl _) (fun _ _ _ => rfl) (fun _ h _ => by omega)⟩
section
variable {ok : Nat → Prop} {H : AH} {K : AV → AH → Prop} {w : Fk K} {c : List AV} {t : Tk} {s : St1} {r : List St1} {bs : List Bx} {vb : AV}
theorem K_sl15Talk (h : TC ok H c t) (hb : BV ok H vb bs) (hr : t.rest.list = s :: r) (hk : s.k = 4 ∨ s.k = 5) (hcp : cpS t.rest = true) (hct : ctS t.rest ≤ 100000) (hoe : s.k = 4 → okE 5 s.e = true) (h4 : t.vars.length = 4) (hw : t.vars.all isW = true)
    (hvb : vaBs bs = true) (hsb : 0 ≤ s.b ∧ s.b < bs.length) (hsv : 0 ≤ s.v ∧ s.v < 4)
    (k : ∀ c' v' H', TC (fun b => H.n ≤ b) H' c' (talkP t bs s r).1 → BV (fun b => H.n ≤ b) H' v' (talkP t bs s r).2.1 → Ext H H' → K (.tup [.agg c', v', .I (talkP t bs s r).2.2]) H') : CallF Cd f_sl15Talk [.agg c, vb] H K w := by
  have h' := h
  obtain ⟨vv, vr, rfl, h1, h2⟩ := h'
  rw [CallF_eq e_sl15Talk rfl]
  obtain ⟨b, o, cap, cc, e1, ob, hbn, l1, s1⟩ := h2.head hr
  obtain ⟨va, vy, vz, rfl, ea, ey, ez⟩ := s1
  have hl : t.rest.list.length = r.length + 1 := by rw [hr]; rfl
  rw [hl] at e1
  subst e1
  unfold vaBs at hvb
  simp only [Bool.and_eq_true, decide_eq_true_eq] at hvb
  have hit : ∀ x ∈ bs, x.items.length ≤ 1000000 := fun x hx => by
    have := List.all_eq_true.1 hvb.1 x hx
    unfold vaB at this
    simp at this
    omega
  have hi : s.b.toNat < bs.length := by omega
  obtain ⟨bx, hbx⟩ : ∃ x, bs[s.b.toNat]? = some x := ⟨_, List.getElem?_eq_getElem hi⟩
  have hvx : vaB bx = true := List.all_eq_true.1 hvb.1 bx (List.mem_of_getElem? hbx)
  obtain ⟨vt, t1, t2, t3⟩ := h2.tail hr
  obtain ⟨bb, bo, bcap, vi, e2, ob2, hbb, lb, iv⟩ := hb.at hbx
  subst e2
  have hb3 := hvb.2
  generalize hL : bs.length = L at *
  have x0 : Ext H ((H.push [vv, .sl b o (r.length + 1) cap]).push [.nils, .nils]) := (Ext.push _ _).trans (Ext.push _ _)
  have x1 : Ext H (((H.push [vv, .sl b o (r.length + 1) cap]).push [.nils, .nils]).push [.I s.k, .I s.v, .I s.b, .I s.e.op, .I s.e.n, va, vy, vz]) := x0.trans (Ext.push _ _)
  have l2 := loadN_extE l1 x0 hbn
  have ct := ct_tail hr
  have cp := cp_tail hr hcp
  simp (disch := omega) [load_push, l2, AH.store, push_put, push_put1, push_put2]
  refine K_sl15BoxesCopy bs hit (hb.ext x1) (by omega) fun vl H1 cs B g1 f1 x2 => ?_
  have n1 := x2.1
  simp only [push_n] at n1
  have q0 : H1.bk H.n = some ⟨[vv, .sl b o (r.length + 1) cap], true⟩ := (x2.2 H.n (by simp only [push_n]; omega)).trans (push_old (by simp only [push_n]; omega) (push_old (by simp) push_new))
  have q1 : H1.bk (H.n + 1) = some ⟨[.nils, .nils], true⟩ := (x2.2 (H.n + 1) (by simp only [push_n]; omega)).trans (push_old (by simp) push_new)
  have q2 : H1.bk (H.n + 2) = some ⟨[.I s.k, .I s.v, .I s.b, .I s.e.op, .I s.e.n, va, vy, vz], true⟩ := (x2.2 (H.n + 2) (by simp)).trans push_new
  have w3 : H1.loadN (H.n + 2) 3 3 = some [.I s.e.op, .I s.e.n, va] := by rw [loadN_bk q2]; rfl
  have x3 := x1.trans x2
  have lb1 := loadN_extE lb x3 hbb
  unfold talkP at k
  rw [hbx] at k
  simp only at k
  rcases hk with hk | hk
  · have hoe' := hoe hk
    simp only [hk, if_true] at k
    rw [hk] at q2
    simp (disch := omega) [load_bk q2, load_bk q0, lb1, w3]
    refine K_sl4Eval s.e.args (d := 5) (ea.ext x3) (h1.ext x3).sees h4 hw hoe' fun H3 x4 => ?_
    have ev : evE t.vars s.e = evE1 t.vars s.e.op s.e.n (evF t.vars s.e.args) := rfl
    have wx := evE_word hw s.e.args (d := 5) (op := s.e.op) (n := s.e.n) hoe'
    rw [ev] at k
    generalize evE1 t.vars s.e.op s.e.n (evF t.vars s.e.args) = X at *
    simp [x4]
    refine K_sBoxPut (b := bx) (ok := ok) ⟨vi, rfl, iv.ext (x3.trans x4)⟩ hvx wx (fun hlt c' H4 hc x5 => ?_) (fun hlt H4 x5 => ?_)
    · simp [hlt] at k
      obtain ⟨vi2, rfl, iv2⟩ := hc
      simp [x5, AH.store, push_put]
      have y5 := (x3.trans x4).trans (x5.trans (Ext.push H4 [.I bx.room, vi2]))
      have z5 := x4.trans (x5.trans (Ext.push H4 [.I bx.room, vi2]))
      have z0 := (z5.2 H.n (by omega)).trans q0
      have z1 := (z5.2 (H.n + 1) (by omega)).trans q1
      have z2 := (z5.2 (H.n + 2) (by omega)).trans q2
      have n5 := z5.1
      have n4 := x4.1
      have n45 := x5.1
      have g5 := g1.ext z5
      rw [hL] at g5
      obtain ⟨lcap, H6, rfl, s1, s2, s3, s4, s5⟩ := g5.store (i := s.b.toNat) (c := [.I bx.room, vi2]) (by omega) rfl
      simp only [push_n] at s4 n5
      have hB : B < H1.n := by
        rcases g1.2.2 with q | q
        · omega
        · exact q.2.1
      have z9 : (H4.push [.I bx.room, vi2]).loadN H4.n 0 2 = some [.I bx.room, vi2] := by rw [loadN_bk push_new]; rfl
      simp (disch := omega) [load_bk z2, z9, s1]
      have n6 := s3.1
      simp only [push_n] at n6
      have x6 : Ext H H6 := ⟨by omega, fun b hb => by rw [s3.2 b (by simp; omega) (by simp; omega), y5.2 b hb]⟩
      have z0' : H6.bk H.n = _ := (s3.2 H.n (by simp; omega) (by simp; omega)).trans z0
      have z1' : H6.bk (H.n + 1) = _ := (s3.2 (H.n + 1) (by simp; omega) (by simp; omega)).trans z1
      have x7 := x6.trans (Ext.push H6 [])
      obtain ⟨v', H7, B1, b1, x8, g8, f8, hB1⟩ := app_newG (l := t.vars) (H := H6.push []) (push_new (cs := [])) (Nat.lt_succ_self _) (base := H6.n) (Nat.le_refl _) (by omega)
      have e2 := (h1.ext x7).src.elems
      have e3 := h1.sees.1
      have n7 := x8.1
      simp only [push_n] at n7 b1 hB1
      have p0 : (H6.push []).bk H.n = _ := push_old (by omega) z0'
      have z0'' : H7.bk H.n = _ := (x8.2 H.n (by simp; omega)).trans p0
      have z1'' : H7.bk (H.n + 1) = _ := (x8.2 (H.n + 1) (by simp; omega)).trans (push_old (by omega) z1')
      simp (disch := omega) [-AM.elems, load_bk p0, e2, e3, b1, x8, load_bk z0'', t1]
      refine K_sl11Copy (Sts.of r) (t2.ext (x7.trans x8)) cp (by omega) fun vr' H8 cs8 B8 u1 u2 x9 => ?_
      have f9 := u1.flat
      have n8 := x9.1
      have z1a := (x9.2 (H.n + 1) (by omega)).trans z1''
      have st : H8.store (H.n + 1) 0 [v', vr'] = some (H8.put (H.n + 1) (some ⟨[v', vr'], true⟩)) := store_bk z1a (by simp)
      simp (disch := omega) [x9, flat_cells f8, flat_tup f8, flat_cells f9, flat_tup f9, st, loadN_bk put_same]
      have hk9 : ∀ b, H.n + 1 < b → (H8.put (H.n + 1) (some ⟨[v', vr'], true⟩)).bk b = H8.bk b := fun b hb => by rw [put_bk, if_neg (by omega)]
      refine k _ _ _ ⟨v', vr', rfl, ?_, ?_⟩ ?_ (((x7.trans x8).trans x9).put (by omega))
      · exact IV.mono (g8.ext x9).iv (by simp) (fun b hb _ => hk9 b (by omega)) (fun b hb _ => by omega)
      · exact (u1.sv u2).mono (by simp) (fun b hb _ => hk9 b (by omega)) (fun b hb _ => by omega)
      · have hlf := LF.set (f1.imp fun _ _ h => h.mono (H' := H6) (ok' := fun b => H.n + 3 ≤ b ∧ b ≠ B) (by omega) (fun b hb hb2 => by
            rw [s3.2 b (by simp; omega) (by simp; exact hb.2), z5.2 b hb2]) (fun b hb _ => hb)) (i := s.b.toNat) (a := (⟨bx.room, bx.items ++ [X]⟩ : Bx)) (c := [.I bx.room, vi2]) (by omega)
          (show BC (fun b => H.n + 3 ≤ b ∧ b ≠ B) H6 [.I bx.room, vi2] ⟨bx.room, bx.items ++ [X]⟩ from ⟨vi2, rfl, (IV.ext iv2 (Ext.push H4 [.I bx.room, vi2])).mono s3.1 (fun b hb hb2 => by have hb' : H3.n ≤ b := hb; exact s3.2 b hb2 (by simp; omega)) (fun b hb _ => by have hb' : H3.n ≤ b := hb; omega)⟩) rfl
        have s2' := s2
        have hls : (bs.set s.b.toNat (⟨bx.room, bx.items ++ [X]⟩ : Bx)).length = L := by simp [hL]
        rw [← hls] at s2'
        have := GrS.bv' s2' hlf (by simp)
        rw [hls] at this
        exact (((this.ext (Ext.push H6 [])).ext x8).ext x9).mono (by simp) (fun b hb _ => hk9 b (by simp at hb; omega)) (fun b hb _ => by simp at hb; omega)
    · simp [hlt] at k
      simp [x5, AH.store, push_put]
      have y5 := (x3.trans x4).trans (x5.trans (Ext.push H4 [.I 0, .nils]))
      have z5 := x4.trans (x5.trans (Ext.push H4 [.I 0, .nils]))
      have z0 := (z5.2 H.n (by omega)).trans q0
      have z1 := (z5.2 (H.n + 1) (by omega)).trans q1
      simp [loadN_bk z0]
      refine K_sl15Copy (h.ext y5) hcp hct (by omega) fun c1 H6 tc x6 => ?_
      have n6 := z5.1
      have n7 := x6.1
      obtain ⟨cv, cr, rfl, u1, u2⟩ := tc
      have st : H6.store (H.n + 1) 0 [cv, cr] = some (H6.put (H.n + 1) (some ⟨[cv, cr], true⟩)) := store_bk ((x6.2 (H.n + 1) (by omega)).trans z1) (by simp)
      simp [st, loadN_bk put_same]
      refine k _ _ _ ⟨cv, cr, rfl, u1.mono (by simp) (fun b hb _ => by rw [put_bk, if_neg (by omega)]) (fun b hb _ => by omega), u2.mono (by simp) (fun b hb _ => by rw [put_bk, if_neg (by omega)]) (fun b hb _ => by omega)⟩ ?_ ((y5.trans x6).put (by omega))
      have g2 := g1.bv' f1
      exact ((g2.ext z5).ext x6).mono (by simp) (fun b hb _ => by rw [put_bk, if_neg (by simp at hb; omega)]) (fun b hb _ => by simp at hb; omega)
  · have h54 : ¬ s.k = 4 := by omega
    simp only [hk, show ¬ (5 : Int) = 4 by omega, if_false] at k
    rw [hk] at q2
    simp (disch := omega) [load_bk q2, lb1]
    refine K_sBoxTake (b := bx) (ok := ok) ⟨vi, rfl, iv.ext x3⟩ hvx (fun y q hyq c' H4 hc x5 => ?_) (fun hnil H4 x5 => ?_)
    · rw [hyq] at k
      simp only at k
      obtain ⟨vi2, rfl, iv2⟩ := hc
      simp [AH.store, push_put]
      have z5 := x5.trans (Ext.push H4 [.I bx.room, vi2])
      have y5 := x3.trans z5
      have z0 := (z5.2 H.n (by omega)).trans q0
      have z1 := (z5.2 (H.n + 1) (by omega)).trans q1
      have z2 := (z5.2 (H.n + 2) (by omega)).trans q2
      have n5 := z5.1
      have n45 := x5.1
      have g5 := g1.ext z5
      rw [hL] at g5
      obtain ⟨lcap, H6, rfl, s1, s2, s3, s4, s5⟩ := g5.store (i := s.b.toNat) (c := [.I bx.room, vi2]) (by omega) rfl
      simp only [push_n] at s4 n5
      have hB : B < H1.n := by
        rcases g1.2.2 with q | q
        · omega
        · exact q.2.1
      have z9 : (H4.push [.I bx.room, vi2]).loadN H4.n 0 2 = some [.I bx.room, vi2] := by rw [loadN_bk push_new]; rfl
      have n6 := s3.1
      simp only [push_n] at n6
      have x6 : Ext H H6 := ⟨by omega, fun b hb => by rw [s3.2 b (by simp; omega) (by simp; omega), y5.2 b hb]⟩
      have z0' : H6.bk H.n = _ := (s3.2 H.n (by simp; omega) (by simp; omega)).trans z0
      have z1' : H6.bk (H.n + 1) = _ := (s3.2 (H.n + 1) (by simp; omega) (by simp; omega)).trans z1
      have z2' : H6.bk (H.n + 2) = _ := (s3.2 (H.n + 2) (by simp; omega) (by simp; omega)).trans z2
      simp (disch := omega) [load_bk z2, z9, s1, loadN_bk z0', load_bk z2']
      refine K_sl15Set (v := s.v) (x := y) (h.ext x6) hr hcp hct (by omega) (by omega) fun c1 H8 tc x9 => ?_
      have n8 := x9.1
      obtain ⟨cv, cr, rfl, u1, u2⟩ := tc
      have st : H8.store (H.n + 1) 0 [cv, cr] = some (H8.put (H.n + 1) (some ⟨[cv, cr], true⟩)) := store_bk ((x9.2 (H.n + 1) (by omega)).trans z1') (by simp)
      have hk9 : ∀ b, H.n + 1 < b → (H8.put (H.n + 1) (some ⟨[cv, cr], true⟩)).bk b = H8.bk b := fun b hb => by rw [put_bk, if_neg (by omega)]
      simp [st, loadN_bk put_same]
      refine k _ _ _ ⟨cv, cr, rfl, u1.mono (by simp) (fun b hb _ => hk9 b (by omega)) (fun b hb _ => by omega), u2.mono (by simp) (fun b hb _ => hk9 b (by omega)) (fun b hb _ => by omega)⟩ ?_ ((x6.trans x9).put (by omega))
      have hlf := LF.set (f1.imp fun _ _ h => h.mono (H' := H6) (ok' := fun b => H.n + 3 ≤ b ∧ b ≠ B) (by omega) (fun b hb hb2 => by
            rw [s3.2 b (by simp; omega) (by simp; exact hb.2), z5.2 b hb2]) (fun b hb _ => hb)) (i := s.b.toNat) (a := (⟨bx.room, q⟩ : Bx)) (c := [.I bx.room, vi2]) (by omega)
          (show BC (fun b => H.n + 3 ≤ b ∧ b ≠ B) H6 [.I bx.room, vi2] ⟨bx.room, q⟩ from ⟨vi2, rfl, (IV.ext iv2 (Ext.push H4 [.I bx.room, vi2])).mono s3.1 (fun b hb hb2 => by have hb' : H1.n ≤ b := hb; exact s3.2 b hb2 (by simp; omega)) (fun b hb _ => by have hb' : H1.n ≤ b := hb; omega)⟩) rfl
      have s2' := s2
      have hls : (bs.set s.b.toNat (⟨bx.room, q⟩ : Bx)).length = L := by simp [hL]
      rw [← hls] at s2'
      have := GrS.bv' s2' hlf (by simp)
      rw [hls] at this
      exact (this.ext x9).mono (by simp) (fun b hb _ => hk9 b (by simp at hb; omega)) (fun b hb _ => by simp at hb; omega)
    · rw [hnil] at k
      simp only at k
      simp [AH.store, push_put]
      have z5 := x5.trans (Ext.push H4 [.I 0, .nils])
      have y5 := x3.trans z5
      have z0 := (z5.2 H.n (by omega)).trans q0
      have z1 := (z5.2 (H.n + 1) (by omega)).trans q1
      simp [loadN_bk z0]
      refine K_sl15Copy (h.ext y5) hcp hct (by omega) fun c1 H6 tc x6 => ?_
      have n6 := z5.1
      have n7 := x6.1
      obtain ⟨cv, cr, rfl, u1, u2⟩ := tc
      have st : H6.store (H.n + 1) 0 [cv, cr] = some (H6.put (H.n + 1) (some ⟨[cv, cr], true⟩)) := store_bk ((x6.2 (H.n + 1) (by omega)).trans z1) (by simp)
      simp [st, loadN_bk put_same]
      refine k _ _ _ ⟨cv, cr, rfl, u1.mono (by simp) (fun b hb _ => by rw [put_bk, if_neg (by omega)]) (fun b hb _ => by omega), u2.mono (by simp) (fun b hb _ => by rw [put_bk, if_neg (by omega)]) (fun b hb _ => by omega)⟩ ?_ ((y5.trans x6).put (by omega))
      have g2 := g1.bv' f1
      exact ((g2.ext z5).ext x6).mono (by simp) (fun b hb _ => by rw [put_bk, if_neg (by simp at hb; omega)]) (fun b hb _ => by simp at hb; omega)
end
end Go.Proofs.YtmecbehegmgbhaaGreat.AM
namespace Go.Proofs.YtmecbehegmgbhaaGreat.AM
set_option linter.unusedSimpArgs false
set_option linter.unusedVariables false
set_option maxRecDepth 100000
set_option maxHeartbeats 2000000
open Go
/-- What a step of a task comes to. -/
def stepP (t : Tk) (bs : List Bx) : Tk × List Bx × List Int × Int :=
  match t.rest.list with
  | [] => (t, bs, [], 4)
  | s :: r =>
    if s.k = 4 ∨ s.k = 5 then ((talkP t bs s r).1, (talkP t bs s r).2.1, [], (talkP t bs s r).2.2)
    else if s.k = 2 ∨ s.k = 3 then (⟨t.vars, blkR s r (evE t.vars s.e)⟩, bs, [], 1)
    else if s.k = 1 then (⟨t.vars.set s.v.toNat (evE t.vars s.e), Sts.of r⟩, bs, [], 1)
    else if s.k = 6 then (⟨t.vars, Sts.of r⟩, bs, [], 2)
    else (⟨t.vars, Sts.of r⟩, bs, [evE t.vars s.e], 1)
def stOk (t : Tk) (bs : List Bx) : Bool := vaT 3 t && vaBs bs && rdT t bs.length
def stepF (t : Tk) (bs : List Bx) : Tk × List Bx × List Int × Int := if stOk t bs = true then stepP t bs else (⟨[], .nil⟩, [], [], 0)
theorem vaS_one {boxes : Int} {s : St1} (h : vaS boxes (Sts.of [s]) = true) : okT boxes 3 s = true ∧ ctT s ≤ 16 := by
  unfold vaS at h
  rw [okS_mem, Sts.list_of, ctS_of] at h
  simp at h
  exact h
theorem okT_facts {boxes nest : Int} {s : St1} (h : okT boxes nest s = true) : (1 ≤ s.k ∧ s.k ≤ 7) ∧ (s.k ≠ 5 → s.k ≠ 6 → okE 5 s.e = true) ∧ (s.k = 1 ∨ s.k = 5 → 0 ≤ s.v ∧ s.v < 4) ∧ (s.k = 4 ∨ s.k = 5 → 0 ≤ s.b ∧ s.b < boxes) ∧ (s.k = 4 → s.v = 0) := by
  unfold okT okS1 at h
  simp only [Bool.and_eq_true] at h
  have h := h.1
  unfold stV at h
  by_cases k1 : s.k = 1
  · simp [k1] at h ⊢; exact ⟨h.2, by omega⟩
  by_cases k2 : s.k = 2
  · simp [k2] at h ⊢; exact h.2
  by_cases k3 : s.k = 3
  · simp [k3] at h ⊢; exact h.2
  by_cases k4 : s.k = 4
  · simp [k4] at h ⊢; exact ⟨h.2, by omega⟩
  by_cases k5 : s.k = 5
  · simp [k5] at h ⊢; omega
  by_cases k6 : s.k = 6
  · simp [k6] at h ⊢
  by_cases k7 : s.k = 7
  · simp [k7] at h ⊢; exact h.2
  simp [k1, k2, k3, k4, k5, k6, k7] at h
theorem vaT_facts {boxes : Int} {t : Tk} (h : vaT boxes t = true) : t.vars.length = 4 ∧ t.vars.all isW = true ∧ (∀ s ∈ t.rest.list, okT boxes 3 s = true ∧ ctT s ≤ 16) ∧ cpS t.rest = true := by
  unfold vaT at h
  simp only [Bool.and_eq_true, decide_eq_true_eq] at h
  have h3 : ∀ s ∈ t.rest.list, okT boxes 3 s = true ∧ ctT s ≤ 16 := fun s hs => vaS_one (List.all_eq_true.1 h.2 s hs)
  refine ⟨h.1.1, h.1.2, h3, ?_⟩
  refine cp_of_okS (boxes := boxes) (nest := 3) ?_
  rw [okS_mem, List.all_eq_true]
  exact fun s hs => (h3 s hs).1
theorem IV.nilp {ok H v} (h : v = .nils ∨ v = .esl) : IV ok H v [] := ⟨by simp, rfl, .inl ⟨rfl, h⟩⟩
theorem IV.emp {ok : Nat → Prop} {H : AH} {b : Nat} (h : H.bk b = some ⟨[], true⟩) (hb : b < H.n) (ho : ok b) : IV ok H (.sl b 0 0 (.ex 0)) [] :=
  ⟨by simp, rfl, .inr ⟨b, 0, _, rfl, ⟨ho, Nat.le_refl _⟩, hb, by rw [loadN_bk h]; rfl⟩⟩
theorem BV.emp {ok : Nat → Prop} {H : AH} {b : Nat} (h : H.bk b = some ⟨[], true⟩) (hb : b < H.n) (ho : ok b) : BV ok H (.sl b 0 0 (.ex 0)) [] :=
  ⟨[], ⟨by simp, rfl, .inr ⟨b, 0, _, rfl, ⟨ho, Nat.le_refl _⟩, hb, by rw [loadN_bk h]; rfl⟩⟩, rfl⟩
section
variable {ok : Nat → Prop} {H : AH} {K : AV → AH → Prop} {w : Fk K} {c : List AV} {t : Tk} {s : St1} {r : List St1} {bs : List Bx} {vb : AV}
theorem K_sTaskStep (h : TC ok H c t) (hb : BV ok H vb bs) (hct : ctS t.rest ≤ 100000)
    (k : ∀ c' v' p' H', TC (fun b => H.n ≤ b) H' c' (stepF t bs).1 → BV (fun b => H.n ≤ b) H' v' (stepF t bs).2.1 → IV (fun b => H.n ≤ b) H' p' (stepF t bs).2.2.1 → Ext H H' → v'.flat = true → p'.flat = true → K (.tup [.agg c', v', p', .I (stepF t bs).2.2.2]) H') : CallF Cd f_sTaskStep [.agg c, vb] H K w := by
  have h' := h
  obtain ⟨vv, vr, rfl, h1, h2⟩ := h'
  rw [CallF_eq e_sTaskStep rfl]
  have x0 : Ext H ((H.push [vv, vr]).push [.nils, .nils]) := (Ext.push _ _).trans (Ext.push _ _)
  simp [loadN_push]
  refine K_sTaskValid (h.ext x0) hct fun H1 x1 => ?_
  have n1 := x1.1
  simp only [push_n] at n1
  have q0 : H1.bk H.n = some ⟨[vv, vr], true⟩ := (x1.2 _ (by simp; omega)).trans (push_old (by simp) push_new)
  have q1 : H1.bk (H.n + 1) = some ⟨[.nils, .nils], true⟩ := (x1.2 _ (by simp)).trans push_new
  have y1 := x0.trans x1
  have bad : ∀ H2, Ext H1 H2 → stOk t bs = false → K (.tup [.agg [.nils, .nils], .sl H2.n 0 0 (.ex 0), .sl (H2.n + 1) 0 0 (.ex 0), .I 0]) (((H2.push []).push []).put (H.n + 1) (some ⟨[.nils, .nils], true⟩)) := by
    intro H2 x2 hbad
    have n2 := x2.1
    have e : stepF t bs = (⟨[], .nil⟩, [], [], 0) := by unfold stepF; rw [hbad]; rfl
    have e1 : (((H2.push []).push []).put (H.n + 1) (some ⟨[.nils, .nils], true⟩)).bk H2.n = some ⟨[], true⟩ := by rw [put_bk, if_neg (by omega)]; exact push_old (by simp) push_new
    have e2 : (((H2.push []).push []).put (H.n + 1) (some ⟨[.nils, .nils], true⟩)).bk (H2.n + 1) = some ⟨[], true⟩ := by rw [put_bk, if_neg (by omega)]; exact push_new (H := H2.push [])
    have := k [.nils, .nils] (.sl H2.n 0 0 (.ex 0)) (.sl (H2.n + 1) 0 0 (.ex 0)) (((H2.push []).push []).put (H.n + 1) (some ⟨[.nils, .nils], true⟩))
    rw [e] at this
    exact this ⟨_, _, rfl, IV.nilp (.inl rfl), SV.nil (.inl rfl)⟩ (BV.emp e1 (by simp; omega) (by omega)) (IV.emp e2 (by simp) (by omega)) ((((y1.trans x2).trans (Ext.push _ _)).trans (Ext.push _ _)).put (by omega)) rfl rfl
  have stb : ∀ H2, Ext H1 H2 → ((H2.push []).push []).store (H.n + 1) 0 [.nils, .nils] = some (((H2.push []).push []).put (H.n + 1) (some ⟨[.nils, .nils], true⟩)) := fun H2 x2 =>
    store_bk (push_old (by have := x2.1; simp; omega) (push_old (by have := x2.1; omega) ((x2.2 _ (by omega)).trans q1))) (by simp)
  cases hv1 : vaT 3 t with
  | false =>
    simp [stb H1 (Ext.refl _), loadN_bk put_same]
    exact bad H1 (Ext.refl _) (by unfold stOk; rw [hv1]; rfl)
  | true =>
  simp
  refine K_sl15Boxes (hb.ext y1) fun H2 x2 => ?_
  cases hv2 : vaBs bs with
  | false =>
    simp [stb H2 x2, loadN_bk put_same]
    exact bad H2 x2 (by unfold stOk; rw [hv1, hv2]; rfl)
  | true =>
  have q2 := (x2.2 _ (by omega)).trans q0
  simp [loadN_bk q2]
  refine K_sl15Ready (h.ext (y1.trans x2)) hb.alen hb.big fun H3 x3 => ?_
  cases hv3 : rdT t bs.length with
  | false =>
    simp [stb H3 (x2.trans x3), loadN_bk put_same]
    exact bad H3 (x2.trans x3) (by unfold stOk; rw [hv1, hv2, hv3]; rfl)
  | true =>
  have hok : stepF t bs = stepP t bs := by unfold stepF stOk; rw [hv1, hv2, hv3]; rfl
  rw [hok] at k
  clear bad stb hok
  have y3 := (y1.trans x2).trans x3
  have n2 := x2.1
  have n3 := x3.1
  have p0 := (x3.2 _ (by omega)).trans q2
  have p1 := (x3.2 _ (by omega)).trans ((x2.2 _ (by omega)).trans q1)
  obtain ⟨f1, f2, f3, f4⟩ := vaT_facts hv1
  have hbb := hv2
  unfold vaBs at hbb
  simp only [Bool.and_eq_true, decide_eq_true_eq] at hbb
  have hit : ∀ x ∈ bs, x.items.length ≤ 1000000 := fun x hx => by
    have := List.all_eq_true.1 hbb.1 x hx
    unfold vaB at this
    simp at this
    omega
  have hbig := h2.big
  have halr := h2.alen
  clear x1 x2 x3 q0 q1 q2
  generalize hL : t.rest.list.length = L at *
  have fin : ∀ (G : AH) cv cr v' p', TC (fun b => H.n + 2 ≤ b) G [cv, cr] (stepP t bs).1 → BV (fun b => H.n + 2 ≤ b) G v' (stepP t bs).2.1 → IV (fun b => H.n + 2 ≤ b) G p' (stepP t bs).2.2.1 → Ext H G → v'.flat = true → p'.flat = true →
      K (.tup [.agg [cv, cr], v', p', .I (stepP t bs).2.2.2]) (G.put (H.n + 1) (some ⟨[cv, cr], true⟩)) := by
    intro G cv cr v' p' a1 a2 a3 a4 a5 a6
    have hk : ∀ b, H.n + 2 ≤ b → b < G.n → (G.put (H.n + 1) (some ⟨[cv, cr], true⟩)).bk b = G.bk b := fun b hb _ => by rw [put_bk, if_neg (by omega)]
    exact k _ _ _ _ (a1.mono (Nat.le_refl _) hk (fun b hb _ => by omega)) (a2.mono (Nat.le_refl _) hk (fun b hb _ => by omega)) (a3.mono (Nat.le_refl _) hk (fun b hb _ => by omega)) (a4.put (by omega)) a5 a6
  have stf : ∀ (G : AH) cv cr, Ext H3 G → G.store (H.n + 1) 0 [cv, cr] = some (G.put (H.n + 1) (some ⟨[cv, cr], true⟩)) := fun G cv cr x => store_bk ((x.2 _ (by omega)).trans p1) (by simp)
  clear k
  cases hr : t.rest.list with
  | nil =>
    rw [hr] at hL
    simp at hL
    subst hL
    have eP : stepP t bs = (t, bs, [], 4) := by unfold stepP; rw [hr]
    rw [eP] at fin
    simp [load_bk p0, halr, loadN_bk p0]
    refine K_sl15Copy (h.ext y3) f4 hct (by omega) fun c4 H4 tc x4 => ?_
    simp
    refine K_sl15BoxesCopy bs hit (hb.ext (y3.trans x4)) (by omega) fun v5 H5 cs B g1 g2 x5 => ?_
    obtain ⟨cv, cr, rfl, u1, u2⟩ := tc
    have n4 := x4.1
    have n5 := x5.1
    have fv := g1.flat
    simp [stf _ cv cr ((x4.trans x5).trans (Ext.push _ [])), loadN_bk put_same]
    exact fin (H5.push []) cv cr v5 _ ((show TC (fun b => H3.n ≤ b) H4 [cv, cr] t from ⟨cv, cr, rfl, u1, u2⟩).mono (by simp; omega) (fun b _ hb => ((x5.trans (Ext.push _ [])).2 b hb)) (fun b hb _ => by omega))
      ((g1.bv' g2).mono (by simp) (fun b _ hb => (Ext.push _ []).2 b hb) (fun b hb _ => by omega)) (IV.emp push_new (by simp) (by omega)) (((y3.trans x4).trans x5).trans (Ext.push _ [])) fv rfl
  | cons s r =>
    have hmem : s ∈ t.rest.list := by rw [hr]; simp
    obtain ⟨g0, g1, g2, g3, g4⟩ := okT_facts (f3 s hmem).1
    obtain ⟨b, o, cap, cc, e1, ob, hbn, l1, s1⟩ := h2.head hr
    rw [hL] at e1
    subst e1
    have hLr : L = r.length + 1 := by rw [← hL, hr]; rfl
    have l3 := loadN_extE l1 y3 hbn
    obtain ⟨va, vy, vz, rfl, ea, ey, ez⟩ := s1
    have hL0 : ¬ L = 0 := by omega
    have y4 := y3.trans (Ext.push H3 [.I s.k, .I s.v, .I s.b, .I s.e.op, .I s.e.n, va, vy, vz])
    have xs := Ext.push H3 [.I s.k, .I s.v, .I s.b, .I s.e.op, .I s.e.n, va, vy, vz]
    have q8 : (H3.push [.I s.k, .I s.v, .I s.b, .I s.e.op, .I s.e.n, va, vy, vz]).bk H3.n = some ⟨[.I s.k, .I s.v, .I s.b, .I s.e.op, .I s.e.n, va, vy, vz], true⟩ := push_new
    have p8 := (xs.2 H.n (by omega)).trans p0
    by_cases k45 : s.k = 4 ∨ s.k = 5
    · have eP : stepP t bs = ((talkP t bs s r).1, (talkP t bs s r).2.1, [], (talkP t bs s r).2.2) := by unfold stepP; rw [hr]; simp only [if_pos k45]
      rw [eP] at fin
      have hsb : s.b < bs.length := by
        unfold rdT at hv3; rw [hr] at hv3; simp at hv3; omega
      have hsv : 0 ≤ s.v ∧ s.v < 4 := by
        rcases k45 with q | q
        · have := g4 q; omega
        · exact g2 (.inr q)
      have T := fun (K : AV → AH → Prop) (w : Fk K) => K_sl15Talk (K := K) (w := w) (h.ext y4) (hb.ext y4) hr k45 f4 hct (fun q => g1 (by omega) (by omega)) f1 f2 hv2 ⟨(g3 k45).1, hsb⟩ hsv
      rcases k45 with kk | kk
      all_goals
        rw [kk] at q8 p8 xs
        simp (disch := omega) [load_bk p0, hL0, l3, AH.store, push_put, load_bk q8, kk, loadN_bk p8]
        rw [kk] at T
        refine T _ _ fun c5 v5 H5 tc bv x5 => ?_
        obtain ⟨cv, cr, rfl, u1, u2⟩ := tc
        have fv := bv.flat
        have z5 := (xs.trans x5).trans ((Ext.push H5 [cv, cr]).trans (Ext.push _ []))
        have z9 : ((H5.push [cv, cr])).loadN H5.n 0 2 = some [cv, cr] := by rw [loadN_bk push_new]; rfl
        simp [AH.store, push_put]
        simp [z9, stf _ cv cr z5, loadN_bk put_same]
        have n5 := x5.1
        simp only [push_n] at n5
        exact fin _ cv cr v5 _ ((show TC (fun b => H3.n + 1 ≤ b) H5 [cv, cr] _ from ⟨cv, cr, rfl, u1, u2⟩).mono (by simp; omega) (fun b _ hb => (((Ext.push H5 [cv, cr]).trans (Ext.push _ [])).2 b hb)) (fun b hb _ => by omega))
          (bv.mono (by simp; omega) (fun b _ hb => ((Ext.push H5 [cv, cr]).trans (Ext.push _ [])).2 b hb) (fun b hb _ => by simp at hb; omega)) (IV.emp push_new (by simp) (by simp; omega)) (y3.trans z5) fv rfl
    have k4 : ¬ s.k = 4 := fun q => k45 (.inl q)
    have k5 : ¬ s.k = 5 := fun q => k45 (.inr q)
    by_cases k23 : s.k = 2 ∨ s.k = 3
    · have eP : stepP t bs = (⟨t.vars, blkR s r (evE t.vars s.e)⟩, bs, [], 1) := by unfold stepP; rw [hr]; simp only [if_neg k45, if_pos k23]
      rw [eP] at fin
      have hoe := g1 k5 (by omega)
      rcases k23 with kk | kk
      all_goals
        have T := fun (K : AV → AH → Prop) (w : Fk K) => K_sl15Block (K := K) (w := w) (h.ext y4) hr (by omega) f4 hct hoe f1 f2
        rw [kk] at q8 p8 xs T
        simp (disch := omega) [load_bk p0, hL0, l3, AH.store, push_put, load_bk q8, kk, loadN_bk p8]
        refine T _ _ fun c5 H5 tc x5 => ?_
        simp
        refine K_sl15BoxesCopy bs hit (hb.ext ((y3.trans xs).trans x5)) (by omega) fun v5 H6 cs B g5 g6 x6 => ?_
        obtain ⟨cv, cr, rfl, u1, u2⟩ := tc
        have fv := g5.flat
        have n5 := x5.1
        have n6 := x6.1
        simp only [push_n] at n5
        have z5 := ((xs.trans x5).trans x6).trans (Ext.push _ [])
        have fin' := fin (H6.push []) cv cr v5 (.sl H6.n 0 0 (.ex 0)) ((show TC (fun b => H3.n + 1 ≤ b) H5 [cv, cr] _ from ⟨cv, cr, rfl, u1, u2⟩).mono (by simp; omega) (fun b _ hb => ((x6.trans (Ext.push _ [])).2 b hb)) (fun b hb _ => by omega))
          ((g5.bv' g6).mono (by simp) (fun b _ hb => (Ext.push _ []).2 b hb) (fun b hb _ => by omega)) (IV.emp push_new (by simp) (by omega)) (y3.trans z5) fv rfl
        simp [flat_cells fv, flat_tup fv, stf _ cv cr z5, loadN_bk put_same]
        exact fin'
    have k2 : ¬ s.k = 2 := fun q => k23 (.inl q)
    have k3 : ¬ s.k = 3 := fun q => k23 (.inr q)
    by_cases k1 : s.k = 1
    · have eP : stepP t bs = (⟨t.vars.set s.v.toNat (evE t.vars s.e), Sts.of r⟩, bs, [], 1) := by unfold stepP; rw [hr]; simp only [if_neg k45, if_neg k23, if_pos k1]
      rw [eP] at fin
      have hoe := g1 k5 (by omega)
      have hv := g2 (.inl k1)
      rw [k1] at q8 p8 xs
      have w8 : (H3.push [.I 1, .I s.v, .I s.b, .I s.e.op, .I s.e.n, va, vy, vz]).loadN H3.n 3 3 = some [.I s.e.op, .I s.e.n, va] := by rw [loadN_bk q8]; rfl
      simp (disch := omega) [load_bk p0, hL0, l3, AH.store, push_put, load_bk q8, k1, loadN_bk p8, load_bk p8, w8]
      refine K_sl4Eval s.e.args (d := 5) (ea.ext (y3.trans xs)) (h1.ext (y3.trans xs)).sees f1 f2 hoe fun H4 x4 => ?_
      have ev : evE t.vars s.e = evE1 t.vars s.e.op s.e.n (evF t.vars s.e.args) := rfl
      rw [ev] at fin
      generalize evE1 t.vars s.e.op s.e.n (evF t.vars s.e.args) = X at *
      simp [x4]
      refine K_sl15Set (v := s.v) (x := X) (h.ext ((y3.trans xs).trans x4)) hr f4 hct (by omega) (by omega) fun c5 H5 tc x5 => ?_
      simp [x5]
      have n4 := x4.1
      simp only [push_n] at n4
      refine K_sl15BoxesCopy bs hit (hb.ext (((y3.trans xs).trans x4).trans x5)) (by omega) fun v5 H6 cs B g5 g6 x6 => ?_
      obtain ⟨cv, cr, rfl, u1, u2⟩ := tc
      have fv := g5.flat
      have n5 := x5.1
      have n6 := x6.1
      have z5 := (((xs.trans x4).trans x5).trans x6).trans (Ext.push _ [])
      have fin' := fin (H6.push []) cv cr v5 (.sl H6.n 0 0 (.ex 0)) ((show TC (fun b => H4.n ≤ b) H5 [cv, cr] _ from ⟨cv, cr, rfl, u1, u2⟩).mono (by simp; omega) (fun b _ hb => ((x6.trans (Ext.push _ [])).2 b hb)) (fun b hb _ => by omega))
        ((g5.bv' g6).mono (by simp) (fun b _ hb => (Ext.push _ []).2 b hb) (fun b hb _ => by omega)) (IV.emp push_new (by simp) (by omega)) (y3.trans z5) fv rfl
      have hq : ¬ H6.n = H.n + 1 := by omega
      simp [x6, hq, flat_cells fv, flat_tup fv, stf _ cv cr z5, loadN_bk put_same]
      exact fin'
    have k67 : s.k = 6 ∨ s.k = 7 := by omega
    obtain ⟨vt, t1, t2, t3⟩ := h2.tail hr
    have ct := ct_tail hr
    have cp := cp_tail hr f4
    rcases k67 with kk | kk
    · have eP : stepP t bs = (⟨t.vars, Sts.of r⟩, bs, [], 2) := by unfold stepP; rw [hr]; simp only [if_neg k45, if_neg k23, if_neg k1, if_pos kk]
      rw [eP] at fin
      rw [kk] at q8 p8 xs
      have q9 : ((H3.push [.I 6, .I s.v, .I s.b, .I s.e.op, .I s.e.n, va, vy, vz]).push []).bk H.n = _ := push_old (by simp; omega) p8
      have x4 := (y3.trans xs).trans (Ext.push _ [])
      obtain ⟨v', H4, B1, b1, x5, g8, f8, hB1⟩ := app_newG (l := t.vars) (H := (H3.push [.I 6, .I s.v, .I s.b, .I s.e.op, .I s.e.n, va, vy, vz]).push []) (push_new (cs := [])) (Nat.lt_succ_self _) (base := H3.n) (by simp) (by omega)
      have e2 := (h1.ext x4).src.elems
      have e3 := h1.sees.1
      have n5 := x5.1
      simp only [push_n] at n5 b1 hB1
      have q10 := (x5.2 H.n (by simp; omega)).trans q9
      have q11 : H4.bk H3.n = some ⟨[.I 6, .I s.v, .I s.b, .I s.e.op, .I s.e.n, va, vy, vz], true⟩ := (x5.2 H3.n (by simp; omega)).trans (push_old (by simp) q8)
      simp (disch := omega) [-AM.elems, load_bk p0, hL0, l3, AH.store, push_put, load_bk q8, kk, load_bk q9, e2, e3, b1, x5, load_bk q10, t1]
      refine K_sl11Copy (Sts.of r) (t2.ext (x4.trans x5)) cp (by omega) fun vr' H5 cs5 B5 u1 u2 x6 => ?_
      have f9 := u1.flat
      have n6 := x6.1
      have stA : (H5.push [.nils, .nils]).store H5.n 0 [v', vr'] = some (H5.push [v', vr']) := by
        rw [store_bk push_new (by simp), push_put]; rfl
      have q12 : (H5.push [v', vr']).bk H3.n = _ := push_old (by omega) ((x6.2 H3.n (by omega)).trans q11)
      have z12 : (H5.push [v', vr']).loadN H5.n 0 2 = some [v', vr'] := by rw [loadN_bk push_new]; rfl
      simp (disch := omega) [x6, flat_cells f8, flat_tup f8, flat_cells f9, flat_tup f9, stA, load_bk q12, z12]
      refine K_sl15BoxesCopy bs hit (hb.ext (((x4.trans x5).trans x6).trans (Ext.push _ _))) (by omega) fun v5 H6 cs B g5 g6 x7 => ?_
      have fv := g5.flat
      have n7 := x7.1
      simp only [push_n] at n7
      have z5 : Ext H3 (H6.push []) := ((((((xs.trans (Ext.push _ [])).trans x5).trans x6).trans (Ext.push _ [v', vr'])).trans x7)).trans (Ext.push _ [])
      have e9 : Ext H5 (H6.push []) := ((Ext.push _ [v', vr']).trans x7).trans (Ext.push _ [])
      have fin' := fin (H6.push []) v' vr' v5 (.sl H6.n 0 0 (.ex 0)) ⟨v', vr', rfl, IV.mono (IV.ext (IV.ext g8.iv x6) e9) (Nat.le_refl _) (fun _ _ _ => rfl) (fun b hb _ => by omega), ((u1.sv u2).ext e9).mono (Nat.le_refl _) (fun _ _ _ => rfl) (fun b hb _ => by omega)⟩
        ((g5.bv' g6).mono (by simp) (fun b _ hb => (Ext.push _ []).2 b hb) (fun b hb _ => by simp at hb; omega)) (IV.emp push_new (by simp) (by omega)) (y3.trans z5) fv rfl
      have hq : ¬ H6.n = H.n + 1 := by omega
      simp [x7, hq, stf _ v' vr' z5, loadN_bk put_same]
      exact fin'
    · have eP : stepP t bs = (⟨t.vars, Sts.of r⟩, bs, [evE t.vars s.e], 1) := by unfold stepP; rw [hr]; simp only [if_neg k45, if_neg k23, if_neg k1, if_neg (show ¬ s.k = 6 by omega)]
      rw [eP] at fin
      rw [kk] at q8 p8 xs
      have q9 : ((H3.push [.I 7, .I s.v, .I s.b, .I s.e.op, .I s.e.n, va, vy, vz]).push []).bk H.n = _ := push_old (by simp; omega) p8
      have x4 := (y3.trans xs).trans (Ext.push _ [])
      obtain ⟨v', H4, B1, b1, x5, g8, f8, hB1⟩ := app_newG (l := t.vars) (H := (H3.push [.I 7, .I s.v, .I s.b, .I s.e.op, .I s.e.n, va, vy, vz]).push []) (push_new (cs := [])) (Nat.lt_succ_self _) (base := H3.n) (by simp) (by omega)
      have e2 := (h1.ext x4).src.elems
      have e3 := h1.sees.1
      have n5 := x5.1
      simp only [push_n] at n5 b1 hB1
      have q10 := (x5.2 H.n (by simp; omega)).trans q9
      have q11 : H4.bk H3.n = some ⟨[.I 7, .I s.v, .I s.b, .I s.e.op, .I s.e.n, va, vy, vz], true⟩ := (x5.2 H3.n (by simp; omega)).trans (push_old (by simp) q8)
      simp (disch := omega) [-AM.elems, load_bk p0, hL0, l3, AH.store, push_put, load_bk q8, kk, load_bk q9, e2, e3, b1, x5, load_bk q10, t1]
      refine K_sl11Copy (Sts.of r) (t2.ext (x4.trans x5)) cp (by omega) fun vr' H5 cs5 B5 u1 u2 x6 => ?_
      have f9 := u1.flat
      have n6 := x6.1
      have stA : (H5.push [.nils, .nils]).store H5.n 0 [v', vr'] = some (H5.push [v', vr']) := by
        rw [store_bk push_new (by simp), push_put]; rfl
      have q12 : (H5.push [v', vr']).bk H3.n = _ := push_old (by omega) ((x6.2 H3.n (by omega)).trans q11)
      have z12 : (H5.push [v', vr']).loadN H5.n 0 2 = some [v', vr'] := by rw [loadN_bk push_new]; rfl
      simp (disch := omega) [x6, flat_cells f8, flat_tup f8, flat_cells f9, flat_tup f9, stA, load_bk q12, z12]
      refine K_sl15BoxesCopy bs hit (hb.ext (((x4.trans x5).trans x6).trans (Ext.push _ _))) (by omega) fun v5 H6 cs B g5 g6 x7 => ?_
      have fv := g5.flat
      have n7 := x7.1
      simp only [push_n] at n7
      have hoe := g1 k5 (by omega)
      have q13 : H6.bk H3.n = _ := (x7.2 H3.n (by simp; omega)).trans q12
      have w13 : H6.loadN H3.n 3 3 = some [.I s.e.op, .I s.e.n, va] := by rw [loadN_bk q13]; rfl
      have y7 := ((((x4.trans x5).trans x6).trans (Ext.push _ [v', vr'])).trans x7)
      have q14 : H6.bk H.n = _ := (x7.2 H.n (by simp; omega)).trans (push_old (by omega) ((x6.2 H.n (by omega)).trans q10))
      simp [x7, w13, load_bk q14]
      refine K_sl4Eval s.e.args (d := 5) (ea.ext y7) (h1.ext y7).sees f1 f2 hoe fun H7 x8 => ?_
      have ev : evE t.vars s.e = evE1 t.vars s.e.op s.e.n (evF t.vars s.e.args) := rfl
      rw [ev] at fin
      generalize evE1 t.vars s.e.op s.e.n (evF t.vars s.e.args) = X at *
      have n8 := x8.1
      have z5 : Ext H3 (H7.push [.I X]) := (((((((xs.trans (Ext.push _ [])).trans x5).trans x6).trans (Ext.push _ [v', vr'])).trans x7)).trans x8).trans (Ext.push _ [.I X])
      have e9 : Ext H5 (H7.push [.I X]) := (((Ext.push _ [v', vr']).trans x7).trans x8).trans (Ext.push _ [.I X])
      have fin' := fin (H7.push [.I X]) v' vr' v5 (.sl H7.n 0 1 (.ex 1)) ⟨v', vr', rfl, IV.mono (IV.ext (IV.ext g8.iv x6) e9) (Nat.le_refl _) (fun _ _ _ => rfl) (fun b hb _ => by omega), ((u1.sv u2).ext e9).mono (Nat.le_refl _) (fun _ _ _ => rfl) (fun b hb _ => by omega)⟩
        ((g5.bv' g6).mono (by simp; omega) (fun b _ hb => (x8.trans (Ext.push _ [.I X])).2 b hb) (fun b hb _ => by simp at hb; omega))
        ((GrS.new (base := H.n + 2) (G := H7) (n := 1) (sz := 1) (cs := [.I X]) (by omega) (by omega) rfl).slc) (y3.trans z5) fv rfl
      have hq : ¬ H7.n = H.n + 1 := by omega
      simp [x8, hq, stf _ v' vr' z5, loadN_bk put_same]
      exact fin'
end
end Go.Proofs.YtmecbehegmgbhaaGreat.AM
namespace Go.Proofs.YtmecbehegmgbhaaGreat.AM
set_option linter.unusedSimpArgs false
set_option linter.unusedVariables false
set_option maxRecDepth 100000
set_option maxHeartbeats 2000000
open Go
section
variable {H : AH} {K : AV → AH → Prop} {w : Fk K}
theorem T_wsameInts_l {a b : AV} {l : List Int} (ha : SeesZ H a l) (hb : SeesZ H b l) {Q : Out → Env → AH → Prop}
    (h1 : ∀ e, Q (.brk 0) e H) (m i : Nat) (hm : i + m = l.length) : W Cd (.loop c_wsameInts_l0) [(0, a), (1, b), (5, .I i)] H Q := by
  have hbig := ha.2.1
  induction m generalizing i with
  | zero =>
    rw [W_loop_as c_wsameInts_l0.eq_1]
    have : ¬ (i : Int) < l.length := by omega
    simp [this, h1, ha.1]
  | succ m ih =>
    rw [W_loop_as c_wsameInts_l0.eq_1]
    have hi : i < l.length := by omega
    obtain ⟨b1, o1, s1, _, l1⟩ := ha.at hi
    obtain ⟨b2, o2, s2, _, l2⟩ := hb.at hi
    have hlt : (i : Int) < l.length := by omega
    have hr := ih (i + 1) (by omega)
    simp (disch := omega) [hlt, ha.1, s1, s2, l1, l2]
    simpa using hr
theorem T_wsameInts {a b : AV} {l : List Int} (ha : SeesZ H a l) (hb : SeesZ H b l) (k : K (.b true) H) : CallF Cd f_wsameInts [a, b] H K w := by
  rw [CallF_eq e_wsameInts rfl]
  simp [ha.1, hb.1]
  have := T_wsameInts_l ha hb (Q := ?_) ?_ l.length 0 (by omega)
  · simpa using this
  · intros; simpa using k
end
section
variable {H : AH} {K : AV → AH → Prop} {w : Fk K} {o1 o2 : Nat → Prop}
end
end Go.Proofs.YtmecbehegmgbhaaGreat.AM
namespace Go.Proofs.YtmecbehegmgbhaaGreat.AM
set_option linter.unusedSimpArgs false
set_option linter.unusedVariables false
set_option maxRecDepth 100000
set_option maxHeartbeats 2000000
open Go
theorem Ext.st {r : Nat} {H H' : AH} (h : Ext H H') : St r H H' := ⟨h.1, fun b hb _ => h.2 b hb⟩
theorem Rdx.ext {H H' : AH} {r : Nat} {m : Int} (h : Rdx H r m) (k : Ext H H') : Rdx H' r m := h.same k.1 fun b hb => k.2 b (by have := h.lt; omega)
theorem DE.st {base r : Nat} {H H' : AH} {v a} (h : DE base H v a) (k : St r H H') (hr : r < base) : DE base H' v a := h.mono k.1 (fun b hb hb2 => k.2 b hb2 (by omega)) (Nat.le_refl _)
theorem EV.st {base r : Nat} {H H' : AH} {v a} (h : EV (fun b => base ≤ b) H v a) (k : St r H H') (hr : r < base) : EV (fun b => base ≤ b) H' v a := h.mono k.1 (fun b hb hb2 => k.2 b hb2 (by omega)) (fun _ h _ => h)
theorem St.put_new {r b : Nat} {H H' : AH} {o : Option Blk} (h : St r H H') (hb : H.n ≤ b) : St r H (H'.put b o) := ⟨h.1, fun x hx hr => by rw [put_bk, if_neg (by omega)]; exact h.2 x hx hr⟩
section
variable {H : AH} {K : AV → AH → Prop} {r : Nat} {w : Fk K} {m : Int}
theorem K_sl91Op (h : Rdx H r m) (hm : m ≤ 1000000000000) (k : ∀ x H', 1 ≤ x ∧ x ≤ 12 → Rdx H' r (m + 1) → St r H H' → K (.I x) H') : CallF Cd f_sl91Op [.ptr r 0] H K w := by
  rw [CallF_eq e_sl91Op rfl]
  simp
  refine P_pick h (by omega) (by omega) fun x0 H0 hx0 hR0 hS0 => ?_
  simp (disch := omega)
  exact k _ _ (by omega) hR0 hS0
theorem K_sl91Leaf (h : Rdx H r m) (hm : m ≤ 1000000000000) (k : ∀ op n v H', DE H.n H' v .nil → Rdx H' r (m + 2) → St r H H' → K (.agg [.I op, .I n, v]) H') : CallF Cd f_sl91Leaf [.ptr r 0] H K w := by
  rw [CallF_eq e_sl91Leaf rfl]
  have hr := h.lt
  simp
  refine P_pick h.push (by omega) (by omega) fun x0 H0 hx0 hR0 hS0 => ?_
  have g0 : H0.bk H.n = some ⟨[.I 0, .I 0, .nils], true⟩ := hS0.at (by simp) (by omega) push_new
  have S0 : St r H H0 := (St.push St.refl).trans hS0
  have n0 := hS0.1
  simp only [push_n] at n0
  have fin : ∀ (op n : Int) (v : AV) (H1 H2 : AH), St r H0 H1 → Rdx H1 r (m + 2) → DE H1.n H2 v .nil → Ext H1 H2 → ∃ H3, H2.store H.n 0 [.I op, .I n, v] = some H3 ∧ H3.loadN H.n 0 3 = some [.I op, .I n, v] ∧ K (.agg [.I op, .I n, v]) H3 := by
    intro op n v H1 H2 hS hR d x
    have n1 := hS.1
    have g1 : H2.bk H.n = _ := (x.2 H.n (by omega)).trans (hS.at (by omega) (by omega) g0)
    refine ⟨_, store_bk g1 (by simp), by rw [loadN_bk put_same]; rfl, ?_⟩
    refine k op n v _ (d.mono (Nat.le_refl _) (fun b hb _ => by rw [put_bk, if_neg (by omega)]) (by omega)) ((hR.ext x).put (by omega)) (((S0.trans hS).trans x.st).put_new (Nat.le_refl _))
  simp
  refine cnd_mk (fun _ => ?_) (fun _ => ?_)
  · simp
    refine P_pick hR0 (by omega) (by omega) fun x1 H1 hx1 hR1 hS1 => ?_
    simp
    refine K_sl4Leaf fun v H2 d x => ?_
    obtain ⟨H3, e1, e2, e3⟩ := fin 0 x1 v H1 H2 hS1 (hR1.up (by omega)) d x
    simp [e1, e2]
    exact e3
  simp
  refine cnd_mk (fun _ => ?_) (fun _ => ?_)
  · simp
    refine P_pick hR0.push (by omega) (by omega) fun x1 H1 hx1 hR1 hS1 => ?_
    obtain ⟨y, hy, e⟩ := @Ints_get [5, 31, 32, 100, 2047, 2048, 65536, 99999] x1 8 (by omega) rfl
    have eb : H1.bk H0.n = some ⟨Ints [5, 31, 32, 100, 2047, 2048, 65536, 99999], true⟩ := hS1.at (Nat.lt_succ_self _) (Nat.ne_of_gt hR0.lt) (by simp; rfl)
    simp (disch := omega) [load_eq, eb, e]
    refine K_sl4Leaf fun v H2 d x => ?_
    obtain ⟨H3, e1, e2, e3⟩ := fin 0 y v H1 H2 ((St.push St.refl).trans hS1) (hR1.up (by omega)) d x
    simp [e1, e2]
    exact e3
  simp
  refine P_pick hR0 (by omega) (by omega) fun x1 H1 hx1 hR1 hS1 => ?_
  simp
  refine K_sl4Leaf fun v H2 d x => ?_
  obtain ⟨H3, e1, e2, e3⟩ := fin 13 x1 v H1 H2 hS1 (hR1.up (by omega)) d x
  simp [e1, e2]
  exact e3
end
/-- How many numbers an expression takes at most. -/
def cE : Nat → Int
  | 0 => 2
  | d + 1 => 2 + 2 * cE d
theorem cE_pos : ∀ d, 2 ≤ cE d
  | 0 => by simp [cE]
  | d + 1 => by have := cE_pos d; simp [cE]; omega
theorem K_sl91Expr (d : Nat) (hd : d ≤ 60) : ∀ {H : AH} {K : AV → AH → Prop} {r : Nat} {w : Fk K} {m : Int}, Rdx H r m → m + cE d ≤ 1000000000000 →
    (∀ (e : Ex) v H', DE H.n H' v e.args → Rdx H' r (m + cE d) → St r H H' → K (.agg [.I e.op, .I e.n, v]) H') → CallF Cd f_sl91Expr [.ptr r 0, .I d] H K w := by
  induction d with
  | zero =>
    intro H K r w m h hm k
    rw [CallF_eq e_sl91Expr rfl]
    have hr := h.lt
    simp [cE] at k hm
    simp
    refine K_sl91Leaf h.push (by omega) fun op n v H1 d1 hR hS => ?_
    have g0 : H1.bk H.n = some ⟨[.I 0, .I 0, .nils], true⟩ := hS.at (by simp) (by omega) push_new
    have st := store_bk (o := 0) (vs := [.I op, .I n, v]) g0 (by simp)
    simp [st, loadN_bk put_same]
    exact k ⟨op, n, .nil⟩ v _ (d1.mono (Nat.le_refl _) (fun b hb _ => by rw [put_bk, if_neg (by simp at hb; omega)]) (by simp)) (hR.put hr) (((St.push St.refl).trans hS).put_new (Nat.le_refl _))
  | succ d ih =>
    intro H K r w m h hm k
    rw [CallF_eq e_sl91Expr rfl]
    have hr := h.lt
    have hc := cE_pos d
    simp only [cE] at k hm
    generalize cE d = C at *
    have leaf : ∀ (H0 : AH), Rdx H0 r (m + 1) → St r (H.push [.I 0, .I 0, .nils]) H0 → ∀ (op n : Int) v H1, DE H0.n H1 v .nil → Rdx H1 r (m + 1 + 2) → St r H0 H1 → ∃ H3, H1.store H.n 0 [.I op, .I n, v] = some H3 ∧ H3.loadN H.n 0 3 = some [.I op, .I n, v] ∧ K (.agg [.I op, .I n, v]) H3 := by
      intro H0 _ hS0 op n v H1 d1 hR hS
      have n0 := hS0.1
      simp only [push_n] at n0
      have g0 : H1.bk H.n = some ⟨[.I 0, .I 0, .nils], true⟩ := hS.at (by omega) (by omega) (hS0.at (by simp) (by omega) push_new)
      exact ⟨_, store_bk g0 (by simp), by rw [loadN_bk put_same]; rfl, k ⟨op, n, .nil⟩ v _ (d1.mono (Nat.le_refl _) (fun b hb _ => by rw [put_bk, if_neg (by omega)]) (by omega)) ((hR.put hr).up (by omega)) ((((St.push St.refl).trans hS0).trans hS).put_new (Nat.le_refl _))⟩
    by_cases h2 : d = 0
    · subst h2
      simp
      refine K_sl91Leaf (m := m + 1) (h.push.up (by omega)) (by omega) fun op n v H1 d1 hR hS => ?_
      obtain ⟨H3, e1, e2, e3⟩ := leaf _ (h.push.up (by omega)) St.refl op n v H1 d1 hR hS
      simp [e1, e2]
      exact e3
    have hlt : ¬ ((d : Int) + 1 < 2) := by omega
    simp (disch := omega) [hlt]
    refine P_pick h.push (by omega) (by omega) fun x0 H0 hx0 hR0 hS0 => ?_
    have n0 := hS0.1
    simp only [push_n] at n0
    simp
    refine cnd_mk (fun _ => ?_) (fun _ => ?_)
    · simp
      refine K_sl91Leaf hR0 (by omega) fun op n v H1 d1 hR hS => ?_
      obtain ⟨H3, e1, e2, e3⟩ := leaf _ hR0 hS0 op n v H1 d1 hR hS
      simp [e1, e2]
      exact e3
    simp
    refine K_sl91Op hR0 (by omega) fun op H1 hop hR1 hS1 => ?_
    simp (disch := omega)
    refine ih (by omega) hR1 (by omega) fun ea va H2 d2 hR2 hS2 => ?_
    have n1 := hS1.1
    have n2 := hS2.1
    simp (disch := omega) [AH.store, push_put, loadN_push]
    refine ih (by omega) hR2.push (by omega) fun eb vb H3 d3 hR3 hS3 => ?_
    have n3 := hS3.1
    simp only [push_n] at n3
    have q3 : H3.bk H2.n = some ⟨[.I ea.op, .I ea.n, va], true⟩ := hS3.at (by simp) (by have := hR2.lt; omega) push_new
    have d2' : DE H1.n H3 va ea.args := (d2.ext (Ext.push _ _)).st hS3 (by have := hR1.lt; omega)
    simp [q3]
    refine K_sl4Both (base := H.n + 1) (x := ea) (y := eb) (d2'.ev.up (by omega)) (d3.ev.up (by simp; omega)) (by omega) fun v4 H4 d4 x4 => ?_
    have g0 : H4.bk H.n = some ⟨[.I 0, .I 0, .nils], true⟩ := (x4.2 _ (by omega)).trans (hS3.at (by simp; omega) (by omega) (push_old (by omega) (hS2.at (by omega) (by omega) (hS1.at (by omega) (by omega) (hS0.at (by simp) (by omega) push_new)))))
    have st := store_bk (o := 0) (vs := [.I op, .I 0, v4]) g0 (by simp)
    simp [x4, st, loadN_bk put_same]
    exact k ⟨op, 0, _⟩ v4 _ (d4.mono (Nat.le_refl _) (fun b hb _ => by rw [put_bk, if_neg (by omega)]) (by omega)) (((hR3.ext x4).put hr).up (by omega)) (((((((St.push St.refl).trans hS0).trans hS1).trans hS2).trans ((St.push St.refl).trans hS3)).trans x4.st).put_new (Nat.le_refl _))
end Go.Proofs.YtmecbehegmgbhaaGreat.AM
namespace Go.Proofs.YtmecbehegmgbhaaGreat.AM
set_option linter.unusedSimpArgs false
set_option linter.unusedVariables false
set_option maxRecDepth 100000
set_option maxHeartbeats 2000000
open Go
theorem S1.st {base r : Nat} {H H' : AH} {v a} (h : S1 (fun b => base ≤ b) H v a) (k : St r H H') (hr : r < base) : S1 (fun b => base ≤ b) H' v a := h.mono k.1 (fun b hb hb2 => k.2 b hb2 (by omega)) (fun _ h _ => h)
theorem S1.up {base base' : Nat} {H : AH} {v a} (h : S1 (fun b => base ≤ b) H v a) (hb : base' ≤ base) : S1 (fun b => base' ≤ b) H v a := h.mono (Nat.le_refl _) (fun _ _ _ => rfl) (fun b h _ => by omega)
theorem SV.st {base r : Nat} {H H' : AH} {v a} (h : SV (fun b => base ≤ b) H v a) (k : St r H H') (hr : r < base) : SV (fun b => base ≤ b) H' v a := h.mono k.1 (fun b hb hb2 => k.2 b hb2 (by omega)) (fun _ h _ => h)
theorem SV.up {base base' : Nat} {H : AH} {v a} (h : SV (fun b => base ≤ b) H v a) (hb : base' ≤ base) : SV (fun b => base' ≤ b) H v a := h.mono (Nat.le_refl _) (fun _ _ _ => rfl) (fun b h _ => by omega)
theorem S1.put {base b : Nat} {H : AH} {v a o} (h : S1 (fun b => base ≤ b) H v a) (hb : b < base) : S1 (fun b => base ≤ b) (H.put b o) v a := h.mono (Nat.le_refl _) (fun x hx _ => by rw [put_bk, if_neg (by omega)]) (fun _ h _ => h)
/-- A statement without blocks. -/
abbrev leafT (k v b : Int) (e : Ex) : St1 := ⟨k, v, b, e, .nil, .nil⟩
theorem leafT_ct {k v b : Int} {e : Ex} : ctT (leafT k v b e) = 1 := rfl
theorem leafT_S1 {ok : Nat → Prop} {H : AH} {k v b : Int} {e : Ex} {va : AV} (h : EV ok H va e.args) : S1 ok H [.I k, .I v, .I b, .I e.op, .I e.n, va, .nils, .nils] (leafT k v b e) := ⟨va, .nils, .nils, rfl, h, SV.nil (.inl rfl), SV.nil (.inl rfl)⟩
section
variable {H : AH} {K : AV → AH → Prop} {r : Nat} {w : Fk K} {m : Int}
theorem cE3 : cE 3 = 30 := rfl
theorem cE_le {d : Nat} (h : d ≤ 3) : cE d ≤ 30 := by
  have : d = 0 ∨ d = 1 ∨ d = 2 ∨ d = 3 := by omega
  rcases this with rfl | rfl | rfl | rfl <;> simp [cE]
/-- An expression of a small depth. -/
theorem K_sl91Expr3 {x : Int} (hx : 0 ≤ x ∧ x ≤ 3) (h : Rdx H r m) (hm : m ≤ 900000000000)
    (k : ∀ (e : Ex) v H', DE H.n H' v e.args → Rdx H' r (m + 30) → St r H H' → K (.agg [.I e.op, .I e.n, v]) H') : CallF Cd f_sl91Expr [.ptr r 0, .I x] H K w := by
  obtain ⟨d, rfl⟩ : ∃ d : Nat, x = d := ⟨x.toNat, by omega⟩
  have := cE_le (d := d) (by omega)
  exact K_sl91Expr d (by omega) h (by omega) fun e v H' a b c => k e v H' a (b.up (by omega)) c
/-- A statement is laid into its cells. -/
theorem cells_in {base b : Nat} {G : AH} {c0 c : List AV} {s : St1} (hb : b < base) (g : G.bk b = some ⟨c0, true⟩) (hl : c0.length = 8) (h : S1 (fun x => base ≤ x) G c s) :
    ∃ G', G.store b 0 c = some G' ∧ G'.loadN b 0 8 = some c ∧ S1 (fun x => base ≤ x) G' c s ∧ G' = G.put b (some ⟨c, true⟩) := by
  have h8 := h.len
  have e : splice c0 0 c = c := by unfold splice; simp; omega
  have st := store_bk (o := 0) (vs := c) g (by omega)
  rw [e] at st
  exact ⟨_, st, by rw [loadN_bk put_same]; exact seg_self h8, h.put hb, rfl⟩
theorem K_sl92Set (h : Rdx H r m) (hm : m ≤ 800000000000) (k : ∀ c s H', S1 (fun b => H.n ≤ b) H' c s → ctT s = 1 → Rdx H' r (m + 40) → St r H H' → K (.agg c) H') : CallF Cd f_sl92Set [.ptr r 0] H K w := by
  rw [CallF_eq e_sl92Set rfl]
  have hr := h.lt
  simp
  refine P_pick h.push (by omega) (by omega) fun x0 H0 hx0 hR0 hS0 => ?_
  simp
  refine P_pick hR0 (by omega) (by omega) fun x1 H1 hx1 hR1 hS1 => ?_
  simp (disch := omega)
  refine K_sl91Expr3 (by omega) hR1 (by omega) fun e va H2 d2 hR2 hS2 => ?_
  have S2 := (hS0.trans hS1).trans hS2
  have n0 := hS0.1
  have n1 := hS1.1
  simp only [push_n] at n0
  have g0 : H2.bk H.n = some ⟨[.I 0, .I 0, .I 0, .I 0, .I 0, .nils, .nils, .nils], true⟩ := S2.at (by simp) (by omega) push_new
  obtain ⟨G', e1, e2, e3, e4⟩ := cells_in (base := H.n + 1) (by omega) g0 rfl ((leafT_S1 (k := 1) (v := x0) (b := 0) d2.ev).up (by omega))
  simp [e1, e2]
  subst e4
  exact k _ _ _ (e3.up (by omega)) leafT_ct ((hR2.put hr).up (by omega)) (((St.push St.refl).trans S2).put_new (Nat.le_refl _))
theorem K_sl92Talk {boxes : Int} (hbx : 0 ≤ boxes ∧ boxes ≤ 1000) (h : Rdx H r m) (hm : m ≤ 800000000000) (k : ∀ c s H', S1 (fun b => H.n ≤ b) H' c s → ctT s = 1 → Rdx H' r (m + 50) → St r H H' → K (.agg c) H') : CallF Cd f_sl92Talk [.ptr r 0, .I boxes] H K w := by
  rw [CallF_eq e_sl92Talk rfl]
  have hr := h.lt
  have fin : ∀ (H2 : AH) (c : List AV) (s : St1), St r (H.push [.I 0, .I 0, .I 0, .I 0, .I 0, .nils, .nils, .nils]) H2 → Rdx H2 r (m + 50) → S1 (fun b => H.n + 1 ≤ b) H2 c s → ctT s = 1 → ∃ G', H2.store H.n 0 c = some G' ∧ G'.loadN H.n 0 8 = some c ∧ K (.agg c) G' := by
    intro H2 c s S2 hR2 h1 hc
    have g0 : H2.bk H.n = some ⟨[.I 0, .I 0, .I 0, .I 0, .I 0, .nils, .nils, .nils], true⟩ := S2.at (by simp) (by omega) push_new
    obtain ⟨G', e1, e2, e3, e4⟩ := cells_in (base := H.n + 1) (by omega) g0 rfl h1
    refine ⟨G', e1, e2, ?_⟩
    subst e4
    exact k _ _ _ (e3.up (by omega)) hc (hR2.put hr) (((St.push St.refl).trans S2).put_new (Nat.le_refl _))
  by_cases hb : boxes < 1
  · simp [hb]
    refine K_sl92Set h.push (by omega) fun c s H2 h1 hc hR2 hS2 => ?_
    obtain ⟨G', e1, e2, e3⟩ := fin H2 c s hS2 (hR2.up (by omega)) h1 hc
    have h8 := h1.len
    simp [h8, e1, e2]
    exact e3
  simp [hb]
  refine P_pick h.push (by omega) (by omega) fun x0 H0 hx0 hR0 hS0 => ?_
  simp
  refine P_pick hR0 (by omega) (by omega) fun x1 H1 hx1 hR1 hS1 => ?_
  simp (disch := omega)
  have n0 := hS0.1
  have n1 := hS1.1
  simp only [push_n] at n0
  refine cnd_mk (fun _ => ?_) (fun _ => ?_)
  · simp
    refine P_pick hR1 (by omega) (by omega) fun x2 H2 hx2 hR2 hS2 => ?_
    simp (disch := omega)
    refine K_sl91Expr3 (by omega) hR2 (by omega) fun e va H3 d3 hR3 hS3 => ?_
    have n2 := hS2.1
    obtain ⟨G', e1, e2, e3⟩ := fin H3 _ _ (((hS0.trans hS1).trans hS2).trans hS3) (hR3.up (by omega)) ((leafT_S1 (k := 4) (v := 0) (b := x0) d3.ev).up (by omega)) leafT_ct
    simp [e1, e2]
    exact e3
  · simp
    refine P_pick hR1 (by omega) (by omega) fun x2 H2 hx2 hR2 hS2 => ?_
    obtain ⟨G', e1, e2, e3⟩ := fin H2 _ _ ((hS0.trans hS1).trans hS2) (hR2.up (by omega)) (leafT_S1 (k := 5) (v := x2) (b := x0) (e := ⟨0, 0, .nil⟩) (EV.nil (.inl rfl))) leafT_ct
    simp [e1, e2]
    exact e3
end
end Go.Proofs.YtmecbehegmgbhaaGreat.AM
namespace Go.Proofs.YtmecbehegmgbhaaGreat.AM
set_option linter.unusedSimpArgs false
set_option linter.unusedVariables false
set_option maxRecDepth 100000
set_option maxHeartbeats 2000000
open Go
theorem GrS.app_lb {base G v n sz cs B} (h : GrS base G v n sz cs B) {k : Nat} {new : List AV} {v' : AV} {G' : AH} (ha : aapp G sz v k new = some (v', G')) (hk : 0 < k) : ∃ b c, v' = .sl b 0 (n + k) (.lb c sz) := by
  have h0 : ¬ k = 0 := by omega
  obtain ⟨h1, h2, ⟨rfl, rfl⟩ | ⟨h4, h5, ⟨rfl, h6⟩ | ⟨c, ex, rfl, h7, h8, h9⟩⟩⟩ := h
  · unfold aapp at ha
    simp only [if_neg h0] at ha
    split at ha
    · simp only [Option.some.injEq, Prod.mk.injEq] at ha
      exact ⟨_, _, by rw [← ha.1, Nat.zero_add]⟩
    · cases ha
  · unfold aapp at ha
    simp only [if_neg h0] at ha
    rw [if_neg (show ¬ n + k ≤ n by omega)] at ha
    split at ha
    · cases ha
    · split at ha
      · simp only [Option.some.injEq, Prod.mk.injEq] at ha
        exact ⟨_, _, ha.1.symm⟩
      · cases ha
  · unfold aapp at ha
    simp only [if_neg h0] at ha
    rw [if_neg (show ¬ (sz ≠ sz) by simp)] at ha
    split at ha
    · cases ha
    · split at ha
      · obtain ⟨G2, _, e⟩ := map_some ha
        simp only [Prod.mk.injEq] at e
        exact ⟨_, _, e.1.symm⟩
      · split at ha
        · split at ha
          · simp only [Option.some.injEq, Prod.mk.injEq] at ha
            exact ⟨_, _, ha.1.symm⟩
          · cases ha
        · cases ha
/-- Statements behind those of a list that grows. -/
theorem GrS.appS {base r : Nat} {G G1 : AH} {g v1 : AV} {f f1 : Sts} {cs : List AV} {B : Nat} (hg : GrS base G g f.list.length 8 cs B) (hf : SF (fun b => base ≤ b ∧ b ≠ B) G f cs) (hS : St r G G1) (hr : r < base) (hb : base ≤ G.n) (h1 : SV (fun b => G.n ≤ b) G1 v1 f1) (hl : f.list.length + f1.list.length ≤ 1000000) :
    ∃ c1 g' G' B', AM.elems G1 8 v1 = some c1 ∧ aapp G1 8 g f1.list.length c1 = some (g', G') ∧ GrS base G' g' (Sts.of (f.list ++ f1.list)).list.length 8 (cs ++ c1) B' ∧ SF (fun b => base ≤ b ∧ b ≠ B') G' (Sts.of (f.list ++ f1.list)) (cs ++ c1) ∧
      (∀ b, b < base → G'.bk b = G1.bk b) ∧ G1.n ≤ G'.n ∧ g'.flat = true ∧ (0 < f1.list.length → ∃ b c, g' = .sl b 0 (f.list.length + f1.list.length) (.lb c 8)) ∧ (∀ b, G.n ≤ b → b < G1.n → G'.bk b = G1.bk b) := by
  obtain ⟨c1, s1, s2⟩ := h1
  have hg1 : GrS base G1 g f.list.length 8 cs B := hg.only (bs := [r]) ⟨hS.1, fun b hb hr => hS.2 b hb (by simpa using hr)⟩ (by simp; omega)
  obtain ⟨g', G', B', a1, a2, a3, a4⟩ := hg1.app (by have := hS.1; omega) (k := f1.list.length) (new := c1) s1.2.1 hl
  have hm : ∀ b, b ∈ grB g B → b = B ∧ base ≤ B ∧ B < G.n := fun b hb => hg.mem hb
  have hB : (B' = B ∧ base ≤ B ∧ B < G.n) ∨ G1.n = B' := by
    rcases a3 with q | q
    · exact .inl ⟨q.1, (hm _ q.2).2⟩
    · exact .inr q.symm
  have n1 := hS.1
  have hlen : (Sts.of (f.list ++ f1.list)).list.length = f.list.length + f1.list.length := by rw [Sts.list_of]; simp
  refine ⟨c1, g', G', B', s1.elems, a1, by rw [hlen]; exact a2, SF.app (hf.mono (by have := a4.1; omega) (fun b hb' h1 => ?_) (fun b hb' h1 => ⟨hb'.1, by omega⟩)) (s2.mono a4.1 (fun b hb' h1 => a4.2 b h1 (fun hq => by have := hm b hq; omega)) (fun b hb' h1 => by omega)), fun b hb' => a4.2 b (by omega) (fun hq => by have := hm b hq; omega), a4.1, a2.flat, fun hp => hg1.app_lb a1 hp, fun b hb' h1 => a4.2 b h1 (fun hq => by have := hm b hq; omega)⟩
  rw [a4.2 b (by omega) (fun hq => hb'.2 (hm b hq).1), hS.2 b h1 (by omega)]
def cR : Nat → Int
  | 0 => 100
  | n + 1 => 100 + 4 * cR n
def cB : Nat → Nat
  | 0 => 1
  | n + 1 => 3 + 4 * cB n
theorem cR_pos : ∀ n, 100 ≤ cR n
  | 0 => by simp [cR]
  | n + 1 => by have := cR_pos n; simp [cR]; omega
theorem cB_pos : ∀ n, 1 ≤ cB n
  | 0 => by simp [cB]
  | n + 1 => by simp [cB]; omega
theorem cRB {n : Nat} (h : n ≤ 3) : cR n ≤ 8500 ∧ cB n ≤ 255 := by
  have : n = 0 ∨ n = 1 ∨ n = 2 ∨ n = 3 := by omega
  rcases this with rfl | rfl | rfl | rfl <;> simp [cR, cB]
/-- The contract of a draw of a block. -/
def BlkD (nest : Nat) : Prop := ∀ {H : AH} {K : AV → AH → Prop} {r : Nat} {w : Fk K} {m n boxes : Int} {lp : Bool}, 0 ≤ boxes ∧ boxes ≤ 1000 → 0 ≤ n ∧ n ≤ 6 → Rdx H r m → m ≤ 700000000000 - nest * 10000000000 →
  (∀ v cs B (f : Sts) H', GrS H.n H' v f.list.length 8 cs B → SF (fun b => H.n ≤ b ∧ b ≠ B) H' f cs → (f.list.length ≠ 0 → ∃ b c, v = .sl b 0 f.list.length (.lb c 8)) → ctS f ≤ n.toNat * cB nest → Rdx H' r (m + n * cR nest) → St r H H' → K v H') →
  CallF Cd f_sl92Block [.ptr r 0, .I boxes, .I nest, .I n, .b lp] H K w
/-- The contract of a draw of one statement or two. -/
def StmD (nest : Nat) : Prop := ∀ {H : AH} {K : AV → AH → Prop} {r : Nat} {w : Fk K} {m boxes : Int} {lp : Bool}, 0 ≤ boxes ∧ boxes ≤ 1000 → Rdx H r m → m ≤ 701000000000 - nest * 10000000000 →
  (∀ v (f : Sts) H', SV (fun b => H.n ≤ b) H' v f → 1 ≤ f.list.length → ctS f ≤ cB nest → Rdx H' r (m + cR nest) → St r H H' → K v H') →
  CallF Cd f_sl92Stmt [.ptr r 0, .I boxes, .I nest, .b lp] H K w
theorem K_sl92Block_l {nest : Nat} (hn3 : nest ≤ 3) (hst : StmD nest) {boxes n : Int} {lp : Bool} {base r : Nat} (hbx : 0 ≤ boxes ∧ boxes ≤ 1000) (hn : 0 ≤ n ∧ n ≤ 6) (hrb : r < base) {Q : Out → Env → AH → Prop}
    (j i : Nat) (hij : (i + j : Int) = n) {G : AH} {g : AV} {f : Sts} {cs : List AV} {B : Nat} {m : Int} (hb : base ≤ G.n) (hg : GrS base G g f.list.length 8 cs B) (hf : SF (fun b => base ≤ b ∧ b ≠ B) G f cs) (hlb : f.list.length ≠ 0 → ∃ b c, g = .sl b 0 f.list.length (.lb c 8))
    (hct : ctS f ≤ i * cB nest) (hR : Rdx G r m) (hm : m + j * cR nest ≤ 700900000000 - nest * 10000000000)
    (hQ : ∀ g' cs' B' (f' : Sts) G', GrS base G' g' f'.list.length 8 cs' B' → SF (fun b => base ≤ b ∧ b ≠ B') G' f' cs' → (f'.list.length ≠ 0 → ∃ b c, g' = .sl b 0 f'.list.length (.lb c 8)) → ctS f' ≤ (i + j) * cB nest → Rdx G' r (m + j * cR nest) → (∀ b, b < base → b ≠ r → G'.bk b = G.bk b) → G.n ≤ G'.n →
      Q (.brk 0) [(0, .ptr r 0), (1, .I boxes), (2, .I nest), (3, .I n), (4, .b lp), (11, g'), (12, .I n), (16, .b false)] G') :
    W Cd (.loop c_sl92Block_l0) [(0, .ptr r 0), (1, .I boxes), (2, .I nest), (3, .I n), (4, .b lp), (11, g), (12, .I i)] G Q := by
  have hRB := cRB hn3
  have hc1 := cR_pos nest
  induction j generalizing i G g f cs B m with
  | zero =>
    rw [W_loop_as c_sl92Block_l0.eq_1]
    have hi : (i : Int) = n := by omega
    simp [hi]
    exact hQ g cs B f G hg hf hlb (by simpa using hct) (by simpa using hR) (fun _ _ _ => rfl) (Nat.le_refl _)
  | succ j ih =>
    rw [W_loop_as c_sl92Block_l0.eq_1]
    have hlt : (i : Int) < n := by omega
    have ej : ((j + 1 : Nat) : Int) * cR nest = j * cR nest + cR nest := by rw [Int.natCast_add, Int.add_mul]; simp
    rw [ej] at hm hQ
    have hj0 : 0 ≤ (j : Int) * cR nest := Int.mul_nonneg (by omega) (by omega)
    simp (disch := omega) [hlt]
    refine hst hbx hR (by omega) fun v1 f1 G1 h1 h2 h3 hR1 hS => ?_
    have hl1 := len_ctS (f := f1)
    have hl := len_ctS (f := f)
    have hi6 : i ≤ 6 := by omega
    have hci : i * cB nest ≤ 6 * 255 := Nat.mul_le_mul hi6 hRB.2
    obtain ⟨c1, g', G', B', a1, a2, a3, a4, a5, a6, a7, a8, _⟩ := hg.appS hf hS hrb hb h1 (by omega)
    have hal := h1.alen
    simp (disch := omega) [-AM.elems, a1, hal, a2]
    have hlen : (Sts.of (f.list ++ f1.list)).list.length = f.list.length + f1.list.length := by rw [Sts.list_of]; simp
    have hR' : Rdx G' r (m + cR nest) := hR1.same a6 fun b hb => a5 b (by omega)
    have := ih (i + 1) (by push_cast; omega) (G := G') (g := g') (f := Sts.of (f.list ++ f1.list)) (cs := cs ++ c1) (B := B') (m := m + cR nest) (by have := hS.1; omega) a3 a4 (fun _ => by rw [hlen]; exact a8 (by omega))
      (by rw [ctS_of, List.map_append, List.sum_append, ← ctS_sum, ← ctS_sum, Nat.add_mul]; omega) hR' (by omega)
      (fun g2 cs2 B2 f2 G2 u1 u2 u3 u4 u5 u6 u7 => hQ g2 cs2 B2 f2 G2 u1 u2 u3 (by rw [show i + (j + 1) = i + 1 + j by omega]; exact u4) (u5.up (by omega)) (fun b hb1 hb2 => by rw [u6 b hb1 hb2, a5 b hb1, hS.2 b (by omega) hb2]) (by have := hS.1; omega))
    simpa using this
theorem K_sl92Block {nest : Nat} (hn3 : nest ≤ 3) (hst : StmD nest) : BlkD nest := by
  intro H K r w m n boxes lp hbx hn hR hm k
  rw [CallF_eq e_sl92Block rfl]
  have hr := hR.lt
  have hRB := cRB hn3
  have hc1 := cR_pos nest
  simp
  obtain ⟨j, rfl⟩ : ∃ j : Nat, n = j := ⟨n.toNat, by omega⟩
  have hjc : (j : Int) * cR nest ≤ 6 * 8500 := by
    have : (j : Int) * cR nest ≤ 6 * cR nest := Int.mul_le_mul_of_nonneg_right (by omega) (by omega)
    omega
  have := K_sl92Block_l hn3 hst (boxes := boxes) (n := j) (lp := lp) (base := H.n) (r := r) hbx hn hr (Q := ?_) j 0 (by simp) (G := H.push []) (g := .sl H.n 0 0 (.ex 0)) (f := .nil) (cs := []) (B := H.n) (m := m) (by simp) (GrS.new (Nat.le_refl _) (by omega) (by simp)) rfl (by simp) (by simp [ctS]) hR.push (by omega) ?_
  · simpa using this
  · intro g cs B f G u1 u2 u3 u4 u5 u6 u7
    simp
    exact k g cs B f G u1 u2 u3 (by simpa using u4) u5 ⟨by simp at u7; omega, fun b hb hbr => (u6 b hb hbr).trans (push_old hb rfl)⟩
end Go.Proofs.YtmecbehegmgbhaaGreat.AM
namespace Go.Proofs.YtmecbehegmgbhaaGreat.AM
set_option linter.unusedSimpArgs false
set_option linter.unusedVariables false
set_option maxRecDepth 100000
set_option maxHeartbeats 2000000
open Go
section
variable {H : AH} {K : AV → AH → Prop} {r : Nat} {w : Fk K} {m boxes : Int} {lp : Bool} {nest : Nat}
theorem K_sl92If (hn3 : nest ≤ 2) (hbk : BlkD nest) (hbx : 0 ≤ boxes ∧ boxes ≤ 1000) (h : Rdx H r m) (hm : m ≤ 692000000000 - nest * 10000000000)
    (k : ∀ c s H', S1 (fun b => H.n ≤ b) H' c s → ctT s ≤ 1 + 4 * cB nest → Rdx H' r (m + 50 + 4 * cR nest) → St r H H' → K (.agg c) H') : CallF Cd f_sl92If [.ptr r 0, .I boxes, .I (nest + 1), .b lp] H K w := by
  rw [CallF_eq e_sl92If rfl]
  have hr := h.lt
  have hRB := cRB (n := nest) (by omega)
  have hc1 := cR_pos nest
  have hmul : ∀ x : Int, 0 ≤ x → x < 3 → x * cR nest ≤ 2 * cR nest ∧ 0 ≤ x * cR nest := fun x h1 h2 => ⟨Int.mul_le_mul_of_nonneg_right (by omega) (by omega), Int.mul_nonneg h1 (by omega)⟩
  have hmulN : ∀ x : Int, 0 ≤ x → x < 3 → x.toNat * cB nest ≤ 2 * cB nest := fun x h1 h2 => Nat.mul_le_mul_right _ (by omega)
  simp
  refine P_pick h.push (by omega) (by omega) fun x0 H0 hx0 hR0 hS0 => ?_
  simp (disch := omega)
  refine K_sl91Expr3 (by omega) hR0 (by omega) fun e va H1 d1 hR1 hS1 => ?_
  have n0 := hS0.1
  have n1 := hS1.1
  simp only [push_n] at n0
  simp (disch := omega) [AH.store, push_put]
  refine P_pick hR1.push (by omega) (by omega) fun x2 H2 hx2 hR2 hS2 => ?_
  have n2 := hS2.1
  simp only [push_n] at n2
  simp (disch := omega)
  refine hbk hbx (by omega) hR2 (by omega) fun vy cy By fy H3 gy sy _ cty hR3 hS3 => ?_
  have n3 := hS3.1
  have hm1 := hmul x2 hx2.1 hx2.2
  have q3 : H3.bk H1.n = some ⟨[.I e.op, .I e.n, va], true⟩ := hS3.at (by omega) (by omega) (hS2.at (by simp) (by omega) push_new)
  simp (disch := omega) [loadN_bk q3]
  refine P_pick hR3 (by omega) (by omega) fun x4 H4 hx4 hR4 hS4 => ?_
  have n4 := hS4.1
  have q4 : H4.bk H1.n = _ := hS4.at (by omega) (by omega) q3
  simp (disch := omega) [q3, q4]
  refine hbk hbx (by omega) hR4 (by omega) fun vz cz Bz fz H5 gz sz _ ctz hR5 hS5 => ?_
  have n5 := hS5.1
  have hm2 := hmul x4 hx4.1 hx4.2
  have q5 : H5.bk H1.n = _ := hS5.at (by omega) (by omega) q4
  have S5 := hS0.trans (hS1.trans (((St.push St.refl).trans hS2).trans (hS3.trans (hS4.trans hS5))))
  have g0 : H5.bk H.n = some ⟨[.I 0, .I 0, .I 0, .I 0, .I 0, .nils, .nils, .nils], true⟩ := S5.at (by simp) (by omega) push_new
  have ey : SV (fun b => H2.n ≤ b) H5 vy fy := ((gy.sv sy).st hS4 (by omega)).st hS5 (by omega)
  have ez : SV (fun b => H4.n ≤ b) H5 vz fz := gz.sv sz
  have ea : EV (fun b => H0.n ≤ b) H5 va e.args := (((((d1.ev.ext (Ext.push _ [.I e.op, .I e.n, va])).st hS2 (by have := hR0.lt; omega)).st hS3 (by have := hR0.lt; omega)).st hS4 (by have := hR0.lt; omega)).st hS5 (by have := hR0.lt; omega))
  obtain ⟨G', e1, e2, e3, e4⟩ := cells_in (base := H.n + 1) (c := [.I 2, .I 0, .I 0, .I e.op, .I e.n, va, vy, vz]) (s := ⟨2, 0, 0, e, fy, fz⟩) (by omega) g0 rfl ⟨va, vy, vz, rfl, ea.up (by omega), ey.up (by omega), ez.up (by omega)⟩
  have fy' := gy.flat
  have fz' := gz.flat
  simp [q4, q5, flat_cells fy', flat_tup fy', flat_cells fz', flat_tup fz', e1, e2]
  subst e4
  have hN1 := hmulN x2 hx2.1 hx2.2
  have hN2 := hmulN x4 hx4.1 hx4.2
  refine k _ _ _ (e3.up (by omega)) (by unfold ctT; simp only; omega) ((hR5.put hr).up (by omega)) (((St.push St.refl).trans S5).put_new (Nat.le_refl _))
theorem GrS.st {base r : Nat} {G G' : AH} {v : AV} {n sz : Nat} {cs : List AV} {B : Nat} (h : GrS base G v n sz cs B) (k : St r G G') (hr : r < base) : GrS base G' v n sz cs B :=
  h.only (bs := [r]) ⟨k.1, fun b hb hr => k.2 b hb (by simpa using hr)⟩ (by simp; omega)
theorem K_sl92Loop (hn3 : nest ≤ 2) (hbk : BlkD nest) (hbx : 0 ≤ boxes ∧ boxes ≤ 1000) (h : Rdx H r m) (hm : m ≤ 692000000000 - nest * 10000000000)
    (k : ∀ v f H', SV (fun b => H.n ≤ b) H' v f → f.list.length = 2 → ctS f ≤ 3 + 2 * cB nest → Rdx H' r (m + 50 + 4 * cR nest) → St r H H' → K v H') : CallF Cd f_sl92Loop [.ptr r 0, .I boxes, .I (nest + 1)] H K w := by
  rw [CallF_eq e_sl92Loop rfl]
  have hr := h.lt
  have hRB := cRB (n := nest) (by omega)
  have hc1 := cR_pos nest
  simp
  refine P_pick h (by omega) (by omega) fun x0 H0 hx0 hR0 hS0 => ?_
  have n0 := hS0.1
  have hm1 : x0 * cR nest ≤ 2 * cR nest ∧ 0 ≤ x0 * cR nest := ⟨Int.mul_le_mul_of_nonneg_right (by omega) (by omega), Int.mul_nonneg (by omega) (by omega)⟩
  have hN1 : x0.toNat * cB nest ≤ 2 * cB nest := Nat.mul_le_mul_right _ (by omega)
  simp (disch := omega)
  refine hbk hbx (by omega) hR0 (by omega) fun vy cy By fy H1 gy sy _ cty hR1 hS1 => ?_
  have n1 := hS1.1
  have hr0 := hR0.lt
  simp
  refine K_sl4Leaf fun v1 H2 d1 x1 => ?_
  simp
  refine K_sl4Leaf fun v2 H3 d2 x2 => ?_
  simp
  have n2 := x1.1
  have n3 := x2.1
  refine K_sl4Both (base := H1.n) (x := ⟨13, 3, .nil⟩) (y := ⟨0, 1, .nil⟩) (d1.ev.ext x2) (d2.ev.up (by omega)) (by omega) fun v3 H4 d3 x3 => ?_
  have n4 := x3.1
  have e13 := (x1.trans x2).trans x3
  simp [AH.store, push_put]
  refine K_sl4Leaf fun v5 H6 d5 x5 => ?_
  have n6 := x5.1
  simp only [push_n] at n6
  have q6 : H6.bk H4.n = some ⟨[.I 1, .I 3, .I 0, .I 8, .I 0, v3, .nils, .nils], true⟩ := (x5.2 H4.n (by simp)).trans push_new
  simp [x5]
  have hR6 : Rdx H6 r (m + 1 + x0 * cR nest) := ((hR1.ext e13).push).ext x5
  refine P_pick hR6 (by omega) (by omega) fun x6 H7 hx6 hR7 hS7 => ?_
  have n7 := hS7.1
  have q7 : H7.bk H4.n = _ := hS7.at (by omega) (by omega) q6
  simp (disch := omega) [q6, q7]
  refine K_sl4Leaf fun v7 H8 d7 x8 => ?_
  have n8 := x8.1
  simp [x8]
  refine K_sl4Both (base := H4.n + 1) (x := ⟨13, 3, .nil⟩) (y := ⟨0, 1 + x6, .nil⟩) (((d5.ev.up (by simp)).st hS7 (by omega)).ext x8) (d7.ev.up (by omega)) (by omega) fun v8 H9 d8 x9 => ?_
  have n9 := x9.1
  have q9 : H9.bk H4.n = _ := (x9.2 _ (by omega)).trans ((x8.2 _ (by omega)).trans q7)
  have l9 : H9.loadN H4.n 0 8 = some [.I 1, .I 3, .I 0, .I 8, .I 0, v3, .nils, .nils] := by rw [loadN_bk q9]; rfl
  have S49 : St r H4 H9 := ((((Ext.push H4 [.I 1, .I 3, .I 0, .I 8, .I 0, v3, .nils, .nils]).trans x5).st.trans hS7).trans (x8.trans x9).st)
  have S19 : St r H1 H9 := e13.st.trans S49
  have dm : EV (fun b => H1.n ≤ b) H9 v3 (Exs.of [⟨13, 3, .nil⟩, ⟨0, 1, .nil⟩]) := d3.ev.st S49 (by omega)
  have sm := (leafT_S1 (k := 1) (v := 3) (b := 0) (e := ⟨8, 0, Exs.of [⟨13, 3, .nil⟩, ⟨0, 1, .nil⟩]⟩) dm).ext (Ext.push H9 [.I 1, .I 3, .I 0, .I 8, .I 0, v3, .nils, .nils])
  have svm : SV (fun b => H1.n ≤ b) (H9.push [.I 1, .I 3, .I 0, .I 8, .I 0, v3, .nils, .nils]) (.sl H9.n 0 1 (.ex 1)) (Sts.of [leafT 1 3 0 ⟨8, 0, Exs.of [⟨13, 3, .nil⟩, ⟨0, 1, .nil⟩]⟩]) :=
    ⟨_, (GrS.new (base := H1.n) (G := H9) (n := 1) (sz := 8) (cs := [.I 1, .I 3, .I 0, .I 8, .I 0, v3, .nils, .nils]) (by omega) (by omega) rfl).slc, sm.one⟩
  have hly := len_ctS (f := fy)
  obtain ⟨c1, g', G', B', a1, a2, a3, a4, a5, a6, a7, a8, a9⟩ := gy.appS sy (S19.trans (Ext.push H9 [.I 1, .I 3, .I 0, .I 8, .I 0, v3, .nils, .nils]).st) hr0 (by omega) svm (by simp; omega)
  have hc1 : c1 = [.I 1, .I 3, .I 0, .I 8, .I 0, v3, .nils, .nils] := by
    have : AM.elems (H9.push [.I 1, .I 3, .I 0, .I 8, .I 0, v3, .nils, .nils]) 8 (.sl H9.n 0 1 (.ex 1)) = some [.I 1, .I 3, .I 0, .I 8, .I 0, v3, .nils, .nils] := by
      show AH.loadN _ _ _ _ = _
      rw [loadN_bk push_new]; rfl
    rw [this] at a1
    exact (Option.some.inj a1).symm
  subst hc1
  have a2' : aapp (H9.push [.I 1, .I 3, .I 0, .I 8, .I 0, v3, .nils, .nils]) 8 vy 1 [.I 1, .I 3, .I 0, .I 8, .I 0, v3, .nils, .nils] = some (g', G') := a2
  simp [x9, l9, loadN_push, a2', flat_cells a7, flat_tup a7, AH.store, push_put]
  refine K_sl4Leaf fun v9 H13 d9 x13 => ?_
  simp only [push_n] at a6
  have n13 := x13.1
  simp only [push_n] at n13
  have q13 : H13.bk G'.n = some ⟨[.I 3, .I 0, .I 0, .I 5, .I 0, v8, g', .nils], true⟩ := (x13.2 _ (by simp)).trans push_new
  have l13 : H13.loadN G'.n 0 8 = some [.I 3, .I 0, .I 0, .I 5, .I 0, v8, g', .nils] := by rw [loadN_bk q13]; rfl
  simp [x13, l13]
  have xf := Ext.push H13 ([.I 1, .I 3, .I 0, .I 0, .I 0, v9, .nils, .nils] ++ [.I 3, .I 0, .I 0, .I 5, .I 0, v8, g', .nils])
  have xg := (Ext.push G' [.I 3, .I 0, .I 0, .I 5, .I 0, v8, g', .nils]).trans (x13.trans xf)
  have e8 : EV (fun b => H.n ≤ b) G' v8 (Exs.of [⟨13, 3, .nil⟩, ⟨0, 1 + x6, .nil⟩]) := (d8.ev.ext (Ext.push H9 [.I 1, .I 3, .I 0, .I 8, .I 0, v3, .nils, .nils])).mono (by simp; omega) (fun b hb hb2 => a9 b (by omega) hb2) (fun b hb _ => by omega)
  have sg : SV (fun b => H.n ≤ b) G' g' (Sts.of (fy.list ++ (Sts.of [leafT 1 3 0 ⟨8, 0, Exs.of [⟨13, 3, .nil⟩, ⟨0, 1, .nil⟩]⟩]).list)) := (GrS.sv a3 a4).up (by omega)
  have w1 : S1 (fun b => H.n ≤ b) (H13.push ([.I 1, .I 3, .I 0, .I 0, .I 0, v9, .nils, .nils] ++ [.I 3, .I 0, .I 0, .I 5, .I 0, v8, g', .nils])) [.I 1, .I 3, .I 0, .I 0, .I 0, v9, .nils, .nils] (leafT 1 3 0 ⟨0, 0, .nil⟩) :=
    (leafT_S1 (e := ⟨0, 0, .nil⟩) (d9.ev.up (by simp; omega))).ext xf
  have w2 : S1 (fun b => H.n ≤ b) (H13.push ([.I 1, .I 3, .I 0, .I 0, .I 0, v9, .nils, .nils] ++ [.I 3, .I 0, .I 0, .I 5, .I 0, v8, g', .nils])) [.I 3, .I 0, .I 0, .I 5, .I 0, v8, g', .nils] ⟨3, 0, 0, ⟨5, 0, Exs.of [⟨13, 3, .nil⟩, ⟨0, 1 + x6, .nil⟩]⟩, Sts.of (fy.list ++ (Sts.of [leafT 1 3 0 ⟨8, 0, Exs.of [⟨13, 3, .nil⟩, ⟨0, 1, .nil⟩]⟩]).list), .nil⟩ :=
    ⟨v8, g', .nils, rfl, e8.ext xg, sg.ext xg, SV.nil (.inl rfl)⟩
  refine k _ (Sts.of [leafT 1 3 0 ⟨0, 0, .nil⟩, ⟨3, 0, 0, ⟨5, 0, Exs.of [⟨13, 3, .nil⟩, ⟨0, 1 + x6, .nil⟩]⟩, Sts.of (fy.list ++ (Sts.of [leafT 1 3 0 ⟨8, 0, Exs.of [⟨13, 3, .nil⟩, ⟨0, 1, .nil⟩]⟩]).list), .nil⟩]) _
    ⟨_, (GrS.new (base := H.n) (G := H13) (n := 2) (sz := 8) (cs := [.I 1, .I 3, .I 0, .I 0, .I 0, v9, .nils, .nils] ++ [.I 3, .I 0, .I 0, .I 5, .I 0, v8, g', .nils]) (by omega) (by omega) rfl).slc, SF.app w1.one w2.one⟩ (by simp) ?_ ?_ ?_
  · simp only [ctS_of, List.map_cons, List.map_nil, List.sum_cons, List.sum_nil, ctT, leafT, Sts.list_of, List.map_append, List.sum_append, ← ctS_sum]
    have := cty
    simp [ctS]
    omega
  · have hR9 : Rdx H9 r (m + 1 + x0 * cR nest + 1) := (hR7.ext x8).ext x9
    have hRG : Rdx G' r (m + 1 + x0 * cR nest + 1) := (hR9.ext (Ext.push H9 [.I 1, .I 3, .I 0, .I 8, .I 0, v3, .nils, .nils])).same (by simp; omega) fun b hb => a5 b (by omega)
    exact (hRG.ext xg).up (by omega)
  · refine ⟨by simp; omega, fun b hb hbr => ?_⟩
    exact (xg.2 b (by omega)).trans ((a5 b (by omega)).trans ((push_old (by omega) rfl).trans ((S19.2 b (by omega) hbr).trans ((hS1.2 b (by omega) hbr).trans (hS0.2 b hb hbr)))))
/-- One statement as a list. -/
theorem S1.lone {base : Nat} {G : AH} {c : List AV} {s : St1} (h : S1 (fun b => base ≤ b) G c s) (hb : base ≤ G.n) : SV (fun b => base ≤ b) (G.push c) (.sl G.n 0 1 (.ex 1)) (Sts.of [s]) :=
  ⟨c, (GrS.new (base := base) (G := G) (n := 1) (sz := 8) (cs := c) hb (by omega) (by rw [h.len])).slc, (h.ext (Ext.push G c)).one⟩
theorem K_sl92Stmt (hn3 : nest ≤ 3) (hbk : ∀ n', nest = n' + 1 → BlkD n') : StmD nest := by
  intro H K r w m boxes lp hbx h hm k
  rw [CallF_eq e_sl92Stmt rfl]
  have hr := h.lt
  have hRB := cRB hn3
  have hc1 := cR_pos nest
  have hcb := cB_pos nest
  have one : ∀ (G : AH) (c : List AV) (s : St1), S1 (fun b => H.n ≤ b) G c s → ctT s ≤ cB nest → Rdx G r (m + cR nest) → St r H G → K (.sl G.n 0 1 (.ex 1)) (G.push c) := by
    intro G c s h1 h2 h3 h4
    exact k _ _ _ (h1.lone h4.1) (by simp) (by rw [ctS_of]; simpa using h2) h3.push (h4.trans (Ext.push G c).st)
  simp
  refine P_pick h (by omega) (by omega) fun x0 H0 hx0 hR0 hS0 => ?_
  have n0 := hS0.1
  by_cases q0 : x0 = 0
  · simp [q0]
    refine K_sl92Set hR0 (by omega) fun c s G h1 h2 h3 h4 => ?_
    have h5 := h1.len
    simp [h5]
    exact one G c s (h1.up (by omega)) (by omega) (h3.up (by omega)) (hS0.trans h4)
  by_cases q1 : x0 = 1
  · simp [q1]
    refine K_sl92Set hR0 (by omega) fun c s G h1 h2 h3 h4 => ?_
    have h5 := h1.len
    simp [h5]
    exact one G c s (h1.up (by omega)) (by omega) (h3.up (by omega)) (hS0.trans h4)
  by_cases q2 : x0 = 2
  · by_cases q : 0 < nest
    · simp [q2, q]
      obtain ⟨n', rfl⟩ : ∃ n', nest = n' + 1 := ⟨nest - 1, by omega⟩
      have e1 : ((n' + 1 : Nat) : Int) = (n' : Int) + 1 := by omega
      rw [e1]
      refine K_sl92If (by omega) (hbk n' rfl) hbx hR0 (by push_cast at hm; omega) fun c s G h1 h2 h3 h4 => ?_
      have h5 := h1.len
      simp [h5]
      exact one G c s (h1.up (by omega)) (by simp [cB]; omega) (h3.up (by simp [cR]; omega)) (hS0.trans h4)
    · simp [q2, q]
      refine P_pick hR0 (by omega) (by omega) fun y1 G1 hy1 hR1 hS1 => ?_
      simp (disch := omega)
      refine K_sl91Expr3 (by omega) hR1 (by omega) fun e va G2 d2 hR2 hS2 => ?_
      have n1 := hS1.1
      simp
      exact one G2 _ _ ((leafT_S1 (k := 7) (v := 0) (b := 0) d2.ev).up (by omega)) (by rw [leafT_ct]; omega) (hR2.up (by omega)) (hS0.trans (hS1.trans hS2))
  by_cases q3 : x0 = 3
  · by_cases q : 0 < nest ∧ lp = true
    · simp [q3, q.1, q.2]
      obtain ⟨n', rfl⟩ : ∃ n', nest = n' + 1 := ⟨nest - 1, by omega⟩
      have e1 : ((n' + 1 : Nat) : Int) = (n' : Int) + 1 := by omega
      rw [e1]
      refine K_sl92Loop (by omega) (hbk n' rfl) hbx hR0 (by push_cast at hm; omega) fun v f G h1 h2 h3 h4 h5 => ?_
      have h6 := h1.flat
      simp
      exact k v f G (h1.up (by omega)) (by omega) (by simp [cB]; omega) (h4.up (by simp [cR]; omega)) (hS0.trans h5)
    · by_cases q' : 0 < nest
      · have hlp : lp = false := by cases lp <;> simp_all
        simp [q3, q', hlp]
        refine P_pick hR0 (by omega) (by omega) fun y1 G1 hy1 hR1 hS1 => ?_
        simp (disch := omega)
        refine K_sl91Expr3 (by omega) hR1 (by omega) fun e va G2 d2 hR2 hS2 => ?_
        have n1 := hS1.1
        simp
        exact one G2 _ _ ((leafT_S1 (k := 7) (v := 0) (b := 0) d2.ev).up (by omega)) (by rw [leafT_ct]; omega) (hR2.up (by omega)) (hS0.trans (hS1.trans hS2))
      · simp [q3, q']
        refine P_pick hR0 (by omega) (by omega) fun y1 G1 hy1 hR1 hS1 => ?_
        simp (disch := omega)
        refine K_sl91Expr3 (by omega) hR1 (by omega) fun e va G2 d2 hR2 hS2 => ?_
        have n1 := hS1.1
        simp
        exact one G2 _ _ ((leafT_S1 (k := 7) (v := 0) (b := 0) d2.ev).up (by omega)) (by rw [leafT_ct]; omega) (hR2.up (by omega)) (hS0.trans (hS1.trans hS2))
  by_cases q4 : x0 = 4
  · simp [q4]
    refine K_sl92Talk hbx hR0 (by omega) fun c s G h1 h2 h3 h4 => ?_
    have h5 := h1.len
    simp [h5]
    exact one G c s (h1.up (by omega)) (by omega) (h3.up (by omega)) (hS0.trans h4)
  by_cases q5 : x0 = 5
  · simp [q5]
    refine K_sl92Talk hbx hR0 (by omega) fun c s G h1 h2 h3 h4 => ?_
    have h5 := h1.len
    simp [h5]
    exact one G c s (h1.up (by omega)) (by omega) (h3.up (by omega)) (hS0.trans h4)
  by_cases q6 : x0 = 6
  · simp [q6]
    refine K_sl92Talk hbx hR0 (by omega) fun c s G h1 h2 h3 h4 => ?_
    have h5 := h1.len
    simp [h5]
    exact one G c s (h1.up (by omega)) (by omega) (h3.up (by omega)) (hS0.trans h4)
  by_cases q7 : x0 = 7
  · simp [q7]
    exact one H0 _ _ (leafT_S1 (k := 6) (v := 0) (b := 0) (e := ⟨0, 0, .nil⟩) (EV.nil (.inl rfl))) (by rw [leafT_ct]; omega) (hR0.up (by omega)) hS0
  · simp [q0, q1, q2, q3, q4, q5, q6, q7]
    refine P_pick hR0 (by omega) (by omega) fun y1 G1 hy1 hR1 hS1 => ?_
    simp (disch := omega)
    refine K_sl91Expr3 (by omega) hR1 (by omega) fun e va G2 d2 hR2 hS2 => ?_
    have n1 := hS1.1
    simp
    exact one G2 _ _ ((leafT_S1 (k := 7) (v := 0) (b := 0) d2.ev).up (by omega)) (by rw [leafT_ct]; omega) (hR2.up (by omega)) (hS0.trans (hS1.trans hS2))
end
theorem blkD : ∀ {n : Nat}, n ≤ 3 → BlkD n
  | 0, _ => K_sl92Block (by omega) (K_sl92Stmt (by omega) (fun n' h => by omega))
  | n + 1, h => K_sl92Block h (K_sl92Stmt h (fun n' hn => by
      have : n' = n := by omega
      rw [this]; exact @blkD n (by omega)))
end Go.Proofs.YtmecbehegmgbhaaGreat.AM
namespace Go.Proofs.YtmecbehegmgbhaaGreat.AM
set_option linter.unusedSimpArgs false
set_option linter.unusedVariables false
set_option maxRecDepth 100000
set_option maxHeartbeats 2000000
open Go
theorem SF.take {ok H f cs} (h : SF ok H f cs) (i : Nat) : SF ok H (Sts.of (f.list.take i)) (cs.take (i * 8)) := SF_of.2 ((SF_LF.1 h).take i)
theorem ctS_take {f : Sts} {i : Nat} : ctS (Sts.of (f.list.take i)) ≤ ctS f := by
  rw [ctS_of, ctS_sum]
  conv => rhs; rw [← List.take_append_drop i f.list, List.map_append, List.sum_append]
  omega
theorem GrS.cut {base G n cs B b c} (h : GrS base G (.sl b 0 n (.lb c 8)) n 8 cs B) {j : Nat} (hj : j ≤ n) : b = B ∧ GrS base G (.sl b 0 j (.lb c 8)) j 8 (cs.take (j * 8)) B := by
  obtain ⟨h1, h2, h3⟩ := h
  rcases h3 with ⟨h4, _⟩ | ⟨h4, h5, ⟨h6, _⟩ | ⟨c', ex, h6, h7, h8, h9⟩⟩
  · cases h4
  · cases h6
  · simp only [AV.sl.injEq, ACap.lb.injEq, and_true, true_and] at h6
    obtain ⟨rfl, rfl⟩ := h6
    have hm := Nat.mul_le_mul_right 8 hj
    have e1 : (cs.take (j * 8)).length = j * 8 := by rw [List.length_take]; omega
    refine ⟨rfl, by omega, e1, .inr ⟨h4, h5, .inr ⟨c, cs.drop (j * 8) ++ ex, rfl, by omega, ?_, ?_⟩⟩⟩
    · rw [List.length_append, List.length_drop, h8, h2, Nat.sub_mul, Nat.sub_mul]
      have := Nat.mul_le_mul_right 8 h7
      omega
    · rw [← List.append_assoc, List.take_append_drop]; exact h9
theorem K_sl92Stmts_l {base : Nat} {Q : Out → Env → AH → Prop} {G : AH} {B : Nat} (hQ : ∀ e g' cs' (f' : Sts), GrS base G g' f'.list.length 8 cs' B → SF (fun b => base ≤ b ∧ b ≠ B) G f' cs' → ctS f' ≤ 1000 → get e 5 = some g' → Q (.brk 0) e G) (n : Nat) :
    ∀ {g : AV} {f : Sts} {cs : List AV}, f.list.length = n → GrS base G g f.list.length 8 cs B → SF (fun b => base ≤ b ∧ b ≠ B) G f cs → (f.list.length ≠ 0 → ∃ b c, g = .sl b 0 f.list.length (.lb c 8)) → ctS f ≤ 1000 →
    W Cd (.loop c_sl92Stmts_l0) [(5, g)] G Q := by
  induction n with
  | zero =>
    intro g f cs hn hg hf hlb hct
    rw [W_loop_as c_sl92Stmts_l0.eq_1]
    have hnil : f = .nil := by rw [← Sts.of_list f, List.eq_nil_of_length_eq_zero hn]; rfl
    subst hnil
    simp
    refine K_sl11Count .nil (hg.sv hf) (by omega) ?_
    simp [ctS]
    exact hQ _ g cs .nil hg hf (by show 0 ≤ 1000; omega) rfl
  | succ n ih =>
    intro g f cs hn hg hf hlb hct
    rw [W_loop_as c_sl92Stmts_l0.eq_1]
    obtain ⟨b, c, rfl⟩ := hlb (by omega)
    have hlc := len_ctS (f := f)
    simp
    refine K_sl11Count f (hg.sv hf) (by omega) ?_
    by_cases h16 : ctS f ≤ 16
    · have h16' : ¬ (16 : Int) < ctS f := by omega
      simp [h16']
      exact hQ _ _ cs f hg hf hct rfl
    · have h16' : (16 : Int) < ctS f := by omega
      obtain ⟨rfl, g2⟩ := hg.cut (j := n) (by omega)
      have hl : (f.list.take n).length = n := by simp; omega
      have e : aslice 8 (.sl b 0 f.list.length (.lb c 8)) none (some (.I n)) none = some (.sl b 0 n (.lb c 8)) := by
        simp [aslice, bnd, aint]; omega
      have e2 : (f.list.length : Int) - 1 = n := by omega
      simp (disch := omega) [h16', e2, e]
      have := ih (g := .sl b 0 n (.lb c 8)) (f := Sts.of (f.list.take n)) (cs := cs.take (n * 8)) (by rw [Sts.list_of]; exact hl) (by rw [Sts.list_of, hl]; exact g2) (hf.take n) (fun _ => ⟨b, c, by rw [Sts.list_of, hl]⟩) (by have := @ctS_take f n; omega)
      simpa using this
section
variable {H : AH} {K : AV → AH → Prop} {r : Nat} {w : Fk K} {m boxes : Int}
theorem K_sl92Stmts (hbx : 0 ≤ boxes ∧ boxes ≤ 1000) (h : Rdx H r m) (hm : m ≤ 600000000000)
    (k : ∀ g cs B (f : Sts) H', GrS H.n H' g f.list.length 8 cs B → SF (fun b => H.n ≤ b ∧ b ≠ B) H' f cs → ctS f ≤ 1000 → Rdx H' r (m + 60000) → St r H H' → K g H') : CallF Cd f_sl92Stmts [.ptr r 0, .I boxes] H K w := by
  rw [CallF_eq e_sl92Stmts rfl]
  simp
  refine P_pick h (by omega) (by omega) fun x0 H0 hx0 hR0 hS0 => ?_
  simp (disch := omega)
  have n0 := hS0.1
  have hm1 : (1 + x0) * cR 3 ≤ 6 * 8500 ∧ 0 ≤ (1 + x0) * cR 3 := by simp [cR]; omega
  have hN1 : (1 + x0).toNat * cB 3 ≤ 6 * 127 := by
    have : (1 + x0).toNat ≤ 6 := by omega
    have := Nat.mul_le_mul_right (cB 3) this
    simpa [cB] using this
  refine blkD (n := 3) (by omega) hbx (by omega) hR0 (by simp; omega) fun g cs B f H1 hg hf hlb hct hR1 hS1 => ?_
  have := K_sl92Stmts_l (base := H0.n) (G := H1) (B := B) (Q := ?_) ?_ f.list.length rfl hg hf hlb (by omega)
  · simpa using this
  · intro e g' cs' f' u1 u2 u3 u4
    simp [u4]
    refine k g' cs' B f' H1 ⟨u1.1, u1.2.1, ?_⟩ (u2.mono (Nat.le_refl _) (fun _ _ _ => rfl) (fun b hb _ => by omega)) u3 (hR1.up (by omega)) (hS0.trans hS1)
    rcases u1.2.2 with q | ⟨q1, q2⟩
    · exact .inl q
    · exact .inr ⟨by omega, q2⟩
/-- Numbers that are drawn into a list that grows. -/
theorem app_word {base r : Nat} {G G1 : AH} {g : AV} {l : List Int} {B : Nat} {x : Int} (hg : GrS base G g l.length 1 (Ints l) B) (hS : St r G G1) (hr : r < base) (hb : base ≤ G.n) (hl : l.length < 1000) :
    ∃ g' G' B', aapp (G1.push [.I x]) 1 g 1 [.I x] = some (g', G') ∧ GrS base G' g' (l ++ [x]).length 1 (Ints (l ++ [x])) B' ∧ (∀ b, b < base → G'.bk b = G1.bk b) ∧ G1.n ≤ G'.n ∧ g'.flat = true := by
  have hg1 := hg.st (hS.trans (Ext.push G1 [.I x]).st) hr
  have n1 := hS.1
  obtain ⟨g', G', B', a1, a2, a3, a4⟩ := hg1.app (by simp; omega) (k := 1) (new := [.I x]) rfl (by omega)
  have hm : ∀ b, b ∈ grB g B → b = B ∧ base ≤ B ∧ B < G.n := fun b hb => hg.mem hb
  have n2 := a4.1
  simp only [push_n] at n2
  refine ⟨g', G', B', a1, by rw [← Ints_snoc]; simpa using a2, fun b hb' => ?_, by omega, a2.flat⟩
  rw [a4.2 b (by simp; omega) (fun hq => by have := hm b hq; omega), push_old (by omega) rfl]
end
end Go.Proofs.YtmecbehegmgbhaaGreat.AM
namespace Go.Proofs.YtmecbehegmgbhaaGreat.AM
set_option linter.unusedSimpArgs false
set_option linter.unusedVariables false
set_option maxRecDepth 100000
set_option maxHeartbeats 2000000
open Go
section
variable {H : AH} {K : AV → AH → Prop} {r : Nat} {w : Fk K} {m boxes : Int}
theorem GrS.storeAt {base G v n sz cs B} (h : GrS base G v n sz cs B) {o : Nat} {c : List AV} (hc : 0 < c.length) (ho : o + c.length ≤ n * sz) :
    ∃ cap G', v = .sl B 0 n cap ∧ G.store B o c = some G' ∧ GrS base G' v n sz (splice cs o c) B ∧ Only [B] G G' ∧ base ≤ B ∧ B < G.n := by
  obtain ⟨h1, h2, h3⟩ := h
  have hl : (splice cs o c).length = n * sz := by unfold splice; rw [List.length_append, List.length_append, List.length_take, List.length_drop, h2]; omega
  rcases h3 with ⟨rfl, rfl⟩ | ⟨h4, h5, ⟨rfl, h6⟩ | ⟨cc, ex, rfl, h7, h8, h9⟩⟩
  · rw [Nat.zero_mul] at ho; omega
  · have st := store_bk (o := o) (vs := c) h6 (by omega)
    exact ⟨_, _, rfl, st, ⟨h1, hl, .inr ⟨h4, h5, .inl ⟨rfl, put_same⟩⟩⟩, Only.refl.put (by simp), h4, h5⟩
  · have st := store_bk (o := o) (vs := c) h9 (by simp; omega)
    refine ⟨_, _, rfl, st, ⟨h1, hl, .inr ⟨h4, h5, .inr ⟨cc, ex, rfl, h7, h8, ?_⟩⟩⟩, Only.refl.put (by simp), h4, h5⟩
    rw [put_same]
    have : splice (cs ++ ex) o c = splice cs o c ++ ex := by
      unfold splice
      rw [List.take_append_of_le_length (by omega), List.drop_append_of_le_length (by omega)]; simp
    rw [this]
theorem TC.st {base r : Nat} {H H' : AH} {c : List AV} {t : Tk} (h : TC (fun b => base ≤ b) H c t) (k : St r H H') (hr : r < base) : TC (fun b => base ≤ b) H' c t := h.mono k.1 (fun b hb hb2 => k.2 b hb2 (by omega)) (fun _ h _ => h)
end
end Go.Proofs.YtmecbehegmgbhaaGreat.AM
namespace Go.Proofs.YtmecbehegmgbhaaGreat.AM
set_option linter.unusedSimpArgs false
set_option linter.unusedVariables false
set_option maxRecDepth 100000
set_option maxHeartbeats 2000000
open Go
/-- A mailbox's words, in a block I of their own (if there are any). -/
def ISl (base : Nat) (G : AH) (v : AV) (l : List Int) (I : Nat) : Prop :=
  l.length ≤ 1000 ∧ ((v = .nils ∧ l = []) ∨ (base ≤ I ∧ I < G.n ∧ ((v = .sl I 0 0 (.ex 0) ∧ l = [] ∧ G.bk I = some ⟨[], true⟩) ∨
    ∃ c ex, v = .sl I 0 l.length (.lb c 1) ∧ l.length ≤ c ∧ ex.length = c - l.length ∧ G.bk I = some ⟨Ints l ++ ex, true⟩)))
theorem ISl.flat {base G v l I} (h : ISl base G v l I) : v.flat = true := by
  obtain ⟨_, ⟨rfl, _⟩ | ⟨_, _, ⟨rfl, _⟩ | ⟨c, ex, rfl, _⟩⟩⟩ := h <;> rfl
theorem ISl.grs {base G v l I} (h : ISl base G v l I) : GrS base G v l.length 1 (Ints l) I := by
  obtain ⟨h1, ⟨rfl, rfl⟩ | ⟨h2, h3, ⟨rfl, rfl, h4⟩ | ⟨c, ex, rfl, h5, h6, h7⟩⟩⟩ := h
  · exact GrS.nils
  · exact ⟨by simp, rfl, .inr ⟨h2, h3, .inl ⟨rfl, h4⟩⟩⟩
  · exact ⟨by omega, by rw [Ints_len]; omega, .inr ⟨h2, h3, .inr ⟨c, ex, rfl, h5, by omega, h7⟩⟩⟩
theorem ISl.only {base G G' v l I bs} (h : ISl base G v l I) (k : Only bs G G') (hb : ∀ b ∈ bs, b ∉ grB v I) : ISl base G' v l I := by
  obtain ⟨h1, h2 | ⟨h3, h4, h5⟩⟩ := h
  · exact ⟨h1, .inl h2⟩
  · have hI : I ∉ bs := fun hm => hb I hm (by rcases h5 with ⟨rfl, _⟩ | ⟨c, ex, rfl, _⟩ <;> simp [grB])
    have e : G'.bk I = G.bk I := k.2 I h4 hI
    rw [← e] at h5
    exact ⟨h1, .inr ⟨h3, Nat.lt_of_lt_of_le h4 k.1, h5⟩⟩
theorem ISl.mem {base G v l I} (h : ISl base G v l I) {b : Nat} (hb : b ∈ grB v I) : b = I ∧ base ≤ I ∧ I < G.n := h.grs.mem hb
theorem ISl.sees {base G v l I} (h : ISl base G v l I) : SeesZ G v l := (h.grs.iv).sees
theorem ISl.push1 {base G v l I} (h : ISl base G v l I) (hb : base ≤ G.n) {x : Int} (hl : l.length < 1000) :
    ∃ v' G' I', aapp (G.push [.I x]) 1 v 1 [.I x] = some (v', G') ∧ ISl base G' v' (l ++ [x]) I' ∧ ((I' = I ∧ I ∈ grB v I) ∨ I' = G.n + 1) ∧ Only (grB v I) G G' ∧ v'.flat = true ∧ G.n + 1 ≤ G'.n := by
  obtain ⟨v', G', I', a1, a2, a3, a4⟩ := (h.grs.ext (Ext.push G [.I x])).app (by simp; omega) (k := 1) (new := [.I x]) rfl (by omega)
  obtain ⟨b, c, e⟩ := (h.grs.ext (Ext.push G [.I x])).app_lb a1 (by omega)
  refine ⟨v', G', I', a1, ?_, by simpa using a3, (show Only (grB v I) G (G.push [.I x]) from Only.refl.push).trans a4, a2.flat, by have := a4.1; simpa using this⟩
  obtain ⟨q1, q2, q3⟩ := a2
  refine ⟨by simp; omega, ?_⟩
  rcases q3 with ⟨q4, q5⟩ | ⟨q4, q5, ⟨q6, _⟩ | ⟨c', ex, q6, q7, q8, q9⟩⟩
  · omega
  · rw [e] at q6; simp at q6
  · exact .inr ⟨q4, q5, .inr ⟨c', ex, by simpa using q6, by simpa using q7, by simpa using q8, by rw [← Ints_snoc]; exact q9⟩⟩
theorem ISl.pop {base G v I} {y : Int} {l : List Int} (h : ISl base G v (y :: l) I) :
    ∃ v0 v1 v' G', aslice 1 v none (some (.I 0)) none = some v0 ∧ aslice 1 v (some (.I 1)) none none = some v1 ∧ alen v1 = some l.length ∧ AM.elems G 1 v1 = some (Ints l) ∧ aapp G 1 v0 l.length (Ints l) = some (v', G') ∧ ISl base G' v' l I ∧ Only [I] G G' ∧ v'.flat = true ∧ base ≤ I ∧ I < G.n ∧ grB v I = [I] := by
  obtain ⟨h1, ⟨_, h2⟩ | ⟨h2, h3, ⟨_, h4, _⟩ | ⟨c, ex, rfl, h5, h6, h7⟩⟩⟩ := h
  · cases h2
  · cases h4
  · have hl : (y :: l).length = l.length + 1 := rfl
    have h1' : l.length + 1 ≤ 1000 := h1
    have h5' : l.length + 1 ≤ c := h5
    have h6' : ex.length = c - (l.length + 1) := h6
    rw [hl]
    have e0 : aslice 1 (.sl I 0 (l.length + 1) (.lb c 1)) none (some (.I 0)) none = some (.sl I 0 0 (.lb c 1)) := by simp [aslice, bnd, aint]
    by_cases hn : l.length = 0
    · have : l = [] := List.eq_nil_of_length_eq_zero hn
      subst this
      refine ⟨_, .esl, .sl I 0 0 (.lb c 1), G, e0, by simp [aslice, bnd, aint], rfl, rfl, by simp [aapp], ⟨by simp, .inr ⟨h2, h3, .inr ⟨c, .I y :: ex, rfl, Nat.zero_le _, by simp at h6' ⊢; omega, by simpa [Ints] using h7⟩⟩⟩, Only.refl, rfl, h2, h3, rfl⟩
    · have e1 : aslice 1 (.sl I 0 (l.length + 1) (.lb c 1)) (some (.I 1)) none none = some (.sl I 1 l.length (.lb (c - 1) 1)) := by
        simp [aslice, bnd, aint]
        exact fun e => hn (by rw [e]; rfl)
      have st := store_bk (o := 0) (vs := Ints l) h7 (by simp [Ints]; omega)
      have es : splice (Ints (y :: l) ++ ex) 0 (Ints l) = Ints l ++ (Ints (y :: l) ++ ex).drop l.length := by
        unfold splice; simp [Ints_len]
      rw [es] at st
      refine ⟨_, _, .sl I 0 l.length (.lb c 1), G.put I (some ⟨Ints l ++ (Ints (y :: l) ++ ex).drop l.length, true⟩), e0, e1, rfl, ?_, ?_, ⟨by omega, .inr ⟨h2, h3, .inr ⟨c, _, rfl, by omega, ?_, put_same⟩⟩⟩, Only.refl.put (by simp), rfl, h2, h3, rfl⟩
      · show AH.loadN G I 1 (l.length * 1) = _
        rw [loadN_bk h7]
        unfold seg
        rw [if_pos (by simp [Ints]; omega)]
        simp [Ints]
      · unfold aapp
        simp only [if_neg hn, Nat.zero_add, Nat.zero_mul]
        rw [if_neg (show ¬ big < l.length by unfold big; omega), if_neg (show ¬ (1 ≠ 1) by simp), if_pos (by omega), st]; rfl
      · rw [List.length_drop, List.length_append, Ints_len, hl, h6']; omega
/-- What waits to run: statements, linked. -/
def PL (ok : Nat → Prop) (H : AH) : AV → List St1 → Prop
  | p, [] => p = .nilp
  | p, s :: r => ∃ q sb so c nx, p = .ptr q 0 ∧ ok q ∧ q < H.n ∧ H.bk q = some ⟨[.ptr sb so, nx], true⟩ ∧ ok sb ∧ sb < H.n ∧ H.loadN sb so 8 = some c ∧ S1 ok H c s ∧ nx.flat = true ∧ PL ok H nx r
theorem PL.mono {ok ok' : Nat → Prop} {H H' : AH} (hn : H.n ≤ H'.n) (hk : ∀ b, ok b → b < H.n → H'.bk b = H.bk b) (ho : ∀ b, ok b → b < H.n → ok' b) : ∀ {l p}, PL ok H p l → PL ok' H' p l
  | [], _, h => h
  | s :: r, p, ⟨q, sb, so, c, nx, h1, h2, h3, h4, h5, h6, h7, h8, h9, h10⟩ =>
    ⟨q, sb, so, c, nx, h1, ho q h2 h3, Nat.lt_of_lt_of_le h3 hn, (hk q h2 h3).trans h4, ho sb h5 h6, Nat.lt_of_lt_of_le h6 hn, by unfold AH.loadN at h7 ⊢; rw [hk sb h5 h6]; exact h7, h8.mono hn hk ho, h9, PL.mono hn hk ho h10⟩
theorem PL.ext {ok : Nat → Prop} {H H' : AH} {p l} (h : PL ok H p l) (k : Ext H H') : PL ok H' p l := h.mono k.1 (fun b _ hb => k.2 b hb) (fun _ h _ => h)
theorem PL.flat {ok : Nat → Prop} {H : AH} {p : AV} : ∀ {l}, PL ok H p l → p.flat = true
  | [], h => by cases h; rfl
  | s :: r, ⟨q, sb, so, c, nx, h1, _⟩ => by subst h1; rfl
theorem K_iahead_l {ok : Nat → Prop} {f : Sts} {v : AV} {rs : List St1} {Q : Out → Env → AH → Prop} (n : Nat) (hn : n ≤ f.list.length) {G : AH} {p : AV} (base : Nat) (hb : base ≤ G.n) (hok : ∀ b, base ≤ b → ok b) (h : SV ok G v f) (hp : PL ok G p (f.list.drop n ++ rs))
    (hQ : ∀ e G' p', Ext G G' → PL ok G' p' (f.list ++ rs) → get e 1 = some p' → Q (.brk 0) e G') : W Cd (.loop c_iahead_l0) [(0, v), (1, p), (5, .I (n - 1))] G Q := by
  induction n generalizing G p with
  | zero =>
    rw [W_loop_as c_iahead_l0.eq_1]
    simp
    exact hQ _ G p (Ext.refl _) (by simpa using hp) rfl
  | succ n ih =>
    rw [W_loop_as c_iahead_l0.eq_1]
    obtain ⟨s, hs⟩ : ∃ s, f.list[n]? = some s := ⟨_, List.getElem?_eq_getElem (by omega)⟩
    have hbig := h.big
    obtain ⟨b, o, cap, c, e1, ob, hbn, l1, s1⟩ := h.at hs
    have hdrop : f.list.drop n = s :: f.list.drop (n + 1) := by
      obtain ⟨hi, rfl⟩ := List.getElem?_eq_some_iff.1 hs
      exact List.drop_eq_getElem_cons hi
    have x0 := Ext.push G [.ptr b (o + n * 8), p]
    have hp' : PL ok (G.push [.ptr b (o + n * 8), p]) (.ptr G.n 0) (f.list.drop n ++ rs) := by
      rw [hdrop]
      exact ⟨G.n, b, o + n * 8, c, p, rfl, hok _ hb, Nat.lt_succ_self _, push_new, ob, Nat.lt_succ_of_lt hbn, loadN_extE l1 x0 hbn, s1.ext x0, hp.flat, hp.ext x0⟩
    have fp := hp.flat
    have := ih (by omega) (G := G.push [.ptr b (o + n * 8), p]) (p := .ptr G.n 0) (by simp; omega) (h.ext x0) hp' (fun e G' p' x => hQ e G' p' (x0.trans x))
    subst e1
    have hlt : n < f.list.length := by omega
    have e2 : ((n + 1 : Nat) : Int) - 1 = n := by omega
    rw [e2]
    simp (disch := omega) [flat_cells fp, flat_tup fp]
    simpa using this
theorem K_iahead {ok : Nat → Prop} {H : AH} {K : AV → AH → Prop} {w : Fk K} {v p : AV} {f : Sts} {rs : List St1} (base : Nat) (hb : base ≤ H.n) (hok : ∀ b, base ≤ b → ok b) (h : SV ok H v f) (hp : PL ok H p rs)
    (k : ∀ p' H', PL ok H' p' (f.list ++ rs) → Ext H H' → K p' H') : CallF Cd f_iahead [v, p] H K w := by
  rw [CallF_eq e_iahead rfl]
  have hbig := h.big
  simp (disch := omega) [h.alen]
  have := K_iahead_l (ok := ok) (f := f) (v := v) (rs := rs) (Q := ?_) f.list.length (Nat.le_refl _) base hb hok h (by rw [List.drop_length]; exact hp) ?_
  · simpa using this
  · intro e G' p' x u1 u2
    simp [u2]
    exact k p' G' u1 x
end Go.Proofs.YtmecbehegmgbhaaGreat.AM
namespace Go.Proofs.YtmecbehegmgbhaaGreat.AM
set_option linter.unusedSimpArgs false
set_option linter.unusedVariables false
set_option maxRecDepth 100000
set_option maxHeartbeats 2000000
open Go
theorem K_inewRunning {ok : Nat → Prop} {H : AH} {K : AV → AH → Prop} {w : Fk K} {c : List AV} {t : Tk} (h : TC ok H c t) (h4 : t.vars.length = 4)
    (k : ∀ R vv' V p H', H'.bk R = some ⟨[vv', p], true⟩ → GrS H.n H' vv' t.vars.length 1 (Ints t.vars) V → PL (fun b => b ≠ V ∧ b ≠ R) H' p t.rest.list → H.n ≤ V → V < R → R < H'.n → Ext H H' → K (.ptr R 0) H') : CallF Cd f_inewRunning [.agg c] H K w := by
  obtain ⟨vv, vr, rfl, h1, h2⟩ := h
  rw [CallF_eq e_inewRunning rfl]
  have x0 := Ext.push H [vv, vr]
  simp [load_push]
  refine K_cloneG (h1.ext x0).src (by omega) fun vv' H1 V g1 x1 => ?_
  have n1 := x1.1
  simp only [push_n] at n1
  have fv := g1.flat
  have hV : H.n + 1 ≤ V ∧ V < H1.n := by
    rcases g1.2.2 with q | q
    · omega
    · exact ⟨by simpa using q.1, q.2.1⟩
  have q1 : H1.bk H.n = some ⟨[vv, vr], true⟩ := (x1.2 _ (by simp)).trans push_new
  simp [x1, load_bk q1]
  have sv : SV (fun b => b ≠ V) H1 vr t.rest := h2.mono (by omega) (fun b _ hb => (x0.trans x1).2 b hb) (fun b _ hb => by omega)
  refine K_iahead (ok := fun b => b ≠ V) (rs := []) H1.n (Nat.le_refl _) (fun b hb => by omega) sv (show PL _ H1 .nilp [] from rfl) fun p H2 hp x2 => ?_
  have fp := hp.flat
  have n2 := x2.1
  rw [List.append_nil] at hp
  have x3 := Ext.push H2 [vv', p]
  simp [x2, flat_cells fv, flat_tup fv, flat_cells fp, flat_tup fp]
  refine k H2.n vv' V p _ push_new ?_ (hp.mono (by simp) (fun b _ hb => x3.2 b hb) (fun b h hb => ⟨h, by omega⟩)) (by omega) (by omega) (by simp) (((x0.trans x1).trans x2).trans x3)
  have g3 := (g1.ext x2).ext x3
  refine ⟨g3.1, g3.2.1, ?_⟩
  rcases g3.2.2 with q | q
  · exact .inl q
  · exact .inr ⟨by omega, q.2⟩
theorem K_irunning_task_l {ok : Nat → Prop} {base P R' : Nat} {vv' : AV} (hP : P < base) (hR' : R' ≠ P) {Q : Out → Env → AH → Prop} (l : List St1) : ∀ {G : AH} {p g : AV} {f : Sts} {cs : List AV} {B : Nat} (hb : base ≤ G.n) (hp : PL (fun b => b < base ∧ b ≠ P) G p l) (hcp : ∀ s ∈ l, cpT s = true ∧ ctT s ≤ 1000) (hct : f.list.length + l.length ≤ 100000)
    (hg : GrS base G g f.list.length 8 cs B) (hf : SF (fun b => base ≤ b ∧ b ≠ B) G f cs) (gP : G.bk P = some ⟨[vv', g], true⟩)
    (hQ : ∀ e G' g' cs' B', GrS base G' g' (f.list ++ l).length 8 cs' B' → SF (fun b => base ≤ b ∧ b ≠ B') G' (Sts.of (f.list ++ l)) cs' → G'.bk P = some ⟨[vv', g'], true⟩ → (∀ b, b < base → b ≠ P → G'.bk b = G.bk b) → G.n ≤ G'.n → get e 2 = some (.ptr R' 0) → get e 3 = some (.ptr P 0) → Q (.brk 0) e G'),
    W Cd (.loop c_irunning_task_l0) [(2, .ptr R' 0), (3, .ptr P 0), (4, p)] G Q := by
  induction l with
  | nil =>
    intro G p g f cs B hb hp hcp hct hg hf gP hQ
    rw [W_loop_as c_irunning_task_l0.eq_1]
    have : p = .nilp := hp
    subst this
    simp
    exact hQ _ G g cs B (by simpa using hg) (by simpa [Sts.of_list] using hf) gP (fun _ _ _ => rfl) (Nat.le_refl _) rfl rfl
  | cons s r ih =>
    intro G p g f cs B hb hp hcp hct hg hf gP hQ
    rw [W_loop_as c_irunning_task_l0.eq_1]
    obtain ⟨q, sb, so, c, nx, rfl, oq, hq, gq, osb, hsb, l1, s1, fnx, hr⟩ := hp
    have hc8 := s1.len
    obtain ⟨hc1, hc2⟩ := hcp s (by simp)
    have x0 := Ext.push G c
    have hll : f.list.length + 1 + r.length ≤ 100000 := by simp at hct; omega
    have s1' : SV (fun b => b < base ∧ b ≠ P ∨ b = G.n) (G.push c) (.sl G.n 0 1 (.ex 1)) (Sts.of [s]) :=
      ⟨c, ((GrS.new (base := G.n) (G := G) (n := 1) (sz := 8) (cs := c) (Nat.le_refl _) (by omega) (by omega)).ivB (fun _ _ => .inr rfl)), (s1.mono (Nat.le_succ _) (fun b _ hb => x0.2 b hb) (fun b h _ => .inl h)).one⟩
    simp (disch := omega) [load_bk gP, load_bk gq, l1, hc8]
    refine K_istmtsCopy (Sts.of [s]) s1' (by rw [cpS_mem, Sts.list_of]; simp [hc1]) (by rw [ctS_of]; simp; omega) fun v1 H1 cs1 B1 u1 u2 x1 => ?_
    have n1 := x1.1
    simp only [push_n] at n1
    have sv1 : SV (fun b => G.n ≤ b) H1 v1 (Sts.of [s]) := (u1.sv u2).up (by simp)
    obtain ⟨c1, g', G', B', a1, a2, a3, a4, a5, a6, a7, _, _⟩ := hg.appS (r := P) hf (x0.trans x1).st hP hb sv1 (by simp; omega)
    have e2 : alen v1 = some 1 := sv1.alen
    have a2' : aapp H1 8 g 1 c1 = some (g', G') := a2
    have gP' : G'.bk P = some ⟨[vv', g], true⟩ := (a5 P hP).trans (((x0.trans x1).2 P (by omega)).trans gP)
    have st : G'.store P 1 [g'] = some (G'.put P (some ⟨[vv', g'], true⟩)) := store_bk gP' (by simp)
    have o1 : ∀ b, b < base → b ≠ P → (G'.put P (some ⟨[vv', g'], true⟩)).bk b = G.bk b := fun b h1 h2 => by rw [put_bk, if_neg h2, a5 b h1, (x0.trans x1).2 b (by omega)]
    have oP : Only [P] G' (G'.put P (some ⟨[vv', g'], true⟩)) := Only.refl.put (by simp)
    have gq' : (G'.put P (some ⟨[vv', g'], true⟩)).bk q = some ⟨[.ptr sb so, nx], true⟩ := (o1 q oq.1 oq.2).trans gq
    have elist : (Sts.of (f.list ++ (Sts.of [s]).list)).list = f.list ++ [s] := by rw [Sts.list_of, Sts.list_of]
    simp (disch := omega) [-AM.elems, x1, a1, e2, a2', flat_cells a7, flat_tup a7, st]
    simp (disch := omega) [load_bk gq']
    refine ih (f := Sts.of (f.list ++ (Sts.of [s]).list)) (cs := cs ++ c1) (B := B') (g := g') (by simp; omega) (hr.mono (by simp; omega) (fun b h _ => o1 b h.1 h.2) (fun _ h _ => h)) (fun s' hs' => hcp s' (by simp [hs'])) (by rw [elist]; simp; omega) (a3.only oP (by simp; omega)) (SF.mono (H := G') (H' := G'.put P (some ⟨[vv', g'], true⟩)) (Nat.le_refl _) (fun b hb' _ => by rw [put_bk, if_neg (by omega)]) (fun _ h _ => h) a4) put_same
      (fun e G2 g2 cs2 B2 w1 w2 w3 w4 w5 w6 w7 => hQ e G2 g2 cs2 B2 (by rw [elist] at w1; simpa using w1) (by rw [elist] at w2; simpa using w2) w3 (fun b h1 h2 => (w4 b h1 h2).trans (o1 b h1 h2)) (by simp at w5; omega) w6 w7)
theorem K_irunning_task {ok : Nat → Prop} {H : AH} {K : AV → AH → Prop} {w : Fk K} {R : Nat} {vv p : AV} {vars : List Int} {l : List St1} (gR : H.bk R = some ⟨[vv, p], true⟩) (hRn : R < H.n) (hv : Src H vv vars) (h4 : vars.length ≤ 1000)
    (hp : PL ok H p l) (hcp : ∀ s ∈ l, cpT s = true ∧ ctT s ≤ 1000) (hct : l.length ≤ 100000)
    (k : ∀ c H', TC (fun b => H.n ≤ b) H' c ⟨vars, Sts.of l⟩ → Ext H H' → K (.agg c) H') : CallF Cd f_irunning_task [.ptr R 0] H K w := by
  rw [CallF_eq e_irunning_task rfl]
  have x0 := Ext.push H [.nils, .nils]
  have gR0 := push_old (cs := [AV.nils, .nils]) hRn gR
  simp [load_bk gR0]
  refine K_cloneG (hv.ext x0) (by omega) fun vv' H1 V g1 x1 => ?_
  have n1 := x1.1
  simp only [push_n] at n1
  have fv := g1.flat
  have gR1 : (H1.push [vv', .nils]).bk R = _ := push_old (by omega) ((x1.2 _ (by simp; omega)).trans gR0)
  have x2 := Ext.push H1 [vv', .nils]
  simp [flat_cells fv, flat_tup fv, AH.store, push_put, load_bk gR1]
  have X := (x0.trans x1).trans x2
  have := K_irunning_task_l (ok := ok) (base := H1.n + 1) (P := H1.n) (R' := H.n) (vv' := vv') (by omega) (by omega) (Q := ?_) l (G := H1.push [vv', .nils]) (p := p) (g := .nils) (f := .nil) (cs := []) (B := 0) (by simp)
    (hp.mono X.1 (fun b _ hb => X.2 b hb) (fun b _ hb => by omega)) hcp (by simpa using hct) GrS.nils rfl push_new ?_
  · simpa using this
  · intro e G g cs B u1 u2 u3 u4 u5 u6 u7
    simp only [Exs.list, Sts.list, List.nil_append] at u1 u2
    simp at u5
    have qR : G.bk H.n = some ⟨[.nils, .nils], true⟩ := (u4 _ (by omega) (by omega)).trans (push_old (by omega) ((x1.2 _ (by simp)).trans push_new))
    have l3 : G.loadN H1.n 0 2 = some [vv', g] := by rw [loadN_bk u3]; rfl
    have st : G.store H.n 0 [vv', g] = some (G.put H.n (some ⟨[vv', g], true⟩)) := store_bk qR (by simp)
    simp [u6, u7, l3, st, loadN_bk put_same]
    have hk : ∀ b, b ≠ H.n → (G.put H.n (some ⟨[vv', g], true⟩)).bk b = G.bk b := fun b hb => by rw [put_bk, if_neg hb]
    have iv : IV (fun b => H.n + 1 ≤ b ∧ b < H1.n) H1 vv' vars := g1.ivB (fun a b => ⟨by simpa using a, b⟩)
    refine k _ _ ⟨vv', g, rfl, iv.mono (by simp; omega) (fun b hb hb2 => by rw [hk b (by omega), u4 b (by omega) (by omega), push_old hb2 rfl]) (fun b hb _ => by omega), ?_⟩ ⟨by simp; omega, fun b hb => ?_⟩
    · have : SV (fun b => H1.n + 1 ≤ b) G g (Sts.of l) := GrS.sv (by rw [Sts.list_of]; exact u1) u2
      exact this.mono (by simp) (fun b hb _ => hk b (by omega)) (fun b hb _ => by omega)
    · rw [hk b (by omega), u4 b (by omega) (by omega), X.2 b hb]
/-- A word is put into a mailbox in place. -/
theorem K_iBox_put {H : AH} {K : AV → AH → Prop} {w : Fk K} {B o base I : Nat} {room x : Int} {vi : AV} {l : List Int} (hl : H.loadN B o 2 = some [.I room, vi]) (hB : B < H.n) (hw : ∃ cs, H.bk B = some ⟨cs, true⟩ ∧ o + 2 ≤ cs.length) (hi : ISl base H vi l I) (hbase : base ≤ H.n) (hBI : B ∉ grB vi I) (hr : l.length ≤ room ∧ room ≤ 100)
    (k1 : (l.length : Int) = room → K (.b false) H)
    (k2 : (l.length : Int) < room → ∀ v' I' H1 H', ISl base H1 v' (l ++ [x]) I' → ((I' = I ∧ I ∈ grB vi I) ∨ (H.n ≤ I')) → Only (grB vi I) H H1 → B < H1.n → I' < H1.n → H1.store B (o + 1) [v'] = some H' → v'.flat = true → K (.b true) H') : CallF Cd f_iBox_put [.ptr B o, .I x] H K w := by
  rw [CallF_eq e_iBox_put rfl]
  have l0 := loadN_get hl (i := 0) (by omega)
  have l1 := loadN_get hl (i := 1) (by omega)
  simp at l0 l1
  have ha := hi.sees.1
  by_cases hq : (l.length : Int) = room
  · have hq' : ¬ (l.length : Int) ≠ room := by omega
    simp (disch := omega) [l0, l1, ha, hq]
    exact k1 hq
  · obtain ⟨v', G', I', a1, a2, a3, a4, a5, n4⟩ := hi.push1 hbase (x := x) (by omega)
    obtain ⟨cs, q1, q2⟩ := hw
    have q3 : G'.bk B = some ⟨cs, true⟩ := a4.bk hB hBI q1
    obtain ⟨H', st⟩ : ∃ H', G'.store B (o + 1) [v'] = some H' := ⟨_, store_bk (o := o + 1) (vs := [v']) q3 (by simp; omega)⟩
    simp (disch := omega) [l0, l1, ha, hq, loadN_push, a1, flat_cells a5, flat_tup a5, st]
    refine k2 (by omega) v' I' G' _ a2 (a3.imp id (fun q => by omega)) a4 (by omega) ?_ st a5
    rcases a2.2 with q | q
    · have := congrArg List.length q.2; simp at this
    · exact q.2.1
/-- The oldest word is taken out of a mailbox in place. -/
theorem K_iBox_take {H : AH} {K : AV → AH → Prop} {w : Fk K} {B o base I : Nat} {room : Int} {vi : AV} {l : List Int} (hl : H.loadN B o 2 = some [.I room, vi]) (hB : B < H.n) (hw : ∃ cs, H.bk B = some ⟨cs, true⟩ ∧ o + 2 ≤ cs.length) (hi : ISl base H vi l I) (hBI : B ∉ grB vi I)
    (k1 : l = [] → K (.tup [.I 0, .b false]) H)
    (k2 : ∀ y q, l = y :: q → ∀ v' H1 H', ISl base H1 v' q I → Only [I] H H1 → grB vi I = [I] → B < H1.n → H1.store B (o + 1) [v'] = some H' → v'.flat = true → K (.tup [.I y, .b true]) H') : CallF Cd f_iBox_take [.ptr B o] H K w := by
  rw [CallF_eq e_iBox_take rfl]
  have l0 := loadN_get hl (i := 0) (by omega)
  have l1 := loadN_get hl (i := 1) (by omega)
  simp at l0 l1
  have ha := hi.sees.1
  cases l with
  | nil =>
    have ha' : alen vi = some 0 := ha
    simp (disch := omega) [l0, l1, ha']
    exact k1 rfl
  | cons y q =>
    obtain ⟨v0, v1, v', G', a1, a2, a3, a4, a5, a6, a7, a8, a9, a10, a11⟩ := hi.pop
    obtain ⟨cs, q1, q2⟩ := hw
    have hbi : B ∉ [I] := by rw [← a11]; exact hBI
    have q3 : G'.bk B = some ⟨cs, true⟩ := a7.bk hB hbi q1
    obtain ⟨H', st⟩ : ∃ H', G'.store B (o + 1) [v'] = some H' := ⟨_, store_bk (o := o + 1) (vs := [v']) q3 (by simp; omega)⟩
    obtain ⟨bv, ov, s1, s2, s3⟩ := hi.sees.at (i := 0) (by simp)
    simp at s3
    have ha' : alen vi = some (q.length + 1) := ha
    have hz : ¬ ((q.length : Int) + 1 = 0) := by omega
    have hz2 : ¬ ((q.length + 1 : Nat) : Int) = 0 := by omega
    have hl1 := hi.1
    simp at hl1 s1
    simp (disch := omega) [-AM.elems, l0, l1, ha', hz, s1, s3, a1, a2, a3, a4, a5, flat_cells a8, flat_tup a8, st]
    exact k2 y q rfl v' G' _ a6 a7 a11 (by have := a7.1; omega) st a8
end Go.Proofs.YtmecbehegmgbhaaGreat.AM
namespace Go.Proofs.YtmecbehegmgbhaaGreat.AM
set_option linter.unusedSimpArgs false
set_option linter.unusedVariables false
set_option maxRecDepth 100000
set_option maxHeartbeats 2000000
open Go
/-- The cells of mailboxes whose words lie in the slices of rs. -/
def cellsB : List Bx → List (AV × Nat) → List AV
  | x :: l, p :: r => .I x.room :: p.1 :: cellsB l r
  | _, _ => []
theorem cellsB_len : ∀ {l : List Bx} {r : List (AV × Nat)}, r.length = l.length → (cellsB l r).length = l.length * 2
  | [], [], _ => rfl
  | x :: l, p :: r, h => by have := cellsB_len (l := l) (r := r) (by simpa using h); simp [cellsB, this]; omega
  | [], p :: r, h => by simp at h
  | x :: l, [], h => by simp at h
theorem cellsB_get : ∀ {l : List Bx} {r : List (AV × Nat)} {i : Nat} {x : Bx} {p : AV × Nat}, l[i]? = some x → r[i]? = some p → seg (cellsB l r) (i * 2) 2 = some [.I x.room, p.1]
  | x :: l, p :: r, 0, _, _, h1, h2 => by simp at h1 h2; subst h1 h2; simp [cellsB, seg]
  | x :: l, p :: r, i + 1, y, q, h1, h2 => by
    have := cellsB_get (l := l) (r := r) (i := i) (by simpa using h1) (by simpa using h2)
    rw [← this]
    unfold seg
    rw [show (i + 1) * 2 = i * 2 + 2 by omega]
    simp only [cellsB, List.length_cons, List.drop_succ_cons]
    by_cases hq : i * 2 + 2 ≤ (cellsB l r).length
    · rw [if_pos (by omega), if_pos hq]
    · rw [if_neg (by omega), if_neg hq]
  | [], _, i, _, _, h1, _ => by simp at h1
  | _ :: _, [], i, _, _, _, h2 => by simp at h2
theorem cellsB_set : ∀ {l : List Bx} {r : List (AV × Nat)} {i : Nat} {x : Bx} {p : AV × Nat} {q : List Int} {v' : AV} {I' : Nat}, l[i]? = some x → r[i]? = some p → splice (cellsB l r) (i * 2 + 1) [v'] = cellsB (l.set i ⟨x.room, q⟩) (r.set i (v', I'))
  | x :: l, p :: r, 0, _, _, _, _, _, h1, h2 => by simp at h1 h2; subst h1 h2; simp [cellsB, splice]
  | x :: l, p :: r, i + 1, y, q', q, v', I', h1, h2 => by
    have := cellsB_set (l := l) (r := r) (i := i) (q := q) (v' := v') (I' := I') (by simpa using h1) (by simpa using h2)
    simp only [List.set_cons_succ, cellsB]
    rw [← this]
    unfold splice
    rw [show (i + 1) * 2 + 1 = i * 2 + 1 + 2 by omega, show i * 2 + 1 + 2 + [v'].length = i * 2 + 1 + [v'].length + 2 by simp]
    simp [List.take_succ_cons]
  | [], _, i, _, _, _, _, _, h1, _ => by simp at h1
  | _ :: _, [], i, _, _, _, _, _, _, h2 => by simp at h2
/-- Mailboxes that run: each with its own words' block. -/
def RB (base : Nat) (H : AH) (v : AV) (bs : List Bx) (B : Nat) (rs : List (AV × Nat)) : Prop :=
  rs.length = bs.length ∧ GrS base H v bs.length 2 (cellsB bs rs) B ∧ (∀ (i : Nat) (x : Bx) (p : AV × Nat), bs[i]? = some x → rs[i]? = some p → ISl base H p.1 x.items p.2 ∧ B ∉ grB p.1 p.2) ∧
    (∀ (i j : Nat) (p q : AV × Nat), i ≠ j → rs[i]? = some p → rs[j]? = some q → ∀ b ∈ grB p.1 p.2, b ∉ grB q.1 q.2) ∧ (bs = [] → v = .nils)
/-- The blocks that may be written when mailboxes change. -/
def fpB (B : Nat) (rs : List (AV × Nat)) : List Nat := if rs = [] then [] else B :: rs.flatMap fun p => grB p.1 p.2
theorem mem_fpB {B : Nat} {rs : List (AV × Nat)} {b : Nat} : b ∈ fpB B rs ↔ (rs ≠ [] ∧ b = B) ∨ ∃ p ∈ rs, b ∈ grB p.1 p.2 := by
  unfold fpB
  by_cases h : rs = []
  · simp [h]
  · simp [h]
theorem RB.onlyA {base H H' v bs B rs cs} (h : RB base H v bs B rs) (k : Only cs H H') (hc : ∀ b ∈ cs, b < base ∨ b ∉ fpB B rs) : RB base H' v bs B rs := by
  obtain ⟨h1, h2, h3, h4⟩ := h
  refine ⟨h1, ?_, fun i x p hx hp => ⟨(h3 i x p hx hp).1.only k fun b hb hm => ?_, (h3 i x p hx hp).2⟩, h4⟩
  · by_cases hbs : bs = []
    · have := h4.2 hbs
      subst this hbs
      exact ⟨h2.1, h2.2.1, .inl ⟨rfl, rfl⟩⟩
    refine h2.only k fun b hb => ?_
    rcases hc b hb with q | q
    · exact .inl q
    · exact .inr (fun e => q (by rw [e, mem_fpB]; exact .inl ⟨fun e => hbs (List.eq_nil_of_length_eq_zero (by rw [← h1, e]; rfl)), rfl⟩))
  · rcases hc b hb with q | q
    · have := (h3 i x p hx hp).1.mem hm; omega
    · exact q (mem_fpB.2 (.inr ⟨p, List.mem_of_getElem? hp, hm⟩))
theorem RB.only {base H H' v bs B rs cs} (h : RB base H v bs B rs) (k : Only cs H H') (hc : ∀ b ∈ cs, b < base ∨ b ∉ fpB B rs) (_ : bs ≠ []) : RB base H' v bs B rs := h.onlyA k hc
theorem ne_nil_of_get {α : Type} {l : List α} {i : Nat} {x : α} (h : l[i]? = some x) : l ≠ [] := by rintro rfl; simp at h
/-- The i-th mailbox. -/
theorem RB.at {base H v bs B rs} (h : RB base H v bs B rs) {i : Nat} {x : Bx} (hx : bs[i]? = some x) : ∃ p cap, rs[i]? = some p ∧ v = .sl B 0 bs.length cap ∧ base ≤ B ∧ B < H.n ∧ H.loadN B (i * 2) 2 = some [.I x.room, p.1] ∧ (∃ cs, H.bk B = some ⟨cs, true⟩ ∧ i * 2 + 2 ≤ cs.length) ∧ ISl base H p.1 x.items p.2 ∧ B ∉ grB p.1 p.2 := by
  obtain ⟨h1, h2, h3, h4⟩ := h
  have hi := (List.getElem?_eq_some_iff.1 hx).1
  obtain ⟨p, hp⟩ : ∃ p, rs[i]? = some p := ⟨_, List.getElem?_eq_getElem (by omega)⟩
  obtain ⟨q1, q2, q3⟩ := h2
  have hc := cellsB_get hx hp
  refine ⟨p, ?_⟩
  rcases q3 with ⟨_, q4⟩ | ⟨q4, q5, ⟨q6, q7⟩ | ⟨c, ex, q6, q7, q8, q9⟩⟩
  · omega
  · exact ⟨_, hp, q6, q4, q5, by rw [loadN_bk q7]; exact hc, ⟨_, q7, by omega⟩, h3 i x p hx hp⟩
  · refine ⟨_, hp, q6, q4, q5, ?_, ⟨_, q9, by simp; omega⟩, h3 i x p hx hp⟩
    rw [loadN_bk q9, ← hc]
    unfold seg
    rw [if_pos (by simp; omega), if_pos (by omega), List.drop_append_of_le_length (by omega), List.take_append_of_le_length (by simp; omega)]
/-- A mailbox's words have changed. -/
theorem RB.upd {base : Nat} {H H1 H' : AH} {v : AV} {bs : List Bx} {B : Nat} {rs : List (AV × Nat)} (h : RB base H v bs B rs) {i : Nat} {x : Bx} {p : AV × Nat} (hx : bs[i]? = some x) (hp : rs[i]? = some p) {v' : AV} {I' : Nat} {l : List Int}
    (hi : ISl base H1 v' l I') (hI : (I' = p.2 ∧ p.2 ∈ grB p.1 p.2) ∨ H.n ≤ I') (hb : base ≤ H.n) (ho : Only (grB p.1 p.2) H H1) (hst : H1.store B (i * 2 + 1) [v'] = some H') :
    RB base H' v (bs.set i ⟨x.room, l⟩) B (rs.set i (v', I')) ∧ Only (fpB B rs) H H' ∧ H'.n = H1.n := by
  have hat := h.at hx
  obtain ⟨p', cap, e1, e2, e3, e4, e5, e6, e7, e8⟩ := hat
  rw [hp] at e1; cases e1
  obtain ⟨h1, h2, h3, h4⟩ := h
  have hi' := (List.getElem?_eq_some_iff.1 hx).1
  have g1 : GrS base H1 v bs.length 2 (cellsB bs rs) B := h2.only ho (fun b hb => .inr (fun e => e8 (by rw [← e]; exact hb)))
  obtain ⟨cap', H2, f1, f2, f3, f4, f5, f6⟩ := g1.storeAt (o := i * 2 + 1) (c := [v']) (by simp) (by simp; omega)
  rw [hst] at f2
  cases f2
  have hn : H'.n = H1.n := by
    unfold AH.store at hst
    split at hst
    · split at hst
      · cases hst; rfl
      · cases hst
    · cases hst
  have hmem : ∀ b, b ∈ grB v' I' → b = I' ∧ base ≤ I' ∧ I' < H1.n := fun b hb => hi.mem hb
  have oldm : ∀ (j : Nat) (y : Bx) (q : AV × Nat), bs[j]? = some y → rs[j]? = some q → ∀ b ∈ grB q.1 q.2, b < H.n := fun j y q hy hq b hb => by have := (h3 j y q hy hq).1.mem hb; omega
  have hBI : B ∉ grB v' I' := fun hm => by
    have := hmem B hm
    rcases hI with q | q
    · exact e8 (by rw [this.1, q.1]; exact q.2)
    · omega
  have gety : ∀ j q, rs[j]? = some q → ∃ y, bs[j]? = some y := fun j q hq => ⟨_, List.getElem?_eq_getElem (by have := (List.getElem?_eq_some_iff.1 hq).1; omega)⟩
  refine ⟨⟨by simp [h1], ?_, fun j y q hy hq => ?_, fun j j' q q' hjj hq hq' b hb hb' => ?_, fun e => absurd ((List.set_eq_nil_iff ..).1 e) (ne_nil_of_get hx)⟩, ?_, hn⟩
  · rw [← cellsB_set hx hp]; simpa using f3
  · by_cases hj : j = i
    · subst hj
      rw [List.getElem?_set_self (by omega)] at hy
      rw [List.getElem?_set_self (by omega)] at hq
      cases hy; cases hq
      exact ⟨hi.only f4 (by simpa using hBI), hBI⟩
    · rw [List.getElem?_set_ne (by omega)] at hy hq
      obtain ⟨k1, k2⟩ := h3 j y q hy hq
      exact ⟨(k1.only ho (fun b hb hm => h4.1 i j p q (by omega) hp hq b hb hm)).only f4 (by simpa using k2), k2⟩
  · by_cases hj : j = i
    · subst hj
      rw [List.getElem?_set_self (by omega)] at hq
      cases hq
      rw [List.getElem?_set_ne (by omega)] at hq'
      have := hmem b hb
      obtain ⟨y', hy'⟩ := gety j' q' hq'
      rcases hI with q | q
      · exact h4.1 j j' p q' hjj hp hq' b (by rw [this.1, q.1]; exact q.2) hb'
      · have := oldm j' y' q' hy' hq' b hb'; omega
    · rw [List.getElem?_set_ne (by omega)] at hq
      by_cases hj' : j' = i
      · subst hj'
        rw [List.getElem?_set_self (by omega)] at hq'
        cases hq'
        have := hmem b hb'
        obtain ⟨y, hy⟩ := gety j q hq
        rcases hI with z | z
        · exact h4.1 j j' q p hjj hq hp b hb (by rw [this.1, z.1]; exact z.2)
        · have := oldm j y q hy hq b hb; omega
      · rw [List.getElem?_set_ne (by omega)] at hq'
        exact h4.1 j j' q q' hjj hq hq' b hb hb'
  · refine Only.trans ⟨ho.1, fun b hb hm => ho.2 b hb (fun hq => hm ?_)⟩ ⟨f4.1, fun b hb hm => f4.2 b hb (fun hq => hm ?_)⟩
    · exact mem_fpB.2 (.inr ⟨p, List.mem_of_getElem? hp, hq⟩)
    · exact mem_fpB.2 (.inl ⟨ne_nil_of_get hp, by simpa using hq⟩)
end Go.Proofs.YtmecbehegmgbhaaGreat.AM
namespace Go.Proofs.YtmecbehegmgbhaaGreat.AM
set_option linter.unusedSimpArgs false
set_option linter.unusedVariables false
set_option maxRecDepth 100000
set_option maxHeartbeats 2000000
open Go
theorem app_newI {H : AH} {b : Nat} {l : List Int} (hb : H.bk b = some ⟨[], true⟩) (hbn : b < H.n) {base : Nat} (hbb : base ≤ b) (hl : l.length ≤ 1000) : ∃ v H' B, aapp H 1 (.sl b 0 0 (.ex 0)) l.length (Ints l) = some (v, H') ∧ Ext H H' ∧ ISl base H' v l B ∧ v.flat = true := by
  by_cases h0 : l.length = 0
  · have : l = [] := List.eq_nil_of_length_eq_zero h0
    subst this
    exact ⟨.sl b 0 0 (.ex 0), H, b, by simp [aapp], Ext.refl _, ⟨by simp, .inr ⟨hbb, hbn, .inl ⟨rfl, rfl, hb⟩⟩⟩, rfl⟩
  · refine ⟨.sl H.n 0 l.length (.lb l.length 1), H.push (Ints l), H.n, ?_, Ext.push _ _, ⟨hl, .inr ⟨by omega, Nat.lt_succ_self _, .inr ⟨l.length, [], rfl, Nat.le_refl _, by simp, by rw [List.append_nil]; exact push_new⟩⟩⟩, rfl⟩
    unfold aapp
    simp only [if_neg h0, Nat.zero_add, Nat.zero_mul]
    rw [if_neg (show ¬ big < l.length by unfold big; omega)]
    have hs : H.loadN b 0 0 = some [] := by rw [loadN_bk hb]; rfl
    simp only [hs, List.nil_append]
    rw [if_neg (by omega)]
theorem K_cloneI {H : AH} {K : AV → AH → Prop} {w : Fk K} {v : AV} {l : List Int} (h : Src H v l) (hl : l.length ≤ 1000) (k : ∀ v' H' B, ISl H.n H' v' l B → Ext H H' → K v' H') : CallF Cd f_slices_Clone_int_int [v] H K w := by
  rw [CallF_eq e_slices_Clone_int_int rfl]
  have e1 := (h.ext (Ext.push H [])).elems
  have e2 := h.sees.1
  obtain ⟨h0, ⟨rfl, rfl⟩ | h'⟩ := h
  · simp
    exact k _ H 0 ⟨by simp, .inl ⟨rfl, rfl⟩⟩ (Ext.refl _)
  · obtain ⟨v', H', B, a1, a2, a3, a4⟩ := app_newI (l := l) (push_new (H := H) (cs := [])) (Nat.lt_succ_self _) (Nat.le_refl _) hl
    rcases h' with ⟨rfl, rfl⟩ | ⟨b1, o1, c1, rfl, _⟩
    · simp only [List.length_nil] at a1
      simp [-AM.elems, e1, e2, a1]
      exact k _ _ B a3 ((Ext.push _ _).trans a2)
    · simp [-AM.elems, e1, e2, a1]
      exact k _ _ B a3 ((Ext.push _ _).trans a2)
theorem cellsB_snoc : ∀ {l : List Bx} {r : List (AV × Nat)} {x : Bx} {p : AV × Nat}, r.length = l.length → cellsB l r ++ [.I x.room, p.1] = cellsB (l ++ [x]) (r ++ [p])
  | [], [], _, _, _ => rfl
  | y :: l, q :: r, x, p, h => by simp only [cellsB, List.cons_append, cellsB_snoc (l := l) (r := r) (x := x) (p := p) (by simpa using h)]
  | [], _ :: _, _, _, h => by simp at h
  | _ :: _, [], _, _, h => by simp at h
theorem R_iboxesCopy_l {l : List Bx} (hll : l.length ≤ 1000) (hit : ∀ x ∈ l, x.items.length ≤ 1000) {base : Nat} {v : AV}
    {Q : Out → Env → AH → Prop} (m i : Nat) (him : i + m = l.length) {G : AH} {g : AV} {B : Nat} {rs : List (AV × Nat)} (hb : base ≤ G.n) (hv : BV (fun b => b < base) G v l) (hg : RB base G g (l.take i) B rs)
    (hQ : ∀ G' g' B' rs', RB base G' g' l B' rs' → (∀ b, b < base → G'.bk b = G.bk b) → G.n ≤ G'.n → Q (.brk 0) [(9, .b false), (3, g'), (6, v), (7, .I l.length), (8, .I l.length)] G') :
    W Cd (.loop c_iboxesCopy_l0) [(3, g), (6, v), (7, .I l.length), (8, .I i)] G Q := by
  induction m generalizing i G g B rs with
  | zero =>
    rw [W_loop_as c_iboxesCopy_l0.eq_1]
    have hi : i = l.length := by omega
    subst hi
    simp
    rw [List.take_length] at hg
    exact hQ G g B rs hg (fun _ _ => rfl) (Nat.le_refl _)
  | succ m ihm =>
    rw [W_loop_as c_iboxesCopy_l0.eq_1]
    have hi : i < l.length := by omega
    obtain ⟨s, hs⟩ : ∃ s, l[i]? = some s := ⟨_, List.getElem?_eq_getElem hi⟩
    have hmem := List.mem_of_getElem? hs
    have htl : (l.take i).length = i := by simp; omega
    obtain ⟨b, o, cap, vi, e1, ob, hbn, l1, iv⟩ := hv.at hs
    have q0 : (G.push [.I s.room, vi]).bk G.n = some ⟨[.I s.room, vi], true⟩ := push_new
    have x0 := Ext.push G [.I s.room, vi]
    have hlt : (i : Int) < l.length := by omega
    subst e1
    simp (disch := omega) [hlt, l1, AH.store, push_put, load_bk q0]
    refine K_cloneI (iv.ext x0).src (hit s hmem) fun vi' H1 B1 g1 x1 => ?_
    have f1 := g1.flat
    have n1 := x1.1
    simp only [push_n] at n1
    have x7 := (x0.trans x1).trans (Ext.push H1 [.I s.room, vi'])
    obtain ⟨r1, r2, r3, r4⟩ := hg
    obtain ⟨g', G', B', a1, a2, a3, a4⟩ := (r2.ext x7).app (by simp; omega) (k := 1) (new := [.I s.room, vi']) rfl (by omega)
    have n4 := a4.1
    simp only [push_n] at n4 a3
    have hmB : ∀ b, b ∈ grB g B → b = B ∧ base ≤ B ∧ B < G.n := fun b hb => r2.mem hb
    have hB : (B' = B ∧ base ≤ B ∧ B < G.n ∧ B ∈ grB g B) ∨ B' = H1.n + 1 := by
      rcases a3 with q | q
      · exact .inl ⟨q.1, (hmB _ q.2).2.1, (hmB _ q.2).2.2, q.2⟩
      · exact .inr q
    have hm1 : ∀ b, b ∈ grB vi' B1 → b = B1 ∧ G.n + 1 ≤ B1 ∧ B1 < H1.n := fun b hb => by have := g1.mem hb; simpa using this
    have old : ∀ (j : Nat) (q : AV × Nat), rs[j]? = some q → ∃ y, (l.take i)[j]? = some y ∧ ISl base G q.1 y.items q.2 ∧ B ∉ grB q.1 q.2 := fun j q hq => by
      obtain ⟨y, hy⟩ : ∃ y, (l.take i)[j]? = some y := ⟨_, List.getElem?_eq_getElem (by have := (List.getElem?_eq_some_iff.1 hq).1; omega)⟩
      exact ⟨y, hy, r3 j y q hy hq⟩
    have oldm : ∀ (j : Nat) (q : AV × Nat), rs[j]? = some q → ∀ b ∈ grB q.1 q.2, b < G.n := fun j q hq b hb => by obtain ⟨y, _, h1, _⟩ := old j q hq; have := h1.mem hb; omega
    have hrl : rs.length = i := by rw [r1, htl]
    simp (disch := omega) [x1, flat_cells f1, flat_tup f1, loadN_push, a1]
    have hk : ∀ b, b < base → G'.bk b = G.bk b := fun b hb' => by
      rw [a4.2 b (by simp; omega) (fun hq => by have := hmB b hq; omega), x7.2 b (by omega)]
    have rb : RB base G' g' (l.take (i + 1)) B' (rs ++ [(vi', B1)]) := by
      rw [take_snoc hs]
      refine ⟨by simp [r1], ?_, fun j y q hy hq => ?_, fun j j' q q' hjj hq hq' b hb1 hb2 => ?_, fun e => by simp at e⟩
      · rw [← cellsB_snoc (by rw [r1])]; simpa using a2
      · by_cases hj : j < i
        · rw [List.getElem?_append_left (by omega)] at hy hq
          obtain ⟨k1, k2⟩ := r3 j y q hy hq
          refine ⟨(k1.only (bs := []) x7.only (by simp)).only a4 (fun b hb1 hb2 => k2 (by rw [← (hmB b hb1).1]; exact hb2)), fun hm => ?_⟩
          rcases hB with z | z
          · exact k2 (by rw [← z.1]; exact hm)
          · have := oldm j q hq _ hm; omega
        · have hj' : j = i := by
            have := (List.getElem?_eq_some_iff.1 hq).1
            rw [List.length_append, hrl, List.length_singleton] at this; omega
          subst hj'
          rw [List.getElem?_append_right (by omega), htl, Nat.sub_self] at hy
          rw [List.getElem?_append_right (by omega), hrl, Nat.sub_self] at hq
          simp at hy hq
          subst hy hq
          refine ⟨?_, fun hm => by have := hm1 _ hm; omega⟩
          have g2 : ISl base H1 vi' s.items B1 := by
            obtain ⟨z1, z2 | ⟨z3, z4⟩⟩ := g1
            · exact ⟨z1, .inl z2⟩
            · exact ⟨z1, .inr ⟨by have : G.n + 1 ≤ B1 := z3; omega, z4⟩⟩
          exact (g2.only (bs := []) (Ext.push H1 [.I s.room, vi']).only (by simp)).only a4 (fun b hb1 hb2 => by have := hmB b hb1; have := hm1 b hb2; omega)
      · have key : ∀ (j : Nat) (q : AV × Nat), (rs ++ [(vi', B1)])[j]? = some q → (j < i ∧ rs[j]? = some q) ∨ (j = i ∧ q = (vi', B1)) := fun j q hq => by
          by_cases hj : j < i
          · rw [List.getElem?_append_left (by omega)] at hq; exact .inl ⟨hj, hq⟩
          · have := (List.getElem?_eq_some_iff.1 hq).1
            rw [List.length_append, hrl, List.length_singleton] at this
            have hj' : j = i := by omega
            subst hj'
            rw [List.getElem?_append_right (by omega), hrl, Nat.sub_self] at hq
            simp at hq
            exact .inr ⟨rfl, hq.symm⟩
        rcases key j q hq with ⟨u1, u2⟩ | ⟨u1, rfl⟩ <;> rcases key j' q' hq' with ⟨w1, w2⟩ | ⟨w1, rfl⟩
        · exact r4.1 j j' q q' hjj u2 w2 b hb1 hb2
        · have := oldm j q u2 b hb1; have := hm1 b hb2; omega
        · have := oldm j' q' w2 b hb2; have := hm1 b hb1; omega
        · omega
    have := ihm (i + 1) (by omega) (G := G') (g := g') (B := B') (rs := rs ++ [(vi', B1)]) (by omega) (hv.mono (by omega) (fun b hb' _ => hk b hb') (fun _ h _ => h)) rb (fun G2 g2 B2 rs2 u1 u2 u3 => hQ G2 g2 B2 rs2 u1 (fun b hb' => (u2 b hb').trans (hk b hb')) (by omega))
    simpa using this
theorem R_iboxesCopy {ok : Nat → Prop} {H : AH} {K : AV → AH → Prop} {w : Fk K} {v : AV} {l : List Bx} (h : BV ok H v l) (hl : l.length ≤ 1000) (hit : ∀ x ∈ l, x.items.length ≤ 1000)
    (k : ∀ v' B rs H', RB H.n H' v' l B rs → Ext H H' → K v' H') : CallF Cd f_iboxesCopy [v] H K w := by
  rw [CallF_eq e_iboxesCopy rfl]
  have hbig := h.big
  simp (disch := omega) [h.alen]
  have := R_iboxesCopy_l hl hit (Q := ?_) l.length 0 (by omega) (base := H.n) (G := H) (g := .nils) (B := H.n) (rs := []) (v := v) (Nat.le_refl _)
    (h.mono (Nat.le_refl _) (fun b _ hb => rfl) (fun b _ hb => hb)) ⟨rfl, GrS.nils, by simp, by simp, fun _ => rfl⟩ ?_
  · simpa using this
  · intro G g B rs u1 u2 u3
    simp
    exact k g B rs G u1 ⟨u3, u2⟩
end Go.Proofs.YtmecbehegmgbhaaGreat.AM
namespace Go.Proofs.YtmecbehegmgbhaaGreat.AM
set_option linter.unusedSimpArgs false
set_option linter.unusedVariables false
set_option maxRecDepth 100000
set_option maxHeartbeats 2000000
open Go
/-- A task that runs: its struct in block R, its variables in block V, what waits at p; nothing of what waits lies in the blocks of M, which may be written. -/
def RunT (base : Nat) (M : List Nat) (H : AH) (R : Nat) (vv : AV) (V : Nat) (p : AV) (t : Tk) : Prop :=
  H.bk R = some ⟨[vv, p], true⟩ ∧ R < H.n ∧ base ≤ R ∧ GrS base H vv t.vars.length 1 (Ints t.vars) V ∧ R ≠ V ∧ V < H.n ∧ base ≤ V ∧ PL (fun b => b ≠ R ∧ b ≠ V ∧ b ∉ M) H p t.rest.list
/-- The event of a step, if there is one: its kind, mailbox and value. -/
def evS (t : Tk) (bs : List Bx) : Option (Int × Int × Int) :=
  match t.rest.list with
  | [] => none
  | s :: _ =>
    if s.k = 4 then (match bs[s.b.toNat]? with | some b => if b.items.length < b.room then some (1, s.b, evE t.vars s.e) else none | none => none)
    else if s.k = 5 then (match bs[s.b.toNat]? with | some b => (match b.items with | [] => none | y :: _ => some (2, s.b, y)) | none => none)
    else if s.k = 7 then some (3, 0, evE t.vars s.e) else none
theorem RunT.only {base M cs H H' R vv V p t} (h : RunT base M H R vv V p t) (k : Only cs H H') (hR : R ∉ cs) (hV : V ∉ cs) (hM : ∀ b ∈ cs, b ∈ M ∨ H.n ≤ b) : RunT base M H' R vv V p t := by
  obtain ⟨h1, h2, h3, h4, h5, h6, h7, h8⟩ := h
  exact ⟨k.bk h2 hR h1, Nat.lt_of_lt_of_le h2 k.1, h3, h4.only k (fun b hb => .inr (fun e => hV (by rw [← e]; exact hb))), h5, Nat.lt_of_lt_of_le h6 k.1, h7,
    h8.mono k.1 (fun b hb hb2 => k.2 b hb2 (fun hm => by rcases hM b hm with q | q; exact hb.2.2 q; omega)) (fun _ h _ => h)⟩
/-- The blocks of mailboxes. -/
theorem RB.mem' {base H v bs B rs} (h : RB base H v bs B rs) {b : Nat} (hb : b ∈ fpB B rs) : base ≤ b ∧ b < H.n := by
  rw [mem_fpB] at hb
  rcases hb with ⟨h1, rfl⟩ | ⟨p, hp, hb⟩
  · cases rs with
    | nil => exact absurd rfl h1
    | cons q rs =>
      cases bs with
      | nil => have := h.1; simp at this
      | cons x bs =>
        obtain ⟨_, _, _, _, e3, e4, _⟩ := h.at (i := 0) (x := x) rfl
        exact ⟨e3, e4⟩
  · obtain ⟨i, hi⟩ := List.getElem?_of_mem hp
    obtain ⟨y, hy⟩ : ∃ y, bs[i]? = some y := ⟨_, List.getElem?_eq_getElem (by rw [← h.1]; exact (List.getElem?_eq_some_iff.1 hi).1)⟩
    have := (h.2.2.1 i y p hy hi).1.mem hb
    omega
section
variable {H : AH} {K : AV → AH → Prop} {w : Fk K}
/-- The head of what waits. -/
theorem PL.head {ok : Nat → Prop} {p : AV} {s : St1} {r : List St1} (h : PL ok H p (s :: r)) : ∃ q sb so c nx, p = .ptr q 0 ∧ ok q ∧ q < H.n ∧ H.bk q = some ⟨[.ptr sb so, nx], true⟩ ∧ ok sb ∧ sb < H.n ∧ H.loadN sb so 8 = some c ∧ S1 ok H c s ∧ nx.flat = true ∧ PL ok H nx r := h
theorem K_irunning_step_end {base : Nat} {M : List Nat} {R V : Nat} {vv p vb fv : AV} {t : Tk} (h : RunT base M H R vv V p t) (hr : t.rest.list = []) (k : K (.I 4) H) : CallF Cd f_irunning_step [.ptr R 0, vb, fv] H K w := by
  rw [CallF_eq e_irunning_step rfl]
  obtain ⟨h1, h2, h3, h4, h5, h6, h7, h8⟩ := h
  rw [hr] at h8
  have : p = .nilp := h8
  subst this
  simp [load_bk h1]
  exact k
theorem K_irunning_step_yield {base : Nat} {M : List Nat} {R V : Nat} {vv p vb fv : AV} {t : Tk} {s : St1} {r : List St1} (h : RunT base M H R vv V p t) (hr : t.rest.list = s :: r) (hk : s.k = 6)
    (k : ∀ p' H', RunT base M H' R vv V p' ⟨t.vars, Sts.of r⟩ → Only [R] H H' → K (.I 2) H') : CallF Cd f_irunning_step [.ptr R 0, vb, fv] H K w := by
  rw [CallF_eq e_irunning_step rfl]
  have h' := h
  obtain ⟨h1, h2, h3, h4, h5, h6, h7, h8⟩ := h
  rw [hr] at h8
  obtain ⟨q, sb, so, c, nx, rfl, oq, hq, gq, osb, hsb, l1, s1, fnx, hp⟩ := h8.head
  obtain ⟨va, vy, vz, rfl, ea, ey, ez⟩ := s1
  have g0 := loadN_get l1 (i := 0) (by omega)
  simp at g0
  have st : H.store R 1 [nx] = some (H.put R (some ⟨[vv, nx], true⟩)) := store_bk h1 (by simp)
  rw [hk] at g0
  simp [load_bk h1, load_bk gq, g0, flat_cells fnx, flat_tup fnx, st]
  have o : Only [R] H (H.put R (some ⟨[vv, nx], true⟩)) := Only.refl.put (by simp)
  refine k nx _ ⟨put_same, by simpa using h2, h3, h4.only o (by simp; omega), h5, by simpa using h6, h7, ?_⟩ o
  rw [Sts.list_of]
  exact PL.mono (H := H) (H' := H.put R (some ⟨[vv, nx], true⟩)) (Nat.le_refl _) (fun b hb _ => by rw [put_bk, if_neg hb.1]) (fun _ h _ => h) hp
theorem loadN_part {H : AH} {b o : Nat} {c : List AV} (h : H.loadN b o 8 = some c) {j n : Nat} (hj : j + n ≤ 8) : H.loadN b (o + j) n = seg c j n := by
  unfold AH.loadN at h ⊢
  obtain ⟨k, hk, hs⟩ := Option.bind_eq_some_iff.1 h
  rw [hk]; exact seg_seg hs hj
theorem K_irunning_step_set {base : Nat} {M : List Nat} {R V : Nat} {vv p vb fv : AV} {t : Tk} {s : St1} {r : List St1} (h : RunT base M H R vv V p t) (hr : t.rest.list = s :: r) (hk : s.k = 1) (hoe : okE 5 s.e = true) (h44 : t.vars.length = 4) (hw : t.vars.all isW = true) (hsv : 0 ≤ s.v ∧ s.v < 4)
    (k : ∀ p' H', RunT base M H' R vv V p' ⟨t.vars.set s.v.toNat (evE t.vars s.e), Sts.of r⟩ → Only [R, V] H H' → K (.I 1) H') : CallF Cd f_irunning_step [.ptr R 0, vb, fv] H K w := by
  rw [CallF_eq e_irunning_step rfl]
  obtain ⟨h1, h2, h3, h4, h5, h6, h7, h8⟩ := h
  rw [hr] at h8
  obtain ⟨q, sb, so, c, nx, rfl, oq, hq, gq, osb, hsb, l1, s1, fnx, hp⟩ := h8.head
  obtain ⟨va, vy, vz, rfl, ea, ey, ez⟩ := s1
  have g0 := loadN_get l1 (i := 0) (by omega)
  have g1 := loadN_get l1 (i := 1) (by omega)
  have g3 : H.loadN sb (so + 3) 3 = some [.I s.e.op, .I s.e.n, va] := (loadN_part l1 (by omega)).trans rfl
  simp at g0 g1
  rw [hk] at g0
  simp [load_bk h1, load_bk gq, g0, g1]
  refine K_iexprEval s.e.args (d := 5) ea hsb g3 h4.iv.sees h44 hw hoe fun H1 x1 => ?_
  have ev : evE t.vars s.e = evE1 t.vars s.e.op s.e.n (evF t.vars s.e.args) := rfl
  rw [ev] at k
  generalize evE1 t.vars s.e.op s.e.n (evF t.vars s.e.args) = X at *
  have n1 := x1.1
  obtain ⟨cap, H2, rfl, s2, s3, s4, s5, s6⟩ := (h4.ext x1).store (i := s.v.toNat) (c := [.I X]) (by omega) rfl
  rw [Nat.mul_one] at s2
  have hR2 : H2.bk R = some ⟨[.sl V 0 t.vars.length cap, .ptr q 0], true⟩ := s4.bk (by omega) (by simp; exact h5) ((x1.2 R h2).trans h1)
  have st : H2.store R 1 [nx] = some (H2.put R (some ⟨[.sl V 0 t.vars.length cap, nx], true⟩)) := store_bk hR2 (by simp)
  simp (disch := omega) [x1, s2, flat_cells fnx, flat_tup fnx, st]
  have n2 := s4.1
  have o : Only [R, V] H (H2.put R (some ⟨[.sl V 0 t.vars.length cap, nx], true⟩)) := ((show Only [R, V] H H1 from ⟨n1, fun b hb _ => x1.2 b hb⟩).trans ⟨n2, fun b hb hm => s4.2 b hb (fun hq => hm (by simp at hq; simp [hq]))⟩).put (by simp)
  have oR : Only [R] H2 (H2.put R (some ⟨[.sl V 0 t.vars.length cap, nx], true⟩)) := Only.refl.put (by simp)
  have e3 : splice (Ints t.vars) (s.v.toNat * 1) [.I X] = Ints (t.vars.set s.v.toNat X) := by rw [Nat.mul_one]; exact Ints_set (by omega)
  rw [e3] at s3
  have hl : (t.vars.set s.v.toNat X).length = t.vars.length := by simp
  refine k nx _ ⟨?_, by simp; omega, h3, by rw [hl]; exact s3.only oR (by simp; omega), h5, by simp; omega, h7, ?_⟩ o
  · rw [put_same]
  · rw [Sts.list_of]
    exact PL.mono (H := H) (H' := H2.put R (some ⟨[.sl V 0 t.vars.length cap, nx], true⟩)) (by simp; omega) (fun b hb hb2 => o.2 b hb2 (by simp; exact ⟨hb.1, hb.2.1⟩)) (fun _ h _ => h) hp
theorem K_irunning_step_blk {base : Nat} {M : List Nat} {R V : Nat} {vv p vb fv : AV} {t : Tk} {s : St1} {r : List St1} (h : RunT base M H R vv V p t) (hM : ∀ b ∈ M, b < H.n) (hr : t.rest.list = s :: r) (hk : s.k = 2 ∨ s.k = 3) (hoe : okE 5 s.e = true) (h44 : t.vars.length = 4) (hw : t.vars.all isW = true)
    (k : ∀ p' H', RunT base M H' R vv V p' ⟨t.vars, blkR s r (evE t.vars s.e)⟩ → Only [R] H H' → K (.I 1) H') : CallF Cd f_irunning_step [.ptr R 0, vb, fv] H K w := by
  rw [CallF_eq e_irunning_step rfl]
  obtain ⟨h1, h2, h3, h4, h5, h6, h7, h8⟩ := h
  rw [hr] at h8
  have h8' := h8
  obtain ⟨q, sb, so, c, nx, rfl, oq, hq, gq, osb, hsb, l1, s1, fnx, hp⟩ := h8.head
  obtain ⟨va, vy, vz, rfl, ea, ey, ez⟩ := s1
  have g0 := loadN_get l1 (i := 0) (by omega)
  have g6 := loadN_get l1 (i := 6) (by omega)
  have g7 := loadN_get l1 (i := 7) (by omega)
  have g3 : H.loadN sb (so + 3) 3 = some [.I s.e.op, .I s.e.n, va] := (loadN_part l1 (by omega)).trans rfl
  simp at g0 g6 g7
  have ev : evE t.vars s.e = evE1 t.vars s.e.op s.e.n (evF t.vars s.e.args) := rfl
  have fin : ∀ (H2 : AH) (p' : AV) (l : List St1), Ext H H2 → PL (fun b => b ≠ R ∧ b ≠ V ∧ b ∉ M) H2 p' l → blkR s r (evE t.vars s.e) = Sts.of l → ∃ H3, H2.store R 1 [p'] = some H3 ∧ K (.I 1) H3 := by
    intro H2 p' l x2 hp2 he
    have n2 := x2.1
    have hR2 : H2.bk R = some ⟨[vv, .ptr q 0], true⟩ := (x2.2 R h2).trans h1
    have st : H2.store R 1 [p'] = some (H2.put R (some ⟨[vv, p'], true⟩)) := store_bk hR2 (by simp)
    refine ⟨_, st, ?_⟩
    have oR : Only [R] H2 (H2.put R (some ⟨[vv, p'], true⟩)) := Only.refl.put (by simp)
    refine k p' _ ⟨put_same, by simp; omega, h3, (h4.ext x2).only oR (by simp; omega), h5, by simp; omega, h7, ?_⟩ ((show Only [R] H H2 from ⟨n2, fun b hb _ => x2.2 b hb⟩).trans oR)
    rw [he, Sts.list_of]
    exact PL.mono (H := H2) (H' := H2.put R (some ⟨[vv, p'], true⟩)) (Nat.le_refl _) (fun b hb _ => by rw [put_bk, if_neg hb.1]) (fun _ h _ => h) hp2
  rw [ev] at fin
  have okn : ∀ (H1 : AH), H.n ≤ H1.n → ∀ b, H1.n ≤ b → b ≠ R ∧ b ≠ V ∧ b ∉ M := fun H1 hn b hb => ⟨by omega, by omega, fun hm => by have := hM b hm; omega⟩
  rcases hk with hk | hk
  · rw [hk] at g0
    simp [load_bk h1, load_bk gq, g0, g7]
    refine K_iexprEval s.e.args (d := 5) ea hsb g3 h4.iv.sees h44 hw hoe fun H1 x1 => ?_
    generalize evE1 t.vars s.e.op s.e.n (evF t.vars s.e.args) = X at *
    have n1 := x1.1
    have g6' : H1.load sb (so + 6) = some vy := by rw [load_ext x1 hsb]; exact g6
    by_cases hX : X = 0
    · simp [x1, hX]
      refine K_iahead (ok := fun b => b ≠ R ∧ b ≠ V ∧ b ∉ M) (f := s.els) (rs := r) H1.n (Nat.le_refl _) (okn H1 n1) (ez.ext x1) (hp.ext x1) fun p' H2 hp2 x2 => ?_
      obtain ⟨H3, e1, e2⟩ := fin H2 p' _ (x1.trans x2) hp2 (by simp [blkR, hk, hX])
      have fp := hp2.flat
      simp [x2, flat_cells fp, flat_tup fp, e1]
      exact e2
    · simp [x1, hX, g6']
      refine K_iahead (ok := fun b => b ≠ R ∧ b ≠ V ∧ b ∉ M) (f := s.body) (rs := r) H1.n (Nat.le_refl _) (okn H1 n1) (ey.ext x1) (hp.ext x1) fun p' H2 hp2 x2 => ?_
      obtain ⟨H3, e1, e2⟩ := fin H2 p' _ (x1.trans x2) hp2 (by simp [blkR, hk, hX])
      have fp := hp2.flat
      simp [x2, flat_cells fp, flat_tup fp, e1]
      exact e2
  · rw [hk] at g0
    simp [load_bk h1, load_bk gq, g0]
    refine K_iexprEval s.e.args (d := 5) ea hsb g3 h4.iv.sees h44 hw hoe fun H1 x1 => ?_
    generalize evE1 t.vars s.e.op s.e.n (evF t.vars s.e.args) = X at *
    have n1 := x1.1
    have g6' : H1.load sb (so + 6) = some vy := by rw [load_ext x1 hsb]; exact g6
    have h1' : H1.bk R = _ := (x1.2 R h2).trans h1
    by_cases hX : X = 0
    · obtain ⟨H3, e1, e2⟩ := fin H1 nx r x1 (hp.ext x1) (by simp [blkR, hk, hX])
      simp [x1, hX, flat_cells fnx, flat_tup fnx, e1]
      exact e2
    · simp [x1, hX, g6', load_bk h1']
      refine K_iahead (ok := fun b => b ≠ R ∧ b ≠ V ∧ b ∉ M) (f := s.body) (rs := s :: r) H1.n (Nat.le_refl _) (okn H1 n1) (ey.ext x1) (h8'.ext x1) fun p' H2 hp2 x2 => ?_
      obtain ⟨H3, e1, e2⟩ := fin H2 p' _ (x1.trans x2) hp2 (by simp [blkR, hk, hX])
      have fp := hp2.flat
      simp [x2, flat_cells fp, flat_tup fp, e1]
      exact e2
/-- What is told may be told: where P holds, the call comes back, TI holds, and only the blocks of tb are written. -/
def TellOk (ft : FuncId) (cap : List AV) (tb : List Nat) (P : AH → Prop) (TI : Int × Int × Int → AH → AH → Prop) : Prop :=
  ∀ (kd bx x : Int) (H1 : AH) (K1 : AV → AH → Prop) (w1 : Fk K1), P H1 → (∀ H2, TI (kd, bx, x) H1 H2 → Only tb H1 H2 → K1 (.tup []) H2) → CallF Cd ft (.I kd :: .I bx :: .I x :: cap) H1 K1 w1
theorem K_irunning_step_print {base : Nat} {M : List Nat} {R V : Nat} {vv p vb : AV} {t : Tk} {s : St1} {r : List St1} {ft : FuncId} {cap : List AV} {tb : List Nat} {P : AH → Prop} {TI : Int × Int × Int → AH → AH → Prop}
    (h : RunT base M H R vv V p t) (hr : t.rest.list = s :: r) (hk : s.k = 7) (hoe : okE 5 s.e = true) (h44 : t.vars.length = 4) (hw : t.vars.all isW = true)
    (hT : TellOk ft cap tb P TI) (hP : ∀ H1, Ext H H1 → P H1) (hRt : R ∉ tb) (hVt : V ∉ tb) (htM : ∀ b ∈ tb, b ∈ M)
    (k : ∀ p' H1 H2 H', (∀ M2 : List Nat, (∀ b ∈ M2, b ∈ M ∨ H.n ≤ b) → RunT base M2 H' R vv V p' ⟨t.vars, Sts.of r⟩) → Ext H H1 → TI (3, 0, evE t.vars s.e) H1 H2 → Only tb H1 H2 → Only [R] H2 H' → K (.I 1) H') : CallF Cd f_irunning_step [.ptr R 0, vb, .fn ft [] cap] H K w := by
  rw [CallF_eq e_irunning_step rfl]
  have h' := h
  obtain ⟨h1, h2, h3, h4, h5, h6, h7, h8⟩ := h
  rw [hr] at h8
  obtain ⟨q, sb, so, c, nx, rfl, oq, hq, gq, osb, hsb, l1, s1, fnx, hp⟩ := h8.head
  obtain ⟨va, vy, vz, rfl, ea, ey, ez⟩ := s1
  have g0 := loadN_get l1 (i := 0) (by omega)
  have g3 : H.loadN sb (so + 3) 3 = some [.I s.e.op, .I s.e.n, va] := (loadN_part l1 (by omega)).trans rfl
  simp at g0
  rw [hk] at g0
  simp [load_bk h1, load_bk gq, g0]
  refine K_iexprEval s.e.args (d := 5) ea hsb g3 h4.iv.sees h44 hw hoe fun H1 x1 => ?_
  have ev : evE t.vars s.e = evE1 t.vars s.e.op s.e.n (evF t.vars s.e.args) := rfl
  rw [ev] at k
  generalize evE1 t.vars s.e.op s.e.n (evF t.vars s.e.args) = X at *
  have n1 := x1.1
  simp [x1]
  refine hT 3 0 X H1 _ _ (hP H1 x1) fun H2 ti o2 => ?_
  have n2 := o2.1
  have hR2 : H2.bk R = some ⟨[vv, .ptr q 0], true⟩ := o2.bk (by omega) hRt ((x1.2 R h2).trans h1)
  have st : H2.store R 1 [nx] = some (H2.put R (some ⟨[vv, nx], true⟩)) := store_bk hR2 (by simp)
  simp [flat_cells fnx, flat_tup fnx, st]
  have oR : Only [R] H2 (H2.put R (some ⟨[vv, nx], true⟩)) := Only.refl.put (by simp)
  refine k nx H1 H2 _ (fun M2 hM2 => ⟨put_same, by simp; omega, h3, ((h4.ext x1).only o2 (fun b hb => .inr (fun e => hVt (by rw [← e]; exact hb)))).only oR (by simp; omega), h5, by simp; omega, h7, ?_⟩) x1 ti o2 oR
  rw [Sts.list_of]
  exact PL.mono (H := H) (H' := H2.put R (some ⟨[vv, nx], true⟩)) (by simp; omega) (fun b hb hb2 => by rw [put_bk, if_neg hb.1, o2.2 b (by omega) (fun hm => hb.2.2 (htM b hm)), x1.2 b hb2]) (fun b hb hb2 => ⟨hb.1, hb.2.1, fun hm => by rcases hM2 b hm with q | q; exact hb.2.2 q; omega⟩) hp
theorem grB_sub {v : AV} {I b : Nat} (h : b ∈ grB v I) : b = I := by
  cases v <;> simp [grB] at h <;> exact h
theorem fpB_set {B : Nat} {rs : List (AV × Nat)} {i : Nat} {v' : AV} {I' b : Nat} (h : b ∈ fpB B (rs.set i (v', I'))) : b ∈ fpB B rs ∨ b = I' := by
  rw [mem_fpB] at h ⊢
  rcases h with h | ⟨p, hp, hb⟩
  · exact .inl (.inl ⟨fun e => h.1 (by rw [e]; rfl), h.2⟩)
  · rcases List.mem_or_eq_of_mem_set hp with q | q
    · exact .inl (.inr ⟨p, q, hb⟩)
    · subst q; exact .inr (grB_sub hb)
theorem K_irunning_step_send {base : Nat} {M : List Nat} {R V : Nat} {vv p vb : AV} {t : Tk} {s : St1} {r : List St1} {ft : FuncId} {cap : List AV} {tb : List Nat} {P : AH → Prop} {TI : Int × Int × Int → AH → AH → Prop} {bs : List Bx} {B : Nat} {rs : List (AV × Nat)} {bx : Bx}
    (h : RunT base M H R vv V p t) (hr : t.rest.list = s :: r) (hk : s.k = 4) (hoe : okE 5 s.e = true) (h44 : t.vars.length = 4) (hw : t.vars.all isW = true) (hsb : 0 ≤ s.b) (hbase : base ≤ H.n)
    (hb : RB base H vb bs B rs) (hbx : bs[s.b.toNat]? = some bx) (hroom : bx.items.length ≤ bx.room ∧ bx.room ≤ 100) (hbl : bs.length ≤ 1000)
    (hRf : R ∉ fpB B rs) (hVf : V ∉ fpB B rs) (hfM : ∀ b ∈ fpB B rs, b ∈ M) (htf : ∀ b ∈ tb, b ∉ fpB B rs) (htn : ∀ b ∈ tb, b < H.n)
    (hT : TellOk ft cap tb P TI) (hP : ∀ H1, Only (fpB B rs) H H1 → P H1) (hRt : R ∉ tb) (hVt : V ∉ tb) (htM : ∀ b ∈ tb, b ∈ M)
    (k1 : (bx.items.length : Int) = bx.room → ∀ H1, Ext H H1 → K (.I 3) H1)
    (k2 : (bx.items.length : Int) < bx.room → ∀ p' rs' H1 H2 H', (∀ M2 : List Nat, (∀ b ∈ M2, b ∈ M ∨ H.n ≤ b) → RunT base M2 H' R vv V p' ⟨t.vars, Sts.of r⟩) → RB base H' vb (bs.set s.b.toNat ⟨bx.room, bx.items ++ [evE t.vars s.e]⟩) B rs' → (∀ b ∈ fpB B rs', b ∈ fpB B rs ∨ H.n ≤ b ∧ b < H1.n) →
      Only (fpB B rs) H H1 → TI (1, s.b, evE t.vars s.e) H1 H2 → Only tb H1 H2 → Only [R] H2 H' → K (.I 1) H') : CallF Cd f_irunning_step [.ptr R 0, vb, .fn ft [] cap] H K w := by
  rw [CallF_eq e_irunning_step rfl]
  obtain ⟨h1, h2, h3, h4, h5, h6, h7, h8⟩ := h
  rw [hr] at h8
  obtain ⟨q, sb, so, c, nx, rfl, oq, hq, gq, osb, hsb', l1, s1, fnx, hp⟩ := h8.head
  obtain ⟨va, vy, vz, rfl, ea, ey, ez⟩ := s1
  have g0 := loadN_get l1 (i := 0) (by omega)
  have g2 := loadN_get l1 (i := 2) (by omega)
  have g3 : H.loadN sb (so + 3) 3 = some [.I s.e.op, .I s.e.n, va] := (loadN_part l1 (by omega)).trans rfl
  simp at g0 g2
  rw [hk] at g0
  simp [load_bk h1, load_bk gq, g0]
  refine K_iexprEval s.e.args (d := 5) ea hsb' g3 h4.iv.sees h44 hw hoe fun H1 x1 => ?_
  have ev : evE t.vars s.e = evE1 t.vars s.e.op s.e.n (evF t.vars s.e.args) := rfl
  rw [ev] at k2
  generalize evE1 t.vars s.e.op s.e.n (evF t.vars s.e.args) = X at *
  have n1 := x1.1
  have hi := (List.getElem?_eq_some_iff.1 hbx).1
  have hne : bs ≠ [] := fun e => by rw [e] at hi; simp at hi
  have hb1 : RB base H1 vb bs B rs := hb.only x1.only (cs := []) (by simp) hne
  obtain ⟨pr, bcap, e1, e2, e3, e4, e5, e6, e7, e8⟩ := hb1.at hbx
  have g2' : H1.load sb (so + 2) = some (.I s.b) := by rw [load_ext x1 hsb']; exact g2
  subst e2
  simp (disch := omega) [x1, g2']
  refine K_iBox_put e5 e4 e6 e7 (by omega) e8 hroom (fun hq => ?_) (fun hlt v' I' H2 H3 i1 i2 i3 i4 i5 i6 i7 => ?_)
  · simp
    exact k1 hq H1 x1
  · obtain ⟨u1, u2, u3⟩ := hb1.upd hbx e1 i1 i2 (by omega) i3 i6
    have o3 : Only (fpB B rs) H H3 := (show Only (fpB B rs) H H1 from ⟨n1, fun b hb _ => x1.2 b hb⟩).trans u2
    have n3 := o3.1
    have hsf : sb ∉ fpB B rs := fun hm => osb.2.2 (hfM sb hm)
    have g2'' : H3.load sb (so + 2) = some (.I s.b) := by unfold AH.load at g2' ⊢; rw [u2.2 sb (by omega) hsf]; exact g2'
    simp [g2'']
    refine hT 1 s.b X H3 _ _ (hP H3 o3) fun H4 ti o4 => ?_
    have n4 := o4.1
    have hR4 : H4.bk R = some ⟨[vv, .ptr q 0], true⟩ := o4.bk (by omega) hRt (o3.bk h2 hRf h1)
    have st : H4.store R 1 [nx] = some (H4.put R (some ⟨[vv, nx], true⟩)) := store_bk hR4 (by simp)
    simp [flat_cells fnx, flat_tup fnx, st]
    have oR : Only [R] H4 (H4.put R (some ⟨[vv, nx], true⟩)) := Only.refl.put (by simp)
    have hI : I' ∈ M ∨ H.n ≤ I' := by
      rcases i2 with z | z
      · refine .inl (hfM I' ?_)
        rw [mem_fpB]
        exact .inr ⟨pr, List.mem_of_getElem? e1, by rw [z.1]; exact z.2⟩
      · exact .inr (by omega)
    have hIf : ∀ b, b ∈ fpB B (rs.set s.b.toNat (v', I')) → b ∈ fpB B rs ∨ H.n ≤ b := fun b hb => by
      rcases fpB_set hb with z | z
      · exact .inl z
      · subst z
        rcases i2 with y | y
        · refine .inl ?_
          rw [mem_fpB]
          exact .inr ⟨pr, List.mem_of_getElem? e1, by rw [y.1]; exact y.2⟩
        · exact .inr (by omega)
    have hne' : bs.set s.b.toNat (⟨bx.room, bx.items ++ [X]⟩ : Bx) ≠ [] := fun e => by
      have := congrArg List.length e
      simp at this; exact hne this
    have rb4 := (u1.only o4 (fun b hb => .inr (fun hm => by rcases hIf b hm with z | z; exact htf b hb z; have := htn b hb; omega)) hne').only oR (fun b hb => .inr (fun hm => by
      simp at hb; subst hb
      rcases hIf b hm with z | z
      · exact hRf z
      · omega)) hne'
    refine k2 hlt nx _ H3 H4 _ (fun M2 hM2 => ⟨put_same, by simp; omega, h3, ((h4.only o3 (fun b hb => .inr (fun e => hVf (by rw [← e]; exact hb)))).only o4 (fun b hb => .inr (fun e => hVt (by rw [← e]; exact hb)))).only oR (by simp; omega), h5, by simp; omega, h7, ?_⟩) rb4 (fun b hb => ?_) o3 ti o4 oR
    · rw [Sts.list_of]
      exact PL.mono (H := H) (H' := H4.put R (some ⟨[vv, nx], true⟩)) (by simp; omega) (fun b hb hb2 => by rw [put_bk, if_neg hb.1, o4.2 b (by omega) (fun hm => hb.2.2 (htM b hm)), o3.2 b hb2 (fun hm => hb.2.2 (hfM b hm))]) (fun b hb hb2 => ⟨hb.1, hb.2.1, fun hm => by rcases hM2 b hm with q | q; exact hb.2.2 q; omega⟩) hp
    · rcases hIf b hb with z | z
      · exact .inl z
      · exact .inr ⟨z, (u1.mem' hb).2⟩
theorem K_irunning_step_recv {base : Nat} {M : List Nat} {R V : Nat} {vv p vb : AV} {t : Tk} {s : St1} {r : List St1} {ft : FuncId} {cap : List AV} {tb : List Nat} {P : AH → Prop} {TI : Int × Int × Int → AH → AH → Prop} {bs : List Bx} {B : Nat} {rs : List (AV × Nat)} {bx : Bx}
    (h : RunT base M H R vv V p t) (hr : t.rest.list = s :: r) (hk : s.k = 5) (h44 : t.vars.length = 4) (hsv : 0 ≤ s.v ∧ s.v < 4) (hsb : 0 ≤ s.b) (hbase : base ≤ H.n)
    (hb : RB base H vb bs B rs) (hbx : bs[s.b.toNat]? = some bx) (hbl : bs.length ≤ 1000)
    (hRf : R ∉ fpB B rs) (hVf : V ∉ fpB B rs) (hfM : ∀ b ∈ fpB B rs, b ∈ M) (htf : ∀ b ∈ tb, b ∉ fpB B rs) (htn : ∀ b ∈ tb, b < H.n)
    (hT : TellOk ft cap tb P TI) (hP : ∀ H1, Only (V :: fpB B rs) H H1 → P H1) (hRt : R ∉ tb) (hVt : V ∉ tb) (htM : ∀ b ∈ tb, b ∈ M)
    (k1 : bx.items = [] → K (.I 3) H)
    (k2 : ∀ y q, bx.items = y :: q → ∀ p' rs' H1 H2 H', (∀ M2 : List Nat, (∀ b ∈ M2, b ∈ M ∨ H.n ≤ b) → RunT base M2 H' R vv V p' ⟨t.vars.set s.v.toNat y, Sts.of r⟩) → RB base H' vb (bs.set s.b.toNat ⟨bx.room, q⟩) B rs' → (∀ b ∈ fpB B rs', b ∈ fpB B rs) →
      Only (V :: fpB B rs) H H1 → TI (2, s.b, y) H1 H2 → Only tb H1 H2 → Only [R] H2 H' → K (.I 1) H') : CallF Cd f_irunning_step [.ptr R 0, vb, .fn ft [] cap] H K w := by
  rw [CallF_eq e_irunning_step rfl]
  obtain ⟨h1, h2, h3, h4, h5, h6, h7, h8⟩ := h
  rw [hr] at h8
  obtain ⟨q, sb, so, c, nx, rfl, oq, hq, gq, osb, hsb', l1, s1, fnx, hp⟩ := h8.head
  obtain ⟨va, vy, vz, rfl, ea, ey, ez⟩ := s1
  have g0 := loadN_get l1 (i := 0) (by omega)
  have g1 := loadN_get l1 (i := 1) (by omega)
  have g2 := loadN_get l1 (i := 2) (by omega)
  simp at g0 g1 g2
  rw [hk] at g0
  have hi := (List.getElem?_eq_some_iff.1 hbx).1
  have hne : bs ≠ [] := fun e => by rw [e] at hi; simp at hi
  obtain ⟨pr, bcap, e1, e2, e3, e4, e5, e6, e7, e8⟩ := hb.at hbx
  subst e2
  simp (disch := omega) [load_bk h1, load_bk gq, g0, g2]
  refine K_iBox_take e5 e4 e6 e7 e8 (fun hq => ?_) (fun y qq hyq v' H2 H3 i1 i3 i4 i5 i6 i7 => ?_)
  · simp
    exact k1 hq
  · have i3' : Only (grB pr.1 pr.2) H H2 := by rw [i4]; exact i3
    obtain ⟨u1, u2, u3⟩ := hb.upd hbx e1 i1 (.inl ⟨rfl, by rw [i4]; simp⟩) hbase i3' i6
    have n3 := u2.1
    have hsf : sb ∉ fpB B rs := fun hm => osb.2.2 (hfM sb hm)
    have g1'' : H3.load sb (so + 1) = some (.I s.v) := by unfold AH.load at g1 ⊢; rw [u2.2 sb hsb' hsf]; exact g1
    have hR3 : H3.bk R = some ⟨[vv, .ptr q 0], true⟩ := u2.bk h2 hRf h1
    obtain ⟨cap', H4, rfl, s2, s3, s4, s5, s6⟩ := (h4.only u2 (fun b hb => .inr (fun e => hVf (by rw [← e]; exact hb)))).store (i := s.v.toNat) (c := [.I y]) (by omega) rfl
    rw [Nat.mul_one] at s2
    have n4 := s4.1
    have g2'' : H4.load sb (so + 2) = some (.I s.b) := by
      unfold AH.load at g2 ⊢
      rw [s4.2 sb (by omega) (by simp; exact osb.2.1), u2.2 sb hsb' hsf]; exact g2
    have o4 : Only (V :: fpB B rs) H H4 := ⟨by omega, fun b hb hm => by
      simp only [List.mem_cons, not_or] at hm
      rw [s4.2 b (by omega) (by simp; exact hm.1), u2.2 b hb hm.2]⟩
    simp (disch := omega) [load_bk hR3, g1'', s2, g2'']
    refine hT 2 s.b y H4 _ _ (hP H4 o4) fun H5 ti o5 => ?_
    have n5 := o5.1
    have hR5 : H5.bk R = some ⟨[.sl V 0 t.vars.length cap', .ptr q 0], true⟩ := o5.bk (by omega) hRt (s4.bk (by omega) (by simp; exact h5) hR3)
    have st : H5.store R 1 [nx] = some (H5.put R (some ⟨[.sl V 0 t.vars.length cap', nx], true⟩)) := store_bk hR5 (by simp)
    simp [flat_cells fnx, flat_tup fnx, st]
    have oR : Only [R] H5 (H5.put R (some ⟨[.sl V 0 t.vars.length cap', nx], true⟩)) := Only.refl.put (by simp)
    have hIf : ∀ b, b ∈ fpB B (rs.set s.b.toNat (v', pr.2)) → b ∈ fpB B rs := fun b hb => by
      rcases fpB_set hb with z | z
      · exact z
      · subst z
        rw [mem_fpB]
        exact .inr ⟨pr, List.mem_of_getElem? e1, by rw [i4]; simp⟩
    have hne' : bs.set s.b.toNat (⟨bx.room, qq⟩ : Bx) ≠ [] := fun e => by
      have := congrArg List.length e
      simp at this; exact hne this
    have rb5 := ((u1.only s4 (fun b hb => .inr (fun hm => by simp at hb; subst hb; exact hVf (hIf _ hm))) hne').only o5 (fun b hb => .inr (fun hm => htf b hb (hIf b hm))) hne').only oR (fun b hb => .inr (fun hm => by
      simp at hb; subst hb; exact hRf (hIf _ hm))) hne'
    have e9 : splice (Ints t.vars) (s.v.toNat * 1) [.I y] = Ints (t.vars.set s.v.toNat y) := by rw [Nat.mul_one]; exact Ints_set (by omega)
    rw [e9] at s3
    have hl : (t.vars.set s.v.toNat y).length = t.vars.length := by simp
    refine k2 y qq hyq nx _ H4 H5 _ (fun M2 hM2 => ⟨put_same, by simp; omega, h3, by rw [hl]; exact (s3.only o5 (fun b hb => .inr (fun e => hVt (by rw [← e]; exact hb)))).only oR (by simp; omega), h5, by simp; omega, h7, ?_⟩) rb5 (fun b hb => hIf b hb) o4 ti o5 oR
    rw [Sts.list_of]
    exact PL.mono (H := H) (H' := H5.put R (some ⟨[.sl V 0 t.vars.length cap', nx], true⟩)) (by simp; omega) (fun b hb hb2 => by rw [put_bk, if_neg hb.1, o5.2 b (by omega) (fun hm => hb.2.2 (htM b hm)), o4.2 b hb2 (fun hm => by rcases List.mem_cons.1 hm with z | z; exact hb.2.1 z; exact hb.2.2 (hfM b z))]) (fun b hb hb2 => ⟨hb.1, hb.2.1, fun hm => by rcases hM2 b hm with q | q; exact hb.2.2 q; omega⟩) hp
end
end Go.Proofs.YtmecbehegmgbhaaGreat.AM
namespace Go.Proofs.YtmecbehegmgbhaaGreat.AM
set_option linter.unusedSimpArgs false
set_option linter.unusedVariables false
set_option maxRecDepth 100000
set_option maxHeartbeats 2000000
open Go
/-- What is printed by one step lies behind the cell in block PB. -/
def PrI (PB : Nat) (e : Int × Int × Int) (H1 H2 : AH) : Prop :=
  PB < H2.n ∧ ∃ v, H2.bk PB = some ⟨[v], true⟩ ∧ v.flat = true ∧ IV (fun b => H1.n ≤ b) H2 v (if e.1 = 3 then [e.2.2] else [])
end Go.Proofs.YtmecbehegmgbhaaGreat.AM
namespace Go.Proofs.YtmecbehegmgbhaaGreat.AM
set_option linter.unusedSimpArgs false
set_option linter.unusedVariables false
set_option maxRecDepth 100000
set_option maxHeartbeats 2000000
open Go
/-- Blocks that were not there before may be written, too. -/
theorem RunT.more {base M M' H R vv V p t} (h : RunT base M H R vv V p t) (hM : ∀ b ∈ M', b ∈ M ∨ H.n ≤ b) : RunT base M' H R vv V p t := by
  obtain ⟨h1, h2, h3, h4, h5, h6, h7, h8⟩ := h
  exact ⟨h1, h2, h3, h4, h5, h6, h7, h8.mono (Nat.le_refl _) (fun _ _ _ => rfl) (fun b hb hn => ⟨hb.1, hb.2.1, fun hm => by rcases hM b hm with q | q; exact hb.2.2 q; omega⟩)⟩
/-- Only a part of the blocks. -/
theorem Only.mono {bs cs H H'} (h : Only bs H H') (k : ∀ b ∈ bs, b ∈ cs ∨ H.n ≤ b) : Only cs H H' := ⟨h.1, fun b hb hm => h.2 b hb (fun q => by rcases k b q with q | q; exact hm q; omega)⟩
/-- What is told of a step. -/
def Told (TI : Int × Int × Int → AH → AH → Prop) (tb : List Nat) (e : Option (Int × Int × Int)) (H1 H2 : AH) : Prop :=
  match e with
  | none => H2 = H1
  | some e => TI e H1 H2 ∧ Only tb H1 H2
theorem vaBs_facts {l : List Bx} (h : vaBs l = true) : l.length ≤ 3 ∧ ∀ x ∈ l, 1 ≤ x.room ∧ x.room ≤ 4 ∧ (x.items.length : Int) ≤ x.room ∧ x.items.all isW = true := by
  unfold vaBs at h
  simp only [Bool.and_eq_true, decide_eq_true_eq] at h
  refine ⟨h.2, fun x hx => ?_⟩
  have := List.all_eq_true.1 h.1 x hx
  unfold vaB at this
  simp only [Bool.and_eq_true, decide_eq_true_eq] at this
  exact ⟨this.1.1, this.1.2.1, this.1.2.2, this.2⟩
section
variable {H : AH} {K : AV → AH → Prop} {w : Fk K}
theorem K_irunning_step {base : Nat} {M : List Nat} {R V : Nat} {vv p vb : AV} {t : Tk} {ft : FuncId} {cap : List AV} {tb : List Nat} {P : AH → Prop} {TI : Int × Int × Int → AH → AH → Prop} {bs : List Bx} {B : Nat} {rs : List (AV × Nat)}
    (h : RunT base M H R vv V p t) (hM : ∀ b ∈ M, b < H.n) (hva : vaT 3 t = true) (hbase : base ≤ H.n) (hb : RB base H vb bs B rs) (hbs : vaBs bs = true) (hrd : rdT t bs.length = true)
    (hRf : R ∉ fpB B rs) (hVf : V ∉ fpB B rs) (hfM : ∀ b ∈ fpB B rs, b ∈ M) (htf : ∀ b ∈ tb, b ∉ fpB B rs) (htn : ∀ b ∈ tb, b < H.n)
    (hT : TellOk ft cap tb P TI) (hP : ∀ H1, Only (V :: fpB B rs) H H1 → P H1) (hRt : R ∉ tb) (hVt : V ∉ tb) (htM : ∀ b ∈ tb, b ∈ M)
    (k : ∀ p' rs' H1 H2 H', (∀ M2 : List Nat, (∀ b ∈ M2, b ∈ M ∨ (H1.n ≤ b ∧ b < H2.n) ∨ b ∈ fpB B rs') → RunT base M2 H' R vv V p' (stepP t bs).1) → RB base H' vb (stepP t bs).2.1 B rs' → (∀ b ∈ fpB B rs', b ∈ fpB B rs ∨ H.n ≤ b ∧ b < H1.n) →
      Only (V :: fpB B rs) H H1 → Told TI tb (evS t bs) H1 H2 → Only [R, V] H2 H' → K (.I (stepP t bs).2.2.2) H') : CallF Cd f_irunning_step [.ptr R 0, vb, .fn ft [] cap] H K w := by
  obtain ⟨f1, f2, f3, f4⟩ := vaT_facts hva
  obtain ⟨g1, g2⟩ := vaBs_facts hbs
  have plain : ∀ (H' : AH) (p' : AV) (t' : Tk), RunT base M H' R vv V p' t' → ∀ M2 : List Nat, (∀ b ∈ M2, b ∈ M ∨ (H.n ≤ b ∧ b < H.n) ∨ b ∈ fpB B rs) → RunT base M2 H' R vv V p' t' := fun H' p' t' r M2 hM2 => r.more (fun b hb => by
    rcases hM2 b hb with q | q | q
    · exact .inl q
    · omega
    · exact .inl (hfM b q))
  cases hr : t.rest.list with
  | nil =>
    refine K_irunning_step_end h hr ?_
    have e1 : stepP t bs = (t, bs, [], 4) := by unfold stepP; rw [hr]
    have e2 : evS t bs = none := by unfold evS; rw [hr]
    rw [e1, e2] at k
    exact k p rs H H H (plain _ _ _ h) hb (fun b hb => .inl hb) Only.refl rfl Only.refl
  | cons s r =>
    obtain ⟨q1, q2, q3, q4, q5⟩ := okT_facts (f3 s (by rw [hr]; exact List.mem_cons_self)).1
    have hcase : s.k = 1 ∨ s.k = 2 ∨ s.k = 3 ∨ s.k = 4 ∨ s.k = 5 ∨ s.k = 6 ∨ s.k = 7 := by omega
    rcases hcase with k1 | k2 | k3 | k4 | k5 | k6 | k7
    · have e1 : stepP t bs = (⟨t.vars.set s.v.toNat (evE t.vars s.e), Sts.of r⟩, bs, [], 1) := by unfold stepP; rw [hr]; simp [k1]
      have e2 : evS t bs = none := by unfold evS; rw [hr]; simp [k1]
      rw [e1, e2] at k
      refine K_irunning_step_set h hr k1 (q2 (by omega) (by omega)) f1 f2 (q3 (by omega)) fun p' H' r1 o1 => ?_
      exact k p' rs H H H' (plain _ _ _ r1) (hb.onlyA o1 (fun b hb => .inr (fun hm => by simp at hb; rcases hb with rfl | rfl; exact hRf hm; exact hVf hm))) (fun b hb => .inl hb) Only.refl rfl o1
    all_goals try
      have e1 : stepP t bs = (⟨t.vars, blkR s r (evE t.vars s.e)⟩, bs, [], 1) := by unfold stepP; rw [hr]; simp [*]
      have e2 : evS t bs = none := by unfold evS; rw [hr]; simp [*]
      rw [e1, e2] at k
      refine K_irunning_step_blk h hM hr (by omega) (q2 (by omega) (by omega)) f1 f2 fun p' H' r1 o1 => ?_
      exact k p' rs H H H' (plain _ _ _ r1) (hb.onlyA o1 (fun b hb => .inr (fun hm => by simp at hb; rcases hb with rfl; exact hRf hm))) (fun b hb => .inl hb) Only.refl rfl (o1.mono (fun b hb => .inl (by simp at hb; simp [hb])))
    · have hsb := q4 (.inl k4)
      have hlt : s.b < bs.length := by unfold rdT at hrd; rw [hr] at hrd; simpa [k4] using hrd
      obtain ⟨bx, hbx⟩ : ∃ x, bs[s.b.toNat]? = some x := ⟨_, List.getElem?_eq_getElem (by omega)⟩
      have hx := g2 bx (List.mem_of_getElem? hbx)
      refine K_irunning_step_send h hr k4 (q2 (by omega) (by omega)) f1 f2 hsb.1 hbase hb hbx (by omega) (by omega) hRf hVf hfM htf htn hT (fun H1 o => hP H1 (o.mono (fun b hb => .inl (List.mem_cons_of_mem _ hb)))) hRt hVt htM ?_ ?_
      · intro hfull H1 x1
        have hnl : ¬ (bx.items.length : Int) < bx.room := by omega
        have e1 : stepP t bs = (t, bs, [], 3) := by unfold stepP talkP; rw [hr]; simp [k4, hbx, hnl]
        have e2 : evS t bs = none := by unfold evS; rw [hr]; simp [k4, hbx, hnl]
        rw [e1, e2] at k
        exact k p rs H1 H1 H1 (fun M2 hM2 => (h.only (x1.only (bs := [])) (by simp) (by simp) (by simp)).more (fun b hb => by
          rcases hM2 b hb with q | q | q
          · exact .inl q
          · omega
          · exact .inl (hfM b q))) (hb.onlyA (x1.only (bs := [])) (by simp)) (fun b hb => .inl hb) x1.only rfl Only.refl
      · intro hroom p' rs' H1 H2 H' r1 b1 m1 o1 ti o2 o3
        have e1 : stepP t bs = (⟨t.vars, Sts.of r⟩, bs.set s.b.toNat ⟨bx.room, bx.items ++ [evE t.vars s.e]⟩, [], 1) := by unfold stepP talkP; rw [hr]; simp [k4, hbx, hroom]
        have e2 : evS t bs = some (1, s.b, evE t.vars s.e) := by unfold evS; rw [hr]; simp [k4, hbx, hroom]
        rw [e1, e2] at k
        have hfp : ∀ b ∈ fpB B rs', b ∈ M ∨ H.n ≤ b := fun b hb => by
          rcases m1 b hb with q | q
          · exact .inl (hfM b q)
          · exact .inr q.1
        have n1 := o1.1
        exact k p' rs' H1 H2 H' (fun M2 hM2 => r1 M2 (fun b hb => by
          rcases hM2 b hb with q | q | q
          · exact .inl q
          · exact .inr (by omega)
          · exact hfp b q)) b1 m1 (o1.mono (fun b hb => .inl (List.mem_cons_of_mem _ hb))) ⟨ti, o2⟩ (o3.mono (fun b hb => .inl (by simp at hb; simp [hb])))
    · have hsb := q4 (.inr k5)
      have hlt : s.b < bs.length := by unfold rdT at hrd; rw [hr] at hrd; simpa [k5] using hrd
      obtain ⟨bx, hbx⟩ : ∃ x, bs[s.b.toNat]? = some x := ⟨_, List.getElem?_eq_getElem (by omega)⟩
      refine K_irunning_step_recv h hr k5 f1 (q3 (.inr k5)) hsb.1 hbase hb hbx (by omega) hRf hVf hfM htf htn hT hP hRt hVt htM ?_ ?_
      · intro hemp
        have e1 : stepP t bs = (t, bs, [], 3) := by unfold stepP talkP; rw [hr]; simp [k5, hbx, hemp]
        have e2 : evS t bs = none := by unfold evS; rw [hr]; simp [k5, hbx, hemp]
        rw [e1, e2] at k
        exact k p rs H H H (plain _ _ _ h) hb (fun b hb => .inl hb) Only.refl rfl Only.refl
      · intro y q hy p' rs' H1 H2 H' r1 b1 m1 o1 ti o2 o3
        have e1 : stepP t bs = (⟨t.vars.set s.v.toNat y, Sts.of r⟩, bs.set s.b.toNat ⟨bx.room, q⟩, [], 1) := by unfold stepP talkP; rw [hr]; simp [k5, hbx, hy]
        have e2 : evS t bs = some (2, s.b, y) := by unfold evS; rw [hr]; simp [k5, hbx, hy]
        rw [e1, e2] at k
        have n1 := o1.1
        exact k p' rs' H1 H2 H' (fun M2 hM2 => r1 M2 (fun b hb => by
          rcases hM2 b hb with q | q | q
          · exact .inl q
          · exact .inr (by omega)
          · exact .inl (hfM b (m1 b q)))) b1 (fun b hb => .inl (m1 b hb)) o1 ⟨ti, o2⟩ (o3.mono (fun b hb => .inl (by simp at hb; simp [hb])))
    · have e1 : stepP t bs = (⟨t.vars, Sts.of r⟩, bs, [], 2) := by unfold stepP; rw [hr]; simp [k6]
      have e2 : evS t bs = none := by unfold evS; rw [hr]; simp [k6]
      rw [e1, e2] at k
      refine K_irunning_step_yield h hr k6 fun p' H' r1 o1 => ?_
      exact k p' rs H H H' (plain _ _ _ r1) (hb.onlyA o1 (fun b hb => .inr (fun hm => by simp at hb; rcases hb with rfl; exact hRf hm))) (fun b hb => .inl hb) Only.refl rfl (o1.mono (fun b hb => .inl (by simp at hb; simp [hb])))
    · have e1 : stepP t bs = (⟨t.vars, Sts.of r⟩, bs, [evE t.vars s.e], 1) := by unfold stepP; rw [hr]; simp [k7]
      have e2 : evS t bs = some (3, 0, evE t.vars s.e) := by unfold evS; rw [hr]; simp [k7]
      rw [e1, e2] at k
      refine K_irunning_step_print h hr k7 (q2 (by omega) (by omega)) f1 f2 hT (fun H1 x => hP H1 x.only) hRt hVt htM fun p' H1 H2 H' r1 x1 ti o2 o3 => ?_
      have n1 := x1.1
      refine k p' rs H1 H2 H' (fun M2 hM2 => r1 M2 (fun b hb => by
          rcases hM2 b hb with q | q | q
          · exact .inl q
          · exact .inr (by omega)
          · exact .inl (hfM b q))) ?_ (fun b hb => .inl hb) x1.only ⟨ti, o2⟩ (o3.mono (fun b hb => .inl (by simp at hb; simp [hb])))
      refine ((hb.onlyA (x1.only (bs := [])) (by simp)).onlyA o2 (fun b hb => .inr (htf b hb))).onlyA o3 (fun b hb => .inr (fun hm => by simp at hb; rcases hb with rfl; exact hRf hm))
end
end Go.Proofs.YtmecbehegmgbhaaGreat.AM
namespace Go.Proofs.YtmecbehegmgbhaaGreat.AM
set_option linter.unusedSimpArgs false
set_option linter.unusedVariables false
open Go
theorem okS_mono {boxes : Int} : ∀ {f : Sts} {n m : Int}, n ≤ m → okS boxes n f = true → okS boxes m f = true
  | .nil, _, _, _, _ => rfl
  | .cons k v b e y z r, n, m, hnm, h => by
    simp only [okS, Bool.and_eq_true] at h ⊢
    refine ⟨?_, okS_mono hnm h.2⟩
    have h1 := h.1
    unfold okS1 at h1 ⊢
    simp only [Bool.and_eq_true, Bool.or_eq_true, decide_eq_true_eq] at h1 ⊢
    refine ⟨h1.1, ?_⟩
    rcases h1.2 with q | q
    · exact .inl q
    · exact .inr ⟨⟨by omega, okS_mono (by omega) q.1.2⟩, okS_mono (by omega) q.2⟩
/-- A statement that may wait to run. -/
def vaW (boxes : Int) (s : St1) : Bool := vaS boxes (Sts.of [s])
theorem vaW_iff {boxes : Int} {s : St1} : vaW boxes s = true ↔ okT boxes 3 s = true ∧ ctT s ≤ 16 := by
  constructor
  · exact vaS_one
  · intro h
    unfold vaW vaS
    simp only [Bool.and_eq_true, decide_eq_true_eq]
    refine ⟨?_, ?_⟩
    · rw [okS_mem]; simpa using h.1
    · rw [ctS_of]; simpa using h.2
theorem vaT_iff {boxes : Int} {t : Tk} : vaT boxes t = true ↔ t.vars.length = 4 ∧ t.vars.all isW = true ∧ ∀ s ∈ t.rest.list, vaW boxes s = true := by
  unfold vaT
  simp only [Bool.and_eq_true, decide_eq_true_eq, List.all_eq_true, vaW, and_assoc]
/-- The statements of a block of a statement that may wait may wait. -/
theorem va_body {boxes : Int} {s : St1} (h : vaW boxes s = true) : (∀ x ∈ s.body.list, vaW boxes x = true) ∧ (∀ x ∈ s.els.list, vaW boxes x = true) := by
  obtain ⟨h1, h2⟩ := vaW_iff.1 h
  have h1' := h1
  unfold okT okS1 at h1
  simp only [Bool.and_eq_true, Bool.or_eq_true, decide_eq_true_eq] at h1
  unfold ctT at h2
  rcases h1.2 with q | q
  · obtain ⟨e1, e2⟩ := stV_leaf h1.1 q.1 q.2
    have e1 : s.body.list = [] := List.eq_nil_of_length_eq_zero e1
    have e2 : s.els.list = [] := List.eq_nil_of_length_eq_zero e2
    rw [e1, e2]; simp
  · refine ⟨fun x hx => vaW_iff.2 ⟨?_, ?_⟩, fun x hx => vaW_iff.2 ⟨?_, ?_⟩⟩
    · have := okS_mono (m := 3) (by omega) q.1.2
      rw [okS_mem] at this
      exact List.all_eq_true.1 this x hx
    · have := ctS_mem hx; unfold ctT; omega
    · have := okS_mono (m := 3) (by omega) q.2
      rw [okS_mem] at this
      exact List.all_eq_true.1 this x hx
    · have := ctS_mem hx; unfold ctT; omega
theorem body_len {boxes : Int} {s : St1} (h : vaW boxes s = true) : s.body.list.length ≤ 16 ∧ s.els.list.length ≤ 16 := by
  obtain ⟨_, h2⟩ := vaW_iff.1 h
  unfold ctT at h2
  have := @len_ctS s.body
  have := @len_ctS s.els
  omega
theorem blkR_va {boxes : Int} {s : St1} {r : List St1} {x : Int} (hs : vaW boxes s = true) (hr : ∀ x ∈ r, vaW boxes x = true) : (∀ y ∈ (blkR s r x).list, vaW boxes y = true) ∧ (blkR s r x).list.length ≤ r.length + 17 := by
  obtain ⟨h1, h2⟩ := va_body hs
  have := body_len hs
  unfold blkR
  split
  · rw [Sts.list_of]
    split
    · exact ⟨fun y hy => by rcases List.mem_append.1 hy with q | q; exact h1 y q; exact hr y q, by simp; omega⟩
    · exact ⟨fun y hy => by rcases List.mem_append.1 hy with q | q; exact h2 y q; exact hr y q, by simp; omega⟩
  · split
    · rw [Sts.list_of]
      refine ⟨fun y hy => ?_, by simp; omega⟩
      rcases List.mem_append.1 hy with q | q
      · exact h1 y q
      · rcases List.mem_cons.1 q with rfl | q
        · exact hs
        · exact hr y q
    · rw [Sts.list_of]; exact ⟨hr, by omega⟩
theorem all_set {l : List Int} {i : Nat} {x : Int} (h : l.all isW = true) (hx : isW x = true) : (l.set i x).all isW = true := by
  rw [List.all_eq_true] at h ⊢
  intro y hy
  rcases List.mem_or_eq_of_mem_set hy with q | q
  · exact h y q
  · subst q; exact hx
theorem vaBs_set {bs : List Bx} {i : Nat} {x : Bx} (h : vaBs bs = true) (hx : vaB x = true) : vaBs (bs.set i x) = true := by
  unfold vaBs at h ⊢
  simp only [Bool.and_eq_true, decide_eq_true_eq, List.length_set] at h ⊢
  refine ⟨?_, h.2⟩
  rw [List.all_eq_true] at h ⊢
  intro y hy
  rcases List.mem_or_eq_of_mem_set hy with q | q
  · exact h.1 y q
  · subst q; exact hx
theorem rooms_set {bs : List Bx} {i : Nat} {b : Bx} {l : List Int} (h : bs[i]? = some b) : (bs.set i ⟨b.room, l⟩).map (·.room) = bs.map (·.room) := by
  rw [List.map_set]
  refine List.ext_getElem? fun j => ?_
  by_cases hj : j = i
  · subst hj
    have := (List.getElem?_eq_some_iff.1 h).1
    rw [List.getElem?_set_self (by simpa using this), List.getElem?_map, h]; rfl
  · rw [List.getElem?_set_ne (by omega)]
/-- What a step keeps. -/
theorem step_keeps {boxes : Int} {t : Tk} {bs : List Bx} (ht : vaT boxes t = true) (hb : vaBs bs = true) (hrd : rdT t bs.length = true) :
    vaT boxes (stepP t bs).1 = true ∧ vaBs (stepP t bs).2.1 = true ∧ (stepP t bs).2.1.length = bs.length ∧ (stepP t bs).2.1.map (·.room) = bs.map (·.room) ∧ (stepP t bs).2.2.1.all isW = true ∧ (stepP t bs).1.rest.list.length ≤ t.rest.list.length + 16 := by
  obtain ⟨h1, h2, h3⟩ := vaT_iff.1 ht
  cases hr : t.rest.list with
  | nil =>
    have e : stepP t bs = (t, bs, [], 4) := by unfold stepP; rw [hr]
    rw [e]; exact ⟨ht, hb, rfl, rfl, rfl, by simp [hr]⟩
  | cons s r =>
    rw [hr] at h3
    have hs := h3 s List.mem_cons_self
    have hrr : ∀ x ∈ r, vaW boxes x = true := fun x hx => h3 x (List.mem_cons_of_mem _ hx)
    obtain ⟨q1, q2, q3, q4, q5⟩ := okT_facts (vaW_iff.1 hs).1
    have hev : s.k ≠ 5 → s.k ≠ 6 → isW (evE t.vars s.e) = true := fun a b => evE_word h2 s.e.args (d := 5) (q2 a b)
    have tl : ∀ l : List Int, l.length = 4 → l.all isW = true → vaT boxes ⟨l, Sts.of r⟩ = true := fun l a b => vaT_iff.2 ⟨a, b, by rw [Sts.list_of]; exact hrr⟩
    have hcase : s.k = 1 ∨ s.k = 2 ∨ s.k = 3 ∨ s.k = 4 ∨ s.k = 5 ∨ s.k = 6 ∨ s.k = 7 := by omega
    by_cases k45 : s.k = 4 ∨ s.k = 5
    · have hlt : s.b < bs.length := by unfold rdT at hrd; rw [hr] at hrd; simp at hrd; omega
      have hsb := q4 k45
      obtain ⟨bx, hbx⟩ : ∃ x, bs[s.b.toNat]? = some x := ⟨_, List.getElem?_eq_getElem (by omega)⟩
      have hbv : vaB bx = true := by
        unfold vaBs at hb
        simp only [Bool.and_eq_true] at hb
        exact List.all_eq_true.1 hb.1 bx (List.mem_of_getElem? hbx)
      have e : stepP t bs = ((talkP t bs s r).1, (talkP t bs s r).2.1, [], (talkP t bs s r).2.2) := by unfold stepP; rw [hr]; simp [k45]
      rw [e]
      have same : talkP t bs s r = (t, bs, 3) → vaT boxes (talkP t bs s r).1 = true ∧ vaBs (talkP t bs s r).2.1 = true ∧ (talkP t bs s r).2.1.length = bs.length ∧ (talkP t bs s r).2.1.map (·.room) = bs.map (·.room) ∧ ([] : List Int).all isW = true ∧ (talkP t bs s r).1.rest.list.length ≤ (s :: r).length + 16 := by
        intro h; rw [h]; exact ⟨ht, hb, rfl, rfl, rfl, by simp [hr]⟩
      unfold vaB at hbv
      simp only [Bool.and_eq_true, decide_eq_true_eq] at hbv
      rcases k45 with k4 | k5
      · by_cases hroom : (bx.items.length : Int) < bx.room
        · have e2 : talkP t bs s r = (⟨t.vars, Sts.of r⟩, bs.set s.b.toNat ⟨bx.room, bx.items ++ [evE t.vars s.e]⟩, 1) := by unfold talkP; simp [k4, hbx, hroom]
          rw [e2]
          refine ⟨tl _ h1 h2, vaBs_set hb ?_, by simp, rooms_set hbx, rfl, by simp [Sts.list_of]; omega⟩
          unfold vaB
          simp only [Bool.and_eq_true, decide_eq_true_eq, List.length_append, List.length_singleton, List.all_append, List.all_cons, List.all_nil, Bool.and_true]
          exact ⟨by omega, hbv.2, hev (by omega) (by omega)⟩
        · exact same (by unfold talkP; simp [k4, hbx, hroom])
      · cases hi : bx.items with
        | nil => exact same (by unfold talkP; simp [k5, hbx, hi])
        | cons y q =>
          have e2 : talkP t bs s r = (⟨t.vars.set s.v.toNat y, Sts.of r⟩, bs.set s.b.toNat ⟨bx.room, q⟩, 1) := by unfold talkP; simp [k5, hbx, hi]
          rw [hi] at hbv
          simp only [List.all_cons, Bool.and_eq_true, List.length_cons] at hbv
          rw [e2]
          refine ⟨tl _ (by simpa using h1) (all_set h2 hbv.2.1), vaBs_set hb ?_, by simp, rooms_set hbx, rfl, by simp [Sts.list_of]; omega⟩
          unfold vaB
          simp only [Bool.and_eq_true, decide_eq_true_eq]
          exact ⟨by omega, hbv.2.2⟩
    · by_cases k23 : s.k = 2 ∨ s.k = 3
      · have e : stepP t bs = (⟨t.vars, blkR s r (evE t.vars s.e)⟩, bs, [], 1) := by unfold stepP; rw [hr]; simp [k45, k23]
        rw [e]
        obtain ⟨b1, b2⟩ := blkR_va (x := evE t.vars s.e) hs hrr
        exact ⟨vaT_iff.2 ⟨h1, h2, b1⟩, hb, rfl, rfl, rfl, by simp; omega⟩
      by_cases k1 : s.k = 1
      · have e : stepP t bs = (⟨t.vars.set s.v.toNat (evE t.vars s.e), Sts.of r⟩, bs, [], 1) := by unfold stepP; rw [hr]; simp [k1]
        rw [e]
        exact ⟨tl _ (by simpa using h1) (all_set h2 (hev (by omega) (by omega))), hb, rfl, rfl, rfl, by simp [Sts.list_of]; omega⟩
      by_cases k6 : s.k = 6
      · have e : stepP t bs = (⟨t.vars, Sts.of r⟩, bs, [], 2) := by unfold stepP; rw [hr]; simp [k6]
        rw [e]
        exact ⟨tl _ h1 h2, hb, rfl, rfl, rfl, by simp [Sts.list_of]; omega⟩
      · have k7 : s.k = 7 := by omega
        have e : stepP t bs = (⟨t.vars, Sts.of r⟩, bs, [evE t.vars s.e], 1) := by unfold stepP; rw [hr]; simp [k7]
        rw [e]
        exact ⟨tl _ h1 h2, hb, rfl, rfl, by simpa using hev (by omega) (by omega), by simp [Sts.list_of]; omega⟩
/-- What is printed is told. -/
def prE : Option (Int × Int × Int) → List Int
  | some e => if e.1 = 3 then [e.2.2] else []
  | none => []
theorem step_prints {t : Tk} {bs : List Bx} (hk : ∀ s ∈ t.rest.list, 1 ≤ s.k ∧ s.k ≤ 7) : (stepP t bs).2.2.1 = prE (evS t bs) := by
  unfold stepP evS
  cases hr : t.rest.list with
  | nil => rfl
  | cons s r =>
    have h17 := hk s (by rw [hr]; exact List.mem_cons_self)
    have hcase : s.k = 1 ∨ s.k = 2 ∨ s.k = 3 ∨ s.k = 4 ∨ s.k = 5 ∨ s.k = 6 ∨ s.k = 7 := by omega
    rcases hcase with k1 | k2 | k3 | k4 | k5 | k6 | k7
    · simp [k1, prE]
    · simp [k2, prE]
    · simp [k3, prE]
    · simp [k4]
      cases bs[s.b.toNat]? with
      | none => rfl
      | some b => simp; split <;> rfl
    · simp [k5]
      cases bs[s.b.toNat]? with
      | none => rfl
      | some b => cases hb : b.items <;> simp [hb, prE]
    · simp [k6, prE]
    · simp [k7, prE]
end Go.Proofs.YtmecbehegmgbhaaGreat.AM
namespace Go.Proofs.YtmecbehegmgbhaaGreat.AM
set_option linter.unusedSimpArgs false
set_option linter.unusedVariables false
set_option maxRecDepth 100000
set_option maxHeartbeats 2000000
open Go
theorem cellsB_LF {base : Nat} {H : AH} : ∀ {l : List Bx} {r : List (AV × Nat)}, r.length = l.length → (∀ (i : Nat) (x : Bx) (p : AV × Nat), l[i]? = some x → r[i]? = some p → ISl base H p.1 x.items p.2) → LF 2 (BC (fun b => base ≤ b) H) l (cellsB l r)
  | [], [], _, _ => rfl
  | x :: l, p :: r, h, k => ⟨[.I x.room, p.1], cellsB l r, rfl, rfl, ⟨p.1, rfl, (k 0 x p rfl rfl).grs.iv⟩, cellsB_LF (by simpa using h) (fun i y q h1 h2 => k (i + 1) y q (by simpa using h1) (by simpa using h2))⟩
  | [], _ :: _, h, _ => by simp at h
  | _ :: _, [], h, _ => by simp at h
theorem RB.bv {base H v bs B rs} (h : RB base H v bs B rs) : BV (fun b => base ≤ b) H v bs := ⟨_, h.2.1.slc, cellsB_LF h.1 (fun i x p hx hp => (h.2.2.1 i x p hx hp).1)⟩
theorem ISl.up {base base' G v l I} (h : ISl base G v l I) (hb : base' ≤ base) : ISl base' G v l I := by
  obtain ⟨h1, h2 | ⟨h3, h4⟩⟩ := h
  · exact ⟨h1, .inl h2⟩
  · exact ⟨h1, .inr ⟨by omega, h4⟩⟩
theorem GrS.up {base base' G v n sz cs B} (h : GrS base G v n sz cs B) (hb : base' ≤ base) : GrS base' G v n sz cs B := by
  obtain ⟨h1, h0, h2 | ⟨h3, h4⟩⟩ := h
  · exact ⟨h1, h0, .inl h2⟩
  · exact ⟨h1, h0, .inr ⟨by omega, h4⟩⟩
theorem RB.up {base base' H v bs B rs} (h : RB base H v bs B rs) (hb : base' ≤ base) : RB base' H v bs B rs :=
  ⟨h.1, h.2.1.up hb, fun i x p hx hp => ⟨(h.2.2.1 i x p hx hp).1.up hb, (h.2.2.1 i x p hx hp).2⟩, h.2.2.2⟩
/-- The blocks of mailboxes. -/
theorem RB.mem {base H v bs B rs} (h : RB base H v bs B rs) {b : Nat} (hb : b ∈ fpB B rs) : base ≤ b ∧ b < H.n := by
  rw [mem_fpB] at hb
  rcases hb with ⟨h1, rfl⟩ | ⟨p, hp, hb⟩
  · cases rs with
    | nil => exact absurd rfl h1
    | cons q rs =>
      cases bs with
      | nil => have := h.1; simp at this
      | cons x bs =>
        obtain ⟨_, _, _, _, e3, e4, _⟩ := h.at (i := 0) (x := x) rfl
        exact ⟨e3, e4⟩
  · obtain ⟨i, hi⟩ := List.getElem?_of_mem hp
    obtain ⟨y, hy⟩ : ∃ y, bs[i]? = some y := ⟨_, List.getElem?_eq_getElem (by rw [← h.1]; exact (List.getElem?_eq_some_iff.1 hi).1)⟩
    have := (h.2.2.1 i y p hy hi).1.mem hb
    omega
section
variable {ok : Nat → Prop} {H : AH} {K : AV → AH → Prop} {w : Fk K} {c : List AV} {t : Tk} {s : St1} {r : List St1} {bs : List Bx} {vb : AV}
end
end Go.Proofs.YtmecbehegmgbhaaGreat.AM
namespace Go.Proofs.YtmecbehegmgbhaaGreat.AM
set_option linter.unusedSimpArgs false
set_option linter.unusedVariables false
open Go
structure Wd where
  tasks : List Tk
  boxes : List Bx
  turn : Int
  idle : Int
  out : List Int
deriving DecidableEq, Inhabited
def TV (ok : Nat → Prop) (H : AH) (v : AV) (l : List Tk) : Prop := ∃ ca, SlC ok H v l.length 2 ca ∧ LF 2 (TC ok H) l ca
theorem TV.mono {ok ok' : Nat → Prop} {H H' v l} (h : TV ok H v l) (hn : H.n ≤ H'.n) (hk : ∀ b, ok b → b < H.n → H'.bk b = H.bk b) (ho : ∀ b, ok b → b < H.n → ok' b) : TV ok' H' v l := by
  obtain ⟨ca, h1, h2⟩ := h
  exact ⟨ca, h1.mono hn hk ho, h2.imp fun c a h => h.mono hn hk ho⟩
theorem TV.ext {ok H H' c t} (h : TV ok H c t) (k : Ext H H') : TV ok H' c t := h.mono k.1 (fun b _ hb => k.2 b hb) (fun _ h _ => h)
theorem TV.alen {ok H v l} (h : TV ok H v l) : alen v = some l.length := h.choose_spec.1.alen
theorem TV.flat {ok H v l} (h : TV ok H v l) : v.flat = true := h.choose_spec.1.flat
theorem TV.big {ok H v l} (h : TV ok H v l) : l.length ≤ 8589934592 := h.choose_spec.1.1
theorem TV.at {ok H v l} (h : TV ok H v l) {i : Nat} {x : Tk} (hi : l[i]? = some x) : ∃ b o cap vv vr, v = .sl b o l.length cap ∧ ok b ∧ b < H.n ∧ H.loadN b (o + i * 2) 2 = some [vv, vr] ∧ IV ok H vv x.vars ∧ SV ok H vr x.rest := by
  obtain ⟨ca, h1, h2⟩ := h
  have hl := (List.getElem?_eq_some_iff.1 hi).1
  obtain ⟨b, o, cap, e, ob, hb, hs⟩ := h1.at hl
  obtain ⟨c, hc, vv, vr, rfl, i1, i2⟩ := h2.get hi
  exact ⟨b, o, cap, vv, vr, e, ob, hb, by rw [hs _ _ (by omega)]; exact hc, i1, i2⟩
def WC (ok : Nat → Prop) (H : AH) (c : List AV) (w : Wd) : Prop := ∃ vt vb vo, c = [vt, vb, .I w.turn, .I w.idle, vo] ∧ TV ok H vt w.tasks ∧ BV ok H vb w.boxes ∧ IV ok H vo w.out
theorem WC.mono {ok ok' : Nat → Prop} {H H' c t} (h : WC ok H c t) (hn : H.n ≤ H'.n) (hk : ∀ b, ok b → b < H.n → H'.bk b = H.bk b) (ho : ∀ b, ok b → b < H.n → ok' b) : WC ok' H' c t := by
  obtain ⟨vt, vb, vo, e, h1, h2, h3⟩ := h
  exact ⟨vt, vb, vo, e, h1.mono hn hk ho, h2.mono hn hk ho, h3.mono hn hk ho⟩
theorem WC.ext {ok H H' c t} (h : WC ok H c t) (k : Ext H H') : WC ok H' c t := h.mono k.1 (fun b _ hb => k.2 b hb) (fun _ h _ => h)
/-- Is a world valid? -/
def vaWd (w : Wd) : Bool := decide (1 ≤ w.tasks.length ∧ w.tasks.length ≤ 3 ∧ 0 ≤ w.turn ∧ w.turn < w.tasks.length ∧ 0 ≤ w.idle ∧ w.idle ≤ w.tasks.length) && w.out.all isW && vaBs w.boxes && w.tasks.all (vaT w.boxes.length)
theorem vaWd_iff {w : Wd} : vaWd w = true ↔ (1 ≤ w.tasks.length ∧ w.tasks.length ≤ 3 ∧ 0 ≤ w.turn ∧ w.turn < w.tasks.length ∧ 0 ≤ w.idle ∧ w.idle ≤ w.tasks.length) ∧ w.out.all isW = true ∧ vaBs w.boxes = true ∧ ∀ t ∈ w.tasks, vaT w.boxes.length t = true := by
  unfold vaWd
  simp only [Bool.and_eq_true, decide_eq_true_eq, List.all_eq_true, and_assoc]
/-- Whose turn it is behind a step, and how many are idle. -/
def nextT (many turn idle code : Int) : Int × Int :=
  if code = 1 then (turn, 0) else if code = 2 then ((turn + 1) % many, 0) else ((turn + 1) % many, idle + 1)
/-- One step of a world that is not at rest. -/
def stepW (w : Wd) : Wd :=
  match w.tasks[w.turn.toNat]? with
  | none => w
  | some t =>
    let r := stepP t w.boxes
    let n := nextT w.tasks.length w.turn w.idle r.2.2.2
    ⟨w.tasks.set w.turn.toNat r.1, r.2.1, n.1, n.2, w.out ++ r.2.2.1⟩
def runW : Nat → Wd → Wd
  | 0, w => w
  | n + 1, w => if w.idle < w.tasks.length then runW n (stepW w) else w
/-- No mailbox is asked for that is not there. -/
theorem rd_of_va {t : Tk} {many : Nat} (h : vaT many t = true) : rdT t many = true := by
  unfold rdT
  cases hr : t.rest.list with
  | nil => rfl
  | cons s r =>
    obtain ⟨_, _, h3⟩ := vaT_iff.1 h
    have := okT_facts (vaW_iff.1 (h3 s (by rw [hr]; exact List.mem_cons_self))).1
    simp only [Bool.or_eq_true, decide_eq_true_eq]
    by_cases hk : s.k = 4 ∨ s.k = 5
    · exact .inr (this.2.2.2.1 hk).2
    · exact .inl (by omega)
theorem okS_boxes {a b : Int} (hab : a ≤ b) : ∀ {f : Sts} {n : Int}, okS a n f = true → okS b n f = true
  | .nil, _, _ => rfl
  | .cons k v bx e y z r, n, h => by
    simp only [okS, Bool.and_eq_true] at h ⊢
    refine ⟨?_, okS_boxes hab h.2⟩
    have h1 := h.1
    unfold okS1 at h1 ⊢
    simp only [Bool.and_eq_true, Bool.or_eq_true, decide_eq_true_eq] at h1 ⊢
    refine ⟨?_, ?_⟩
    · have h2 := h1.1
      unfold stV at h2 ⊢
      split
      · rename_i q; rw [if_pos q] at h2; exact h2
      rename_i q; rw [if_neg q] at h2
      split
      · rename_i q; rw [if_pos q] at h2; exact h2
      rename_i q; rw [if_neg q] at h2
      split
      · rename_i q; rw [if_pos q] at h2; exact h2
      rename_i q; rw [if_neg q] at h2
      split
      · rename_i q; rw [if_pos q] at h2
        simp only [Bool.and_eq_true, decide_eq_true_eq] at h2 ⊢
        exact ⟨by omega, h2.2⟩
      rename_i q; rw [if_neg q] at h2
      split
      · rename_i q; rw [if_pos q] at h2
        simp only [Bool.and_eq_true, decide_eq_true_eq] at h2 ⊢
        exact ⟨by omega, h2.2⟩
      rename_i q; rw [if_neg q] at h2
      exact h2
    · rcases h1.2 with q | q
      · exact .inl q
      · exact .inr ⟨⟨q.1.1, okS_boxes hab q.1.2⟩, okS_boxes hab q.2⟩
theorem vaT_boxes {a b : Int} (hab : a ≤ b) {t : Tk} (h : vaT a t = true) : vaT b t = true := by
  obtain ⟨h1, h2, h3⟩ := vaT_iff.1 h
  refine vaT_iff.2 ⟨h1, h2, fun s hs => ?_⟩
  have := h3 s hs
  unfold vaW vaS at this ⊢
  simp only [Bool.and_eq_true] at this ⊢
  exact ⟨okS_boxes hab this.1, this.2⟩
theorem ctS_sum_le2 {boxes : Int} {t : Tk} (h : vaT boxes t = true) : ctS t.rest ≤ 16 * t.rest.list.length := by
  rw [ctS_sum]
  obtain ⟨_, _, h3⟩ := vaT_iff.1 h
  have : ∀ l : List St1, (∀ s ∈ l, vaW boxes s = true) → (l.map ctT).sum ≤ 16 * l.length := by
    intro l
    induction l with
    | nil => simp
    | cons s l ih =>
      intro hl
      have h1 := (vaW_iff.1 (hl s List.mem_cons_self)).2
      have h2 := ih (fun x hx => hl x (List.mem_cons_of_mem _ hx))
      simp only [List.map_cons, List.sum_cons, List.length_cons]
      omega
  exact this _ h3
/-- The code of a step. -/
theorem step_code' {boxes : Int} {t : Tk} {bs : List Bx} (ht : vaT boxes t = true) : 1 ≤ (stepP t bs).2.2.2 ∧ (stepP t bs).2.2.2 ≤ 4 := by
  unfold stepP
  cases hr : t.rest.list with
  | nil => simp
  | cons s r =>
    simp only
    split
    · unfold talkP
      split
      · simp
      · split
        · split <;> simp
        · split <;> simp
    split
    · simp
    split
    · simp
    split <;> simp
/-- How long what waits may ever be. -/
def uL : List St1 → Nat
  | [] => 0
  | s :: r => max (ctT s + r.length) (uL r)
theorem len_uL : ∀ l : List St1, l.length ≤ uL l
  | [] => by simp
  | s :: r => by
    have h1 : 1 ≤ ctT s := by
      unfold ctT; omega
    simp only [uL, List.length_cons]
    omega
theorem uL_app : ∀ (a b : List St1), uL (a ++ b) ≤ max ((a.map ctT).sum + b.length) (uL b)
  | [], b => by simp; omega
  | s :: a, b => by
    have := uL_app a b
    have h2 : a.length ≤ (a.map ctT).sum := by
      have := @len_ctS (Sts.of a)
      rw [Sts.list_of, ctS_of] at this; exact this
    simp only [List.cons_append, uL, List.map_cons, List.sum_cons, List.length_append]
    omega
theorem uL_le {l : List St1} {m : Nat} (h : ∀ s ∈ l, ctT s ≤ m) : uL l ≤ m + l.length := by
  induction l with
  | nil => simp [uL]
  | cons s r ih =>
    have := ih (fun x hx => h x (List.mem_cons_of_mem _ hx))
    have h1 := h s List.mem_cons_self
    simp only [uL, List.length_cons]; omega
theorem uL_tail {s : St1} {r : List St1} : uL r ≤ uL (s :: r) := by simp only [uL]; omega
theorem uL_blk {s : St1} {r : List St1} {x : Int} : uL (blkR s r x).list ≤ uL (s :: r) := by
  have hy : (s.body.list.map ctT).sum = ctS s.body := (ctS_sum ..).symm
  have hz : (s.els.list.map ctT).sum = ctS s.els := (ctS_sum ..).symm
  have a1 := uL_app s.body.list r
  have a2 := uL_app s.els.list r
  have a3 := uL_app s.body.list (s :: r)
  have e : ctT s = 1 + ctS s.body + ctS s.els := rfl
  unfold blkR
  split
  · rw [Sts.list_of]
    split
    · simp only [uL] at *; omega
    · simp only [uL] at *; omega
  · split
    · rw [Sts.list_of]
      simp only [uL, List.length_cons] at *; omega
    · rw [Sts.list_of]; exact uL_tail
theorem step_uL {t : Tk} {bs : List Bx} : uL (stepP t bs).1.rest.list ≤ uL t.rest.list := by
  unfold stepP
  cases hr : t.rest.list with
  | nil => simp [hr]
  | cons s r =>
    have tl := @uL_tail s r
    simp only
    split
    · unfold talkP
      split
      · rw [hr]; exact Nat.le_refl _
      · split
        · split
          · simpa [Sts.list_of] using tl
          · rw [hr]; exact Nat.le_refl _
        · split
          · rw [hr]; exact Nat.le_refl _
          · simpa [Sts.list_of] using tl
    split
    · exact uL_blk
    split
    · simpa [Sts.list_of] using tl
    split <;> simpa [Sts.list_of] using tl
theorem ctS_uL {boxes : Int} {t : Tk} (h : vaT boxes t = true) : ctS t.rest ≤ 16 * uL t.rest.list := by
  have := ctS_sum_le2 h
  have := len_uL t.rest.list
  omega
/-- A step keeps a world valid. -/
theorem stepW_keeps {w : Wd} (h : vaWd w = true) (hi : w.idle < w.tasks.length) : vaWd (stepW w) = true ∧ (stepW w).tasks.length = w.tasks.length ∧ (stepW w).boxes.length = w.boxes.length ∧ (stepW w).boxes.map (·.room) = w.boxes.map (·.room) ∧
    (∃ p, (stepW w).out = w.out ++ p ∧ p.length ≤ 1) ∧ (∀ m, (∀ t ∈ w.tasks, uL t.rest.list ≤ m) → ∀ t ∈ (stepW w).tasks, uL t.rest.list ≤ m) := by
  obtain ⟨h1, h2, h3, h4⟩ := vaWd_iff.1 h
  obtain ⟨t, ht⟩ : ∃ t, w.tasks[w.turn.toNat]? = some t := ⟨_, List.getElem?_eq_getElem (by omega)⟩
  have hm := List.mem_of_getElem? ht
  have hva := h4 t hm
  obtain ⟨u1, u2, u3, u4, u5, u6⟩ := step_keeps hva h3 (rd_of_va hva)
  have hc := step_code' (bs := w.boxes) hva
  have e : stepW w = ⟨w.tasks.set w.turn.toNat (stepP t w.boxes).1, (stepP t w.boxes).2.1, (nextT w.tasks.length w.turn w.idle (stepP t w.boxes).2.2.2).1, (nextT w.tasks.length w.turn w.idle (stepP t w.boxes).2.2.2).2, w.out ++ (stepP t w.boxes).2.2.1⟩ := by
    unfold stepW; rw [ht]
  have hn : 0 ≤ (nextT w.tasks.length w.turn w.idle (stepP t w.boxes).2.2.2).1 ∧ (nextT w.tasks.length w.turn w.idle (stepP t w.boxes).2.2.2).1 < w.tasks.length ∧ 0 ≤ (nextT w.tasks.length w.turn w.idle (stepP t w.boxes).2.2.2).2 ∧ (nextT w.tasks.length w.turn w.idle (stepP t w.boxes).2.2.2).2 ≤ w.tasks.length := by
    have m1 := Int.emod_nonneg (w.turn + 1) (show (w.tasks.length : Int) ≠ 0 by omega)
    have m2 := Int.emod_lt_of_pos (w.turn + 1) (show 0 < (w.tasks.length : Int) by omega)
    unfold nextT
    split
    · omega
    split <;> omega
  rw [e]
  refine ⟨vaWd_iff.2 ⟨by simp only [List.length_set]; omega, ?_, u2, fun x hx => ?_⟩, by simp, u3, u4, ⟨_, rfl, ?_⟩, fun m hm' x hx => ?_⟩
  · simp only [List.all_append, Bool.and_eq_true]; exact ⟨h2, u5⟩
  · rw [u3]
    rcases List.mem_or_eq_of_mem_set hx with q | q
    · exact h4 x q
    · subst q; exact u1
  · unfold stepP
    cases t.rest.list with
    | nil => simp
    | cons s r =>
      simp only
      split
      · simp
      split
      · simp
      split
      · simp
      split <;> simp
  · rcases List.mem_or_eq_of_mem_set hx with q | q
    · exact hm' x q
    · subst q; exact Nat.le_trans step_uL (hm' t hm)
theorem runW_keeps (n : Nat) : ∀ {w : Wd}, vaWd w = true → vaWd (runW n w) = true ∧ (runW n w).tasks.length = w.tasks.length ∧ (runW n w).boxes.length = w.boxes.length ∧ (runW n w).boxes.map (·.room) = w.boxes.map (·.room) ∧
    (∃ p, (runW n w).out = w.out ++ p ∧ p.length ≤ n) ∧ (∀ m, (∀ t ∈ w.tasks, uL t.rest.list ≤ m) → ∀ t ∈ (runW n w).tasks, uL t.rest.list ≤ m) := by
  induction n with
  | zero => intro w h; exact ⟨h, rfl, rfl, rfl, ⟨[], by simp [runW], by simp⟩, fun m hm => hm⟩
  | succ n ih =>
    intro w h
    unfold runW
    split
    · rename_i hi
      obtain ⟨a1, a2, a3, a4, ⟨p, a5, a6⟩, a7⟩ := stepW_keeps h hi
      obtain ⟨b1, b2, b3, b4, ⟨q, b5, b6⟩, b7⟩ := ih a1
      exact ⟨b1, b2.trans a2, b3.trans a3, b4.trans a4, ⟨p ++ q, by rw [b5, a5, List.append_assoc], by simp; omega⟩, fun m hm => b7 m (a7 m hm)⟩
    · exact ⟨h, rfl, rfl, rfl, ⟨[], by simp, by simp⟩, fun m hm => hm⟩
end Go.Proofs.YtmecbehegmgbhaaGreat.AM
namespace Go.Proofs.YtmecbehegmgbhaaGreat.AM
set_option linter.unusedSimpArgs false
set_option linter.unusedVariables false
set_option maxRecDepth 100000
set_option maxHeartbeats 2000000
open Go
section
variable {H : AH} {K : AV → AH → Prop} {w : Fk K} {many turn idle code : Int}
theorem rem_turn (h : 1 ≤ many ∧ many ≤ 3) (ht : 0 ≤ turn ∧ turn < many) : (turn + 1).tmod many = (turn + 1) % many := Int.tmod_eq_emod_of_nonneg (by omega)
theorem K_iNextTurn (hm : 1 ≤ many ∧ many ≤ 3) (ht : 0 ≤ turn ∧ turn < many) (hi : 0 ≤ idle ∧ idle < many) (hc : 1 ≤ code ∧ code ≤ 4) (k : K (.tup [.I (nextT many turn idle code).1, .I (nextT many turn idle code).2, .b true]) H) : CallF Cd f_iNextTurn [.I many, .I turn, .I idle, .I code] H K w := by
  rw [CallF_eq e_iNextTurn rfl]
  have e := rem_turn hm ht
  have hc4 : code = 1 ∨ code = 2 ∨ code = 3 ∨ code = 4 := by omega
  have n1 : ¬ many < 1 := by omega
  have n2 : ¬ 3 < many := by omega
  have n3 : ¬ turn < 0 := by omega
  have n4 : ¬ many ≤ turn := by omega
  have n5 : ¬ idle < 0 := by omega
  have n6 : ¬ many ≤ idle := by omega
  have n7 : ¬ many = 0 := by omega
  rcases hc4 with rfl | rfl | rfl | rfl
  all_goals
    simp (disch := omega) [n1, n2, n3, n4, n5, n6, n7, e]
    simpa [nextT] using k
theorem K_sNextTurn (hm : 1 ≤ many ∧ many ≤ 3) (ht : 0 ≤ turn ∧ turn < many) (hi : 0 ≤ idle ∧ idle < many) (hc : 1 ≤ code ∧ code ≤ 4) (k : K (.tup [.I (nextT many turn idle code).1, .I (nextT many turn idle code).2, .b true]) H) : CallF Cd f_sNextTurn [.I many, .I turn, .I idle, .I code] H K w := by
  rw [CallF_eq e_sNextTurn rfl]
  have e := rem_turn hm ht
  have hc4 : code = 1 ∨ code = 2 ∨ code = 3 ∨ code = 4 := by omega
  have n1 : 1 ≤ many := by omega
  have n2 : many ≤ 3 := by omega
  have n3 : 0 ≤ turn := by omega
  have n4 : turn ≤ many - 1 := by omega
  have n5 : 0 ≤ idle := by omega
  have n6 : idle ≤ many - 1 := by omega
  have n7 : ¬ many = 0 := by omega
  rcases hc4 with rfl | rfl | rfl | rfl
  all_goals
    simp (disch := omega) [K_sl6In, n1, n2, n3, n4, n5, n6, n7, e]
    simpa [nextT] using k
theorem K_iturnsValid {vo : AV} {out : List Int} (h : SeesZ H vo out) (k : K (.b (decide (1 ≤ many ∧ many ≤ 3 ∧ 0 ≤ turn ∧ turn < many ∧ 0 ≤ idle ∧ idle ≤ many) && out.all isW)) H) : CallF Cd f_iturnsValid [.I many, .I turn, .I idle, vo] H K w := by
  rw [CallF_eq e_iturnsValid rfl]
  by_cases h1 : 1 ≤ many
  case neg =>
    have e : decide (1 ≤ many ∧ many ≤ 3 ∧ 0 ≤ turn ∧ turn < many ∧ 0 ≤ idle ∧ idle ≤ many) = false := by simp; omega
    rw [e] at k
    simp [h1]; simpa using k
  by_cases h2 : many ≤ 3
  case neg =>
    have e : decide (1 ≤ many ∧ many ≤ 3 ∧ 0 ≤ turn ∧ turn < many ∧ 0 ≤ idle ∧ idle ≤ many) = false := by simp; omega
    rw [e] at k
    simp [h1, h2]; simpa using k
  by_cases h3 : 0 ≤ turn
  case neg =>
    have e : decide (1 ≤ many ∧ many ≤ 3 ∧ 0 ≤ turn ∧ turn < many ∧ 0 ≤ idle ∧ idle ≤ many) = false := by simp; omega
    rw [e] at k
    simp [h1, h2, h3]; simpa using k
  by_cases h4 : turn < many
  case neg =>
    have e : decide (1 ≤ many ∧ many ≤ 3 ∧ 0 ≤ turn ∧ turn < many ∧ 0 ≤ idle ∧ idle ≤ many) = false := by simp; omega
    rw [e] at k
    simp [h1, h2, h3, h4]; simpa using k
  by_cases h5 : 0 ≤ idle
  case neg =>
    have e : decide (1 ≤ many ∧ many ≤ 3 ∧ 0 ≤ turn ∧ turn < many ∧ 0 ≤ idle ∧ idle ≤ many) = false := by simp; omega
    rw [e] at k
    simp [h1, h2, h3, h4, h5]; simpa using k
  by_cases h6 : idle ≤ many
  case neg =>
    have e : decide (1 ≤ many ∧ many ≤ 3 ∧ 0 ≤ turn ∧ turn < many ∧ 0 ≤ idle ∧ idle ≤ many) = false := by simp; omega
    rw [e] at k
    simp [h1, h2, h3, h4, h5, h6]; simpa using k
  have e : decide (1 ≤ many ∧ many ≤ 3 ∧ 0 ≤ turn ∧ turn < many ∧ 0 ≤ idle ∧ idle ≤ many) = true := by simp; omega
  rw [e] at k
  simp [h1, h2, h3, h4, h5, h6, K_iareWords h]; simpa using k
end
theorem K_iWorldValid_l {w : Wd} {ok : Nat → Prop} {K : AV → AH → Prop} {vt vb : AV} {P : Nat} {x2 x3 x4 : AV} (hct : ∀ t ∈ w.tasks, ctS t.rest ≤ 100000) {Q : Out → Env → AH → Prop} (h1 : ∀ e G, Q (.brk 0) e G = K (.b true) G) (h2 : ∀ e H, Q .ret e H = bindO (get e 2) fun v => K v H)
    (m i : Nat) (hm : i + m = w.tasks.length) {H : AH} (hP : P < H.n) (gP : H.bk P = some ⟨[vt, vb, x2, x3, x4], true⟩) (h : TV ok H vt w.tasks) (hb : alen vb = some w.boxes.length) (hbl : w.boxes.length ≤ 100)
    (k : ∀ H', Ext H H' → K (.b ((w.tasks.drop i).all (vaT w.boxes.length))) H') :
    W Cd (.loop c_iWorldValid_l0) [(1, .ptr P 0), (23, vt), (24, .I w.tasks.length), (25, .I i)] H Q := by
  have hbig := h.big
  induction m generalizing i H with
  | zero =>
    rw [W_loop_as c_iWorldValid_l0.eq_1]
    have : i = w.tasks.length := by omega
    subst this
    simp [h1]
    have := k H (Ext.refl _)
    rwa [List.drop_eq_nil_of_le (Nat.le_refl _)] at this
  | succ m ih =>
    rw [W_loop_as c_iWorldValid_l0.eq_1]
    have hlt : i < w.tasks.length := by omega
    have hlt' : (i : Int) < w.tasks.length := by omega
    obtain ⟨t, ht⟩ : ∃ t, w.tasks[i]? = some t := ⟨_, List.getElem?_eq_getElem hlt⟩
    obtain ⟨b, o, cap, vv, vr, e1, ob, hbn, l1, i1, s1⟩ := h.at ht
    have e1' := e1
    subst e1
    have q0 : (H.push [vv, vr]).bk P = some ⟨[.sl b o w.tasks.length cap, vb, x2, x3, x4], true⟩ := push_old hP gP
    have st : (H.push [.nils, .nils]).store H.n 0 [vv, vr] = some (H.push [vv, vr]) := by rw [store_bk push_new (by simp), push_put]; rfl
    simp (disch := omega) [hlt', l1, st, loadN_push, load_bk q0, hb]
    refine K_itaskValid ⟨vv, vr, rfl, i1.ext (Ext.push _ _), s1.ext (Ext.push _ _)⟩ (hct t (List.mem_of_getElem? ht)) fun H2 x2' => ?_
    have y2 := (Ext.push H [vv, vr]).trans x2'
    rw [all_dropB ht] at k
    cases hv : vaT w.boxes.length t with
    | false =>
      simp [h2]
      have := k H2 y2
      rw [hv] at this
      exact this
    | true =>
      simp (disch := omega)
      have := ih (i + 1) (by omega) (H := H2) (by have := y2.1; omega) ((y2.2 _ hP).trans gP) (h.ext y2) (fun H' x' => by have := k H' (y2.trans x'); rw [hv] at this; simpa using this)
      simpa using this
theorem K_iWorldValid {ok : Nat → Prop} {H : AH} {K : AV → AH → Prop} {wf : Fk K} {c : List AV} {w : Wd} (h : WC ok H c w) (hct : ∀ t ∈ w.tasks, ctS t.rest ≤ 100000) (hbl : w.boxes.length ≤ 100) (k : ∀ H', Ext H H' → K (.b (vaWd w)) H') : CallF Cd f_iWorldValid [.agg c] H K wf := by
  obtain ⟨vt, vb, vo, rfl, h1, h2, h3⟩ := h
  rw [CallF_eq e_iWorldValid rfl]
  have x0 := Ext.push H [vt, vb, .I w.turn, .I w.idle, vo]
  have q0 : (H.push [vt, vb, .I w.turn, .I w.idle, vo]).bk H.n = some ⟨[vt, vb, .I w.turn, .I w.idle, vo], true⟩ := push_new
  have hbig := h1.big
  simp [load_bk q0, h1.alen]
  refine K_iturnsValid (h3.ext x0).sees ?_
  have hi : ∀ a b : Int, 1 ≤ a ∧ a ≤ 3 ∧ 0 ≤ b ∧ b < a → True := fun _ _ _ => trivial
  cases hv : (decide (1 ≤ (w.tasks.length : Int) ∧ (w.tasks.length : Int) ≤ 3 ∧ 0 ≤ w.turn ∧ w.turn < w.tasks.length ∧ 0 ≤ w.idle ∧ w.idle ≤ w.tasks.length) && w.out.all isW) with
  | false =>
    have e : vaWd w = false := by
      unfold vaWd
      have e2 : decide (1 ≤ w.tasks.length ∧ w.tasks.length ≤ 3 ∧ 0 ≤ w.turn ∧ w.turn < w.tasks.length ∧ 0 ≤ w.idle ∧ w.idle ≤ w.tasks.length) = decide (1 ≤ (w.tasks.length : Int) ∧ (w.tasks.length : Int) ≤ 3 ∧ 0 ≤ w.turn ∧ w.turn < w.tasks.length ∧ 0 ≤ w.idle ∧ w.idle ≤ w.tasks.length) := by
        apply decide_eq_decide.2; omega
      rw [e2, hv]; rfl
    rw [e] at k
    simp
    exact k _ x0
  | true =>
    simp [load_bk q0]
    refine K_iboxesValid (h2.ext x0) fun H1 x1 => ?_
    have y1 := x0.trans x1
    have q1 := (x1.2 H.n (by simp)).trans q0
    have e : vaWd w = (vaBs w.boxes && w.tasks.all (vaT w.boxes.length)) := by
      unfold vaWd
      have e2 : decide (1 ≤ w.tasks.length ∧ w.tasks.length ≤ 3 ∧ 0 ≤ w.turn ∧ w.turn < w.tasks.length ∧ 0 ≤ w.idle ∧ w.idle ≤ w.tasks.length) = decide (1 ≤ (w.tasks.length : Int) ∧ (w.tasks.length : Int) ≤ 3 ∧ 0 ≤ w.turn ∧ w.turn < w.tasks.length ∧ 0 ≤ w.idle ∧ w.idle ≤ w.tasks.length) := by
        apply decide_eq_decide.2; omega
      rw [e2, hv]; rfl
    rw [e] at k
    cases hvb : vaBs w.boxes with
    | false =>
      rw [hvb] at k
      simp
      exact k _ y1
    | true =>
      rw [hvb] at k
      simp [load_bk q1, h1.alen]
      have := K_iWorldValid_l (w := w) (K := K) (Q := ?_) (x2 := .I w.turn) (x3 := .I w.idle) (x4 := vo) hct ?_ ?_ w.tasks.length 0 (by omega) (P := H.n) (H := H1) (by have := x1.1; simp at this; omega) q1 (h1.ext y1) h2.alen hbl (fun H' x' => by simpa using k H' (y1.trans x'))
      · simpa using this
      · intros; simp
      · intros; simp
end Go.Proofs.YtmecbehegmgbhaaGreat.AM
namespace Go.Proofs.YtmecbehegmgbhaaGreat.AM
set_option linter.unusedSimpArgs false
set_option linter.unusedVariables false
set_option maxRecDepth 100000
set_option maxHeartbeats 2000000
open Go
/-- Are all mailboxes of statements among so many? -/
def bxS (many : Int) : Sts → Bool
  | .nil => true
  | .cons k v b e y z r => (decide (¬ ((k = 4 ∨ k = 5) ∧ many ≤ b)) && (bxS many y && bxS many z)) && bxS many r
def bxT (many : Int) (s : St1) : Bool := decide (¬ ((s.k = 4 ∨ s.k = 5) ∧ many ≤ s.b)) && (bxS many s.body && bxS many s.els)
theorem bxS_mem {many : Int} : ∀ {f : Sts}, bxS many f = f.list.all (bxT many)
  | .nil => rfl
  | .cons k v b e y z r => by simp only [bxS, Sts.list, List.all_cons, bxS_mem (f := r)]; rfl
theorem ok_bx {many : Int} (hm : many ≤ 3) : ∀ {f : Sts} {n : Int}, okS 3 n f = true → (okS many n f = true ↔ bxS many f = true)
  | .nil, _, _ => by simp [okS, bxS]
  | .cons k v b e y z r, n, h => by
    simp only [okS, bxS, Bool.and_eq_true] at h ⊢
    have hr := ok_bx hm (f := r) h.2
    have h1 := h.1
    rw [hr]
    refine and_congr_left fun _ => ?_
    unfold okS1 at h1 ⊢
    simp only [Bool.and_eq_true, Bool.or_eq_true, decide_eq_true_eq] at h1 ⊢
    have hst : stV many k v b (okE 5 e) (plE e) y.list.length z.list.length = true ↔ ¬ ((k = 4 ∨ k = 5) ∧ many ≤ b) := by
      have h2 := h1.1
      by_cases k4 : k = 4
      · have e : ∀ m : Int, stV m k v b (okE 5 e) (plE e) y.list.length z.list.length = (decide (v = 0 ∧ 0 ≤ b ∧ b < m ∧ y.list.length = 0 ∧ z.list.length = 0) && okE 5 e) := fun m => by unfold stV; simp [k4]
        rw [e] at h2 ⊢
        simp only [Bool.and_eq_true, decide_eq_true_eq] at h2 ⊢
        exact ⟨fun h h' => by have := h.1; have := h'.2; omega, fun h => ⟨by have := h2.1; have : b < many := Int.not_le.1 (fun q => h ⟨.inl k4, q⟩); omega, h2.2⟩⟩
      by_cases k5 : k = 5
      · have e : ∀ m : Int, stV m k v b (okE 5 e) (plE e) y.list.length z.list.length = (decide (0 ≤ v ∧ v < 4 ∧ 0 ≤ b ∧ b < m ∧ y.list.length = 0 ∧ z.list.length = 0) && plE e) := fun m => by unfold stV; simp [k5]
        rw [e] at h2 ⊢
        simp only [Bool.and_eq_true, decide_eq_true_eq] at h2 ⊢
        exact ⟨fun h h' => by have := h.1; have := h'.2; omega, fun h => ⟨by have := h2.1; have : b < many := Int.not_le.1 (fun q => h ⟨.inr k5, q⟩); omega, h2.2⟩⟩
      · have e : stV many k v b (okE 5 e) (plE e) y.list.length z.list.length = stV 3 k v b (okE 5 e) (plE e) y.list.length z.list.length := by unfold stV; simp only [k4, k5, if_false]
        rw [e]
        exact ⟨fun _ h => by omega, fun _ => h2⟩
    rw [hst]
    refine and_congr_right fun _ => ?_
    rcases h1.2 with q | q
    · obtain ⟨e1, e2⟩ := stV_leaf h1.1 q.1 q.2
      have e1 : y = .nil := by rw [← Sts.of_list y, List.eq_nil_of_length_eq_zero e1]; rfl
      have e2 : z = .nil := by rw [← Sts.of_list z, List.eq_nil_of_length_eq_zero e2]; rfl
      subst e1 e2
      simp [bxS, q]
    · have hy := ok_bx hm (f := y) q.1.2
      have hz := ok_bx hm (f := z) q.2
      rw [← hy, ← hz]
      constructor
      · rintro (p | p)
        · obtain ⟨e1, e2⟩ := stV_leaf h1.1 p.1 p.2
          have e1 : y = .nil := by rw [← Sts.of_list y, List.eq_nil_of_length_eq_zero e1]; rfl
          have e2 : z = .nil := by rw [← Sts.of_list z, List.eq_nil_of_length_eq_zero e2]; rfl
          subst e1 e2
          simp [okS]
        · exact ⟨p.1.2, p.2⟩
      · intro p
        exact .inr ⟨⟨q.1.1, p.1⟩, p.2⟩
theorem vaT_split {many : Int} (hm : many ≤ 3) {t : Tk} : vaT many t = (vaT 3 t && bxS many t.rest) := by
  cases h3 : vaT 3 t with
  | false =>
    cases hm' : vaT many t with
    | false => rfl
    | true => have := vaT_boxes hm hm'; rw [h3] at this; cases this
  | true =>
    obtain ⟨h1, h2, h4⟩ := vaT_iff.1 h3
    rw [Bool.true_and]
    refine Bool.eq_iff_iff.2 ?_
    rw [vaT_iff]
    constructor
    · intro h
      rw [bxS_mem, List.all_eq_true]
      intro s hs
      have a := h.2.2 s hs
      have b := h4 s hs
      unfold vaW vaS at a b
      simp only [Bool.and_eq_true] at a b
      have := (ok_bx hm b.1).1 a.1
      rw [bxS_mem, List.all_eq_true] at this
      exact this s (by simp)
    · intro h
      rw [bxS_mem, List.all_eq_true] at h
      refine ⟨h1, h2, fun s hs => ?_⟩
      have b := h4 s hs
      unfold vaW vaS at b ⊢
      simp only [Bool.and_eq_true] at b ⊢
      refine ⟨(ok_bx hm b.1).2 ?_, b.2⟩
      rw [bxS_mem, List.all_eq_true]
      intro x hx
      simp at hx
      subst hx
      exact h s hs
theorem store_push8' {H : AH} {l : List AV} (hl : l.length = 8) : (H.push [.I 0, .I 0, .I 0, .I 0, .I 0, .nils, .nils, .nils]).store H.n 0 l = some (H.push l) := by
  rw [store_bk push_new (by simp; omega), push_put]
  congr 2; unfold splice; simp; omega
/-- The contract of the check of mailboxes. -/
def BxC (f : Sts) : Prop := ∀ {many : Nat} {ok : Nat → Prop} {H : AH} {K : AV → AH → Prop} {w : Fk K} {v : AV}, SV ok H v f → (∀ H', Ext H H' → K (.b (bxS many f)) H') → CallF Cd f_sl12Boxes [v, .I many] H K w
theorem K_sl12Boxes_l {f : Sts} (ih : ∀ s ∈ f.list, BxC s.body ∧ BxC s.els) {many : Nat} {ok : Nat → Prop} {K : AV → AH → Prop} {v : AV} {Q : Out → Env → AH → Prop} (h1 : ∀ e H, Q (.brk 0) e H = K (.b true) H) (h2 : ∀ e H, Q .ret e H = bindO (get e 4) fun v => K v H)
    (m i : Nat) (hm : i + m = f.list.length) {H : AH} (h : SV ok H v f) (k : ∀ H', Ext H H' → K (.b ((f.list.drop i).all (bxT many))) H') :
    W Cd (.loop c_sl12Boxes_l0) [(0, v), (1, .I many), (5, .I i)] H Q := by
  have hbig := h.big
  induction m generalizing i H with
  | zero =>
    rw [W_loop_as c_sl12Boxes_l0.eq_1]
    have : i = f.list.length := by omega
    subst this
    simp [h.alen, h1]
    have := k H (Ext.refl _)
    rwa [List.drop_eq_nil_of_le (Nat.le_refl _)] at this
  | succ m ihm =>
    rw [W_loop_as c_sl12Boxes_l0.eq_1]
    have hlt : i < f.list.length := by omega
    have hlt' : (i : Int) < f.list.length := by omega
    obtain ⟨s, hs⟩ : ∃ s, f.list[i]? = some s := ⟨_, List.getElem?_eq_getElem hlt⟩
    obtain ⟨b, o, cap, c, e1, ob, hbn, l1, s1⟩ := h.at hs
    have hv := h
    subst e1
    have s1' := s1
    obtain ⟨va, vy, vz, rfl, ea, ey, ez⟩ := s1
    obtain ⟨iy, iz⟩ := ih s (List.mem_of_getElem? hs)
    rw [all_dropB hs] at k
    have st : (H.push [.I 0, .I 0, .I 0, .I 0, .I 0, .nils, .nils, .nils]).store H.n 0 [.I s.k, .I s.v, .I s.b, .I s.e.op, .I s.e.n, va, vy, vz] = some (H.push [.I s.k, .I s.v, .I s.b, .I s.e.op, .I s.e.n, va, vy, vz]) := store_push8' rfl
    have x0 := Ext.push H [.I s.k, .I s.v, .I s.b, .I s.e.op, .I s.e.n, va, vy, vz]
    have q0 : (H.push [.I s.k, .I s.v, .I s.b, .I s.e.op, .I s.e.n, va, vy, vz]).bk H.n = some ⟨[.I s.k, .I s.v, .I s.b, .I s.e.op, .I s.e.n, va, vy, vz], true⟩ := push_new
    by_cases hk : (s.k = 4 ∨ s.k = 5) ∧ (many : Int) ≤ s.b
    · have hb : bxT many s = false := by unfold bxT; simp [hk]
      have k' := k _ x0
      rw [hb] at k'
      obtain ⟨h45, hle⟩ := hk
      rcases h45 with h4 | h5
      · rw [h4] at st q0 k'
        simp (disch := omega) [hlt', l1, st, load_bk q0, h4, hle, h2]
        simpa using k'
      · rw [h5] at st q0 k'
        simp (disch := omega) [hlt', l1, st, load_bk q0, h5, hle, h2]
        simpa using k'
    · have hd : decide (¬ ((s.k = 4 ∨ s.k = 5) ∧ (many : Int) ≤ s.b)) = true := decide_eq_true hk
      by_cases h4 : s.k = 4
      · have hle : ¬ (many : Int) ≤ s.b := fun z => hk ⟨.inl h4, z⟩
        rw [h4] at st q0 x0
        simp (disch := omega) [hlt', l1, st, load_bk q0, h4, hle]
        refine iy (ey.ext x0) fun H2 x2 => ?_
        have y2 := x0.trans x2
        have q2 := (x2.2 H.n (by simp)).trans q0
        cases hy : bxS many s.body with
        | false =>
          have hb : bxT many s = false := by unfold bxT; rw [hy]; simp
          have k' := k _ y2
          rw [hb] at k'
          simp [h2]
          simpa using k'
        | true =>
        simp [load_bk q2]
        refine iz (ez.ext y2) fun H3 x3 => ?_
        have y3 := y2.trans x3
        have hb : bxT many s = bxS many s.els := by unfold bxT; rw [hy, hd]; simp
        rw [hb] at k
        cases hz : bxS many s.els with
        | false =>
          have k' := k _ y3
          rw [hz] at k'
          simp [h2]
          simpa using k'
        | true =>
        rw [hz] at k
        simp (disch := omega)
        have := ihm (i + 1) (by omega) (H := H3) (hv.ext y3) (fun H' x' => by simpa using k H' (y3.trans x'))
        simpa using this
      by_cases h5 : s.k = 5
      · have hle : ¬ (many : Int) ≤ s.b := fun z => hk ⟨.inr h5, z⟩
        rw [h5] at st q0 x0
        simp (disch := omega) [hlt', l1, st, load_bk q0, h5, hle]
        refine iy (ey.ext x0) fun H2 x2 => ?_
        have y2 := x0.trans x2
        have q2 := (x2.2 H.n (by simp)).trans q0
        cases hy : bxS many s.body with
        | false =>
          have hb : bxT many s = false := by unfold bxT; rw [hy]; simp
          have k' := k _ y2
          rw [hb] at k'
          simp [h2]
          simpa using k'
        | true =>
        simp [load_bk q2]
        refine iz (ez.ext y2) fun H3 x3 => ?_
        have y3 := y2.trans x3
        have hb : bxT many s = bxS many s.els := by unfold bxT; rw [hy, hd]; simp
        rw [hb] at k
        cases hz : bxS many s.els with
        | false =>
          have k' := k _ y3
          rw [hz] at k'
          simp [h2]
          simpa using k'
        | true =>
        rw [hz] at k
        simp (disch := omega)
        have := ihm (i + 1) (by omega) (H := H3) (hv.ext y3) (fun H' x' => by simpa using k H' (y3.trans x'))
        simpa using this
      · simp (disch := omega) [hlt', l1, st, load_bk q0, h4, h5]
        refine iy (ey.ext x0) fun H2 x2 => ?_
        have y2 := x0.trans x2
        have q2 := (x2.2 H.n (by simp)).trans q0
        cases hy : bxS many s.body with
        | false =>
          have hb : bxT many s = false := by unfold bxT; rw [hy]; simp
          have k' := k _ y2
          rw [hb] at k'
          simp [h2]
          simpa using k'
        | true =>
        simp [load_bk q2]
        refine iz (ez.ext y2) fun H3 x3 => ?_
        have y3 := y2.trans x3
        have hb : bxT many s = bxS many s.els := by unfold bxT; rw [hy, hd]; simp
        rw [hb] at k
        cases hz : bxS many s.els with
        | false =>
          have k' := k _ y3
          rw [hz] at k'
          simp [h2]
          simpa using k'
        | true =>
        rw [hz] at k
        simp (disch := omega)
        have := ihm (i + 1) (by omega) (H := H3) (hv.ext y3) (fun H' x' => by simpa using k H' (y3.trans x'))
        simpa using this
theorem K_sl12Boxes (f : Sts) : BxC f := by
  induction f using Sts.ind with
  | h f ih =>
    intro many ok H K w v h k
    rw [CallF_eq e_sl12Boxes rfl]
    simp
    have := K_sl12Boxes_l ih (many := many) (K := K) (Q := ?_) ?_ ?_ f.list.length 0 (by omega) h (fun H' x' => by have := k H' x'; rw [bxS_mem] at this; simpa using this)
    · simpa using this
    · intros; simp
    · intros; simp
end Go.Proofs.YtmecbehegmgbhaaGreat.AM
namespace Go.Proofs.YtmecbehegmgbhaaGreat.AM
set_option linter.unusedSimpArgs false
set_option linter.unusedVariables false
set_option maxRecDepth 100000
set_option maxHeartbeats 2000000
open Go
theorem K_in_t {n lo hi : Int} (h : lo ≤ n ∧ n ≤ hi) {H : AH} {K : AV → AH → Prop} {w : Fk K} : CallF Cd f_sl6In [.I n, .I lo, .I hi] H K w = K (.b true) H := by rw [K_sl6In, decide_eq_true h]
theorem K_in_f {n lo hi : Int} (h : ¬ (lo ≤ n ∧ n ≤ hi)) {H : AH} {K : AV → AH → Prop} {w : Fk K} : CallF Cd f_sl6In [.I n, .I lo, .I hi] H K w = K (.b false) H := by rw [K_sl6In, decide_eq_false h]
theorem K_sWorldValid_l {w : Wd} {ok : Nat → Prop} {K : AV → AH → Prop} {vt vb : AV} {P : Nat} {x2 x3 x4 : AV} (hct : ∀ t ∈ w.tasks, ctS t.rest ≤ 100000) {Q : Out → Env → AH → Prop} (h2 : ∀ e H, Q .ret e H = bindO (get e 2) fun v => K v H)
    (m i : Nat) (hm : i + m = w.tasks.length) {H : AH} (hP : P < H.n) (gP : H.bk P = some ⟨[vt, vb, x2, x3, x4], true⟩) (h : TV ok H vt w.tasks) (hb : alen vb = some w.boxes.length) (hbl : w.boxes.length ≤ 3)
    (h1 : ∀ G e, Ext H G → get e 1 = some (.ptr P 0) → ((w.tasks.drop i).all (vaT w.boxes.length)) = true → Q (.brk 0) e G)
    (k : ∀ H', Ext H H' → ((w.tasks.drop i).all (vaT w.boxes.length)) = false → K (.b false) H') :
    W Cd (.loop c_sWorldValid_l0) [(1, .ptr P 0), (3, .I w.tasks.length), (4, .I i)] H Q := by
  have hbig := h.big
  induction m generalizing i H with
  | zero =>
    rw [W_loop_as c_sWorldValid_l0.eq_1]
    have : i = w.tasks.length := by omega
    subst this
    simp
    exact h1 H _ (Ext.refl _) rfl (by rw [List.drop_eq_nil_of_le (Nat.le_refl _)]; rfl)
  | succ m ih =>
    rw [W_loop_as c_sWorldValid_l0.eq_1]
    have hlt : i < w.tasks.length := by omega
    have hlt' : (i : Int) < w.tasks.length := by omega
    obtain ⟨t, ht⟩ : ∃ t, w.tasks[i]? = some t := ⟨_, List.getElem?_eq_getElem hlt⟩
    obtain ⟨b, o, cap, vv, vr, e1, ob, hbn, l1, i1, s1⟩ := h.at ht
    have hh := h
    subst e1
    rw [all_dropB ht] at k h1
    simp (disch := omega) [hlt', l1, load_bk gP]
    refine K_sTaskValid ⟨vv, vr, rfl, i1, s1⟩ (hct t (List.mem_of_getElem? ht)) fun H2 x2' => ?_
    have hsp := vaT_split (t := t) (many := w.boxes.length) (by omega)
    have g2 := (x2'.2 _ hP).trans gP
    have l2 := loadN_get (loadN_extE l1 x2' hbn) (i := 1) (by omega)
    simp at l2
    cases hv : vaT 3 t with
    | false =>
      rw [hv] at hsp
      simp [h2, x2']
      exact k H2 x2' (by rw [hsp]; rfl)
    | true =>
      rw [hv, Bool.true_and] at hsp
      simp (disch := omega) [x2', load_bk g2, hlt', l2, hb]
      refine K_sl12Boxes t.rest (s1.ext x2') fun H3 x3' => ?_
      have y3 := x2'.trans x3'
      cases hx : bxS w.boxes.length t.rest with
      | false =>
        rw [hx] at hsp
        simp [h2, x3']
        exact k H3 y3 (by rw [hsp]; rfl)
      | true =>
        rw [hx] at hsp
        rw [hsp] at k h1
        simp (disch := omega) [x3']
        have := ih (i + 1) (by omega) (H := H3) (by have := y3.1; omega) ((y3.2 _ hP).trans gP) (hh.ext y3) (fun G e xg he ha => h1 G e (y3.trans xg) he (by simpa using ha)) (fun H' x' ha => k H' (y3.trans x') (by simpa using ha))
        simpa using this
theorem K_sWorldValid {ok : Nat → Prop} {H : AH} {K : AV → AH → Prop} {wf : Fk K} {c : List AV} {w : Wd} (h : WC ok H c w) (hct : ∀ t ∈ w.tasks, ctS t.rest ≤ 100000) (k : ∀ H', Ext H H' → K (.b (vaWd w)) H') : CallF Cd f_sWorldValid [.agg c] H K wf := by
  obtain ⟨vt, vb, vo, rfl, h1, h2, h3⟩ := h
  rw [CallF_eq e_sWorldValid rfl]
  have x0 := Ext.push H [vt, vb, .I w.turn, .I w.idle, vo]
  have q0 : (H.push [vt, vb, .I w.turn, .I w.idle, vo]).bk H.n = some ⟨[vt, vb, .I w.turn, .I w.idle, vo], true⟩ := push_new
  have hbig := h1.big
  have bad : ∀ {p : Prop}, (vaWd w = true → p) → ¬ p → vaWd w = false := fun {p} h1 h2 => by
    cases hv : vaWd w with
    | false => rfl
    | true => exact absurd (h1 hv) h2
  by_cases hm : 1 ≤ (w.tasks.length : Int) ∧ (w.tasks.length : Int) ≤ 3
  case neg =>
    have e := bad (fun hv => (show 1 ≤ (w.tasks.length : Int) ∧ (w.tasks.length : Int) ≤ 3 by have := (vaWd_iff.1 hv).1; omega)) hm
    have k' := k _ x0
    rw [e] at k'
    simp [load_bk q0, h1.alen, K_in_f hm]
    simpa using k'
  simp [load_bk q0, h1.alen, K_in_t hm]
  refine K_sl15Boxes (h2.ext x0) fun H1 x1 => ?_
  have y1 := x0.trans x1
  have q1 := (x1.2 H.n (by simp)).trans q0
  have n1 := x1.1
  simp only [push_n] at n1
  cases hvb : vaBs w.boxes with
  | false =>
    have e := bad (fun hv => (vaWd_iff.1 hv).2.2.1) (by rw [hvb]; simp)
    have k' := k _ y1
    rw [e] at k'
    simpa using k'
  | true =>
  have hs1 : -9223372036854775808 ≤ (w.tasks.length : Int) - 1 ∧ (w.tasks.length : Int) - 1 ≤ 9223372036854775807 := by omega
  by_cases ht : 0 ≤ w.turn ∧ w.turn ≤ (w.tasks.length : Int) - 1
  case neg =>
    have e := bad (fun hv => (show 0 ≤ w.turn ∧ w.turn ≤ (w.tasks.length : Int) - 1 by have := (vaWd_iff.1 hv).1; omega)) ht
    have k' := k _ y1
    rw [e] at k'
    simp (disch := omega) [load_bk q1, K_in_f ht]
    simpa using k'
  by_cases hi : 0 ≤ w.idle ∧ w.idle ≤ (w.tasks.length : Int)
  case neg =>
    have e := bad (fun hv => (show 0 ≤ w.idle ∧ w.idle ≤ (w.tasks.length : Int) by have := (vaWd_iff.1 hv).1; omega)) hi
    have k' := k _ y1
    rw [e] at k'
    simp (disch := omega) [load_bk q1, K_in_t ht, K_in_f hi]
    simpa using k'
  simp (disch := omega) [load_bk q1, K_in_t ht, K_in_t hi]
  have hbl := (vaBs_facts hvb).1
  have := K_sWorldValid_l (w := w) (K := K) (Q := ?_) (x2 := .I w.turn) (x3 := .I w.idle) (x4 := vo) hct ?_ w.tasks.length 0 (by omega) (P := H.n) (H := H1) (by omega) q1 (h1.ext y1) h2.alen hbl ?_ ?_
  · simpa using this
  · intros; simp
  · intro G e xg he ha
    have qg := (xg.2 H.n (by omega)).trans q1
    have z := h3.ext (y1.trans xg)
    simp [he, load_bk qg, z.alen, K_sl4Words z.sees]
    have : vaWd w = w.out.all isW := by
      unfold vaWd
      rw [hvb, decide_eq_true (by omega)]
      simp only [List.drop_zero] at ha
      rw [ha]; simp
    rw [this] at k
    exact k G (y1.trans xg)
  · intro H' x' ha
    have e := bad (fun hv => (show w.tasks.all (vaT w.boxes.length) = true by rw [List.all_eq_true]; exact (vaWd_iff.1 hv).2.2.2)) (by simp only [List.drop_zero] at ha; rw [ha]; simp)
    rw [e] at k
    exact k H' (y1.trans x')
end Go.Proofs.YtmecbehegmgbhaaGreat.AM
namespace Go.Proofs.YtmecbehegmgbhaaGreat.AM
set_option linter.unusedSimpArgs false
set_option linter.unusedVariables false
set_option maxRecDepth 100000
set_option maxHeartbeats 2000000
open Go
attribute [-simp] AM.elems
/-- One more of a list that is built, whose elements lie behind lo. -/
theorem LF.snoc2 {α : Type} {sz : Nat} {E : (Nat → Prop) → AH → List AV → α → Prop} (mono : ∀ {ok ok' : Nat → Prop} {H H' : AH} {c a}, E ok H c a → H.n ≤ H'.n → (∀ b, ok b → b < H.n → H'.bk b = H.bk b) → (∀ b, ok b → b < H.n → ok' b) → E ok' H' c a)
    {base lo B : Nat} {G G1 : AH} {g : AV} {l : List α} {i : Nat} {x : α} {cs c : List AV} (hs : l[i]? = some x) (hg : GrS base G g i sz cs B) (he : LF sz (E (fun b => lo ≤ b ∧ b ≠ B) G) (l.take i) cs)
    (hb : base ≤ G.n) (hlo : lo ≤ G.n) (x1 : Ext G G1) (hc : c.length = sz) (hx : E (fun b => G.n ≤ b) G1 c x) (hi : i < 1000000) :
    ∃ g' G' B', aapp G1 sz g 1 c = some (g', G') ∧ GrS base G' g' (i + 1) sz (cs ++ c) B' ∧ LF sz (E (fun b => lo ≤ b ∧ b ≠ B') G') (l.take (i + 1)) (cs ++ c) ∧ Only (grB g B) G1 G' ∧ ((B' = B ∧ B ∈ grB g B) ∨ B' = G1.n) ∧ g'.flat = true := by
  obtain ⟨g', G', B', a1, a2, a3, a4⟩ := (hg.ext x1).app (k := 1) (new := c) (by have := x1.1; omega) (by omega) (by omega)
  have hm : ∀ b, b ∈ grB g B → b = B ∧ base ≤ B ∧ B < G.n := fun b hb => hg.mem hb
  have hB : (B' = B ∧ base ≤ B ∧ B < G.n) ∨ G1.n = B' := by
    rcases a3 with q | q
    · exact .inl ⟨q.1, (hm _ q.2).2⟩
    · exact .inr q.symm
  have n1 := x1.1
  refine ⟨g', G', B', a1, a2, ?_, a4, a3, a2.flat⟩
  rw [take_snoc hs]
  refine LF.app (he.imp fun c a h => mono h (by have := a4.1; omega) (fun b hb' h1 => ?_) (fun b hb' h1 => ⟨hb'.1, by omega⟩)) (LF.one (mono hx a4.1 (fun b hb' h1 => a4.2 b h1 (fun hm' => by have := hm b hm'; omega)) (fun b hb' h1 => by omega)) hc)
  rw [a4.2 b (by omega) (fun hm' => hb'.2 (hm b hm').1), x1.2 b h1]
/-- A world that may be copied. -/
def smW (w : Wd) : Prop := vaWd w = true ∧ (∀ t ∈ w.tasks, uL t.rest.list ≤ 4000) ∧ w.out.length ≤ 900000
theorem smW.task {w : Wd} (h : smW w) {t : Tk} (ht : t ∈ w.tasks) : vaT 3 t = true ∧ ctS t.rest ≤ 64000 ∧ t.rest.list.length ≤ 4000 ∧ cpS t.rest = true ∧ t.vars.length = 4 := by
  obtain ⟨h1, h2, h3⟩ := h
  obtain ⟨g1, g2, g3, g4⟩ := vaWd_iff.1 h1
  have hb := (vaBs_facts g3).1
  have h4 := vaT_boxes (b := 3) (by omega) (g4 t ht)
  have h5 := h2 t ht
  have h6 := ctS_uL h4
  have h7 := len_uL t.rest.list
  obtain ⟨f1, f2, f3, f4⟩ := vaT_facts h4
  exact ⟨h4, by omega, by omega, f4, f1⟩
theorem store_cell {H : AH} {b o : Nat} {cs : List AV} {v : AV} (h : H.bk b = some ⟨cs, true⟩) (ho : o < cs.length) : H.store b o [v] = some (H.put b (some ⟨cs.set o v, true⟩)) := by
  rw [store_bk h (by simp; omega)]
  congr 3
  unfold splice
  rw [List.set_eq_take_append_cons_drop, if_pos ho]
  simp
theorem K_sl16Copy_l {w : Wd} (hw : smW w) {ok : Nat → Prop} {vt vb vo b1 b2 b3 b4 : AV} {P R P3 base lo : Nat} {Q : Out → Env → AH → Prop} (hbl : base ≤ lo) (hP3 : base ≤ P3 ∧ P3 < lo) (hPP : P < base)
    (m i : Nat) (hm : i + m = w.tasks.length) {G : AH} {g : AV} {cs : List AV} {B : Nat} (hlo : lo ≤ G.n) (gP : G.bk P = some ⟨[vt, b1, b2, b3, b4], true⟩) (hv : TV (fun b => b < base) G vt w.tasks) (g3 : G.bk P3 = some ⟨[g, vb, .I w.turn, .I w.idle, vo], true⟩)
    (hg : GrS base G g i 2 cs B) (hB : B ≠ P3) (he : LF 2 (TC (fun b => lo ≤ b ∧ b ≠ B) G) (w.tasks.take i) cs) (S : Nat → Prop) (hS : ∀ b, S b → b < lo ∧ b ≠ P3 ∧ b ≠ B)
    (hQ : ∀ e G' g' cs' B', GrS base G' g' w.tasks.length 2 cs' B' → LF 2 (TC (fun b => lo ≤ b ∧ b ≠ B') G') w.tasks cs' → G'.bk P3 = some ⟨[g', vb, .I w.turn, .I w.idle, vo], true⟩ → B' ≠ P3 → (∀ b, S b → b ≠ B') → (∀ b, (b < base ∨ S b) → G'.bk b = G.bk b) → G.n ≤ G'.n → get e 2 = some (.ptr R 0) → get e 3 = some (.ptr P3 0) → Q (.brk 0) e G') :
    W Cd (.loop c_sl16Copy_l0) [(1, .ptr P 0), (2, .ptr R 0), (3, .ptr P3 0), (4, .I i)] G Q := by
  have hbig := hv.big
  have hl3 : w.tasks.length ≤ 3 := (vaWd_iff.1 hw.1).1.2.1
  induction m generalizing i G g cs B with
  | zero =>
    rw [W_loop_as c_sl16Copy_l0.eq_1]
    have : i = w.tasks.length := by omega
    subst this
    simp [load_bk gP, hv.alen]
    rw [List.take_length] at he
    exact hQ _ G g cs B hg he g3 hB (fun b hb => (hS b hb).2.2) (fun _ _ => rfl) (Nat.le_refl _) rfl rfl
  | succ m ih =>
    rw [W_loop_as c_sl16Copy_l0.eq_1]
    have hlt : i < w.tasks.length := by omega
    have hlt' : (i : Int) < w.tasks.length := by omega
    obtain ⟨t, ht⟩ : ∃ t, w.tasks[i]? = some t := ⟨_, List.getElem?_eq_getElem hlt⟩
    obtain ⟨b, o, cap, vv, vr, e1, ob, hbn, l1, i1, s1⟩ := hv.at ht
    obtain ⟨u1, u2, u3, u4, u5⟩ := hw.task (List.mem_of_getElem? ht)
    have hv' := hv
    subst e1
    simp (disch := omega) [hlt', l1, load_bk gP, load_bk g3]
    refine K_sl15Copy ⟨vv, vr, rfl, i1, s1⟩ u4 (by omega) (by omega) fun c' H1 tc x1 => ?_
    have n1 := x1.1
    have tc' := tc
    obtain ⟨cv, cr, rfl, j1, j2⟩ := tc'
    have x2 := x1.trans (Ext.push H1 [cv, cr])
    obtain ⟨g', G', B', a1, a2, a3, a4, a5, a6⟩ := LF.snoc2 (E := TC) (fun h => h.mono) ht hg he (by omega) hlo x2 (c := [cv, cr]) rfl (tc.ext (Ext.push H1 _)) (by omega)
    have hgm : ∀ b, b ∈ grB g B → b = B ∧ base ≤ B ∧ B < G.n := fun b hb => hg.mem hb
    have g3' : G'.bk P3 = some ⟨[g, vb, .I w.turn, .I w.idle, vo], true⟩ := (a4.2 P3 (by simp; omega) (fun hm => hB (hgm _ hm).1.symm)).trans ((x2.2 P3 (by omega)).trans g3)
    have hfl : cv.flat = true ∧ cr.flat = true := ⟨SlC.flat j1, j2.flat⟩
    have st := store_cell (v := g') g3' (o := 0) (by simp)
    simp only [List.set_cons_zero] at st
    have hB' : B' ≠ P3 := by
      rcases a5 with q | q
      · rw [q.1]; exact hB
      · rw [q]; simp; omega
    have n4 := a4.1
    simp only [push_n] at n4
    have gg : ∀ b, b < G.n → b ∉ grB g B → b ≠ P3 → (G'.put P3 (some ⟨[g', vb, .I w.turn, .I w.idle, vo], true⟩)).bk b = G.bk b := fun b hb h1 h2 => by
      rw [put_bk, if_neg h2, a4.2 b (by simp; omega) h1, x2.2 b hb]
    simp (disch := omega) [AM.elems, x1, loadN_push, a1, flat_cells a6, flat_tup a6, st]
    have := ih (i + 1) (by omega) (G := G'.put P3 (some ⟨[g', vb, .I w.turn, .I w.idle, vo], true⟩)) (g := g') (cs := cs ++ [cv, cr]) (B := B') (by simp; omega)
      ((gg P (by omega) (fun hm => by have := hgm _ hm; omega) (by omega)).trans gP)
      (hv'.mono (by simp; omega) (fun b hb _ => gg b (by omega) (fun hm => by have := hgm _ hm; omega) (by omega)) (fun _ h _ => h)) put_same
      (a2.only (bs := [P3]) (Only.refl.put (by simp)) (fun b hb => .inr (by simp at hb; subst hb; exact Ne.symm hB'))) hB'
      (a3.imp fun c a h => h.mono (by simp) (fun b hb _ => by rw [put_bk, if_neg (by omega)]) (fun _ h _ => h))
      (fun b hb => ⟨(hS b hb).1, (hS b hb).2.1, by
        rcases a5 with q | q
        · rw [q.1]; exact (hS b hb).2.2
        · have := (hS b hb).1; rw [q]; simp; omega⟩)
      (fun e G2 g2 cs2 B2 z1 z2 z3 z4 z5 z6 z7 z8 z9 => hQ e G2 g2 cs2 B2 z1 z2 z3 z4 z5 (fun b hb => (z6 b hb).trans (gg b (by rcases hb with q | q; omega; have := (hS b q).1; omega) (fun hm => by
        have := hgm _ hm
        rcases hb with q | q
        · omega
        · exact (hS b q).2.2 this.1) (by rcases hb with q | q; omega; exact (hS b q).2.1))) (by simp at z7; omega) z8 z9)
    simpa using this
end Go.Proofs.YtmecbehegmgbhaaGreat.AM
namespace Go.Proofs.YtmecbehegmgbhaaGreat.AM
set_option linter.unusedSimpArgs false
set_option linter.unusedVariables false
set_option maxRecDepth 100000
set_option maxHeartbeats 2000000
open Go
attribute [-simp] AM.elems
theorem store_push5 {H : AH} {a b c d e : AV} {l : List AV} (hl : l.length = 5) : (H.push [a, b, c, d, e]).store H.n 0 l = some (H.push l) := by
  rw [store_bk push_new (by simp; omega), push_put]
  congr 2; unfold splice; simp; omega
theorem store_five {H : AH} {b : Nat} {cs l : List AV} (h : H.bk b = some ⟨cs, true⟩) (hc : cs.length = 5) (hl : l.length = 5) : H.store b 0 l = some (H.put b (some ⟨l, true⟩)) := by
  rw [store_bk h (by omega)]
  congr 3
  unfold splice
  simp; omega
theorem GrS.same {base H G v n sz cs B} (h : GrS base H v n sz cs B) (hn : H.n ≤ G.n) (hk : G.bk B = H.bk B) : GrS base G v n sz cs B := by
  obtain ⟨h1, h2, h3 | ⟨h4, h5, h6⟩⟩ := h
  · exact ⟨h1, h2, .inl h3⟩
  · exact ⟨h1, h2, .inr ⟨h4, by omega, by rw [hk]; exact h6⟩⟩
/-- A world whose list of what is printed lies in a block of its own. -/
def WX (ok : Nat → Prop) (H : AH) (c : List AV) (w : Wd) : Prop := ∃ vt vb vo OB, c = [vt, vb, .I w.turn, .I w.idle, vo] ∧ TV (fun b => ok b ∧ b ≠ OB) H vt w.tasks ∧ BV (fun b => ok b ∧ b ≠ OB) H vb w.boxes ∧ GrS 0 H vo w.out.length 1 (Ints w.out) OB ∧ (vo = .nils ∨ ok OB)
theorem WX.mono {ok ok' : Nat → Prop} {H H' c w} (h : WX ok H c w) (hn : H.n ≤ H'.n) (hk : ∀ b, ok b → b < H.n → H'.bk b = H.bk b) (ho : ∀ b, ok b → b < H.n → ok' b) : WX ok' H' c w := by
  obtain ⟨vt, vb, vo, OB, e, h1, h2, h3, h4⟩ := h
  refine ⟨vt, vb, vo, OB, e, h1.mono hn (fun b hb => hk b hb.1) (fun b hb hb2 => ⟨ho b hb.1 hb2, hb.2⟩), h2.mono hn (fun b hb => hk b hb.1) (fun b hb hb2 => ⟨ho b hb.1 hb2, hb.2⟩), ?_, ?_⟩
  · rcases h4 with z | z
    · subst z
      obtain ⟨a, b, c | ⟨c, d, c' | ⟨_, _, c', _⟩⟩⟩ := h3
      · exact ⟨a, b, .inl c⟩
      · exact absurd c'.1 (by simp)
      · exact absurd c' (by simp)
    · by_cases q : OB < H.n
      · exact h3.same hn (hk OB z q)
      · obtain ⟨a, b, c | ⟨c, d, _⟩⟩ := h3
        · exact ⟨a, b, .inl c⟩
        · exact absurd d q
  · rcases h4 with z | z
    · exact .inl z
    · obtain ⟨a, b, c | ⟨c, d, _⟩⟩ := h3
      · exact .inl c.1
      · exact .inr (ho OB z d)
theorem WX.ext {ok H H' c t} (h : WX ok H c t) (k : Ext H H') : WX ok H' c t := h.mono k.1 (fun b _ hb => k.2 b hb) (fun _ h _ => h)
theorem WX.wc {ok H c w} (h : WX ok H c w) : WC ok H c w := by
  obtain ⟨vt, vb, vo, OB, e, h1, h2, h3, h4⟩ := h
  refine ⟨vt, vb, vo, e, h1.mono (Nat.le_refl _) (fun _ _ _ => rfl) (fun _ h _ => h.1), h2.mono (Nat.le_refl _) (fun _ _ _ => rfl) (fun _ h _ => h.1), ?_⟩
  rcases h4 with z | z
  · subst z
    obtain ⟨a, b, c | ⟨c, d, c' | ⟨_, _, c', _⟩⟩⟩ := h3
    · have : w.out.length = 0 := c.2
      exact ⟨by omega, by simpa using b, .inl ⟨this, .inl rfl⟩⟩
    · exact absurd c'.1 (by simp)
    · exact absurd c' (by simp)
  · exact h3.ivB (fun _ _ => z)
theorem K_sl16Copy {ok : Nat → Prop} {H : AH} {K : AV → AH → Prop} {wf : Fk K} {c : List AV} {w : Wd} (h : WC ok H c w) (hw : smW w)
    (k : ∀ vt vb vo TB OB cs H', GrS H.n H' vt w.tasks.length 2 cs TB → LF 2 (TC (fun b => H.n ≤ b ∧ b ≠ TB ∧ b ≠ OB) H') w.tasks cs → BV (fun b => H.n ≤ b ∧ b ≠ OB) H' vb w.boxes → GrS H.n H' vo w.out.length 1 (Ints w.out) OB → TB ≠ OB → OB < H'.n → Ext H H' → K (.agg [vt, vb, .I w.turn, .I w.idle, vo]) H') : CallF Cd f_sl16Copy [.agg c] H K wf := by
  obtain ⟨vt, vb, vo, rfl, h1, h2, h3⟩ := h
  rw [CallF_eq e_sl16Copy rfl]
  have hb3 := (vaBs_facts (vaWd_iff.1 hw.1).2.2.1)
  have x0 := ((Ext.push H [vt, vb, .I w.turn, .I w.idle, vo]).trans (Ext.push _ [.nils, .nils, .I 0, .I 0, .nils])).trans (Ext.push _ [])
  have q0 : (((H.push [vt, vb, .I w.turn, .I w.idle, vo]).push [.nils, .nils, .I 0, .I 0, .nils]).push []).bk H.n = some ⟨[vt, vb, .I w.turn, .I w.idle, vo], true⟩ := push_old (by simp <;> omega) (push_old (by simp) push_new)
  simp [load_bk q0]
  refine K_sl15BoxesCopy w.boxes (fun x hx => by have := hb3.2 x hx; omega) (h2.ext x0) (by omega) fun vb' H1 bcs BB bg bl x1 => ?_
  have n1 := x1.1
  simp only [push_n] at n1
  have q1 : H1.bk H.n = some ⟨[vt, vb, .I w.turn, .I w.idle, vo], true⟩ := (x1.2 _ (by simp <;> omega)).trans q0
  have qE : H1.bk (H.n + 2) = some ⟨[], true⟩ := (x1.2 _ (by simp)).trans push_new
  have qR : H1.bk (H.n + 1) = some ⟨[.nils, .nils, .I 0, .I 0, .nils], true⟩ := (x1.2 _ (by simp <;> omega)).trans (push_old (by simp) push_new)
  have xa := Ext.push H1 []
  have y1 := (x0.trans x1).trans xa
  have ho := hw.2.2
  obtain ⟨vo', H2, OB, a1, a2, a3, a4, a5⟩ := app_newG (push_new (H := H1) (cs := [])) (by simp) (base := H1.n) (Nat.le_refl _) (l := w.out) (by omega)
  have he : AM.elems (H1.push []) 1 vo = some (Ints w.out) := (h3.ext y1).src.elems
  have hne : ¬ H.n = H1.n := by omega
  have n2 := a2.1
  simp only [push_n] at n2
  have bfl := bg.flat
  obtain ⟨OB, hOB, a3⟩ : ∃ OB, (H1.n ≤ OB ∧ OB < H2.n) ∧ GrS H1.n H2 vo' w.out.length 1 (Ints w.out) OB := by
    rcases a3.2.2 with z | z
    · exact ⟨H1.n, by omega, a3.1, a3.2.1, .inl z⟩
    · exact ⟨OB, ⟨z.1, z.2.1⟩, a3⟩
  simp [x1, load_bk q1, load_push, hne, h3.alen, he, a1, a2, flat_cells bfl, flat_tup bfl, flat_cells a4, flat_tup a4, store_push5]
  have x3 := Ext.push H2 [.sl (H.n + 2) 0 0 (.ex 0), vb', .I w.turn, .I w.idle, vo']
  have y3 := (y1.trans a2).trans x3
  have hnn := y3.1
  simp only [push_n] at hnn
  have := K_sl16Copy_l hw (ok := fun _ => True) (vt := vt) (vb := vb') (vo := vo') (b1 := vb) (b2 := .I w.turn) (b3 := .I w.idle) (b4 := vo) (P := H.n) (R := H.n + 1) (P3 := H2.n) (base := H.n + 2) (lo := H2.n + 1) (by omega) (by omega) (by omega)
    w.tasks.length 0 (by omega) (G := H2.push [.sl (H.n + 2) 0 0 (.ex 0), vb', .I w.turn, .I w.idle, vo']) (g := .sl (H.n + 2) 0 0 (.ex 0)) (cs := []) (B := H.n + 2) (Nat.le_refl _)
    ((x3.2 _ (by omega)).trans ((a2.2 _ (by simp; omega)).trans ((xa.2 _ (by omega)).trans q1)))
    (h1.mono (by simp; omega) (fun b _ hb => y3.2 b hb) (fun b _ hb => by omega)) push_new
    ⟨by omega, rfl, .inr ⟨Nat.le_refl _, by simp; omega, .inl ⟨rfl, (x3.2 _ (by omega)).trans ((a2.2 _ (by simp; omega)).trans ((xa.2 _ (by omega)).trans qE))⟩⟩⟩ (by omega) rfl
    (fun b => H.n + 2 < b ∧ b < H2.n) (fun b hb => by omega) (Q := ?_) ?_
  · simpa using this
  · intro e G g cs B z1 z2 z3 z4 z5 z6 z7 z8 z9
    simp only [push_n] at z7
    have keep : ∀ b, H.n + 2 < b → b < H2.n → G.bk b = H2.bk b := fun b h h' => (z6 b (.inr ⟨h, h'⟩)).trans (x3.2 b (by omega))
    have keep0 : ∀ b, b < H.n + 2 → G.bk b = H1.bk b := fun b h => (z6 b (.inl h)).trans ((x3.2 b (by omega)).trans ((a2.2 b (by simp; omega)).trans (xa.2 b (by omega))))
    have qR2 := (keep0 (H.n + 1) (by omega)).trans qR
    have st := store_five qR2 (l := [g, vb', .I w.turn, .I w.idle, vo']) rfl rfl
    simp [z8, z9, loadN_bk z3, st, loadN_bk put_same]
    have hk : ∀ b, b ≠ H.n + 1 → (G.put (H.n + 1) (some ⟨[g, vb', .I w.turn, .I w.idle, vo'], true⟩)).bk b = G.bk b := fun b hb => by rw [put_bk, if_neg hb]
    refine k g vb' vo' B OB cs _ ?_ ?_ ?_ ?_ ?_ (by simp; omega) ⟨by simp; omega, fun b hb => by rw [hk b (by omega), keep0 b (by omega)]; exact (x0.trans x1).2 b hb⟩
    · have := z1.only (bs := [H.n + 1]) (G' := G.put (H.n + 1) (some ⟨[g, vb', .I w.turn, .I w.idle, vo'], true⟩)) (Only.refl.put (by simp)) (fun b hb => by simp at hb; omega)
      exact this.up (by omega)
    · exact z2.imp fun c a h => h.mono (by simp) (fun b hb _ => hk b (by omega)) (fun b hb _ => ⟨by omega, hb.2, by omega⟩)
    · refine (bg.bv bl).mono (by simp; omega) (fun b hb hb2 => ?_) (fun b hb hb2 => by simp at hb; have := hOB.1; omega)
      simp only [push_n] at hb
      rw [hk b (by omega), keep b (by omega) (by omega), a2.2 b (by simp; omega), xa.2 b hb2]
    · exact (a3.same (G := G.put (H.n + 1) (some ⟨[g, vb', .I w.turn, .I w.idle, vo'], true⟩)) (by simp; omega) (by rw [hk OB (by omega), keep OB (by omega) hOB.2])).up (by omega)
    · exact fun e => z5 OB ⟨by omega, hOB.2⟩ e.symm
end Go.Proofs.YtmecbehegmgbhaaGreat.AM
namespace Go.Proofs.YtmecbehegmgbhaaGreat.AM
set_option linter.unusedSimpArgs false
set_option linter.unusedVariables false
set_option maxRecDepth 100000
set_option maxHeartbeats 2000000
open Go
attribute [-simp] AM.elems
theorem store_push5e {H : AH} {a b c d e v w x y z : AV} : (H.push [a, b, c, d, e]).store H.n 0 [v, w, x, y, z] = some (H.push [v, w, x, y, z]) := store_push5 rfl
theorem store_push2e {H : AH} {a b x y : AV} : (H.push [a, b]).store H.n 0 [x, y] = some (H.push [x, y]) := by
  rw [store_bk push_new (by simp), push_put]
  rfl
theorem stepF_ok {t : Tk} {bs : List Bx} (h1 : vaT 3 t = true) (h2 : vaBs bs = true) (h3 : rdT t bs.length = true) : stepF t bs = stepP t bs := by
  unfold stepF stOk
  rw [h1, h2, h3]; rfl
theorem K_sl16Step {ok : Nat → Prop} {H : AH} {K : AV → AH → Prop} {wf : Fk K} {c : List AV} {w : Wd} (h : WC ok H c w) (hw : smW w) (hi : w.idle < w.tasks.length)
    (k : ∀ c' H', WX (fun b => H.n ≤ b) H' c' (stepW w) → Ext H H' → K (.agg c') H') : CallF Cd f_sl16Step [.agg c] H K wf := by
  have h' := h
  obtain ⟨vt, vb, vo, rfl, h1, h2, h3⟩ := h'
  rw [CallF_eq e_sl16Step rfl]
  obtain ⟨g1, g2, g3, g4⟩ := vaWd_iff.1 hw.1
  have hb3 := vaBs_facts g3
  obtain ⟨t, ht⟩ : ∃ t, w.tasks[w.turn.toNat]? = some t := ⟨_, List.getElem?_eq_getElem (by omega)⟩
  have htm := List.mem_of_getElem? ht
  obtain ⟨u1, u2, u3, u4, u5⟩ := hw.task htm
  have hrd := rd_of_va (g4 t htm)
  have hF := stepF_ok u1 g3 hrd
  have hcode := step_code' (bs := w.boxes) u1
  have e : stepW w = ⟨w.tasks.set w.turn.toNat (stepP t w.boxes).1, (stepP t w.boxes).2.1, (nextT w.tasks.length w.turn w.idle (stepP t w.boxes).2.2.2).1, (nextT w.tasks.length w.turn w.idle (stepP t w.boxes).2.2.2).2, w.out ++ (stepP t w.boxes).2.2.1⟩ := by
    unfold stepW; rw [ht]
  have x0 := (Ext.push H [vt, vb, .I w.turn, .I w.idle, vo]).trans (Ext.push _ [.nils, .nils, .I 0, .I 0, .nils])
  have q0 : ((H.push [vt, vb, .I w.turn, .I w.idle, vo]).push [.nils, .nils, .I 0, .I 0, .nils]).bk H.n = some ⟨[vt, vb, .I w.turn, .I w.idle, vo], true⟩ := push_old (by simp) push_new
  simp [loadN_bk q0]
  refine K_sl16Copy (h.ext x0) hw fun vt2 vb2 vo2 TB OB cs H1 a1 a2 a3 a4 a5 hOB x1 => ?_
  have n1 := x1.1
  simp only [push_n] at n1
  have q1 := (x1.2 H.n (by simp <;> omega)).trans q0
  have qR1 : H1.bk (H.n + 1) = some ⟨[.nils, .nils, .I 0, .I 0, .nils], true⟩ := (x1.2 _ (by simp)).trans push_new
  have x2 := Ext.push H1 [vt2, vb2, .I w.turn, .I w.idle, vo2]
  have y2 := (x0.trans x1).trans x2
  have q2 := (x2.2 H.n (by omega)).trans q1
  obtain ⟨b, o, cap, vv, vr, e1, ob, hbn, l1, i1, s1⟩ := h1.at ht
  have hv1 := h1
  subst e1
  have l2 := loadN_extE l1 y2 hbn
  have hturn : w.turn < (w.tasks.length : Int) := g1.2.2.2.1
  simp (disch := omega) [store_push5e, load_bk q2, hturn, g1.2.2.1, l2]
  refine K_sTaskStep ⟨vv, vr, rfl, i1.ext y2, s1.ext y2⟩ (h2.ext y2) (by omega) fun c4 v4 p4 H3 tc bv iv x3 fv fp => ?_
  rw [hF] at tc bv iv ⊢
  obtain ⟨cv, cr, rfl, j1, j2⟩ := id tc
  have n3 := x3.1
  simp only [push_n] at n3
  have x4 := Ext.push H3 [cv, cr]
  have y4 := (y2.trans x3).trans x4
  have q4 : (H3.push [cv, cr]).bk H.n = some ⟨[.sl b o w.tasks.length cap, vb, .I w.turn, .I w.idle, vo], true⟩ := (x4.2 _ (by omega)).trans ((x3.2 _ (by simp; omega)).trans q2)
  have q34 : (H3.push [cv, cr]).bk H1.n = some ⟨[vt2, vb2, .I w.turn, .I w.idle, vo2], true⟩ := (x4.2 _ (by omega)).trans ((x3.2 _ (by simp)).trans push_new)
  have qR4 : (H3.push [cv, cr]).bk (H.n + 1) = some ⟨[.nils, .nils, .I 0, .I 0, .nils], true⟩ := (x4.2 _ (by omega)).trans ((x3.2 _ (by simp; omega)).trans ((x2.2 _ (by omega)).trans qR1))
  have z4 := (x2.trans x3).trans x4
  obtain ⟨capT, G4, b1, b2, b3, b4, b5, b6⟩ := (a1.ext z4).store (i := w.turn.toNat) (c := [cv, cr]) (by omega) rfl
  simp only [push_n] at b5 b6
  have hTB : TB < H1.n := by
    rcases a1.2.2 with z | z
    · omega
    · exact z.2.1
  have hTR : H.n + 2 ≤ TB := b5
  -- the tasks, with the one that has run
  have keep4 : ∀ b, b ≠ TB → b < H3.n + 1 → G4.bk b = (H3.push [cv, cr]).bk b := fun b hb hn => b4.2 b (by simpa using hn) (by simpa using hb)
  have lfT : LF 2 (TC (fun b => H.n + 2 ≤ b ∧ b ≠ TB ∧ b ≠ OB ∧ b ≠ H1.n) G4) (w.tasks.set w.turn.toNat (stepP t w.boxes).1) (splice cs (w.turn.toNat * 2) [cv, cr]) := by
    refine (a2.imp fun c a h => h.mono (ok' := fun b => H.n + 2 ≤ b ∧ b ≠ TB ∧ b ≠ OB ∧ b ≠ H1.n) (by have := b4.1; simp at this; omega) (fun b hb hn => by rw [keep4 b hb.2.1 (by omega)]; exact z4.2 b hn) (fun b hb hn => ⟨by simpa using hb.1, hb.2.1, hb.2.2, by omega⟩)).set (by omega) ((tc.ext x4).mono (by have := b4.1; simp at this ⊢; omega) (fun b hb hn => keep4 b (by simp at hb; omega) (by simpa using hn)) (fun b hb hn => by simp at hb; omega)) rfl
  have n4 := b4.1
  simp only [push_n] at n4
  have q5 := (keep4 H.n (by omega) (by omega)).trans q4
  have q35 := (keep4 H1.n (by omega) (by omega)).trans q34
  have st1 := store_cell (v := v4) q35 (o := 1) (by simp)
  simp only [List.set_cons_succ, List.set_cons_zero] at st1
  have iv4 := iv.ext x4
  subst b1
  simp (disch := omega) [x3, store_push2e, loadN_push, load_bk q34, load_bk q4, hturn, g1.2.2.1, b2, flat_cells fv, flat_tup fv, st1]
  have hp1 : (stepP t w.boxes).2.2.1.length ≤ 1 := by
    obtain ⟨_, _, _, _, ⟨p, hp, hpl⟩, _⟩ := stepW_keeps hw.1 hi
    rw [e] at hp
    have := List.append_cancel_left hp
    rw [this]; exact hpl
  have ho := hw.2.2
  -- what is printed
  have o5 : Only [H1.n] G4 (G4.put H1.n (some ⟨[.sl TB 0 w.tasks.length capT, v4, .I w.turn, .I w.idle, vo2], true⟩)) := Only.refl.put (by simp)
  have vo5 := ((a4.ext z4).only b4 (fun b hb => .inr (by simp at hb; subst hb; exact a5))).only o5 (fun b hb => .inr (by simp at hb; omega))
  have k5 : ∀ b, H1.n < b → b < H3.n + 1 → (G4.put H1.n (some ⟨[.sl TB 0 w.tasks.length capT, v4, .I w.turn, .I w.idle, vo2], true⟩)).bk b = (H3.push [cv, cr]).bk b := fun b h1 h2 => by
    rw [put_bk, if_neg (by omega), keep4 b (by omega) h2]
  have ivp : IV (fun b => H1.n < b) (G4.put H1.n (some ⟨[.sl TB 0 w.tasks.length capT, v4, .I w.turn, .I w.idle, vo2], true⟩)) p4 (stepP t w.boxes).2.2.1 :=
    iv4.mono (by simp; omega) (fun b hb hn => k5 b (by simp at hb; omega) (by simpa using hn)) (fun b hb hn => by simp at hb; omega)
  obtain ⟨v6, G6, B6, c1, c2, c3, c4⟩ := vo5.app (by simp; omega) (k := (stepP t w.boxes).2.2.1.length) (new := Ints (stepP t w.boxes).2.2.1) (by rw [Ints_len]; omega) (by omega)
  have n6 := c4.1
  simp only [put_n] at n6
  have hgm : ∀ b, b ∈ grB vo2 OB → b = OB := fun b hb => grB_sub hb
  have f6 := c2.flat
  have q36 : G6.bk H1.n = some ⟨[.sl TB 0 w.tasks.length capT, v4, .I w.turn, .I w.idle, vo2], true⟩ := (c4.2 _ (by simp; omega) (fun hm => by have := hgm _ hm; omega)).trans put_same
  have hHO : H.n + 2 ≤ OB ∨ vo2 = .nils := by
    rcases a4.2.2 with z | z
    · exact .inr z.1
    · exact .inl (by simpa using z.1)
  have hgm2 : ∀ b, b ∈ grB vo2 OB → H.n + 2 ≤ b := fun b hb => by
    rcases hHO with z | z
    · rw [hgm b hb]; exact z
    · rw [z] at hb; simp [grB] at hb
  have q6 : G6.bk H.n = some ⟨[.sl b o w.tasks.length cap, vb, .I w.turn, .I w.idle, vo], true⟩ := (c4.2 _ (by simp; omega) (fun hm => by have := hgm2 _ hm; omega)).trans (by rw [put_bk, if_neg (by omega)]; exact q5)
  have qR6 : G6.bk (H.n + 1) = some ⟨[.nils, .nils, .I 0, .I 0, .nils], true⟩ := (c4.2 _ (by simp; omega) (fun hm => by have := hgm2 _ hm; omega)).trans (by rw [put_bk, if_neg (by omega), keep4 _ (by omega) (by omega)]; exact qR4)
  have st6 := store_cell (v := v6) q36 (o := 4) (by simp)
  simp only [List.set_cons_succ, List.set_cons_zero] at st6
  have hne : ¬ H.n = H1.n := by omega
  simp (disch := omega) [load_bk put_same, ivp.alen, ivp.elems, c1, flat_cells f6, flat_tup f6, st6, AH.load, put_bk, hne, q6]
  have hidle : w.idle < (w.tasks.length : Int) := hi
  refine K_sNextTurn (by omega) ⟨g1.2.2.1, hturn⟩ ⟨g1.2.2.2.2.1, hidle⟩ hcode ?_
  have f5 : (AV.I (nextT w.tasks.length w.turn w.idle (stepP t w.boxes).2.2.2).1).cells = [AV.I (nextT w.tasks.length w.turn w.idle (stepP t w.boxes).2.2.2).1] := rfl
  have st7 := store_cell (H := G6.put H1.n (some ⟨[.sl TB 0 w.tasks.length capT, v4, .I w.turn, .I w.idle, v6], true⟩)) (v := AV.I (nextT w.tasks.length w.turn w.idle (stepP t w.boxes).2.2.2).1) put_same (o := 2) (by simp)
  simp only [List.set_cons_succ, List.set_cons_zero] at st7
  have st8 := store_cell (H := (G6.put H1.n (some ⟨[.sl TB 0 w.tasks.length capT, v4, .I w.turn, .I w.idle, v6], true⟩)).put H1.n (some ⟨[.sl TB 0 w.tasks.length capT, v4, .I (nextT w.tasks.length w.turn w.idle (stepP t w.boxes).2.2.2).1, .I w.idle, v6], true⟩)) (v := AV.I (nextT w.tasks.length w.turn w.idle (stepP t w.boxes).2.2.2).2) put_same (o := 3) (by simp)
  simp only [List.set_cons_succ, List.set_cons_zero] at st8
  simp [st7, st8, loadN_bk put_same]
  generalize hn : (nextT w.tasks.length w.turn w.idle (stepP t w.boxes).2.2.2).1 = tn at *
  generalize hj : (nextT w.tasks.length w.turn w.idle (stepP t w.boxes).2.2.2).2 = jn at *
  have hne2 : ¬ H.n + 1 = H1.n := by omega
  have st9 := store_five (H := ((G6.put H1.n (some ⟨[.sl TB 0 w.tasks.length capT, v4, .I w.turn, .I w.idle, v6], true⟩)).put H1.n (some ⟨[.sl TB 0 w.tasks.length capT, v4, .I tn, .I w.idle, v6], true⟩)).put H1.n (some ⟨[.sl TB 0 w.tasks.length capT, v4, .I tn, .I jn, v6], true⟩)) (b := H.n + 1) (cs := [.nils, .nils, .I 0, .I 0, .nils]) (l := [.sl TB 0 w.tasks.length capT, v4, .I tn, .I jn, v6]) (by simp only [put_bk, if_neg hne2]; exact qR6) rfl rfl
  simp [st9, loadN_bk put_same]
  have kf : ∀ b, b ≠ H1.n → b ≠ H.n + 1 → ((((G6.put H1.n (some ⟨[.sl TB 0 w.tasks.length capT, v4, .I w.turn, .I w.idle, v6], true⟩)).put H1.n (some ⟨[.sl TB 0 w.tasks.length capT, v4, .I tn, .I w.idle, v6], true⟩)).put H1.n (some ⟨[.sl TB 0 w.tasks.length capT, v4, .I tn, .I jn, v6], true⟩)).put (H.n + 1) (some ⟨[.sl TB 0 w.tasks.length capT, v4, .I tn, .I jn, v6], true⟩)).bk b = G6.bk b := fun b h1 h2 => by
    simp only [put_bk, if_neg h1, if_neg h2]
  have k6 : ∀ b, b ∉ grB vo2 OB → b ≠ H1.n → b < G4.n → G6.bk b = G4.bk b := fun b h1 h2 h3 => (c4.2 b (by simpa using h3) h1).trans (by rw [put_bk, if_neg h2])
  refine k _ _ ?_ ⟨by simp; omega, fun b hb => ?_⟩
  · rw [e]
    have hB6x : ∀ b, b ≠ OB → b < G4.n → b ≠ B6 := fun b h1 h2 => by
      rcases c3 with q | q
      · rw [q.1]; exact h1
      · rw [q]; simp; omega
    refine ⟨_, _, _, B6, rfl, ⟨splice cs (w.turn.toNat * 2) [cv, cr], ?_, ?_⟩, ?_, ?_, .inr ?_⟩
    · have hh := (b3.same (G := G6) (by omega) (k6 TB (fun hm => a5 (hgm _ hm)) (by omega) (by omega)))
      have hh2 := hh.only (bs := [H1.n, H.n + 1]) (G' := (((G6.put H1.n (some ⟨[.sl TB 0 w.tasks.length capT, v4, .I w.turn, .I w.idle, v6], true⟩)).put H1.n (some ⟨[.sl TB 0 w.tasks.length capT, v4, .I tn, .I w.idle, v6], true⟩)).put H1.n (some ⟨[.sl TB 0 w.tasks.length capT, v4, .I tn, .I jn, v6], true⟩)).put (H.n + 1) (some ⟨[.sl TB 0 w.tasks.length capT, v4, .I tn, .I jn, v6], true⟩)) ⟨by simp, fun b hb hm => kf b (by simp at hm; exact hm.1) (by simp at hm; exact hm.2)⟩ (fun b hb => .inr (by simp at hb; omega))
      simp only [List.length_set]
      exact hh2.ivB (fun _ _ => ⟨by omega, hB6x TB a5 (by omega)⟩)
    · refine lfT.imp fun c a h => h.mono (by simp; omega) (fun b hb hn2 => ?_) (fun b hb hn2 => ⟨by omega, hB6x b hb.2.2.1 hn2⟩)
      rw [kf b (by omega) (by omega), k6 b (fun hm => hb.2.2.1 (hgm _ hm)) hb.2.2.2 (by omega)]
    · refine (bv.ext x4).mono (by simp; omega) (fun b hb hn2 => ?_) (fun b hb hn2 => by simp at hb hn2; exact ⟨by omega, hB6x b (by omega) (by omega)⟩)
      simp at hb hn2
      rw [kf b (by omega) (by omega), k6 b (fun hm => by have := hgm _ hm; omega) (by omega) (by omega), keep4 b (by omega) (by omega)]
    · have c2' : GrS (H.n + 2) G6 v6 (w.out ++ (stepP t w.boxes).2.2.1).length 1 (Ints (w.out ++ (stepP t w.boxes).2.2.1)) B6 := by
        have e1 : Ints w.out ++ Ints (stepP t w.boxes).2.2.1 = Ints (w.out ++ (stepP t w.boxes).2.2.1) := by simp [Ints]
        rw [← e1, List.length_append]
        simpa using c2
      have hB6 : B6 ≠ H1.n := by
        rcases c3 with q | q
        · have := hgm _ q.2; omega
        · rw [q]; simp; omega
      have hB7 : B6 ≠ H.n + 1 := by
        rcases c3 with q | q
        · have := hgm2 _ q.2; omega
        · rw [q]; simp; omega
      have hh2 := c2'.only (bs := [H1.n, H.n + 1]) (G' := (((G6.put H1.n (some ⟨[.sl TB 0 w.tasks.length capT, v4, .I w.turn, .I w.idle, v6], true⟩)).put H1.n (some ⟨[.sl TB 0 w.tasks.length capT, v4, .I tn, .I w.idle, v6], true⟩)).put H1.n (some ⟨[.sl TB 0 w.tasks.length capT, v4, .I tn, .I jn, v6], true⟩)).put (H.n + 1) (some ⟨[.sl TB 0 w.tasks.length capT, v4, .I tn, .I jn, v6], true⟩)) ⟨by simp, fun b hb hm => kf b (by simp at hm; exact hm.1) (by simp at hm; exact hm.2)⟩ (fun b hb => .inr (by simp at hb; rcases hb with rfl | rfl; exact Ne.symm hB6; exact Ne.symm hB7))
      exact hh2.up (base' := 0) (by omega)
    · rcases c3 with q | q
      · have := hgm2 _ q.2; rw [q.1]; omega
      · rw [q]; simp; omega
  · rw [kf b (by omega) (by omega), k6 b (fun hm => by have := hgm2 _ hm; omega) (by omega) (by omega), keep4 b (by omega) (by omega)]
    exact y4.2 b hb
end Go.Proofs.YtmecbehegmgbhaaGreat.AM
namespace Go.Proofs.YtmecbehegmgbhaaGreat.AM
set_option linter.unusedSimpArgs false
set_option linter.unusedVariables false
set_option maxRecDepth 100000
set_option maxHeartbeats 2000000
open Go
attribute [-simp] AM.elems
abbrev zeroW : Wd := ⟨[], [], 0, 0, []⟩
abbrev zC : List AV := [.nils, .nils, .I 0, .I 0, .nils]
theorem TV.nil {ok H v} (h : v = .nils ∨ v = .esl) : TV ok H v [] := ⟨[], ⟨by simp, rfl, .inl ⟨rfl, h⟩⟩, rfl⟩
theorem BV.nil {ok H v} (h : v = .nils ∨ v = .esl) : BV ok H v [] := ⟨[], ⟨by simp, rfl, .inl ⟨rfl, h⟩⟩, rfl⟩
theorem zero_WX {ok H} : WX ok H zC zeroW := ⟨_, _, _, 0, rfl, TV.nil (.inl rfl), BV.nil (.inl rfl), GrS.nils, .inl rfl⟩
theorem zero_WC {ok H} : WC ok H zC zeroW := ⟨_, _, _, rfl, TV.nil (.inl rfl), BV.nil (.inl rfl), IV.nilp (.inl rfl)⟩
/-- What holds of a world that is run n steps. -/
def boW (w : Wd) (n : Nat) : Prop := (∀ t ∈ w.tasks, ctS t.rest ≤ 100000 ∧ uL t.rest.list ≤ 4000) ∧ w.out.length + n ≤ 900000
theorem boW.sm {w : Wd} {n : Nat} (h : boW w n) (hv : vaWd w = true) : smW w := ⟨hv, fun t ht => (h.1 t ht).2, by have := h.2; omega⟩
theorem boW.step {w : Wd} {n : Nat} (h : boW w (n + 1)) (hv : vaWd w = true) (hi : w.idle < w.tasks.length) : boW (stepW w) n := by
  obtain ⟨a1, a2, a3, a4, ⟨p, a5, a6⟩, a7⟩ := stepW_keeps hv hi
  have hu := a7 4000 (fun t ht => (h.1 t ht).2)
  refine ⟨fun t ht => ⟨?_, hu t ht⟩, ?_⟩
  · have := (show smW (stepW w) from ⟨a1, hu, by rw [a5, List.length_append]; have := h.2; omega⟩).task ht
    omega
  · rw [a5, List.length_append]; have := h.2; omega
/-- What a run comes to. -/
def runF (n : Int) (w : Wd) : Wd × Bool := if vaWd w = true ∧ 0 ≤ n ∧ n ≤ 100000 then (runW n.toNat w, true) else (zeroW, false)
end Go.Proofs.YtmecbehegmgbhaaGreat.AM
namespace Go.Proofs.YtmecbehegmgbhaaGreat.AM
set_option linter.unusedSimpArgs false
set_option linter.unusedVariables false
set_option maxRecDepth 100000
set_option maxHeartbeats 2000000
open Go
attribute [-simp] AM.elems
/-- n steps of members that take turns. -/
def turnsF {σ : Type} (many : Int) (nx : σ → Int → σ) (cd : σ → Int → Int) : Nat → σ → Int → Int → σ × Int × Int
  | 0, s, t, i => (s, t, i)
  | n + 1, s, t, i => if i < many then turnsF many nx cd n (nx s t) (nextT many t i (cd s t)).1 (nextT many t i (cd s t)).2 else (s, t, i)
theorem nextT_ok {many t i c : Int} (hm : 1 ≤ many ∧ many ≤ 3) (ht : 0 ≤ t ∧ t < many) (hi : 0 ≤ i ∧ i < many) : (0 ≤ (nextT many t i c).1 ∧ (nextT many t i c).1 < many) ∧ (0 ≤ (nextT many t i c).2 ∧ (nextT many t i c).2 ≤ many) := by
  have m1 := Int.emod_nonneg (t + 1) (show many ≠ 0 by omega)
  have m2 := Int.emod_lt_of_pos (t + 1) (show 0 < many by omega)
  unfold nextT
  split
  · omega
  split <;> omega
theorem K_itakeTurns_l {σ : Type} {fs : FuncId} {cap : List AV} {many : Int} (hm : 1 ≤ many ∧ many ≤ 3) (S : Nat → σ → AH → Prop) (nx : σ → Int → σ) (cd : σ → Int → Int)
    (hstep : ∀ m s t H (K : AV → AH → Prop) (w : Fk K), S (m + 1) s H → 0 ≤ t ∧ t < many → (∀ H', S m (nx s t) H' → K (.I (cd s t)) H') → CallF Cd fs (.I t :: cap) H K w)
    (hcd : ∀ m s t H, S (m + 1) s H → 0 ≤ t ∧ t < many → 1 ≤ cd s t ∧ cd s t ≤ 4) {Q : Out → Env → AH → Prop} (n : Nat) (hn : n ≤ 1000000) : ∀ {s : σ} {t i : Int} {H : AH}, S n s H → 0 ≤ t ∧ t < many → 0 ≤ i ∧ i ≤ many →
    (∀ e m H', S m (turnsF many nx cd n s t i).1 H' → get e 2 = some (.I (turnsF many nx cd n s t i).2.1) → get e 3 = some (.I (turnsF many nx cd n s t i).2.2) → Q (.brk 0) e H') →
    W Cd (.loop c_itakeTurns_l0) [(0, .I n), (1, .I many), (2, .I t), (3, .I i), (4, .fn fs [] cap)] H Q := by
  induction n with
  | zero =>
    intro s t i H hS ht hi hQ
    rw [W_loop_as c_itakeTurns_l0.eq_1]
    simp
    exact hQ _ 0 H hS rfl rfl
  | succ n ih =>
    intro s t i H hS ht hi hQ
    rw [W_loop_as c_itakeTurns_l0.eq_1]
    have h0 : (0 : Int) < (n + 1 : Nat) := by omega
    have h0' : (0 : Int) < (n : Int) + 1 := by omega
    by_cases hlt : i < many
    case neg =>
      simp [h0', hlt]
      have e : turnsF many nx cd (n + 1) s t i = (s, t, i) := by unfold turnsF; rw [if_neg hlt]
      rw [e] at hQ
      exact hQ _ (n + 1) H hS rfl rfl
    have e : turnsF many nx cd (n + 1) s t i = turnsF many nx cd n (nx s t) (nextT many t i (cd s t)).1 (nextT many t i (cd s t)).2 := by
      conv => lhs; unfold turnsF
      rw [if_pos hlt]
    rw [e] at hQ
    simp [h0', hlt]
    refine hstep n s t H _ _ hS ht fun H1 hS1 => ?_
    have hc := hcd n s t H hS ht
    have hok := nextT_ok (c := cd s t) hm ht ⟨hi.1, hlt⟩
    simp
    refine K_iNextTurn hm ht ⟨hi.1, hlt⟩ hc ?_
    have e3 : IntKind.i64.wrap (n : Int) = n := wrap64 (by omega)
    simp [e3]
    exact ih (by omega) hS1 hok.1 hok.2 hQ
theorem K_itakeTurns {σ : Type} {fs : FuncId} {cap : List AV} {many : Int} (hm : 1 ≤ many ∧ many ≤ 3) (S : Nat → σ → AH → Prop) (nx : σ → Int → σ) (cd : σ → Int → Int)
    (hstep : ∀ m s t H (K : AV → AH → Prop) (w : Fk K), S (m + 1) s H → 0 ≤ t ∧ t < many → (∀ H', S m (nx s t) H' → K (.I (cd s t)) H') → CallF Cd fs (.I t :: cap) H K w)
    (hcd : ∀ m s t H, S (m + 1) s H → 0 ≤ t ∧ t < many → 1 ≤ cd s t ∧ cd s t ≤ 4) {n : Nat} (hn : n ≤ 1000000) {s : σ} {t i : Int} {H : AH} {K : AV → AH → Prop} {w : Fk K} (hS : S n s H) (ht : 0 ≤ t ∧ t < many) (hi : 0 ≤ i ∧ i ≤ many)
    (k : ∀ m H', S m (turnsF many nx cd n s t i).1 H' → K (.tup [.I (turnsF many nx cd n s t i).2.1, .I (turnsF many nx cd n s t i).2.2, .b true]) H') : CallF Cd f_itakeTurns [.I n, .I many, .I t, .I i, .fn fs [] cap] H K w := by
  rw [CallF_eq e_itakeTurns rfl]
  simp
  have := K_itakeTurns_l hm S nx cd hstep hcd n hn hS ht hi (Q := ?_) ?_
  · simpa using this
  · intro e m H' h1 h2 h3
    simp [h2, h3]
    exact k m H' h1
/-- The state of a world that runs: its tasks, mailboxes, and what is printed; and what has happened. -/
abbrev WSt := List Tk × List Bx × List Int × List (Int × Int × Int × Int)
/-- The event of a member's step, if there is one. -/
def evL (t : Int) (e : Option (Int × Int × Int)) : List (Int × Int × Int × Int) := match e with | none => [] | some e => [(t, e.1, e.2.1, e.2.2)]
def nxW (s : WSt) (t : Int) : WSt :=
  match s.1[t.toNat]? with
  | none => s
  | some x => (s.1.set t.toNat (stepP x s.2.1).1, (stepP x s.2.1).2.1, s.2.2.1 ++ (stepP x s.2.1).2.2.1, s.2.2.2 ++ evL t (evS x s.2.1))
def cdW (s : WSt) (t : Int) : Int :=
  match s.1[t.toNat]? with
  | none => 1
  | some x => (stepP x s.2.1).2.2.2
/-- The event of a world's next step. -/
def evW (w : Wd) : List (Int × Int × Int × Int) :=
  match w.tasks[w.turn.toNat]? with
  | none => []
  | some x => evL w.turn (evS x w.boxes)
/-- What happens in n steps. -/
def trW : Nat → Wd → List (Int × Int × Int × Int)
  | 0, _ => []
  | n + 1, w => if w.idle < w.tasks.length then evW w ++ trW n (stepW w) else []
theorem turns_run (n : Nat) : ∀ {w : Wd} (h : vaWd w = true) (ev : List (Int × Int × Int × Int)),
    turnsF w.tasks.length nxW cdW n (w.tasks, w.boxes, w.out, ev) w.turn w.idle = (((runW n w).tasks, (runW n w).boxes, (runW n w).out, ev ++ trW n w), (runW n w).turn, (runW n w).idle) := by
  induction n with
  | zero => intro w h ev; simp [turnsF, runW, trW]
  | succ n ih =>
    intro w h ev
    unfold turnsF runW trW
    by_cases hi : w.idle < (w.tasks.length : Int)
    · rw [if_pos hi, if_pos hi, if_pos hi]
      obtain ⟨k1, k2, _⟩ := stepW_keeps h hi
      obtain ⟨t, ht⟩ : ∃ t, w.tasks[w.turn.toNat]? = some t := ⟨_, List.getElem?_eq_getElem (by have := (vaWd_iff.1 h).1; omega)⟩
      have e : stepW w = ⟨w.tasks.set w.turn.toNat (stepP t w.boxes).1, (stepP t w.boxes).2.1, (nextT w.tasks.length w.turn w.idle (stepP t w.boxes).2.2.2).1, (nextT w.tasks.length w.turn w.idle (stepP t w.boxes).2.2.2).2, w.out ++ (stepP t w.boxes).2.2.1⟩ := by
        unfold stepW; rw [ht]
      have e1 : nxW (w.tasks, w.boxes, w.out, ev) w.turn = ((stepW w).tasks, (stepW w).boxes, (stepW w).out, ev ++ evW w) := by
        rw [e]; unfold nxW evW; simp only [ht]
      have e2 : (nextT w.tasks.length w.turn w.idle (cdW (w.tasks, w.boxes, w.out, ev) w.turn)) = ((stepW w).turn, (stepW w).idle) := by
        rw [e]; unfold cdW; simp only [ht]
      rw [e1, e2]
      have := ih k1 (ev ++ evW w)
      rw [k2] at this
      rw [this, List.append_assoc]
    · rw [if_neg hi, if_neg hi, if_neg hi]
      simp
end Go.Proofs.YtmecbehegmgbhaaGreat.AM
