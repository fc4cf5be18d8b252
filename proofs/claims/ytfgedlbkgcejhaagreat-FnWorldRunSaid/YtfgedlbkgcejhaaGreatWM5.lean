/-
  The abstract machine and its walks, merged by program out of smaller texts (part 5). No condition.
-/
import Derived.Test.YtfgedlbkgcejhaaGreatWM4
namespace Go.Proofs.YtfgedlbkgcejhaaGreat.AM
set_option linter.unusedSimpArgs false
set_option linter.unusedVariables false
set_option maxRecDepth 100000
set_option maxHeartbeats 2000000
open Go
attribute [-simp] AM.elems
theorem store_push5e {H : AH} {a b c d e v w x y z : AV} : (H.push [a, b, c, d, e]).store H.n 0 [v, w, x, y, z] = some (H.push [v, w, x, y, z]) := store_push5 rfl
theorem store_push2e {H : AH} {a b x y : AV} : (H.push [a, b]).store H.n 0 [x, y] = some (H.push [x, y]) := by
  rw [store_bk push_new (by simp), push_put]
  rfl
theorem stepF_ok {t : Tk} {bs : List Bx} (h1 : vaT 3 t = true) (h2 : vaBs bs = true) (h3 : rdT t bs.length = true) : stepF t bs = stepP t bs := by
  unfold stepF stOk
  rw [h1, h2, h3]; rfl
theorem K_sl16Step {ok : Nat → Prop} {H : AH} {K : AV → AH → Prop} {wf : Fk K} {c : List AV} {w : Wd} (h : WC ok H c w) (hw : smW w) (hi : w.idle < w.tasks.length)
    (k : ∀ c' H', WX (fun b => H.n ≤ b) H' c' (stepW w) → Ext H H' → K (.agg c') H') : CallF Cd f_sl16Step [.agg c] H K wf := by
  have h' := h
  obtain ⟨vt, vb, vo, rfl, h1, h2, h3⟩ := h'
  rw [CallF_eq e_sl16Step rfl]
  obtain ⟨g1, g2, g3, g4⟩ := vaWd_iff.1 hw.1
  have hb3 := vaBs_facts g3
  obtain ⟨t, ht⟩ : ∃ t, w.tasks[w.turn.toNat]? = some t := ⟨_, List.getElem?_eq_getElem (by omega)⟩
  have htm := List.mem_of_getElem? ht
  obtain ⟨u1, u2, u3, u4, u5⟩ := hw.task htm
  have hrd := rd_of_va (g4 t htm)
  have hF := stepF_ok u1 g3 hrd
  have hcode := step_code' (bs := w.boxes) u1
  have e : stepW w = ⟨w.tasks.set w.turn.toNat (stepP t w.boxes).1, (stepP t w.boxes).2.1, (nextT w.tasks.length w.turn w.idle (stepP t w.boxes).2.2.2).1, (nextT w.tasks.length w.turn w.idle (stepP t w.boxes).2.2.2).2, w.out ++ (stepP t w.boxes).2.2.1⟩ := by
    unfold stepW; rw [ht]
  have x0 := (Ext.push H [vt, vb, .I w.turn, .I w.idle, vo]).trans (Ext.push _ [.nils, .nils, .I 0, .I 0, .nils])
  have q0 : ((H.push [vt, vb, .I w.turn, .I w.idle, vo]).push [.nils, .nils, .I 0, .I 0, .nils]).bk H.n = some ⟨[vt, vb, .I w.turn, .I w.idle, vo], true⟩ := push_old (by simp) push_new
  simp [loadN_bk q0]
  refine K_sl16Copy (h.ext x0) hw fun vt2 vb2 vo2 TB OB cs H1 a1 a2 a3 a4 a5 hOB x1 => ?_
  have n1 := x1.1
  simp only [push_n] at n1
  have q1 := (x1.2 H.n (by simp <;> omega)).trans q0
  have qR1 : H1.bk (H.n + 1) = some ⟨[.nils, .nils, .I 0, .I 0, .nils], true⟩ := (x1.2 _ (by simp)).trans push_new
  have x2 := Ext.push H1 [vt2, vb2, .I w.turn, .I w.idle, vo2]
  have y2 := (x0.trans x1).trans x2
  have q2 := (x2.2 H.n (by omega)).trans q1
  obtain ⟨b, o, cap, vv, vr, e1, ob, hbn, l1, i1, s1⟩ := h1.at ht
  have hv1 := h1
  subst e1
  have l2 := loadN_extE l1 y2 hbn
  have hturn : w.turn < (w.tasks.length : Int) := g1.2.2.2.1
  simp (disch := omega) [store_push5e, load_bk q2, hturn, g1.2.2.1, l2]
  refine K_sTaskStep ⟨vv, vr, rfl, i1.ext y2, s1.ext y2⟩ (h2.ext y2) (by omega) fun c4 v4 p4 H3 tc bv iv x3 fv fp => ?_
  rw [hF] at tc bv iv ⊢
  obtain ⟨cv, cr, rfl, j1, j2⟩ := id tc
  have n3 := x3.1
  simp only [push_n] at n3
  have x4 := Ext.push H3 [cv, cr]
  have y4 := (y2.trans x3).trans x4
  have q4 : (H3.push [cv, cr]).bk H.n = some ⟨[.sl b o w.tasks.length cap, vb, .I w.turn, .I w.idle, vo], true⟩ := (x4.2 _ (by omega)).trans ((x3.2 _ (by simp; omega)).trans q2)
  have q34 : (H3.push [cv, cr]).bk H1.n = some ⟨[vt2, vb2, .I w.turn, .I w.idle, vo2], true⟩ := (x4.2 _ (by omega)).trans ((x3.2 _ (by simp)).trans push_new)
  have qR4 : (H3.push [cv, cr]).bk (H.n + 1) = some ⟨[.nils, .nils, .I 0, .I 0, .nils], true⟩ := (x4.2 _ (by omega)).trans ((x3.2 _ (by simp; omega)).trans ((x2.2 _ (by omega)).trans qR1))
  have z4 := (x2.trans x3).trans x4
  obtain ⟨capT, G4, b1, b2, b3, b4, b5, b6⟩ := (a1.ext z4).store (i := w.turn.toNat) (c := [cv, cr]) (by omega) rfl
  simp only [push_n] at b5 b6
  have hTB : TB < H1.n := by
    rcases a1.2.2 with z | z
    · omega
    · exact z.2.1
  have hTR : H.n + 2 ≤ TB := b5
  -- the tasks, with the one that has run
  have keep4 : ∀ b, b ≠ TB → b < H3.n + 1 → G4.bk b = (H3.push [cv, cr]).bk b := fun b hb hn => b4.2 b (by simpa using hn) (by simpa using hb)
  have lfT : LF 2 (TC (fun b => H.n + 2 ≤ b ∧ b ≠ TB ∧ b ≠ OB ∧ b ≠ H1.n) G4) (w.tasks.set w.turn.toNat (stepP t w.boxes).1) (splice cs (w.turn.toNat * 2) [cv, cr]) := by
    refine (a2.imp fun c a h => h.mono (ok' := fun b => H.n + 2 ≤ b ∧ b ≠ TB ∧ b ≠ OB ∧ b ≠ H1.n) (by have := b4.1; simp at this; omega) (fun b hb hn => by rw [keep4 b hb.2.1 (by omega)]; exact z4.2 b hn) (fun b hb hn => ⟨by simpa using hb.1, hb.2.1, hb.2.2, by omega⟩)).set (by omega) ((tc.ext x4).mono (by have := b4.1; simp at this ⊢; omega) (fun b hb hn => keep4 b (by simp at hb; omega) (by simpa using hn)) (fun b hb hn => by simp at hb; omega)) rfl
  have n4 := b4.1
  simp only [push_n] at n4
  have q5 := (keep4 H.n (by omega) (by omega)).trans q4
  have q35 := (keep4 H1.n (by omega) (by omega)).trans q34
  have st1 := store_cell (v := v4) q35 (o := 1) (by simp)
  simp only [List.set_cons_succ, List.set_cons_zero] at st1
  have iv4 := iv.ext x4
  subst b1
  simp (disch := omega) [x3, store_push2e, loadN_push, load_bk q34, load_bk q4, hturn, g1.2.2.1, b2, flat_cells fv, flat_tup fv, st1]
  have hp1 : (stepP t w.boxes).2.2.1.length ≤ 1 := by
    obtain ⟨_, _, _, _, ⟨p, hp, hpl⟩, _⟩ := stepW_keeps hw.1 hi
    rw [e] at hp
    have := List.append_cancel_left hp
    rw [this]; exact hpl
  have ho := hw.2.2
  -- what is printed
  have o5 : Only [H1.n] G4 (G4.put H1.n (some ⟨[.sl TB 0 w.tasks.length capT, v4, .I w.turn, .I w.idle, vo2], true⟩)) := Only.refl.put (by simp)
  have vo5 := ((a4.ext z4).only b4 (fun b hb => .inr (by simp at hb; subst hb; exact a5))).only o5 (fun b hb => .inr (by simp at hb; omega))
  have k5 : ∀ b, H1.n < b → b < H3.n + 1 → (G4.put H1.n (some ⟨[.sl TB 0 w.tasks.length capT, v4, .I w.turn, .I w.idle, vo2], true⟩)).bk b = (H3.push [cv, cr]).bk b := fun b h1 h2 => by
    rw [put_bk, if_neg (by omega), keep4 b (by omega) h2]
  have ivp : IV (fun b => H1.n < b) (G4.put H1.n (some ⟨[.sl TB 0 w.tasks.length capT, v4, .I w.turn, .I w.idle, vo2], true⟩)) p4 (stepP t w.boxes).2.2.1 :=
    iv4.mono (by simp; omega) (fun b hb hn => k5 b (by simp at hb; omega) (by simpa using hn)) (fun b hb hn => by simp at hb; omega)
  obtain ⟨v6, G6, B6, c1, c2, c3, c4⟩ := vo5.app (by simp; omega) (k := (stepP t w.boxes).2.2.1.length) (new := Ints (stepP t w.boxes).2.2.1) (by rw [Ints_len]; omega) (by omega)
  have n6 := c4.1
  simp only [put_n] at n6
  have hgm : ∀ b, b ∈ grB vo2 OB → b = OB := fun b hb => grB_sub hb
  have f6 := c2.flat
  have q36 : G6.bk H1.n = some ⟨[.sl TB 0 w.tasks.length capT, v4, .I w.turn, .I w.idle, vo2], true⟩ := (c4.2 _ (by simp; omega) (fun hm => by have := hgm _ hm; omega)).trans put_same
  have hHO : H.n + 2 ≤ OB ∨ vo2 = .nils := by
    rcases a4.2.2 with z | z
    · exact .inr z.1
    · exact .inl (by simpa using z.1)
  have hgm2 : ∀ b, b ∈ grB vo2 OB → H.n + 2 ≤ b := fun b hb => by
    rcases hHO with z | z
    · rw [hgm b hb]; exact z
    · rw [z] at hb; simp [grB] at hb
  have q6 : G6.bk H.n = some ⟨[.sl b o w.tasks.length cap, vb, .I w.turn, .I w.idle, vo], true⟩ := (c4.2 _ (by simp; omega) (fun hm => by have := hgm2 _ hm; omega)).trans (by rw [put_bk, if_neg (by omega)]; exact q5)
  have qR6 : G6.bk (H.n + 1) = some ⟨[.nils, .nils, .I 0, .I 0, .nils], true⟩ := (c4.2 _ (by simp; omega) (fun hm => by have := hgm2 _ hm; omega)).trans (by rw [put_bk, if_neg (by omega), keep4 _ (by omega) (by omega)]; exact qR4)
  have st6 := store_cell (v := v6) q36 (o := 4) (by simp)
  simp only [List.set_cons_succ, List.set_cons_zero] at st6
  have hne : ¬ H.n = H1.n := by omega
  simp (disch := omega) [load_bk put_same, ivp.alen, ivp.elems, c1, flat_cells f6, flat_tup f6, st6, AH.load, put_bk, hne, q6]
  have hidle : w.idle < (w.tasks.length : Int) := hi
  refine K_sNextTurn (by omega) ⟨g1.2.2.1, hturn⟩ ⟨g1.2.2.2.2.1, hidle⟩ hcode ?_
  have f5 : (AV.I (nextT w.tasks.length w.turn w.idle (stepP t w.boxes).2.2.2).1).cells = [AV.I (nextT w.tasks.length w.turn w.idle (stepP t w.boxes).2.2.2).1] := rfl
  have st7 := store_cell (H := G6.put H1.n (some ⟨[.sl TB 0 w.tasks.length capT, v4, .I w.turn, .I w.idle, v6], true⟩)) (v := AV.I (nextT w.tasks.length w.turn w.idle (stepP t w.boxes).2.2.2).1) put_same (o := 2) (by simp)
  simp only [List.set_cons_succ, List.set_cons_zero] at st7
  have st8 := store_cell (H := (G6.put H1.n (some ⟨[.sl TB 0 w.tasks.length capT, v4, .I w.turn, .I w.idle, v6], true⟩)).put H1.n (some ⟨[.sl TB 0 w.tasks.length capT, v4, .I (nextT w.tasks.length w.turn w.idle (stepP t w.boxes).2.2.2).1, .I w.idle, v6], true⟩)) (v := AV.I (nextT w.tasks.length w.turn w.idle (stepP t w.boxes).2.2.2).2) put_same (o := 3) (by simp)
  simp only [List.set_cons_succ, List.set_cons_zero] at st8
  simp [st7, st8, loadN_bk put_same]
  generalize hn : (nextT w.tasks.length w.turn w.idle (stepP t w.boxes).2.2.2).1 = tn at *
  generalize hj : (nextT w.tasks.length w.turn w.idle (stepP t w.boxes).2.2.2).2 = jn at *
  have hne2 : ¬ H.n + 1 = H1.n := by omega
  have st9 := store_five (H := ((G6.put H1.n (some ⟨[.sl TB 0 w.tasks.length capT, v4, .I w.turn, .I w.idle, v6], true⟩)).put H1.n (some ⟨[.sl TB 0 w.tasks.length capT, v4, .I tn, .I w.idle, v6], true⟩)).put H1.n (some ⟨[.sl TB 0 w.tasks.length capT, v4, .I tn, .I jn, v6], true⟩)) (b := H.n + 1) (cs := [.nils, .nils, .I 0, .I 0, .nils]) (l := [.sl TB 0 w.tasks.length capT, v4, .I tn, .I jn, v6]) (by simp only [put_bk, if_neg hne2]; exact qR6) rfl rfl
  simp [st9, loadN_bk put_same]
  have kf : ∀ b, b ≠ H1.n → b ≠ H.n + 1 → ((((G6.put H1.n (some ⟨[.sl TB 0 w.tasks.length capT, v4, .I w.turn, .I w.idle, v6], true⟩)).put H1.n (some ⟨[.sl TB 0 w.tasks.length capT, v4, .I tn, .I w.idle, v6], true⟩)).put H1.n (some ⟨[.sl TB 0 w.tasks.length capT, v4, .I tn, .I jn, v6], true⟩)).put (H.n + 1) (some ⟨[.sl TB 0 w.tasks.length capT, v4, .I tn, .I jn, v6], true⟩)).bk b = G6.bk b := fun b h1 h2 => by
    simp only [put_bk, if_neg h1, if_neg h2]
  have k6 : ∀ b, b ∉ grB vo2 OB → b ≠ H1.n → b < G4.n → G6.bk b = G4.bk b := fun b h1 h2 h3 => (c4.2 b (by simpa using h3) h1).trans (by rw [put_bk, if_neg h2])
  refine k _ _ ?_ ⟨by simp; omega, fun b hb => ?_⟩
  · rw [e]
    have hB6x : ∀ b, b ≠ OB → b < G4.n → b ≠ B6 := fun b h1 h2 => by
      rcases c3 with q | q
      · rw [q.1]; exact h1
      · rw [q]; simp; omega
    refine ⟨_, _, _, B6, rfl, ⟨splice cs (w.turn.toNat * 2) [cv, cr], ?_, ?_⟩, ?_, ?_, .inr ?_⟩
    · have hh := (b3.same (G := G6) (by omega) (k6 TB (fun hm => a5 (hgm _ hm)) (by omega) (by omega)))
      have hh2 := hh.only (bs := [H1.n, H.n + 1]) (G' := (((G6.put H1.n (some ⟨[.sl TB 0 w.tasks.length capT, v4, .I w.turn, .I w.idle, v6], true⟩)).put H1.n (some ⟨[.sl TB 0 w.tasks.length capT, v4, .I tn, .I w.idle, v6], true⟩)).put H1.n (some ⟨[.sl TB 0 w.tasks.length capT, v4, .I tn, .I jn, v6], true⟩)).put (H.n + 1) (some ⟨[.sl TB 0 w.tasks.length capT, v4, .I tn, .I jn, v6], true⟩)) ⟨by simp, fun b hb hm => kf b (by simp at hm; exact hm.1) (by simp at hm; exact hm.2)⟩ (fun b hb => .inr (by simp at hb; omega))
      simp only [List.length_set]
      exact hh2.ivB (fun _ _ => ⟨by omega, hB6x TB a5 (by omega)⟩)
    · refine lfT.imp fun c a h => h.mono (by simp; omega) (fun b hb hn2 => ?_) (fun b hb hn2 => ⟨by omega, hB6x b hb.2.2.1 hn2⟩)
      rw [kf b (by omega) (by omega), k6 b (fun hm => hb.2.2.1 (hgm _ hm)) hb.2.2.2 (by omega)]
    · refine (bv.ext x4).mono (by simp; omega) (fun b hb hn2 => ?_) (fun b hb hn2 => by simp at hb hn2; exact ⟨by omega, hB6x b (by omega) (by omega)⟩)
      simp at hb hn2
      rw [kf b (by omega) (by omega), k6 b (fun hm => by have := hgm _ hm; omega) (by omega) (by omega), keep4 b (by omega) (by omega)]
    · have c2' : GrS (H.n + 2) G6 v6 (w.out ++ (stepP t w.boxes).2.2.1).length 1 (Ints (w.out ++ (stepP t w.boxes).2.2.1)) B6 := by
        have e1 : Ints w.out ++ Ints (stepP t w.boxes).2.2.1 = Ints (w.out ++ (stepP t w.boxes).2.2.1) := by simp [Ints]
        rw [← e1, List.length_append]
        simpa using c2
      have hB6 : B6 ≠ H1.n := by
        rcases c3 with q | q
        · have := hgm _ q.2; omega
        · rw [q]; simp; omega
      have hB7 : B6 ≠ H.n + 1 := by
        rcases c3 with q | q
        · have := hgm2 _ q.2; omega
        · rw [q]; simp; omega
      have hh2 := c2'.only (bs := [H1.n, H.n + 1]) (G' := (((G6.put H1.n (some ⟨[.sl TB 0 w.tasks.length capT, v4, .I w.turn, .I w.idle, v6], true⟩)).put H1.n (some ⟨[.sl TB 0 w.tasks.length capT, v4, .I tn, .I w.idle, v6], true⟩)).put H1.n (some ⟨[.sl TB 0 w.tasks.length capT, v4, .I tn, .I jn, v6], true⟩)).put (H.n + 1) (some ⟨[.sl TB 0 w.tasks.length capT, v4, .I tn, .I jn, v6], true⟩)) ⟨by simp, fun b hb hm => kf b (by simp at hm; exact hm.1) (by simp at hm; exact hm.2)⟩ (fun b hb => .inr (by simp at hb; rcases hb with rfl | rfl; exact Ne.symm hB6; exact Ne.symm hB7))
      exact hh2.up (base' := 0) (by omega)
    · rcases c3 with q | q
      · have := hgm2 _ q.2; rw [q.1]; omega
      · rw [q]; simp; omega
  · rw [kf b (by omega) (by omega), k6 b (fun hm => by have := hgm2 _ hm; omega) (by omega) (by omega), keep4 b (by omega) (by omega)]
    exact y4.2 b hb
end Go.Proofs.YtfgedlbkgcejhaaGreat.AM
namespace Go.Proofs.YtfgedlbkgcejhaaGreat.AM
set_option linter.unusedSimpArgs false
set_option linter.unusedVariables false
set_option maxRecDepth 100000
set_option maxHeartbeats 2000000
open Go
attribute [-simp] AM.elems
abbrev zeroW : Wd := ⟨[], [], 0, 0, []⟩
abbrev zC : List AV := [.nils, .nils, .I 0, .I 0, .nils]
theorem TV.nil {ok H v} (h : v = .nils ∨ v = .esl) : TV ok H v [] := ⟨[], ⟨by simp, rfl, .inl ⟨rfl, h⟩⟩, rfl⟩
theorem BV.nil {ok H v} (h : v = .nils ∨ v = .esl) : BV ok H v [] := ⟨[], ⟨by simp, rfl, .inl ⟨rfl, h⟩⟩, rfl⟩
theorem zero_WX {ok H} : WX ok H zC zeroW := ⟨_, _, _, 0, rfl, TV.nil (.inl rfl), BV.nil (.inl rfl), GrS.nils, .inl rfl⟩
theorem zero_WC {ok H} : WC ok H zC zeroW := ⟨_, _, _, rfl, TV.nil (.inl rfl), BV.nil (.inl rfl), IV.nilp (.inl rfl)⟩
/-- What holds of a world that is run n steps. -/
def boW (w : Wd) (n : Nat) : Prop := (∀ t ∈ w.tasks, ctS t.rest ≤ 100000 ∧ uL t.rest.list ≤ 4000) ∧ w.out.length + n ≤ 900000
theorem boW.sm {w : Wd} {n : Nat} (h : boW w n) (hv : vaWd w = true) : smW w := ⟨hv, fun t ht => (h.1 t ht).2, by have := h.2; omega⟩
theorem boW.step {w : Wd} {n : Nat} (h : boW w (n + 1)) (hv : vaWd w = true) (hi : w.idle < w.tasks.length) : boW (stepW w) n := by
  obtain ⟨a1, a2, a3, a4, ⟨p, a5, a6⟩, a7⟩ := stepW_keeps hv hi
  have hu := a7 4000 (fun t ht => (h.1 t ht).2)
  refine ⟨fun t ht => ⟨?_, hu t ht⟩, ?_⟩
  · have := (show smW (stepW w) from ⟨a1, hu, by rw [a5, List.length_append]; have := h.2; omega⟩).task ht
    omega
  · rw [a5, List.length_append]; have := h.2; omega
theorem K_sWorldRun_l {R P6 b0 : Nat} (hb0 : b0 ≤ P6) {n : Int} (hn : n ≤ 100000) {Q : Out → Env → AH → Prop} (m : Nat) : ∀ {i : Nat} (hi : (i + m : Int) = n) {G : AH} {c : List AV} {w : Wd} (hw : vaWd w = true) (hbo : boW w m) (h6 : P6 < G.n) (g6 : G.bk P6 = some ⟨c, true⟩) (h : WX (fun b => b0 ≤ b ∧ b ≠ P6) G c w)
    (hQ : ∀ e G' c', G'.bk P6 = some ⟨c', true⟩ → WX (fun b => b0 ≤ b ∧ b ≠ P6) G' c' (runW m w) → (∀ b, b < P6 → G'.bk b = G.bk b) → G.n ≤ G'.n → get e 4 = some (.ptr R 0) → get e 6 = some (.ptr P6 0) → Q (.brk 0) e G'),
    W Cd (.loop c_sWorldRun_l0) [(1, .I n), (4, .ptr R 0), (6, .ptr P6 0), (7, .I i)] G Q := by
  induction m with
  | zero =>
    intro i hi G c w hw hbo h6 g6 h hQ
    rw [W_loop_as c_sWorldRun_l0.eq_1]
    have hlt : ¬ (i : Int) < n := by omega
    simp [hlt]
    exact hQ _ G c g6 h (fun _ _ => rfl) (Nat.le_refl _) rfl rfl
  | succ m ih =>
    intro i hi G c w hw hbo h6 g6 h hQ
    rw [W_loop_as c_sWorldRun_l0.eq_1]
    have hlt : (i : Int) < n := by omega
    have h' := h
    have h' := h'.wc
    obtain ⟨vt, vb, vo, rfl, h1, h2, h3⟩ := h'
    have hbig := h1.big
    by_cases hidle : w.idle < (w.tasks.length : Int)
    case neg =>
      simp [hlt, load_bk g6, h1.alen, hidle]
      have e : runW (m + 1) w = w := by unfold runW; rw [if_neg hidle]
      rw [e] at hQ
      exact hQ _ G _ g6 h (fun _ _ => rfl) (Nat.le_refl _) rfl rfl
    have e : runW (m + 1) w = runW m (stepW w) := by conv => lhs; unfold runW
                                                     rw [if_pos hidle]
    rw [e] at hQ
    simp [hlt, load_bk g6, h1.alen, hidle, loadN_bk g6]
    refine K_sl16Step h.wc (hbo.sm hw) hidle fun c' H1 wc x1 => ?_
    have hwc := wc.wc
    obtain ⟨vt', vb', vo', rfl, k1, k2, k3⟩ := hwc
    have n1 := x1.1
    have q6 := (x1.2 _ h6).trans g6
    have st := store_five q6 (l := [vt', vb', .I (stepW w).turn, .I (stepW w).idle, vo']) rfl rfl
    simp (disch := omega) [st]
    have hk : ∀ b, b ≠ P6 → (H1.put P6 (some ⟨[vt', vb', .I (stepW w).turn, .I (stepW w).idle, vo'], true⟩)).bk b = H1.bk b := fun b hb => by rw [put_bk, if_neg hb]
    have := ih (i := i + 1) (by omega) (G := H1.put P6 (some ⟨[vt', vb', .I (stepW w).turn, .I (stepW w).idle, vo'], true⟩)) (stepW_keeps hw hidle).1 (hbo.step hw hidle) (by simp; omega) put_same
      (wc.mono (by simp) (fun b hb _ => hk b (by omega)) (fun b hb _ => by omega))
      (fun e G' c' z1 z2 z3 z4 z5 z6 => hQ e G' c' z1 z2 (fun b hb => (z3 b hb).trans ((hk b (by omega)).trans (x1.2 b (by omega)))) (by simp at z4; omega) z5 z6)
    simpa using this
/-- What a run comes to. -/
def runF (n : Int) (w : Wd) : Wd × Bool := if vaWd w = true ∧ 0 ≤ n ∧ n ≤ 100000 then (runW n.toNat w, true) else (zeroW, false)
theorem K_sWorldRunX {ok : Nat → Prop} {H : AH} {K : AV → AH → Prop} {wf : Fk K} {c : List AV} {w : Wd} {n : Int} (h : WC ok H c w) (hct : ∀ t ∈ w.tasks, ctS t.rest ≤ 100000) (hbo : n ≤ 100000 → boW w n.toNat)
    (k : ∀ c' H', WX (fun b => H.n ≤ b) H' c' (runF n w).1 → Ext H H' → K (.tup [.agg c', .b (runF n w).2]) H') : CallF Cd f_sWorldRun [.agg c, .I n] H K wf := by
  have h' := h
  obtain ⟨vt, vb, vo, rfl, h1, h2, h3⟩ := h'
  rw [CallF_eq e_sWorldRun rfl]
  have x0 := (Ext.push H [vt, vb, .I w.turn, .I w.idle, vo]).trans (Ext.push _ zC)
  have q0 : ((H.push [vt, vb, .I w.turn, .I w.idle, vo]).push zC).bk H.n = some ⟨[vt, vb, .I w.turn, .I w.idle, vo], true⟩ := push_old (by simp) push_new
  simp [loadN_bk q0]
  refine K_sWorldValid (h.ext x0) hct fun H1 x1 => ?_
  have n1 := x1.1
  simp only [push_n] at n1
  have y1 := x0.trans x1
  have q1 := (x1.2 H.n (by simp <;> omega)).trans q0
  have qR1 : H1.bk (H.n + 1) = some ⟨zC, true⟩ := (x1.2 _ (by simp)).trans push_new
  have bad : ¬ (vaWd w = true ∧ 0 ≤ n ∧ n ≤ 100000) → K (.tup [.agg zC, .b false]) (H1.put (H.n + 1) (some ⟨zC, true⟩)) := fun hb => by
    have e : runF n w = (zeroW, false) := by unfold runF; rw [if_neg hb]
    rw [e] at k
    exact k zC _ zero_WX (y1.put (by omega))
  have stb := store_five qR1 (l := zC) rfl rfl
  cases hv : vaWd w with
  | false =>
    simp [stb, loadN_bk put_same]
    exact bad (by rw [hv]; simp)
  | true =>
  by_cases hn : 0 ≤ n ∧ n ≤ 100000
  case neg =>
    simp [K_in_f hn, stb, loadN_bk put_same]
    exact bad (fun hh => hn hh.2)
  have hF : runF n w = (runW n.toNat w, true) := by unfold runF; rw [if_pos ⟨hv, hn⟩]
  rw [hF] at k
  have hbo := hbo hn.2
  simp [K_in_t hn, loadN_bk q1]
  refine K_sl16Copy (h.ext y1) (hbo.sm hv) fun vt2 vb2 vo2 TB OB cs H2 a1 a2 a3 a4 a5 hOB x2 => ?_
  have x3 := Ext.push H2 [vt2, vb2, .I w.turn, .I w.idle, vo2]
  have n2 := x2.1
  have wc2 : WX (fun b => H1.n ≤ b) H2 [vt2, vb2, .I w.turn, .I w.idle, vo2] w := ⟨_, _, _, OB, rfl, ⟨cs, a1.ivB (fun h _ => ⟨h, a5⟩), a2.imp fun c a h => h.mono (Nat.le_refl _) (fun _ _ _ => rfl) (fun _ h _ => ⟨h.1, h.2.2⟩)⟩, a3, a4.up (Nat.zero_le _), by
      rcases a4.2.2 with z | z
      · exact .inl z.1
      · exact .inr z.1⟩
  simp [store_push5e]
  have := K_sWorldRun_l (R := H.n + 1) (P6 := H2.n) (b0 := H1.n) n2 hn.2 (Q := ?_) n.toNat (i := 0) (by omega) (G := H2.push [vt2, vb2, .I w.turn, .I w.idle, vo2]) hv hbo (by simp) push_new (wc2.mono (by simp) (fun b _ hb => x3.2 b hb) (fun b hb hn => ⟨hb, by omega⟩)) ?_
  · simpa using this
  · intro e G' c' z1 z2 z3 z4 z5 z6
    obtain ⟨vt', vb', vo', rfl, k1, k2, k3⟩ := z2.wc
    simp only [push_n] at z4
    have kk : ∀ b, b < H2.n → G'.bk b = H2.bk b := fun b hb => (z3 b hb).trans (x3.2 b hb)
    have qR := (kk (H.n + 1) (by omega)).trans ((x2.2 _ (by omega)).trans qR1)
    have st := store_five qR (l := [vt', vb', .I (runW n.toNat w).turn, .I (runW n.toNat w).idle, vo']) rfl rfl
    simp [z5, z6, loadN_bk z1, st, loadN_bk put_same]
    refine k _ _ (z2.mono (by simp) (fun b hb _ => by rw [put_bk, if_neg (by omega)]) (fun b hb _ => by omega)) ⟨by simp; omega, fun b hb => ?_⟩
    rw [put_bk, if_neg (by omega), kk b (by omega), x2.2 b (by omega)]
    exact y1.2 b hb
theorem K_sWorldRun {ok : Nat → Prop} {H : AH} {K : AV → AH → Prop} {wf : Fk K} {c : List AV} {w : Wd} {n : Int} (h : WC ok H c w) (hct : ∀ t ∈ w.tasks, ctS t.rest ≤ 100000) (hbo : n ≤ 100000 → boW w n.toNat)
    (k : ∀ c' H', WC (fun b => H.n ≤ b) H' c' (runF n w).1 → Ext H H' → K (.tup [.agg c', .b (runF n w).2]) H') : CallF Cd f_sWorldRun [.agg c, .I n] H K wf := K_sWorldRunX h hct hbo fun c' H' h' x => k c' H' h'.wc x
theorem K_sWorldStep {ok : Nat → Prop} {H : AH} {K : AV → AH → Prop} {wf : Fk K} {c : List AV} {w : Wd} (h : WC ok H c w) (hct : ∀ t ∈ w.tasks, ctS t.rest ≤ 100000) (hbo : boW w 1)
    (k : ∀ c' H', WC (fun b => H.n ≤ b) H' c' (runF 1 w).1 → Ext H H' → K (.tup [.agg c', .b (runF 1 w).2]) H') : CallF Cd f_sWorldStep [.agg c] H K wf := by
  have h' := h
  obtain ⟨vt, vb, vo, rfl, h1, h2, h3⟩ := h'
  rw [CallF_eq e_sWorldStep rfl]
  have x0 := (Ext.push H [vt, vb, .I w.turn, .I w.idle, vo]).trans (Ext.push _ zC)
  have q0 : ((H.push [vt, vb, .I w.turn, .I w.idle, vo]).push zC).bk H.n = some ⟨[vt, vb, .I w.turn, .I w.idle, vo], true⟩ := push_old (by simp) push_new
  simp [loadN_bk q0]
  refine K_sWorldValid (h.ext x0) hct fun H1 x1 => ?_
  have n1 := x1.1
  simp only [push_n] at n1
  have y1 := x0.trans x1
  have q1 := (x1.2 H.n (by simp <;> omega)).trans q0
  have qR1 : H1.bk (H.n + 1) = some ⟨zC, true⟩ := (x1.2 _ (by simp)).trans push_new
  have stb := store_five qR1 (l := zC) rfl rfl
  cases hv : vaWd w with
  | false =>
    have e : runF 1 w = (zeroW, false) := by unfold runF; rw [hv]; simp
    rw [e] at k
    simp [stb, loadN_bk put_same]
    exact k zC _ zero_WC (y1.put (by omega))
  | true =>
  have hbig := h1.big
  have hF : runF 1 w = (runW 1 w, true) := by unfold runF; rw [if_pos ⟨hv, by omega, by omega⟩]; rfl
  rw [hF] at k
  have hid := (vaWd_iff.1 hv).1
  have fin : ∀ c' H2 w', WC (fun b => H1.n ≤ b) H2 c' w' → runW 1 w = w' → Ext H1 H2 → ∃ H3, H2.store (H.n + 1) 0 c' = some H3 ∧ H3.loadN (H.n + 1) 0 5 = some c' ∧ K (.tup [.agg c', .b true]) H3 ∧ c'.length = 5 := by
    intro c' H2 w' wc ew x2
    have wc' := wc
    obtain ⟨vt', vb', vo', rfl, k1, k2, k3⟩ := wc'
    have qR := (x2.2 _ (by omega)).trans qR1
    refine ⟨_, store_five qR rfl rfl, by rw [loadN_bk put_same]; rfl, ?_, rfl⟩
    rw [ew] at k
    exact k _ _ (wc.mono (by simp) (fun b hb _ => by rw [put_bk, if_neg (by omega)]) (fun b hb _ => by omega)) ((y1.trans x2).put (by omega))
  by_cases hi : w.idle = (w.tasks.length : Int)
  · simp [load_bk q1, h1.alen, hi, loadN_bk q1]
    refine K_sl16Copy (w := w) (by have := h.ext y1; rw [← hi]; exact this) (hbo.sm hv) fun vt2 vb2 vo2 TB OB cs H2 a1 a2 a3 a4 a5 hOB x2 => ?_
    have wc2 : WC (fun b => H1.n ≤ b) H2 [vt2, vb2, .I w.turn, .I w.idle, vo2] w := ⟨_, _, _, rfl, ⟨cs, a1.slc, a2.imp fun c a h => h.mono (Nat.le_refl _) (fun _ _ _ => rfl) (fun _ h _ => h.1)⟩, a3.mono (Nat.le_refl _) (fun _ _ _ => rfl) (fun _ h _ => h.1), a4.iv⟩
    obtain ⟨H3, s1, s2, s3, s4⟩ := fin _ H2 w wc2 (by unfold runW; rw [if_neg (by omega)]) x2
    simp [s1, s2]
    exact s3
  · have hidle : w.idle < (w.tasks.length : Int) := by omega
    simp [load_bk q1, h1.alen, hi, loadN_bk q1]
    refine K_sl16Step (h.ext y1) (hbo.sm hv) hidle fun c' H2 wc x2 => ?_
    obtain ⟨H3, s1, s2, s3, s4⟩ := fin _ H2 _ wc.wc (by unfold runW; rw [if_pos hidle]; rfl) x2
    obtain ⟨vt', vb', vo', rfl, k1, k2, k3⟩ := wc.wc
    simp [s1, s2]
    exact s3
end Go.Proofs.YtfgedlbkgcejhaaGreat.AM
namespace Go.Proofs.YtfgedlbkgcejhaaGreat.AM
set_option linter.unusedSimpArgs false
set_option linter.unusedVariables false
set_option maxRecDepth 100000
set_option maxHeartbeats 2000000
open Go
attribute [-simp] AM.elems
/-- n steps of members that take turns. -/
def turnsF {σ : Type} (many : Int) (nx : σ → Int → σ) (cd : σ → Int → Int) : Nat → σ → Int → Int → σ × Int × Int
  | 0, s, t, i => (s, t, i)
  | n + 1, s, t, i => if i < many then turnsF many nx cd n (nx s t) (nextT many t i (cd s t)).1 (nextT many t i (cd s t)).2 else (s, t, i)
theorem nextT_ok {many t i c : Int} (hm : 1 ≤ many ∧ many ≤ 3) (ht : 0 ≤ t ∧ t < many) (hi : 0 ≤ i ∧ i < many) : (0 ≤ (nextT many t i c).1 ∧ (nextT many t i c).1 < many) ∧ (0 ≤ (nextT many t i c).2 ∧ (nextT many t i c).2 ≤ many) := by
  have m1 := Int.emod_nonneg (t + 1) (show many ≠ 0 by omega)
  have m2 := Int.emod_lt_of_pos (t + 1) (show 0 < many by omega)
  unfold nextT
  split
  · omega
  split <;> omega
theorem K_itakeTurns_l {σ : Type} {fs : FuncId} {cap : List AV} {many : Int} (hm : 1 ≤ many ∧ many ≤ 3) (S : Nat → σ → AH → Prop) (nx : σ → Int → σ) (cd : σ → Int → Int)
    (hstep : ∀ m s t H (K : AV → AH → Prop) (w : Fk K), S (m + 1) s H → 0 ≤ t ∧ t < many → (∀ H', S m (nx s t) H' → K (.I (cd s t)) H') → CallF Cd fs (.I t :: cap) H K w)
    (hcd : ∀ m s t H, S (m + 1) s H → 0 ≤ t ∧ t < many → 1 ≤ cd s t ∧ cd s t ≤ 4) {Q : Out → Env → AH → Prop} (n : Nat) (hn : n ≤ 1000000) : ∀ {s : σ} {t i : Int} {H : AH}, S n s H → 0 ≤ t ∧ t < many → 0 ≤ i ∧ i ≤ many →
    (∀ e m H', S m (turnsF many nx cd n s t i).1 H' → get e 2 = some (.I (turnsF many nx cd n s t i).2.1) → get e 3 = some (.I (turnsF many nx cd n s t i).2.2) → Q (.brk 0) e H') →
    W Cd (.loop c_itakeTurns_l0) [(0, .I n), (1, .I many), (2, .I t), (3, .I i), (4, .fn fs [] cap)] H Q := by
  induction n with
  | zero =>
    intro s t i H hS ht hi hQ
    rw [W_loop_as c_itakeTurns_l0.eq_1]
    simp
    exact hQ _ 0 H hS rfl rfl
  | succ n ih =>
    intro s t i H hS ht hi hQ
    rw [W_loop_as c_itakeTurns_l0.eq_1]
    have h0 : (0 : Int) < (n + 1 : Nat) := by omega
    have h0' : (0 : Int) < (n : Int) + 1 := by omega
    by_cases hlt : i < many
    case neg =>
      simp [h0', hlt]
      have e : turnsF many nx cd (n + 1) s t i = (s, t, i) := by unfold turnsF; rw [if_neg hlt]
      rw [e] at hQ
      exact hQ _ (n + 1) H hS rfl rfl
    have e : turnsF many nx cd (n + 1) s t i = turnsF many nx cd n (nx s t) (nextT many t i (cd s t)).1 (nextT many t i (cd s t)).2 := by
      conv => lhs; unfold turnsF
      rw [if_pos hlt]
    rw [e] at hQ
    simp [h0', hlt]
    refine hstep n s t H _ _ hS ht fun H1 hS1 => ?_
    have hc := hcd n s t H hS ht
    have hok := nextT_ok (c := cd s t) hm ht ⟨hi.1, hlt⟩
    simp
    refine K_iNextTurn hm ht ⟨hi.1, hlt⟩ hc ?_
    have e3 : IntKind.i64.wrap (n : Int) = n := wrap64 (by omega)
    simp [e3]
    exact ih (by omega) hS1 hok.1 hok.2 hQ
theorem K_itakeTurns {σ : Type} {fs : FuncId} {cap : List AV} {many : Int} (hm : 1 ≤ many ∧ many ≤ 3) (S : Nat → σ → AH → Prop) (nx : σ → Int → σ) (cd : σ → Int → Int)
    (hstep : ∀ m s t H (K : AV → AH → Prop) (w : Fk K), S (m + 1) s H → 0 ≤ t ∧ t < many → (∀ H', S m (nx s t) H' → K (.I (cd s t)) H') → CallF Cd fs (.I t :: cap) H K w)
    (hcd : ∀ m s t H, S (m + 1) s H → 0 ≤ t ∧ t < many → 1 ≤ cd s t ∧ cd s t ≤ 4) {n : Nat} (hn : n ≤ 1000000) {s : σ} {t i : Int} {H : AH} {K : AV → AH → Prop} {w : Fk K} (hS : S n s H) (ht : 0 ≤ t ∧ t < many) (hi : 0 ≤ i ∧ i ≤ many)
    (k : ∀ m H', S m (turnsF many nx cd n s t i).1 H' → K (.tup [.I (turnsF many nx cd n s t i).2.1, .I (turnsF many nx cd n s t i).2.2, .b true]) H') : CallF Cd f_itakeTurns [.I n, .I many, .I t, .I i, .fn fs [] cap] H K w := by
  rw [CallF_eq e_itakeTurns rfl]
  simp
  have := K_itakeTurns_l hm S nx cd hstep hcd n hn hS ht hi (Q := ?_) ?_
  · simpa using this
  · intro e m H' h1 h2 h3
    simp [h2, h3]
    exact k m H' h1
/-- The state of a world that runs: its tasks, mailboxes, and what is printed; and what has happened. -/
abbrev WSt := List Tk × List Bx × List Int × List (Int × Int × Int × Int)
/-- The event of a member's step, if there is one. -/
def evL (t : Int) (e : Option (Int × Int × Int)) : List (Int × Int × Int × Int) := match e with | none => [] | some e => [(t, e.1, e.2.1, e.2.2)]
def nxW (s : WSt) (t : Int) : WSt :=
  match s.1[t.toNat]? with
  | none => s
  | some x => (s.1.set t.toNat (stepP x s.2.1).1, (stepP x s.2.1).2.1, s.2.2.1 ++ (stepP x s.2.1).2.2.1, s.2.2.2 ++ evL t (evS x s.2.1))
def cdW (s : WSt) (t : Int) : Int :=
  match s.1[t.toNat]? with
  | none => 1
  | some x => (stepP x s.2.1).2.2.2
/-- The event of a world's next step. -/
def evW (w : Wd) : List (Int × Int × Int × Int) :=
  match w.tasks[w.turn.toNat]? with
  | none => []
  | some x => evL w.turn (evS x w.boxes)
/-- What happens in n steps. -/
def trW : Nat → Wd → List (Int × Int × Int × Int)
  | 0, _ => []
  | n + 1, w => if w.idle < w.tasks.length then evW w ++ trW n (stepW w) else []
theorem turns_run (n : Nat) : ∀ {w : Wd} (h : vaWd w = true) (ev : List (Int × Int × Int × Int)),
    turnsF w.tasks.length nxW cdW n (w.tasks, w.boxes, w.out, ev) w.turn w.idle = (((runW n w).tasks, (runW n w).boxes, (runW n w).out, ev ++ trW n w), (runW n w).turn, (runW n w).idle) := by
  induction n with
  | zero => intro w h ev; simp [turnsF, runW, trW]
  | succ n ih =>
    intro w h ev
    unfold turnsF runW trW
    by_cases hi : w.idle < (w.tasks.length : Int)
    · rw [if_pos hi, if_pos hi, if_pos hi]
      obtain ⟨k1, k2, _⟩ := stepW_keeps h hi
      obtain ⟨t, ht⟩ : ∃ t, w.tasks[w.turn.toNat]? = some t := ⟨_, List.getElem?_eq_getElem (by have := (vaWd_iff.1 h).1; omega)⟩
      have e : stepW w = ⟨w.tasks.set w.turn.toNat (stepP t w.boxes).1, (stepP t w.boxes).2.1, (nextT w.tasks.length w.turn w.idle (stepP t w.boxes).2.2.2).1, (nextT w.tasks.length w.turn w.idle (stepP t w.boxes).2.2.2).2, w.out ++ (stepP t w.boxes).2.2.1⟩ := by
        unfold stepW; rw [ht]
      have e1 : nxW (w.tasks, w.boxes, w.out, ev) w.turn = ((stepW w).tasks, (stepW w).boxes, (stepW w).out, ev ++ evW w) := by
        rw [e]; unfold nxW evW; simp only [ht]
      have e2 : (nextT w.tasks.length w.turn w.idle (cdW (w.tasks, w.boxes, w.out, ev) w.turn)) = ((stepW w).turn, (stepW w).idle) := by
        rw [e]; unfold cdW; simp only [ht]
      rw [e1, e2]
      have := ih k1 (ev ++ evW w)
      rw [k2] at this
      rw [this, List.append_assoc]
    · rw [if_neg hi, if_neg hi, if_neg hi]
      simp
end Go.Proofs.YtfgedlbkgcejhaaGreat.AM
namespace Go.Proofs.YtfgedlbkgcejhaaGreat.AM
set_option linter.unusedSimpArgs false
set_option linter.unusedVariables false
set_option maxRecDepth 100000
set_option maxHeartbeats 2000000
open Go
attribute [-simp] AM.elems
abbrev Evt := Int × Int × Int × Int
def evC (e : Evt) : List AV := [.I e.1, .I e.2.1, .I e.2.2.1, .I e.2.2.2]
def evCs (l : List Evt) : List AV := l.flatMap evC
theorem evCs_len {l : List Evt} : (evCs l).length = l.length * 4 := by
  induction l with
  | nil => rfl
  | cons e l ih =>
    have : evCs (e :: l) = evC e ++ evCs l := rfl
    rw [this, List.length_append, ih]
    simp [evC]; omega
theorem evCs_app {a b : List Evt} : evCs (a ++ b) = evCs a ++ evCs b := by simp [evCs]
/-- Who is told: nobody, or the one who keeps a list of events behind the cell in block PU. -/
def ObT (base P5 : Nat) (tr : Option Nat) (H : AH) (evs : List Evt) (ve : AV) (OE : Nat) : Prop :=
  match tr with
  | none => H.bk P5 = some ⟨[.nilf], true⟩
  | some PU => H.bk P5 = some ⟨[.fn f_iWorldTrace_1 [] [.ptr PU 0]], true⟩ ∧ PU < H.n ∧ H.bk PU = some ⟨[ve], true⟩ ∧ GrS base H ve evs.length 4 (evCs evs) OE
def trB (tr : Option Nat) (ve : AV) (OE : Nat) : List Nat := match tr with | none => [] | some PU => PU :: grB ve OE
/-- What is printed, and what is told. -/
def Ob (base P7 P5 : Nat) (tr : Option Nat) (vb : AV) (H : AH) (out : List Int) (evs : List Evt) (vo : AV) (O : Nat) (ve : AV) (OE : Nat) : Prop :=
  H.bk P7 = some ⟨[.nils, vb, .I 0, .I 0, vo], true⟩ ∧ P7 < H.n ∧ P5 < H.n ∧ GrS base H vo out.length 1 (Ints out) O ∧ ObT base P5 tr H evs ve OE
def obB (P7 : Nat) (tr : Option Nat) (vo : AV) (O : Nat) (ve : AV) (OE : Nat) : List Nat := P7 :: (grB vo O ++ trB tr ve OE)
theorem ObT.only {base P5 tr H H' evs ve OE bs} (h : ObT base P5 tr H evs ve OE) (k : Only bs H H') (h5 : P5 ∉ bs) (h5n : P5 < H.n) (hb : ∀ b ∈ bs, b ∉ trB tr ve OE) : ObT base P5 tr H' evs ve OE := by
  cases tr with
  | none => exact k.bk h5n h5 h
  | some PU =>
    obtain ⟨h1, h2, h3, h4⟩ := h
    refine ⟨k.bk h5n h5 h1, Nat.lt_of_lt_of_le h2 k.1, k.bk h2 (fun hm => hb PU hm (by simp [trB])) h3, ?_⟩
    by_cases hn : ve = .nils
    · subst hn
      exact ⟨h4.1, h4.2.1, by rcases h4.2.2 with q | ⟨_, _, ⟨q, _⟩ | ⟨_, _, q, _⟩⟩; exact .inl q; cases q; cases q⟩
    · have hg : grB ve OE = [OE] := by
        rcases h4.2.2 with q | ⟨_, _, ⟨q, _⟩ | ⟨_, _, q, _⟩⟩
        · exact absurd q.1 hn
        · rw [q]; rfl
        · rw [q]; rfl
      exact h4.only k (fun b hb' => .inr (fun e => hb b hb' (by simp [trB, hg, e])))
theorem GrS.onlyB {base G G' v n sz cs B bs} (h : GrS base G v n sz cs B) (k : Only bs G G') (hb : ∀ b ∈ bs, b ∉ grB v B) : GrS base G' v n sz cs B := by
  obtain ⟨h1, h2, h3 | ⟨h4, h5, h6⟩⟩ := h
  · exact ⟨h1, h2, .inl h3⟩
  · have hg : grB v B = [B] := by
      rcases h6 with ⟨q, _⟩ | ⟨_, _, q, _⟩
      · rw [q]; rfl
      · rw [q]; rfl
    have hB : B ∉ bs := fun hm => hb B hm (by rw [hg]; simp)
    refine ⟨h1, h2, .inr ⟨h4, Nat.lt_of_lt_of_le h5 k.1, ?_⟩⟩
    rw [k.2 B h5 hB]
    exact h6
theorem ObT.lt {base P5 tr H evs ve OE} (h : ObT base P5 tr H evs ve OE) {b : Nat} (hb : b ∈ trB tr ve OE) : b < H.n := by
  cases tr with
  | none => simp [trB] at hb
  | some PU =>
    obtain ⟨h1, h2, h3, h4⟩ := h
    simp [trB] at hb
    rcases hb with rfl | q
    · exact h2
    · have := h4.mem q; omega
def rwA : AC := match c_irunWorld_1_1.body with | .seq a _ => a | _ => .skip
def rwB : AC := match c_irunWorld_1_1.body with | .seq _ b => b | _ => .skip
theorem eq_rw : Cd f_irunWorld_1_1 = some ⟨6, .seq rwA rwB, []⟩ := rfl
/-- An event is told. -/
theorem W_rwB {base P5 X : Nat} {tr : Option Nat} {G : AH} {evs : List Evt} {ve : AV} {OE : Nat} {kd bx x turn : Int} {K : AV → AH → Prop} (hb : base ≤ G.n) (h : ObT base P5 tr G evs ve OE) (h5 : P5 < G.n) (hX : G.bk X = some ⟨[.I turn], true⟩)
    (hnd : (trB tr ve OE).Nodup) (h5t : P5 ∉ trB tr ve OE) (hl : evs.length < 900000)
    (k : ∀ ve' OE' G', ObT base P5 tr G' (evs ++ [(turn, kd, bx, x)]) ve' OE' → Only (trB tr ve OE) G G' → (∀ b ∈ trB tr ve' OE', b ∈ trB tr ve OE ∨ G.n ≤ b ∧ b < G'.n) → (trB tr ve' OE').Nodup → K (.tup []) G') :
    W Cd rwB [(0, .I kd), (1, .I bx), (2, .I x), (4, .ptr P5 0), (5, .ptr X 0)] G (retK [] K) := by
  cases tr with
  | none =>
    have h' : G.bk P5 = some ⟨[.nilf], true⟩ := h
    simp [rwB, c_irunWorld_1_1, load_bk h']
    exact k ve OE G h' Only.refl (fun b hb => .inl hb) (by simp [trB])
  | some PU =>
    obtain ⟨h1, h2, h3, h4⟩ := h
    have hd : PU ∉ grB ve OE := by simp [trB] at hnd; exact hnd.1
    simp [rwB, c_irunWorld_1_1, load_bk h1, load_bk hX]
    rw [CallF_eq e_iWorldTrace_1 rfl]
    have x1 := Ext.push G [.I turn, .I kd, .I bx, .I x]
    have x2 := x1.trans (Ext.push _ [.I turn, .I kd, .I bx, .I x])
    have g3 : (G.push [.I turn, .I kd, .I bx, .I x]).bk PU = some ⟨[ve], true⟩ := (x1.2 _ h2).trans h3
    obtain ⟨v', G', B', a1, a2, a3, a4⟩ := (h4.ext x2).app (by simp; omega) (k := 1) (new := [.I turn, .I kd, .I bx, .I x]) rfl (by omega)
    have n4 := a4.1
    simp only [push_n] at n4
    have hgm : ∀ b ∈ grB ve OE, b = OE ∧ base ≤ OE ∧ OE < G.n := fun b hb => h4.mem hb
    have g4 : G'.bk PU = some ⟨[ve], true⟩ := (a4.2 _ (by simp; omega) hd).trans ((x2.2 _ h2).trans h3)
    have f := a2.flat
    have st := store_cell (v := v') g4 (o := 0) (by simp)
    simp only [List.set_cons_zero] at st
    simp [AM.elems, load_bk g3, loadN_push, a1, flat_cells f, flat_tup f, st]
    have hB' : B' ≠ PU := by
      rcases a3 with q | q
      · rw [q.1]; rintro rfl; exact hd q.2
      · rw [q]; simp; omega
    have o : Only (PU :: grB ve OE) G (G'.put PU (some ⟨[v'], true⟩)) := ⟨by simp; omega, fun b hb hm => by
      simp at hm
      rw [put_bk, if_neg hm.1, a4.2 b (by simp; omega) hm.2]; exact x2.2 b hb⟩
    have hnew : ∀ b ∈ grB v' B', b ∈ grB ve OE ∨ G.n ≤ b ∧ b < G'.n := fun b hb => by
      have hb2 := a2.mem hb
      rcases a3 with q | q
      · exact .inl (by rw [hb2.1, q.1]; exact q.2)
      · exact .inr ⟨by rw [hb2.1, q]; simp; omega, by rw [hb2.1]; exact hb2.2.2⟩
    refine k v' B' _ ⟨o.bk h5 (by simpa [trB] using h5t) h1, by simp; omega, put_same, ?_⟩ o (fun b hb => ?_) ?_
    · have a2' : GrS base G' v' (evs ++ [(turn, kd, bx, x)]).length 4 (evCs (evs ++ [(turn, kd, bx, x)])) B' := by
        rw [evCs_app]; simpa [evCs, evC] using a2
      exact a2'.only (bs := [PU]) (Only.refl.put (by simp)) (fun b hb => .inr (by simp at hb; rw [hb]; exact Ne.symm hB'))
    · simp [trB] at hb ⊢
      rcases hb with q | q
      · exact .inl (.inl q)
      · rcases hnew b q with z | z
        · exact .inl (.inr z)
        · exact .inr z
    · simp [trB]
      refine ⟨fun hm => hB' (grB_sub hm).symm, ?_⟩
      cases v' <;> simp [grB]
theorem tell_runWorld {base P7 P5 X : Nat} {tr : Option Nat} {vb : AV} {out : List Int} {evs : List Evt} {vo : AV} {O : Nat} {ve : AV} {OE : Nat} {turn : Int} (hnd : (obB P7 tr vo O ve OE).Nodup) (h5 : P5 ∉ obB P7 tr vo O ve OE) (hX : X ∉ obB P7 tr vo O ve OE) (hl : out.length < 900000 ∧ evs.length < 900000) :
    TellOk f_irunWorld_1_1 [.ptr P7 0, .ptr P5 0, .ptr X 0] (obB P7 tr vo O ve OE)
      (fun H1 => Ob base P7 P5 tr vb H1 out evs vo O ve OE ∧ H1.bk X = some ⟨[.I turn], true⟩ ∧ X < H1.n ∧ base ≤ H1.n)
      (fun e H1 H2 => ∃ vo' O' ve' OE', Ob base P7 P5 tr vb H2 (out ++ prE (some e)) (evs ++ [(turn, e.1, e.2.1, e.2.2)]) vo' O' ve' OE' ∧ (∀ b ∈ obB P7 tr vo' O' ve' OE', b ∈ obB P7 tr vo O ve OE ∨ H1.n ≤ b ∧ b < H2.n) ∧ (obB P7 tr vo' O' ve' OE').Nodup) := by
  intro kd bx x H1 K1 w1 hP k
  obtain ⟨⟨h1, h2, h3, h4, h6⟩, h7, h8, h9⟩ := hP
  rw [CallF_eq eq_rw rfl]
  have hnd' := hnd
  simp only [obB, List.nodup_cons, List.mem_append, not_or, List.nodup_append] at hnd'
  obtain ⟨⟨d1, d2⟩, d3, d4, d5⟩ := hnd'
  have h5' := h5
  have hX' := hX
  simp only [obB, List.mem_cons, List.mem_append, not_or] at h5' hX'
  by_cases hk : kd = 3
  · subst hk
    have x1 := Ext.push H1 [.I x]
    obtain ⟨v', G', B', a1, a2, a3, a4⟩ := (h4.ext x1).app (by simp; omega) (k := 1) (new := [.I x]) rfl (by omega)
    have n4 := a4.1
    simp only [push_n] at n4
    have hgm : ∀ b ∈ grB vo O, b = O ∧ base ≤ O ∧ O < H1.n := fun b hb => h4.mem hb
    have g4 : G'.bk P7 = some ⟨[.nils, vb, .I 0, .I 0, vo], true⟩ := (a4.2 _ (by simp; omega) d1).trans ((x1.2 _ h2).trans h1)
    have f := a2.flat
    have st := store_cell (v := v') g4 (o := 4) (by simp)
    simp only [List.set_cons_succ, List.set_cons_zero] at st
    simp [rwA, c_irunWorld_1_1, AM.elems, load_bk h1, loadN_push, a1, flat_cells f, flat_tup f, st]
    have o : Only (P7 :: grB vo O) H1 (G'.put P7 (some ⟨[.nils, vb, .I 0, .I 0, v'], true⟩)) := ⟨by simp; omega, fun b hb hm => by
      simp at hm
      rw [put_bk, if_neg hm.1, a4.2 b (by simp; omega) hm.2]; exact x1.2 b hb⟩
    have hB' : B' ≠ P7 := by
      rcases a3 with q | q
      · rw [q.1]; rintro rfl; exact d1 q.2
      · rw [q]; simp; omega
    have hnew : ∀ b ∈ grB v' B', b ∈ grB vo O ∨ H1.n ≤ b ∧ b < G'.n := fun b hb => by
      have hb2 := a2.mem hb
      rcases a3 with q | q
      · exact .inl (by rw [hb2.1, q.1]; exact q.2)
      · exact .inr ⟨by rw [hb2.1, q]; simp, by rw [hb2.1]; exact hb2.2.2⟩
    have ht := h6.only o (by simp; exact ⟨h5'.1, h5'.2.1⟩) h3 (fun b hb => by
      rcases List.mem_cons.1 hb with rfl | q
      · exact d2
      · exact fun hm => d5 b q b hm rfl)
    have hXg : (G'.put P7 (some ⟨[.nils, vb, .I 0, .I 0, v'], true⟩)).bk X = some ⟨[.I turn], true⟩ := o.bk h8 (by simp; exact ⟨hX'.1, hX'.2.1⟩) h7
    refine W_rwB (by simp; omega) ht (by simp; omega) hXg d4 h5'.2.2 hl.2 fun ve' OE' G2 t1 t2 t3 t4 => ?_
    have n2 := t2.1
    simp only [put_n] at n2
    have a2' : GrS base G' v' (out ++ [x]).length 1 (Ints (out ++ [x])) B' := by
      have e1 : Ints out ++ [.I x] = Ints (out ++ [x]) := by simp [Ints]
      rw [← e1]; simpa using a2
    have a2'' := a2'.only (bs := [P7]) (G' := G'.put P7 (some ⟨[.nils, vb, .I 0, .I 0, v'], true⟩)) (Only.refl.put (by simp)) (fun b hb => .inr (by simp at hb; rw [hb]; exact Ne.symm hB'))
    have htb : ∀ b ∈ trB tr ve OE, b ∉ grB v' B' := fun b hb hm => by
      rcases hnew b hm with q | q
      · exact d5 b q b hb rfl
      · have := ht.lt hb; simp at this
        have := h6.lt hb; omega
    refine k G2 ⟨v', B', ve', OE', ⟨(t2.bk (by simp; omega) d2 put_same), by omega, by omega, by simpa [prE] using a2''.onlyB t2 htb, t1⟩, fun b hb => ?_, ?_⟩ ?_
    · simp only [obB, List.mem_cons, List.mem_append] at hb ⊢
      rcases hb with q | q | q
      · exact .inl (.inl q)
      · rcases hnew b q with z | z
        · exact .inl (.inr (.inl z))
        · exact .inr (by omega)
      · rcases t3 b q with z | z
        · exact .inl (.inr (.inr z))
        · simp at z; exact .inr (by omega)
    · simp only [obB, List.nodup_cons, List.mem_append, not_or, List.nodup_append]
      refine ⟨⟨fun hm => hB' (grB_sub hm).symm, fun hm => ?_⟩, by cases v' <;> simp [grB], t4, fun a ha b hb e => ?_⟩
      · rcases t3 _ hm with z | z
        · exact d2 z
        · simp at z; omega
      · subst e
        rcases t3 _ hb with z | z
        · exact htb _ z ha
        · simp at z
          have := a2.mem ha; omega
    · refine (o.mono (cs := obB P7 tr vo O ve OE) (fun b hb => .inl ?_)).trans (t2.mono (cs := obB P7 tr vo O ve OE) (fun b hb => .inl ?_))
      · simp only [obB, List.mem_cons, List.mem_append] at hb ⊢
        rcases hb with q | q
        · exact .inl q
        · exact .inr (.inl q)
      · simp only [obB, List.mem_cons, List.mem_append]; exact .inr (.inr hb)
  · simp [rwA, c_irunWorld_1_1, hk]
    refine W_rwB h9 h6 h3 h7 d4 h5'.2.2 hl.2 fun ve' OE' G2 t1 t2 t3 t4 => ?_
    have n2 := t2.1
    refine k G2 ⟨vo, O, ve', OE', ⟨t2.bk h2 d2 h1, by omega, by omega, by simpa [prE, hk] using h4.onlyB t2 (fun b hb hm => d5 b hm b hb rfl), t1⟩, fun b hb => ?_, ?_⟩ (t2.mono (fun b hb => .inl (by simp only [obB, List.mem_cons, List.mem_append]; exact .inr (.inr hb))))
    · simp only [obB, List.mem_cons, List.mem_append] at hb ⊢
      rcases hb with q | q | q
      · exact .inl (.inl q)
      · exact .inl (.inr (.inl q))
      · rcases t3 b q with z | z
        · exact .inl (.inr (.inr z))
        · exact .inr z
    · simp only [obB, List.nodup_cons, List.mem_append, not_or, List.nodup_append]
      refine ⟨⟨d1, fun hm => ?_⟩, d3, t4, fun a ha b hb e => ?_⟩
      · rcases t3 _ hm with z | z
        · exact d2 z
        · omega
      · subst e
        rcases t3 _ hb with z | z
        · exact d5 _ ha _ z rfl
        · have := h4.mem ha; omega
end Go.Proofs.YtfgedlbkgcejhaaGreat.AM
namespace Go.Proofs.YtfgedlbkgcejhaaGreat.AM
set_option linter.unusedSimpArgs false
set_option linter.unusedVariables false
set_option maxRecDepth 100000
set_option maxHeartbeats 4000000
open Go
attribute [-simp] AM.elems
/-- Where a running task lies: its struct, its variables' slice and block, what waits. -/
abbrev RV := Nat × AV × Nat × AV
theorem Ob.only {base P7 P5 tr vb H H' out evs vo O ve OE bs} (h : Ob base P7 P5 tr vb H out evs vo O ve OE) (k : Only bs H H') (h5 : P5 ∉ bs) (hb : ∀ b ∈ bs, b ∉ obB P7 tr vo O ve OE) : Ob base P7 P5 tr vb H' out evs vo O ve OE := by
  obtain ⟨h1, h2, h3, h4, h6⟩ := h
  refine ⟨k.bk h2 (fun hm => hb P7 hm (by simp [obB])) h1, Nat.lt_of_lt_of_le h2 k.1, Nat.lt_of_lt_of_le h3 k.1, h4.onlyB k (fun b hm hg => hb b hm (by simp [obB, hg])), h6.only k h5 h3 (fun b hm hg => hb b hm (by simp [obB, hg]))⟩
/-- A world that runs. -/
def RunW (lo3 : Nat) (X : List Nat) (G0 : AH) (base P8 P7 P5 : Nat) (tr : Option Nat) (many : Nat) (vts : AV) (m : Nat) (s : WSt) (H : AH) : Prop :=
  ∃ (M : List Nat) (rvs : List RV) (rs : List (AV × Nat)) (B : Nat) (vb : AV) (vo : AV) (O : Nat) (ve : AV) (OE : Nat),
    (H.bk P8 = some ⟨[vts], true⟩ ∧ P8 < H.n ∧ P8 ∉ M ∧ SlC (fun b => b ∉ M) H vts many 1 (rvs.map fun q => .ptr q.1 0) ∧ rvs.length = many ∧ s.1.length = many) ∧
    (Ob base P7 P5 tr vb H s.2.2.1 s.2.2.2 vo O ve OE ∧ (obB P7 tr vo O ve OE).Nodup ∧ (∀ b ∈ obB P7 tr vo O ve OE, b ∈ M) ∧ P5 ∉ M) ∧
    (RB base H vb s.2.1 B rs ∧ (∀ b ∈ fpB B rs, b ∈ M) ∧ (∀ b ∈ obB P7 tr vo O ve OE, b ∉ fpB B rs)) ∧
    (∀ (i : Nat) (t : Tk) (q : RV), s.1[i]? = some t → rvs[i]? = some q → RunT base M H q.1 q.2.1 q.2.2.1 q.2.2.2 t ∧ (q.1 ∈ M ∧ q.2.2.1 ∈ M) ∧ (q.1 ∉ fpB B rs ∧ q.2.2.1 ∉ fpB B rs) ∧ (q.1 ∉ obB P7 tr vo O ve OE ∧ q.2.2.1 ∉ obB P7 tr vo O ve OE)) ∧
    (∀ (i j : Nat) (q q' : RV), i ≠ j → rvs[i]? = some q → rvs[j]? = some q' → q.1 ≠ q'.1 ∧ q.1 ≠ q'.2.2.1 ∧ q.2.2.1 ≠ q'.2.2.1) ∧
    ((∀ b ∈ M, b < H.n) ∧ base ≤ H.n ∧ (many ≤ 3 ∧ (∀ t ∈ s.1, vaT s.2.1.length t = true) ∧ vaBs s.2.1 = true) ∧ s.2.2.1.length + m ≤ 890000 ∧ s.2.2.2.length + m ≤ 890000) ∧
    ((∀ b ∈ M, lo3 ≤ b ∨ b ∈ X) ∧ lo3 ≤ H.n ∧ ∀ b, b < lo3 → b ∉ X → H.bk b = G0.bk b)
theorem prE_len {e : Option (Int × Int × Int)} : (prE e).length ≤ 1 := by
  unfold prE
  split
  · split <;> simp
  · simp
theorem runW_code {lo3 : Nat} {X : List Nat} {G0 : AH} {base P8 P7 P5 : Nat} {tr : Option Nat} {many : Nat} {vts : AV} {m : Nat} {s : WSt} {H : AH} (h : RunW lo3 X G0 base P8 P7 P5 tr many vts m s H) {t : Int} (ht : 0 ≤ t ∧ t < many) : 1 ≤ cdW s t ∧ cdW s t ≤ 4 := by
  obtain ⟨M, rvs, rs, B, vb, vo, O, ve, OE, ⟨_, _, _, _, _, hs⟩, _, _, _, _, ⟨_, _, ⟨_, h3, _⟩, _⟩, _⟩ := h
  unfold cdW
  obtain ⟨x, hx⟩ : ∃ x, s.1[t.toNat]? = some x := ⟨_, List.getElem?_eq_getElem (by omega)⟩
  rw [hx]
  exact step_code' (h3 x (List.mem_of_getElem? hx))
theorem runW_step {lo3 : Nat} {X : List Nat} {G0 : AH} {base P8 P7 P5 : Nat} {tr : Option Nat} {many : Nat} {vts : AV} {m : Nat} {s : WSt} {t : Int} {H : AH} {K : AV → AH → Prop} {w : Fk K} (h : RunW lo3 X G0 base P8 P7 P5 tr many vts (m + 1) s H) (ht : 0 ≤ t ∧ t < many)
    (k : ∀ H', RunW lo3 X G0 base P8 P7 P5 tr many vts m (nxW s t) H' → K (.I (cdW s t)) H') : CallF Cd f_irunWorld_1 [.I t, .ptr P8 0, .ptr P7 0, .ptr P5 0] H K w := by
  obtain ⟨M, rvs, rs, B, vb, vo, O, ve, OE, ⟨g8, n8, m8, sl, hrl, hs⟩, ⟨ob, nd, obM, m5⟩, ⟨rb, fpM, obf⟩, ts, dis, ⟨hM, hbase, ⟨hm3, va, vb3⟩, hlo, hle⟩, ⟨fX, fn, ff⟩⟩ := h
  obtain ⟨x, hx⟩ : ∃ x, s.1[t.toNat]? = some x := ⟨_, List.getElem?_eq_getElem (by omega)⟩
  obtain ⟨⟨R, vv, V, p⟩, hq⟩ : ∃ q, rvs[t.toNat]? = some q := ⟨_, List.getElem?_eq_getElem (by omega)⟩
  obtain ⟨rt, ⟨RM, VM⟩, ⟨Rf, Vf⟩, ⟨Ro, Vo⟩⟩ := ts t.toNat x _ hx hq
  simp only at rt RM VM Rf Vf Ro Vo
  have hva := va x (List.mem_of_getElem? hx)
  have hb3 := (vaBs_facts vb3).1
  have hva3 := vaT_boxes (b := 3) (by omega) hva
  have hrd := rd_of_va hva
  have e1 : nxW s t = (s.1.set t.toNat (stepP x s.2.1).1, (stepP x s.2.1).2.1, s.2.2.1 ++ (stepP x s.2.1).2.2.1, s.2.2.2 ++ evL t (evS x s.2.1)) := by unfold nxW; simp only [hx]
  have e2 : cdW s t = (stepP x s.2.1).2.2.2 := by unfold cdW; rw [hx]
  rw [e1, e2] at k
  rw [CallF_eq e_irunWorld_1 rfl]
  have x0 := Ext.push H [.I t]
  have g8' := (x0.2 _ n8).trans g8
  obtain ⟨o1, o2, o3, o4, o6⟩ := id ob
  have g7' := (x0.2 _ o2).trans o1
  obtain ⟨b, o, cap, ev, okb, hbn, hsl⟩ := sl.at (i := t.toNat) (by omega)
  have lp : (H.push [.I t]).load b (o + t.toNat) = some (.ptr R 0) := by
    have hh := hsl t.toNat 1 (by omega)
    have h2 : seg (rvs.map fun q => AV.ptr q.1 0) t.toNat 1 = some [.ptr R 0] := by
      unfold seg
      rw [if_pos (by simp; omega)]
      congr 1
      exact take_one (by rw [List.getElem?_map, hq]; rfl)
    rw [h2] at hh
    have := loadN_get (loadN_extE hh x0 hbn) (i := 0) (by omega)
    simpa using this
  subst ev
  have ht1 : 0 ≤ t := ht.1
  have ht2 : t < (many : Int) := ht.2
  simp (disch := omega) [load_push, load_bk g8', load_bk g7', ht1, ht2, lp, n8, Nat.ne_of_lt, show ¬ P8 = H.n by omega, show ¬ P7 = H.n by omega, load_bk g8, load_bk o1]
  have rt0 : RunT base M (H.push [.I t]) R vv V p x := rt.only (cs := []) x0.only (by simp) (by simp) (by simp)
  have rb0 := rb.onlyA (cs := []) x0.only (by simp)
  have ob0 := ob.only (bs := []) x0.only (by simp) (by simp)
  have hXo : H.n ∉ obB P7 tr vo O ve OE := fun hm => by have := hM _ (obM _ hm); omega
  refine K_irunning_step (P := fun H1 => Ob base P7 P5 tr vb H1 s.2.2.1 s.2.2.2 vo O ve OE ∧ H1.bk H.n = some ⟨[.I t], true⟩ ∧ H.n < H1.n ∧ base ≤ H1.n) rt0 (fun b hb => by have := hM b hb; simp; omega) hva3 (by simp; omega) rb0 vb3 hrd Rf Vf fpM (tb := obB P7 tr vo O ve OE) obf (fun b hb => by have := hM b (obM b hb); simp; omega)
    (tell_runWorld (turn := t) nd (fun hm => m5 (obM _ hm)) hXo (by omega))
    (fun H1 oo => ⟨ob0.only oo (fun hm => by rcases List.mem_cons.1 hm with q | q; exact m5 (by rw [q]; exact VM); exact m5 (fpM _ q)) (fun b hb hm => by rcases List.mem_cons.1 hb with q | q; rw [q] at hm; exact Vo hm; exact obf b hm q),
      oo.bk (by simp) (fun hm => by rcases List.mem_cons.1 hm with q | q; have := hM _ VM; omega; have := hM _ (fpM _ q); omega) push_new, by have := oo.1; simp at this; omega, by have := oo.1; simp at this; omega⟩)
    Ro Vo obM fun p' rs' H1 H2 H' r1 b1 m1 w1 tl w2 => ?_
  have n1 := w1.1
  simp only [push_n] at n1
  have hpr := step_prints (bs := s.2.1) (t := x) (fun y hy => (okT_facts ((vaT_facts hva3).2.2.1 y hy).1).1)
  -- what is told
  obtain ⟨vo', O', ve', OE', ob2, obn, nd2, w12, n12⟩ : ∃ vo' O' ve' OE', Ob base P7 P5 tr vb H2 (s.2.2.1 ++ (stepP x s.2.1).2.2.1) (s.2.2.2 ++ evL t (evS x s.2.1)) vo' O' ve' OE' ∧
      (∀ b ∈ obB P7 tr vo' O' ve' OE', b ∈ obB P7 tr vo O ve OE ∨ H1.n ≤ b ∧ b < H2.n) ∧ (obB P7 tr vo' O' ve' OE').Nodup ∧ Only (obB P7 tr vo O ve OE) H1 H2 ∧ H1.n ≤ H2.n := by
    rw [hpr]
    cases he : evS x s.2.1 with
    | none =>
      rw [he] at tl
      have tl : H2 = H1 := tl
      subst tl
      refine ⟨vo, O, ve, OE, ?_, fun b hb => .inl hb, nd, Only.refl, Nat.le_refl _⟩
      have := ob0.only w1 (fun hm => by rcases List.mem_cons.1 hm with q | q; exact m5 (by rw [q]; exact VM); exact m5 (fpM _ q)) (fun b hb hm => by rcases List.mem_cons.1 hb with q | q; rw [q] at hm; exact Vo hm; exact obf b hm q)
      simpa [prE, evL] using this
    | some e =>
      rw [he] at tl
      obtain ⟨⟨vo', O', ve', OE', a1, a2, a3⟩, a4⟩ := tl
      exact ⟨vo', O', ve', OE', a1, a2, a3, a4, a4.1⟩
  have n2 := w2.1
  -- all that is written
  have wall : Only (R :: V :: (fpB B rs ++ obB P7 tr vo O ve OE)) H H' := by
    refine (((x0.only (bs := [])).mono (by simp)).trans (w1.mono (fun b hb => .inl ?_))).trans ((w12.mono (fun b hb => .inl ?_)).trans (w2.mono (fun b hb => .inl ?_)))
    · rcases List.mem_cons.1 hb with q | q
      · simp [q]
      · simp [q]
    · simp [hb]
    · simp at hb; rcases hb with q | q <;> simp [q]
  have wM : Only M H H' := wall.mono (fun b hb => .inl (by
    simp at hb
    rcases hb with q | q | q | q
    · rw [q]; exact RM
    · rw [q]; exact VM
    · exact fpM b q
    · exact obM b q))
  have hfp : ∀ b ∈ fpB B rs', b ∈ fpB B rs ∨ H.n < b ∧ b < H1.n := fun b hb => by
    rcases m1 b hb with q | q
    · exact .inl q
    · simp at q; exact .inr (by omega)
  -- the blocks that may be written from now on
  have hM' : ∀ b ∈ M ++ (fpB B rs' ++ obB P7 tr vo' O' ve' OE'), b ∈ M ∨ H.n ≤ b ∧ b < H'.n := fun b hb => by
    simp only [List.mem_append] at hb
    rcases hb with q | q | q
    · exact .inl q
    · rcases hfp b q with z | z
      · exact .inl (fpM b z)
      · exact .inr (by omega)
    · rcases obn b q with z | z
      · exact .inl (obM b z)
      · exact .inr (by omega)
  have hold : ∀ b, b < H.n → b ∉ M → b ∉ M ++ (fpB B rs' ++ obB P7 tr vo' O' ve' OE') := fun b hb hn hm => by
    rcases hM' b hm with q | q
    · exact hn q
    · omega
  have Rn := hM _ RM
  have Vn := hM _ VM
  have obf' : ∀ b ∈ obB P7 tr vo' O' ve' OE', b ∉ fpB B rs' := fun b hb hm => by
    rcases obn b hb with q | q
    · rcases hfp b hm with z | z
      · exact obf b q z
      · have := hM _ (obM b q); omega
    · rcases hfp b hm with z | z
      · have := hM _ (fpM b z); omega
      · omega
  have out' : ∀ b, b < H.n → b ∉ fpB B rs → b ∉ fpB B rs' := fun b hb hn hm => by
    rcases hfp b hm with q | q
    · exact hn q
    · omega
  have outo : ∀ b, b < H.n → b ∉ obB P7 tr vo O ve OE → b ∉ obB P7 tr vo' O' ve' OE' := fun b hb hn hm => by
    rcases obn b hm with q | q
    · exact hn q
    · omega
  obtain ⟨sk1, sk2, sk3, sk4, sk5, sk6⟩ := step_keeps hva vb3 hrd
  simp
  refine k H' ⟨M ++ (fpB B rs' ++ obB P7 tr vo' O' ve' OE'), rvs.set t.toNat (R, vv, V, p'), rs', B, vb, vo', O', ve', OE',
    ⟨wM.bk n8 m8 g8, by have := wM.1; omega, hold _ n8 m8, ?_, by simp; exact hrl, by simp; exact hs⟩,
    ⟨ob2.only w2 (by simp; exact ⟨fun e => m5 (by rw [e]; exact RM), fun e => m5 (by rw [e]; exact VM)⟩) (fun b hb hm => ?_), nd2, fun b hb => by simp [hb], hold _ o3 m5⟩,
    ⟨b1, fun b hb => by simp [hb], obf'⟩, ?_, ?_, ⟨fun b hb => ?_, by have := wM.1; omega, ⟨hm3, ?_, sk2⟩, ?_, ?_⟩, ⟨fun b hb => ?_, by have := wM.1; omega, fun b hb hx => ?_⟩⟩
  · have e5 : (rvs.set t.toNat (R, vv, V, p')).map (fun q => AV.ptr q.1 0) = rvs.map fun q => AV.ptr q.1 0 := by
      rw [List.map_set]
      refine List.ext_getElem? fun j => ?_
      by_cases hj : j = t.toNat
      · subst hj
        rw [List.getElem?_set_self (by simp; omega), List.getElem?_map, hq]; rfl
      · rw [List.getElem?_set_ne (by omega)]
    rw [e5]
    exact sl.mono wM.1 (fun b hb hn => wM.2 b hn hb) (fun b hb hn => hold b hn hb)
  · simp at hb
    rcases hb with q | q
    · rw [q] at hm; exact outo R Rn Ro hm
    · rw [q] at hm; exact outo V Vn Vo hm
  · intro i y q hy hq'
    by_cases hi : i = t.toNat
    · subst hi
      rw [List.getElem?_set_self (by omega)] at hy hq'
      cases hy; cases hq'
      refine ⟨r1 _ (fun b hb => ?_), ⟨by simp [RM], by simp [VM]⟩, ⟨out' R Rn Rf, out' V Vn Vf⟩, ⟨outo R Rn Ro, outo V Vn Vo⟩⟩
      simp only [List.mem_append] at hb
      rcases hb with z | z | z
      · exact .inl z
      · exact .inr (.inr z)
      · rcases obn b z with u | u
        · exact .inl (obM b u)
        · exact .inr (.inl u)
    · rw [List.getElem?_set_ne (by omega)] at hy hq'
      obtain ⟨a1, ⟨a2, a3⟩, ⟨a4, a5⟩, ⟨a6, a7⟩⟩ := ts i y q hy hq'
      obtain ⟨d1, d2, d3⟩ := dis i t.toNat q _ hi hq' hq
      obtain ⟨d4, d5, d6⟩ := dis t.toNat i _ q (Ne.symm hi) hq hq'
      have hqn := hM _ a2
      have hvn := hM _ a3
      refine ⟨?_, ⟨by simp [a2], by simp [a3]⟩, ⟨out' _ hqn a4, out' _ hvn a5⟩, ⟨outo _ hqn a6, outo _ hvn a7⟩⟩
      have r2 : RunT base (M ++ (fpB B rs' ++ obB P7 tr vo' O' ve' OE')) H q.1 q.2.1 q.2.2.1 q.2.2.2 y := a1.more (fun b hb => by rcases hM' b hb with z | z; exact .inl z; exact .inr z.1)
      refine r2.only wall ?_ ?_ (fun b hb => .inl ?_)
      · simp; exact ⟨d1, d2, a4, a6⟩
      · simp; exact ⟨Ne.symm d5, d3, a5, a7⟩
      · simp at hb
        rcases hb with z | z | z | z
        · simp [z, RM]
        · simp [z, VM]
        · simp [fpM b z]
        · simp [obM b z]
  · intro i j q q' hij h1 h2
    have key : ∀ (i : Nat) (q : RV), (rvs.set t.toNat (R, vv, V, p'))[i]? = some q → ∃ q0 : RV, rvs[i]? = some q0 ∧ q0.1 = q.1 ∧ q0.2.2.1 = q.2.2.1 := fun i q h => by
      by_cases hi : i = t.toNat
      · subst hi
        rw [List.getElem?_set_self (by omega)] at h
        cases h
        exact ⟨_, hq, rfl, rfl⟩
      · rw [List.getElem?_set_ne (by omega)] at h
        exact ⟨q, h, rfl, rfl⟩
    obtain ⟨q0, z1, z2, z3⟩ := key i q h1
    obtain ⟨q1, y1, y2, y3⟩ := key j q' h2
    have := dis i j q0 q1 hij z1 y1
    rw [← z2, ← z3, ← y2, ← y3]
    exact this
  · rcases hM' b hb with q | q
    · have := hM b q; have := wM.1; omega
    · exact q.2
  · intro y hy
    simp only at hy ⊢
    rw [sk3]
    rcases List.mem_or_eq_of_mem_set hy with q | q
    · exact va y q
    · subst q; exact sk1
  · simp only [List.length_append]
    have := @prE_len (evS x s.2.1)
    rw [hpr]; omega
  · simp only [List.length_append]
    have : (evL t (evS x s.2.1)).length ≤ 1 := by unfold evL; cases evS x s.2.1 <;> simp
    omega
  · rcases hM' b hb with q | q
    · exact fX b q
    · exact .inl (by omega)
  · rw [wM.2 b (by omega) (fun hm => by rcases fX b hm with q | q; omega; exact hx q)]
    exact ff b hb hx
end Go.Proofs.YtfgedlbkgcejhaaGreat.AM
namespace Go.Proofs.YtfgedlbkgcejhaaGreat.AM
set_option linter.unusedSimpArgs false
set_option linter.unusedVariables false
set_option maxRecDepth 100000
set_option maxHeartbeats 4000000
open Go
attribute [-simp] AM.elems
theorem K_inewRunning2 {ok : Nat → Prop} {H : AH} {K : AV → AH → Prop} {w : Fk K} {c : List AV} {t : Tk} (h : TC ok H c t) (h4 : t.vars.length = 4)
    (k : ∀ R vv' V p H', H'.bk R = some ⟨[vv', p], true⟩ → GrS H.n H' vv' t.vars.length 1 (Ints t.vars) V → PL (fun b => (ok b ∧ b < H.n ∨ H.n ≤ b) ∧ b ≠ V ∧ b ≠ R) H' p t.rest.list → H.n ≤ V → V < R → R < H'.n → Ext H H' → K (.ptr R 0) H') : CallF Cd f_inewRunning [.agg c] H K w := by
  obtain ⟨vv, vr, rfl, h1, h2⟩ := h
  rw [CallF_eq e_inewRunning rfl]
  have x0 := Ext.push H [vv, vr]
  simp [load_push]
  refine K_cloneG (h1.ext x0).src (by omega) fun vv' H1 V g1 x1 => ?_
  have n1 := x1.1
  simp only [push_n] at n1
  have fv := g1.flat
  have hV : H.n + 1 ≤ V ∧ V < H1.n := by
    rcases g1.2.2 with q | q
    · omega
    · exact ⟨by simpa using q.1, q.2.1⟩
  have q1 : H1.bk H.n = some ⟨[vv, vr], true⟩ := (x1.2 _ (by simp)).trans push_new
  simp [x1, load_bk q1, AM.elems]
  have sv : SV (fun b => (ok b ∧ b < H.n ∨ H.n ≤ b) ∧ b ≠ V) H1 vr t.rest := h2.mono (by omega) (fun b _ hb => (x0.trans x1).2 b hb) (fun b ho hb => ⟨.inl ⟨ho, hb⟩, by omega⟩)
  refine K_iahead (ok := fun b => (ok b ∧ b < H.n ∨ H.n ≤ b) ∧ b ≠ V) (rs := []) H1.n (Nat.le_refl _) (fun b hb => ⟨.inr (by omega), by omega⟩) sv (show PL _ H1 .nilp [] from rfl) fun p H2 hp x2 => ?_
  have fp := hp.flat
  have n2 := x2.1
  rw [List.append_nil] at hp
  have x3 := Ext.push H2 [vv', p]
  simp [x2, flat_cells fv, flat_tup fv, flat_cells fp, flat_tup fp]
  refine k H2.n vv' V p _ push_new ?_ (hp.mono (by simp) (fun b _ hb => x3.2 b hb) (fun b h hb => ⟨h.1, h.2, by omega⟩)) (by omega) (by omega) (by simp) (((x0.trans x1).trans x2).trans x3)
  have g3 := (g1.ext x2).ext x3
  exact g3.up (by simp)
/-- The blocks of running tasks. -/
def rvB (l : List RV) : List Nat := l.flatMap fun q => [q.1, q.2.2.1]
theorem rvB_mem {l : List RV} {q : RV} (h : q ∈ l) : q.1 ∈ rvB l ∧ q.2.2.1 ∈ rvB l := ⟨List.mem_flatMap.2 ⟨q, h, by simp⟩, List.mem_flatMap.2 ⟨q, h, by simp⟩⟩
theorem rvB_app {a b : List RV} : rvB (a ++ b) = rvB a ++ rvB b := by simp [rvB]
/-- Tasks that run, in blocks from lo on; F: blocks that what waits must not lie in. -/
def TSt (base lo : Nat) (F : List Nat) (G : AH) (ts : List Tk) (rvs : List RV) : Prop :=
  rvs.length = ts.length ∧ (∀ (j : Nat) (t : Tk) (q : RV), ts[j]? = some t → rvs[j]? = some q → RunT base (F ++ rvB rvs) G q.1 q.2.1 q.2.2.1 q.2.2.2 t) ∧ (∀ b ∈ rvB rvs, lo ≤ b ∧ b < G.n) ∧
  (∀ (i j : Nat) (q q' : RV), i ≠ j → rvs[i]? = some q → rvs[j]? = some q' → q.1 ≠ q'.1 ∧ q.1 ≠ q'.2.2.1 ∧ q.2.2.1 ≠ q'.2.2.1)
theorem TSt.only {base lo F G G' ts rvs cs} (h : TSt base lo F G ts rvs) (k : Only cs G G') (hF : ∀ b ∈ cs, b ∈ F ∨ G.n ≤ b) (hr : ∀ b ∈ cs, b ∉ rvB rvs) : TSt base lo F G' ts rvs := by
  obtain ⟨h1, h2, h3, h4⟩ := h
  refine ⟨h1, fun j t q ht hq => ?_, fun b hb => ⟨(h3 b hb).1, by have := (h3 b hb).2; have := k.1; omega⟩, h4⟩
  have hm := rvB_mem (List.mem_of_getElem? hq)
  exact (h2 j t q ht hq).only k (fun hc => hr _ hc hm.1) (fun hc => hr _ hc hm.2) (fun b hb => by rcases hF b hb with z | z; exact .inl (List.mem_append_left _ z); exact .inr z)
theorem TSt.more {base lo F F' G ts rvs} (h : TSt base lo F G ts rvs) (hF : ∀ b ∈ F', b ∈ F ∨ G.n ≤ b) : TSt base lo F' G ts rvs :=
  ⟨h.1, fun j t q ht hq => (h.2.1 j t q ht hq).more (fun b hb => by
    rcases List.mem_append.1 hb with z | z
    · rcases hF b z with u | u
      · exact .inl (List.mem_append_left _ u)
      · exact .inr u
    · exact .inl (List.mem_append_right _ z)), h.2.2.1, h.2.2.2⟩
theorem K_irunWorld_l0 {w : Wd} (hw : smW w) {vt b1 b2 b3 b4 n5 : AV} {P3 P5 P6 P7 P8 base lo : Nat} {F : List Nat} {Q : Out → Env → AH → Prop} {okw : Nat → Prop} (hok : ∀ b, okw b → b < lo ∧ b ≠ P8 ∧ b ∉ F) (hF : ∀ b ∈ F, b < lo ∧ b ≠ P8) (h8 : P8 < lo) (h3 : P3 < lo ∧ P3 ≠ P8) (hbl : base ≤ lo)
    (m i : Nat) (hm : i + m = w.tasks.length) {G : AH} {g : AV} {B : Nat} {rvs : List RV} (hlo : lo ≤ G.n) (gP : G.bk P3 = some ⟨[vt, b1, b2, b3, b4], true⟩) (hv : TV okw G vt w.tasks) (g8 : G.bk P8 = some ⟨[g], true⟩)
    (hg : GrS lo G g i 1 (rvs.map fun q => .ptr q.1 0) B) (hgr : ∀ b ∈ grB g B, b ∉ rvB rvs) (ht : TSt base lo (P8 :: (grB g B ++ F)) G (w.tasks.take i) rvs)
    (hQ : ∀ e G' g' B' rvs', GrS lo G' g' w.tasks.length 1 (rvs'.map fun q => .ptr q.1 0) B' → G'.bk P8 = some ⟨[g'], true⟩ → (∀ b ∈ grB g' B', b ∉ rvB rvs') → TSt base lo (P8 :: (grB g' B' ++ F)) G' w.tasks rvs' → (∀ b, b < lo → b ≠ P8 → G'.bk b = G.bk b) → G.n ≤ G'.n →
      get e 1 = some n5 → get e 3 = some (.ptr P3 0) → get e 5 = some (.ptr P5 0) → get e 6 = some (.ptr P6 0) → get e 7 = some (.ptr P7 0) → get e 8 = some (.ptr P8 0) → Q (.brk 0) e G') :
    W Cd (.loop c_irunWorld_l0) [(1, n5), (3, .ptr P3 0), (5, .ptr P5 0), (6, .ptr P6 0), (7, .ptr P7 0), (8, .ptr P8 0), (21, vt), (22, .I w.tasks.length), (23, .I i)] G Q := by
  have hbig := hv.big
  have hl3 : w.tasks.length ≤ 3 := (vaWd_iff.1 hw.1).1.2.1
  induction m generalizing i G g B rvs with
  | zero =>
    rw [W_loop_as c_irunWorld_l0.eq_1]
    have : i = w.tasks.length := by omega
    subst this
    simp
    rw [List.take_length] at ht
    exact hQ _ G g B rvs hg g8 hgr ht (fun _ _ _ => rfl) (Nat.le_refl _) rfl rfl rfl rfl rfl rfl
  | succ m ih =>
    rw [W_loop_as c_irunWorld_l0.eq_1]
    have hlt : i < w.tasks.length := by omega
    have hlt' : (i : Int) < w.tasks.length := by omega
    obtain ⟨t, htt⟩ : ∃ t, w.tasks[i]? = some t := ⟨_, List.getElem?_eq_getElem hlt⟩
    obtain ⟨b, o, cap, vv, vr, e1, ob, hbn, l1, i1, s1⟩ := hv.at htt
    obtain ⟨u1, u2, u3, u4, u5⟩ := hw.task (List.mem_of_getElem? htt)
    have hv' := hv
    subst e1
    have x0 := Ext.push G [vv, vr]
    have q8 := (x0.2 P8 (by omega)).trans g8
    have hne8 : ¬ P8 = G.n := by omega
    have st0 : (G.push [.nils, .nils]).store G.n 0 [vv, vr] = some (G.push [vv, vr]) := store_push2e
    simp (disch := omega) [hlt', l1, st0, load_bk q8, loadN_push]
    refine K_inewRunning2 (ok := fun b => okw b) ⟨vv, vr, rfl, i1.ext x0, s1.ext x0⟩ u5 fun R vv' V p H1 gR gv hp hV1 hVR hR x1 => ?_
    have n1 := x1.1
    simp only [push_n] at n1 hV1
    have x2 := (x0.trans x1).trans (Ext.push H1 [.ptr R 0])
    obtain ⟨g', G', B', a1, a2, a3, a4⟩ := (hg.ext x2).app (by simp; omega) (k := 1) (new := [.ptr R 0]) rfl (by omega)
    have n4 := a4.1
    simp only [push_n] at n4
    have hgm : ∀ b, b ∈ grB g B → b = B ∧ lo ≤ B ∧ B < G.n := fun b hb => hg.mem hb
    have g8' : G'.bk P8 = some ⟨[g], true⟩ := (a4.2 P8 (by simp; omega) (fun hm => by have := hgm _ hm; omega)).trans ((x2.2 P8 (by omega)).trans g8)
    have f := a2.flat
    have st := store_cell (v := g') g8' (o := 0) (by simp)
    simp only [List.set_cons_zero] at st
    have hB' : B' = B ∧ B ∈ grB g B ∨ B' = H1.n + 1 := by
      rcases a3 with q | q
      · exact .inl q
      · exact .inr (by rw [q]; simp)
    have hB8 : B' ≠ P8 := by
      rcases hB' with q | q
      · have := hgm _ q.2; omega
      · omega
    have hgr' : ∀ b ∈ grB g' B', b ∈ grB g B ∨ b = H1.n + 1 := fun b hb => by
      have := grB_sub hb
      rcases hB' with q | q
      · exact .inl (by rw [this, q.1]; exact q.2)
      · exact .inr (by rw [this, q])
    -- the new task
    have rt : RunT base (P8 :: (grB g B ++ F) ++ rvB (rvs ++ [(R, vv', V, p)])) H1 R vv' V p t := by
      refine ⟨gR, hR, by omega, gv.up (by simp; omega), by omega, by omega, by omega, hp.mono (Nat.le_refl _) (fun _ _ _ => rfl) (fun b hb hbn => ⟨hb.2.2, hb.2.1, fun hm => ?_⟩)⟩
      rw [rvB_app] at hm
      simp only [List.cons_append, List.mem_cons, List.mem_append] at hm
      rcases hb.1 with ⟨z1, z2⟩ | z1
      · have z3 := hok b z1
        rcases hm with q | (q | q) | q | q
        · exact z3.2.1 q
        · have := hgm _ q; omega
        · exact z3.2.2 q
        · have := (ht.2.2.1 b q).1; omega
        · simp [rvB] at q; omega
      · simp only [push_n] at z1
        rcases hm with q | (q | q) | q | q
        · omega
        · have := hgm _ q; omega
        · have := hF b q; omega
        · have := (ht.2.2.1 b q).2; omega
        · simp [rvB] at q
          rcases q with q | q
          · exact hb.2.2 q
          · exact hb.2.1 q
    have hil : (w.tasks.take i).length = i := by simp; omega
    have hrl : rvs.length = i := by rw [ht.1, hil]
    have t1 : TSt base lo (P8 :: (grB g B ++ F)) H1 (w.tasks.take (i + 1)) (rvs ++ [(R, vv', V, p)]) := by
      have ht1 := ht.only (cs := []) (G' := H1) ((x0.trans x1).only) (by simp) (by simp)
      rw [take_snoc htt]
      have key : ∀ (j : Nat) (q : RV), (rvs ++ [(R, vv', V, p)])[j]? = some q → (j < i ∧ rvs[j]? = some q) ∨ (j = i ∧ q = (R, vv', V, p)) := fun j q hq => by
        by_cases hj : j < i
        · rw [List.getElem?_append_left (by omega)] at hq; exact .inl ⟨hj, hq⟩
        · have := (List.getElem?_eq_some_iff.1 hq).1
          rw [List.length_append, hrl, List.length_singleton] at this
          have hj' : j = i := by omega
          subst hj'
          rw [List.getElem?_append_right (by omega), hrl, Nat.sub_self] at hq
          simp at hq
          exact .inr ⟨rfl, hq.symm⟩
      have old : ∀ b ∈ rvB rvs, b < G.n := fun b hb => (ht.2.2.1 b hb).2
      refine ⟨by simp [hrl]; omega, fun j y q hy hq => ?_, fun b hb => ?_, fun j j' q q' hjj hq hq' => ?_⟩
      · rcases key j q hq with ⟨z1, z2⟩ | ⟨z1, rfl⟩
        · rw [List.getElem?_append_left (by omega)] at hy
          refine (ht.only (cs := []) (G' := G) Only.refl (by simp) (by simp)).2.1 j y q hy z2 |>.more (M' := P8 :: (grB g B ++ F) ++ rvB (rvs ++ [(R, vv', V, p)])) (fun b hb => ?_) |>.only (cs := []) (x0.trans x1).only (by simp) (by simp) (by simp)
          rw [rvB_app] at hb
          simp only [List.cons_append, List.mem_cons, List.mem_append] at hb ⊢
          rcases hb with u | (u | u) | u | u
          · exact .inl (.inl u)
          · exact .inl (.inr (.inl (.inl u)))
          · exact .inl (.inr (.inl (.inr u)))
          · exact .inl (.inr (.inr u))
          · simp [rvB] at u; exact .inr (by omega)
        · subst z1
          rw [List.getElem?_append_right (by omega), hil, Nat.sub_self] at hy
          simp at hy
          subst hy
          exact rt
      · rw [rvB_app] at hb
        rcases List.mem_append.1 hb with z | z
        · have := ht.2.2.1 b z; omega
        · simp [rvB] at z; omega
      · rcases key j q hq with ⟨z1, z2⟩ | ⟨z1, rfl⟩ <;> rcases key j' q' hq' with ⟨y1, y2⟩ | ⟨y1, rfl⟩
        · exact ht.2.2.2 j j' q q' hjj z2 y2
        · have m1 := rvB_mem (List.mem_of_getElem? z2)
          have := old _ m1.1; have := old _ m1.2
          simp only; omega
        · have m1 := rvB_mem (List.mem_of_getElem? y2)
          have := old _ m1.1; have := old _ m1.2
          simp only; omega
        · omega
    have t2 : TSt base lo (P8 :: (grB g' B' ++ F)) (G'.put P8 (some ⟨[g'], true⟩)) (w.tasks.take (i + 1)) (rvs ++ [(R, vv', V, p)]) := by
      have s1 := (t1.more (F' := P8 :: (grB g B ++ (grB g' B' ++ F))) (fun b hb => by
        simp only [List.mem_cons, List.mem_append] at hb ⊢
        rcases hb with q | q | q | q
        · exact .inl (.inl q)
        · exact .inl (.inr (.inl q))
        · rcases hgr' b q with z | z
          · exact .inl (.inr (.inl z))
          · exact .inr (by omega)
        · exact .inl (.inr (.inr q)))).only (cs := []) (G' := H1.push [.ptr R 0]) (Ext.push _ _).only (by simp) (by simp)
      have rvlo : ∀ b ∈ rvB (rvs ++ [(R, vv', V, p)]), b ∈ rvB rvs ∨ (G.n ≤ b ∧ b < H1.n) := fun b hb => by
        rw [rvB_app] at hb
        rcases List.mem_append.1 hb with z | z
        · exact .inl z
        · simp [rvB] at z; exact .inr (by omega)
      have s2 := s1.only a4 (fun b hb => .inl (by simp [hb])) (fun b hb hm => by
        rcases rvlo b hm with z | z
        · exact hgr b hb z
        · have := hgm b hb; omega)
      have s3 := s2.only (cs := [P8]) (G' := G'.put P8 (some ⟨[g'], true⟩)) (Only.refl.put (by simp)) (fun b hb => .inl (by simp at hb; simp [hb])) (fun b hb hm => by
        simp at hb
        have := (t1.2.2.1 b hm).1; omega)
      exact s3.more (fun b hb => .inl (by
        simp only [List.mem_cons, List.mem_append] at hb ⊢
        rcases hb with q | q | q
        · exact .inl q
        · exact .inr (.inr (.inl q))
        · exact .inr (.inr (.inr q))))
    have gg : ∀ b, b < lo → b ≠ P8 → (G'.put P8 (some ⟨[g'], true⟩)).bk b = G.bk b := fun b hb h2 => by
      rw [put_bk, if_neg h2, a4.2 b (by simp; omega) (fun hm => by have := hgm _ hm; omega), x2.2 b (by omega)]
    simp (disch := omega) [AM.elems, x1, loadN_push, a1, flat_cells f, flat_tup f, st]
    have := ih (i + 1) (by omega) (G := G'.put P8 (some ⟨[g'], true⟩)) (g := g') (B := B') (rvs := rvs ++ [(R, vv', V, p)]) (by simp; omega)
      ((gg P3 h3.1 h3.2).trans gP) (hv'.mono (by simp; omega) (fun b hb _ => gg b (hok b hb).1 (hok b hb).2.1) (fun _ h _ => h)) put_same
      (by rw [List.map_append]; exact a2.only (bs := [P8]) (Only.refl.put (by simp)) (fun b hb => .inr (by simp at hb; rw [hb]; exact Ne.symm hB8)))
      (fun b hb hm => by
        rw [rvB_app] at hm
        rcases hgr' b hb with z | z
        · rcases List.mem_append.1 hm with y | y
          · exact hgr b z y
          · have := hgm b z; simp [rvB] at y; omega
        · rcases List.mem_append.1 hm with y | y
          · have := (ht.2.2.1 b y).2; omega
          · simp [rvB] at y; omega) t2
      (fun e G2 g2 B2 rvs2 z1 z2 z3 z4 z5 z6 y1 y2 y3 y4 y5 y6 => hQ e G2 g2 B2 rvs2 z1 z2 z3 z4 (fun b hb h2 => (z5 b hb h2).trans (gg b hb h2)) (by simp at z6; omega) y1 y2 y3 y4 y5 y6)
    simpa using this
end Go.Proofs.YtfgedlbkgcejhaaGreat.AM
namespace Go.Proofs.YtfgedlbkgcejhaaGreat.AM
set_option linter.unusedSimpArgs false
set_option linter.unusedVariables false
set_option maxRecDepth 100000
set_option maxHeartbeats 4000000
open Go
attribute [-simp] AM.elems
theorem K_irunWorld_l1 {ts : List Tk} (hts : ∀ t ∈ ts, vaT 3 t = true ∧ t.rest.list.length ≤ 4000) (hn3 : ts.length ≤ 3) {vts vb vo : AV} {P6 P7 base lo : Nat} {tn jn : Int} {M : List Nat} {rvs : List RV} {Q : Out → Env → AH → Prop} {okv : Nat → Prop} (hokv : ∀ b, okv b → b < lo ∧ b ≠ P7) (h7 : P7 < lo) (h7M : P7 ∈ M)
    (hrl : rvs.length = ts.length) (m i : Nat) (hm : i + m = ts.length) {G : AH} {g : AV} {cs : List AV} {B : Nat} (hlo : lo ≤ G.n) (g7 : G.bk P7 = some ⟨[g, vb, .I tn, .I jn, vo], true⟩) (hv : SlC okv G vts ts.length 1 (rvs.map fun q => .ptr q.1 0))
    (hg : GrS lo G g i 2 cs B) (he : LF 2 (TC (fun b => lo ≤ b ∧ b ≠ B) G) (ts.take i) cs)
    (ht : ∀ (j : Nat) (t : Tk) (q : RV), ts[j]? = some t → rvs[j]? = some q → RunT base (grB g B ++ M) G q.1 q.2.1 q.2.2.1 q.2.2.2 t ∧ (q.1 < lo ∧ q.2.2.1 < lo) ∧ (q.1 ≠ P7 ∧ q.2.2.1 ≠ P7))
    (hQ : ∀ e G' g' cs' B', GrS lo G' g' ts.length 2 cs' B' → LF 2 (TC (fun b => lo ≤ b ∧ b ≠ B') G') ts cs' → G'.bk P7 = some ⟨[g', vb, .I tn, .I jn, vo], true⟩ → (∀ b, b < lo → b ≠ P7 → G'.bk b = G.bk b) → G.n ≤ G'.n → get e 6 = some (.ptr P6 0) → get e 7 = some (.ptr P7 0) → Q (.brk 2) e G') :
    W Cd (.loop c_irunWorld_l1) [(6, .ptr P6 0), (7, .ptr P7 0), (48, vts), (49, .I ts.length), (50, .I i)] G Q := by
  induction m generalizing i G g cs B with
  | zero =>
    rw [W_loop_as c_irunWorld_l1.eq_1]
    have : i = ts.length := by omega
    subst this
    simp
    rw [List.take_length] at he
    exact hQ _ G g cs B hg he g7 (fun _ _ _ => rfl) (Nat.le_refl _) rfl rfl
  | succ m ih =>
    rw [W_loop_as c_irunWorld_l1.eq_1]
    have hlt : i < ts.length := by omega
    have hlt' : (i : Int) < ts.length := by omega
    obtain ⟨t, htt⟩ : ∃ t, ts[i]? = some t := ⟨_, List.getElem?_eq_getElem hlt⟩
    obtain ⟨⟨R, vv, V, p⟩, hq⟩ : ∃ q, rvs[i]? = some q := ⟨_, List.getElem?_eq_getElem (by omega)⟩
    obtain ⟨rt, ⟨Rl, Vl⟩, ⟨R7, V7⟩⟩ := ht i t _ htt hq
    simp only at rt Rl Vl R7 V7
    obtain ⟨hva, hlen⟩ := hts t (List.mem_of_getElem? htt)
    obtain ⟨f1, f2, f3, f4⟩ := vaT_facts hva
    obtain ⟨b, o, cap, ev, okb, hbn, hsl⟩ := hv.at (i := i) (by omega)
    have lp : G.load b (o + i) = some (.ptr R 0) := by
      have hh := hsl i 1 (by omega)
      have h2 : seg (rvs.map fun q => AV.ptr q.1 0) i 1 = some [.ptr R 0] := by
        unfold seg
        rw [if_pos (by simp; omega)]
        congr 1
        exact take_one (by rw [List.getElem?_map, hq]; rfl)
      rw [h2] at hh
      have := loadN_get hh (i := 0) (by omega)
      simpa using this
    have hv' := hv
    subst ev
    simp (disch := omega) [hlt', lp, load_bk g7]
    obtain ⟨t1, t2, t3, t4, t5, t6, t7, t8⟩ := rt
    refine K_irunning_task t1 t2 t4.iv.src (by omega) t8 (fun s hs => ⟨by rw [cpS_mem] at f4; exact List.all_eq_true.1 f4 s hs, by have := (f3 s hs).2; omega⟩) (by omega) fun c' H1 tc x1 => ?_
    have n1 := x1.1
    rw [Sts.of_list] at tc
    obtain ⟨cv, cr, rfl, j1, j2⟩ := id tc
    have x2 := x1.trans (Ext.push H1 [cv, cr])
    obtain ⟨g', G', B', a1, a2, a3, a4, a5, a6⟩ := LF.snoc2 (E := TC) (x := t) (fun h => h.mono) htt hg he (by omega) hlo x2 (c := [cv, cr]) rfl (tc.ext (Ext.push H1 _)) (by omega)
    have hgm : ∀ b, b ∈ grB g B → b = B ∧ lo ≤ B ∧ B < G.n := fun b hb => hg.mem hb
    have g7' : G'.bk P7 = some ⟨[g, vb, .I tn, .I jn, vo], true⟩ := (a4.2 P7 (by simp; omega) (fun hm => by have := hgm _ hm; omega)).trans ((x2.2 P7 (by omega)).trans g7)
    have hfl : cv.flat = true ∧ cr.flat = true := ⟨SlC.flat j1, j2.flat⟩
    have st := store_cell (v := g') g7' (o := 0) (by simp)
    simp only [List.set_cons_zero] at st
    have hB' : B' = B ∧ B ∈ grB g B ∨ B' = H1.n + 1 := by
      rcases a5 with q | q
      · exact .inl q
      · exact .inr (by rw [q]; simp)
    have hB7 : B' ≠ P7 := by
      rcases hB' with q | q
      · have := hgm _ q.2; omega
      · omega
    have hgr' : ∀ b ∈ grB g' B', b ∈ grB g B ∨ b = H1.n + 1 := fun b hb => by
      have := grB_sub hb
      rcases hB' with q | q
      · exact .inl (by rw [this, q.1]; exact q.2)
      · exact .inr (by rw [this, q])
    have n4 := a4.1
    simp only [push_n] at n4
    have gg : ∀ b, b < G.n → b ∉ grB g B → b ≠ P7 → (G'.put P7 (some ⟨[g', vb, .I tn, .I jn, vo], true⟩)).bk b = G.bk b := fun b hb h1 h2 => by
      rw [put_bk, if_neg h2, a4.2 b (by simp; omega) h1, x2.2 b hb]
    have glo : ∀ b, b < lo → b ∉ grB g B := fun b hb hm => by have := hgm b hm; omega
    have wall : Only (P7 :: grB g B) G (G'.put P7 (some ⟨[g', vb, .I tn, .I jn, vo], true⟩)) := ⟨by simp; omega, fun b hb hm => by
      simp at hm; exact gg b hb hm.2 hm.1⟩
    simp (disch := omega) [AM.elems, x1, loadN_push, a1, flat_cells a6, flat_tup a6, st]
    have := ih (i + 1) (by omega) (G := G'.put P7 (some ⟨[g', vb, .I tn, .I jn, vo], true⟩)) (g := g') (cs := cs ++ [cv, cr]) (B := B') (by simp; omega) put_same
      (hv'.mono (by simp; omega) (fun b hb hn => gg b hn (glo b (hokv b hb).1) (hokv b hb).2) (fun _ h _ => h))
      (a2.only (bs := [P7]) (Only.refl.put (by simp)) (fun b hb => .inr (by simp at hb; subst hb; exact Ne.symm hB7)))
      (a3.imp fun c a h => h.mono (by simp) (fun b hb _ => by rw [put_bk, if_neg (by omega)]) (fun _ h _ => h))
      (fun j y q hy hq' => by
        obtain ⟨r1, ⟨r2, r3⟩, ⟨r4, r5⟩⟩ := ht j y q hy hq'
        refine ⟨?_, ⟨r2, r3⟩, ⟨r4, r5⟩⟩
        have s1 : RunT base (grB g B ++ (grB g' B' ++ M)) G q.1 q.2.1 q.2.2.1 q.2.2.2 y := r1.more (fun b hb => by
          simp only [List.mem_append] at hb ⊢
          rcases hb with z | z | z
          · exact .inl (.inl z)
          · rcases hgr' b z with u | u
            · exact .inl (.inl u)
            · exact .inr (by omega)
          · exact .inl (.inr z))
        have s2 := s1.only wall (by simp; exact ⟨r4, glo _ r2⟩) (by simp; exact ⟨r5, glo _ r3⟩) (fun b hb => .inl (by
          simp at hb
          rcases hb with z | z
          · subst z; simp [h7M]
          · simp [z]))
        exact s2.more (fun b hb => .inl (List.mem_append_right _ hb)))
      (fun e G2 g2 cs2 B2 z1 z2 z3 z4 z5 z6 z7 => hQ e G2 g2 cs2 B2 z1 z2 z3 (fun b hb h2 => (z4 b hb h2).trans (gg b (by omega) (glo b hb) h2)) (by simp at z5; omega) z6 z7)
    simpa using this
/-- Who is told of a run's events. -/
def trV (tr : Option Nat) : AV := match tr with | none => .nilf | some PU => .fn f_iWorldTrace_1 [] [.ptr PU 0]
def trBk (tr : Option Nat) : List Nat := match tr with | none => [] | some PU => [PU]
def trIn (tr : Option Nat) (H : AH) : Prop := match tr with | none => True | some PU => PU < H.n ∧ H.bk PU = some ⟨[.nils], true⟩
def trOut (tr : Option Nat) (base : Nat) (H : AH) (evs : List Evt) : Prop := match tr with | none => True | some PU => ∃ ve OE, H.bk PU = some ⟨[ve], true⟩ ∧ GrS base H ve evs.length 4 (evCs evs) OE
theorem K_irunWorld {ok : Nat → Prop} {H : AH} {K : AV → AH → Prop} {wf : Fk K} {c : List AV} {w : Wd} {n : Nat} (tr : Option Nat) (h : WC ok H c w) (hok : ∀ b, ok b → b ∉ trBk tr) (hv : vaWd w = true) (hbo : boW w n) (hn : n ≤ 100000) (hol : w.out.length + n ≤ 800000) (htr : trIn tr H)
    (k : ∀ c' H', WC (fun b => H.n ≤ b) H' c' (runW n w) → Only (trBk tr) H H' → trOut tr H.n H' (trW n w) → K (.agg c') H') : CallF Cd f_irunWorld [.agg c, .I n, trV tr] H K wf := by
  have hw := hbo.sm hv
  obtain ⟨vt, vb, vo, rfl, h1, h2, h3⟩ := h
  rw [CallF_eq e_irunWorld rfl]
  obtain ⟨g1, g2, g3, g4⟩ := vaWd_iff.1 hv
  have hb3 := vaBs_facts g3
  have fl : (trV tr).flat = true := by cases tr <;> rfl
  have x0 := ((Ext.push H [vt, vb, .I w.turn, .I w.idle, vo]).trans (Ext.push _ [trV tr])).trans (Ext.push _ [.nils, .nils, .I 0, .I 0, .nils])
  have q3 : (((H.push [vt, vb, .I w.turn, .I w.idle, vo]).push [trV tr]).push [.nils, .nils, .I 0, .I 0, .nils]).bk H.n = some ⟨[vt, vb, .I w.turn, .I w.idle, vo], true⟩ := push_old (by simp <;> omega) (push_old (by simp) push_new)
  have q5 : (((H.push [vt, vb, .I w.turn, .I w.idle, vo]).push [trV tr]).push [.nils, .nils, .I 0, .I 0, .nils]).bk (H.n + 1) = some ⟨[trV tr], true⟩ := push_old (by simp) push_new
  simp [flat_cells fl, flat_tup fl, load_bk q3]
  refine R_iboxesCopy (h2.ext x0) (by omega) (fun x hx => by have := hb3.2 x hx; omega) fun vb' B rs H1 rb x1 => ?_
  have n1 := x1.1
  simp only [push_n] at n1
  have q31 := (x1.2 H.n (by simp; omega)).trans q3
  have y1 := x0.trans x1
  simp [flat_cells fl, x1, load_bk q31]
  refine K_cloneG (h3.ext y1).src (by omega) fun vo' H2 O og x2 => ?_
  have n2 := x2.1
  have of := og.flat
  have bf := rb.2.1.flat
  have x3 := (Ext.push H2 [.nils, vb', .I 0, .I 0, vo']).trans (Ext.push _ [.nils])
  have y3 := (y1.trans x2).trans x3
  have q33 := (x3.2 H.n (by omega)).trans ((x2.2 _ (by omega)).trans q31)
  have q7 : ((H2.push [.nils, vb', .I 0, .I 0, vo']).push [.nils]).bk H2.n = some ⟨[.nils, vb', .I 0, .I 0, vo'], true⟩ := push_old (by simp) push_new
  simp [flat_cells fl, x2, flat_cells of, flat_tup of, flat_cells bf, flat_tup bf, store_push5e, load_bk q33, h1.alen]
  -- the blocks that what waits must not lie in
  have hfp : ∀ b ∈ fpB B rs, H.n + 3 ≤ b ∧ b < H1.n := fun b hb => by have := rb.mem' hb; simp at this; omega
  have hO : ∀ b ∈ grB vo' O, H1.n ≤ b ∧ b < H2.n := fun b hb => by have := og.mem hb; omega
  have hPU : ∀ b ∈ trBk tr, b < H.n := fun b hb => by
    cases tr with
    | none => simp [trBk] at hb
    | some PU => simp [trBk] at hb; subst hb; exact htr.1
  refine ?_
  have := K_irunWorld_l0 hw (vt := vt) (b1 := vb) (b2 := .I w.turn) (b3 := .I w.idle) (b4 := vo) (n5 := .I n) (P3 := H.n) (P5 := H.n + 1) (P6 := H.n + 2) (P7 := H2.n) (P8 := H2.n + 1) (base := H.n) (lo := H2.n + 2) (F := H2.n :: (grB vo' O ++ (fpB B rs ++ trBk tr))) (okw := fun b => ok b ∧ b < H.n)
    (fun b hb => ⟨by omega, by omega, fun hm => by
      simp only [List.mem_cons, List.mem_append] at hm
      rcases hm with q | q | q | q
      · omega
      · have := hO b q; omega
      · have := hfp b q; omega
      · exact hok b hb.1 q⟩)
    (fun b hb => by
      simp only [List.mem_cons, List.mem_append] at hb
      rcases hb with q | q | q | q
      · omega
      · have := hO b q; omega
      · have := hfp b q; omega
      · have := hPU b q; omega) (by omega) (by omega) (by omega) w.tasks.length 0 (by omega)
    (G := (H2.push [.nils, vb', .I 0, .I 0, vo']).push [.nils]) (g := .nils) (B := H2.n + 1) (rvs := []) (by simp) q33 (h1.mono (by simp; omega) (fun b _ hb => y3.2 b hb) (fun b hb hn => ⟨hb, hn⟩)) push_new GrS.nils (by simp [grB]) ⟨by simp, by simp, by simp [rvB], by simp⟩ (Q := ?_) ?_
  · simpa using this
  · intro e G g B8 rvs gg g8 hgr ts hk hGn e1 e3 e5 e6 e7 e8
    simp only [push_n] at hGn
    have keep : ∀ b, b < H2.n + 1 → G.bk b = ((H2.push [.nils, vb', .I 0, .I 0, vo']).push [.nils]).bk b := fun b hb => hk b (by omega) (by omega)
    have q3G := (keep H.n (by omega)).trans q33
    have q7G := (keep H2.n (by omega)).trans q7
    have q5G : G.bk (H.n + 1) = some ⟨[trV tr], true⟩ := (keep _ (by omega)).trans ((x3.2 _ (by omega)).trans ((x2.2 _ (by omega)).trans ((x1.2 _ (by simp)).trans q5)))
    have q6G : G.bk (H.n + 2) = some ⟨[.nils, .nils, .I 0, .I 0, .nils], true⟩ := (keep _ (by omega)).trans ((x3.2 _ (by omega)).trans ((x2.2 _ (by omega)).trans ((x1.2 _ (by simp)).trans push_new)))
    have hga : alen g = some w.tasks.length := gg.alen
    simp [e1, e3, e5, e6, e7, e8, load_bk g8, hga, load_bk q3G]
    have hgB : ∀ b ∈ grB g B8, H2.n + 2 ≤ b ∧ b < G.n := fun b hb => by have := gg.mem hb; omega
    have trS : ∃ ve OE, ObT H.n (H.n + 1) tr G [] ve OE ∧ trB tr ve OE = trBk tr := by
      cases tr with
      | none => exact ⟨.nils, 0, q5G, rfl⟩
      | some PU =>
        obtain ⟨z1, z2⟩ := htr
        have zk : G.bk PU = some ⟨[.nils], true⟩ := (keep PU (by omega)).trans ((y3.2 PU z1).trans z2)
        exact ⟨.nils, 0, ⟨q5G, by omega, zk, GrS.nils⟩, rfl⟩
    obtain ⟨ve, OE, ot, otb⟩ := trS
    have obe : obB H2.n tr vo' O ve OE = H2.n :: (grB vo' O ++ trBk tr) := by unfold obB; rw [otb]
    have rbG : RB H.n G vb' w.boxes B rs := ((rb.up (by simp; omega)).onlyA (cs := []) (H' := H2) x2.only (by simp)).onlyA (cs := []) (H' := G) ⟨by omega, fun b hb _ => (keep b (by omega)).trans (x3.2 b hb)⟩ (by simp)
    have ogG : GrS H.n G vo' w.out.length 1 (Ints w.out) O := (og.up (by omega)).onlyB (bs := []) ⟨by omega, fun b hb _ => (keep b (by omega)).trans (x3.2 b hb)⟩ (by simp)
    have nd : (obB H2.n tr vo' O ve OE).Nodup := by
      rw [obe]
      simp only [List.nodup_cons, List.mem_append, not_or, List.nodup_append]
      refine ⟨⟨fun hm => by have := hO _ hm; omega, fun hm => by have := hPU _ hm; omega⟩, by cases vo' <;> simp [grB], by cases tr <;> simp [trBk], fun a ha b hb e => ?_⟩
      subst e
      have := hO _ ha; have := hPU _ hb; omega
    have S0 : RunW (H.n + 3) (trBk tr) G H.n (H2.n + 1) H2.n (H.n + 1) tr w.tasks.length g n (w.tasks, w.boxes, w.out, []) G := by
      refine ⟨H2.n :: (grB vo' O ++ (fpB B rs ++ trBk tr)) ++ rvB rvs, rvs, rs, B, vb', vo', O, ve, OE, ⟨g8, by omega, fun hm => ?_, ?_, ts.1, rfl⟩, ⟨⟨q7G, by omega, by omega, ogG, ot⟩, nd, fun b hb => ?_, fun hm => ?_⟩, ⟨rbG, fun b hb => by simp [hb], fun b hb hm => ?_⟩,
        fun i t q ht hq => ?_, ts.2.2.2, ⟨fun b hb => ?_, by omega, ⟨g1.2.1, g4, g3⟩, by simp; omega, by simp; omega⟩, ⟨fun b hb => ?_, by omega, fun _ _ _ => rfl⟩⟩
      · simp only [List.cons_append, List.mem_cons, List.mem_append] at hm
        rcases hm with q | (q | q | q) | q
        · omega
        · have := hO _ q; omega
        · have := hfp _ q; omega
        · have := hPU _ q; omega
        · have := (ts.2.2.1 _ q).1; omega
      · have hB8 : B8 ∈ grB g B8 := by
          rcases gg.2.2 with q | ⟨_, _, ⟨q, _⟩ | ⟨_, _, q, _⟩⟩
          · omega
          · rw [q]; simp [grB]
          · rw [q]; simp [grB]
        refine gg.ivB (fun hb1 hb2 hm => ?_)
        simp only [List.cons_append, List.mem_cons, List.mem_append] at hm
        rcases hm with q | (q | q | q) | q
        · omega
        · have := hO _ q; omega
        · have := hfp _ q; omega
        · have := hPU _ q; omega
        · exact hgr _ hB8 q
      · rw [obe] at hb; simp at hb ⊢
        rcases hb with q | q | q <;> simp [q]
      · simp only [List.cons_append, List.mem_cons, List.mem_append] at hm
        rcases hm with q | (q | q | q) | q
        · omega
        · have := hO _ q; omega
        · have := hfp _ q; omega
        · have := hPU _ q; omega
        · have := (ts.2.2.1 _ q).1; omega
      · rw [obe] at hb
        simp only [List.mem_cons, List.mem_append] at hb
        have := hfp b hm
        rcases hb with q | q | q
        · omega
        · have := hO _ q; omega
        · have := hPU _ q; omega
      · have hm := rvB_mem (List.mem_of_getElem? hq)
        have l1 := ts.2.2.1 _ hm.1
        have l2 := ts.2.2.1 _ hm.2
        refine ⟨(ts.2.1 i t q ht hq).more (fun b hb => .inl ?_), ⟨by simp [hm.1], by simp [hm.2]⟩, ⟨fun hc => by have := hfp _ hc; omega, fun hc => by have := hfp _ hc; omega⟩, ⟨fun hc => ?_, fun hc => ?_⟩⟩
        · simp only [List.cons_append, List.mem_cons, List.mem_append] at hb ⊢
          rcases hb with q | (q | q | q) | q
          · exact .inr (.inl (.inr (.inl q)))
          · exact .inr (.inl (.inr (.inr (.inl q))))
          · exact .inr (.inl (.inr (.inr (.inr (.inl q)))))
          · exact .inr (.inl (.inr (.inr (.inr (.inr q)))))
          · exact .inr (.inr q)
        · rw [obe] at hc
          simp only [List.mem_cons, List.mem_append] at hc
          rcases hc with q | q | q
          · omega
          · have := hO _ q; omega
          · have := hPU _ q; omega
        · rw [obe] at hc
          simp only [List.mem_cons, List.mem_append] at hc
          rcases hc with q | q | q
          · omega
          · have := hO _ q; omega
          · have := hPU _ q; omega
      · simp only [List.cons_append, List.mem_cons, List.mem_append] at hb
        rcases hb with q | (q | q | q) | q
        · omega
        · have := hO _ q; omega
        · have := hfp _ q; omega
        · have := hPU _ q; omega
        · exact (ts.2.2.1 _ q).2
      · simp only [List.cons_append, List.mem_cons, List.mem_append] at hb
        rcases hb with q | (q | q | q) | q
        · exact .inl (by omega)
        · have := hO _ q; exact .inl (by omega)
        · have := hfp _ q; exact .inl (by omega)
        · exact .inr q
        · have := (ts.2.2.1 _ q).1; exact .inl (by omega)
    refine K_itakeTurns (σ := WSt) (many := w.tasks.length) ⟨by omega, by omega⟩ (fun m s H' => RunW (H.n + 3) (trBk tr) G H.n (H2.n + 1) H2.n (H.n + 1) tr w.tasks.length g m s H') nxW cdW
      (fun m s t H' K' w' hS ht kk => runW_step hS ht kk) (fun m s t H' hS ht => runW_code hS ht) (n := n) (by omega) S0 ⟨g1.2.2.1, g1.2.2.2.1⟩ ⟨g1.2.2.2.2.1, g1.2.2.2.2.2⟩ fun m' H3 hS => ?_
    rw [turns_run n hv] at hS ⊢
    obtain ⟨kv, kl, kb, kr, ⟨kp, ko, kpl⟩, ku⟩ := runW_keeps n hv
    have ku4 := ku 4000 (fun t ht => (hbo.1 t ht).2)
    generalize hW : runW n w = W at *
    obtain ⟨M, rvs', rs', B', vb2, vo2, O2, ve2, OE2, ⟨p8, p8n, p8M, psl, prl, _⟩, ⟨⟨o7, o7n, o5n, oo, oT⟩, ond, oM, o5M⟩, ⟨prb, pfM, pof⟩, pts, pdis, ⟨pM, pbn, ⟨_, pva, pvb⟩, _, _⟩, ⟨pX, pln, pf⟩⟩ := hS
    simp only [List.nil_append] at o7 oo oT prb pts pva pvb
    have h7o : H2.n ∈ obB H2.n tr vo2 O2 ve2 OE2 := by simp [obB]
    have h7M := oM _ h7o
    have st1 := store_cell (v := AV.I W.turn) o7 (o := 2) (by simp)
    simp only [List.set_cons_succ, List.set_cons_zero] at st1
    have st2 := store_cell (H := H3.put H2.n (some ⟨[.nils, vb2, .I W.turn, .I 0, vo2], true⟩)) (v := AV.I W.idle) put_same (o := 3) (by simp)
    simp only [List.set_cons_succ, List.set_cons_zero] at st2
    have h78 : ¬ H2.n + 1 = H2.n := by omega
    have p8' : ((H3.put H2.n (some ⟨[.nils, vb2, .I W.turn, .I 0, vo2], true⟩)).put H2.n (some ⟨[.nils, vb2, .I W.turn, .I W.idle, vo2], true⟩)).bk (H2.n + 1) = some ⟨[g], true⟩ := by simp only [put_bk, if_neg h78]; exact p8
    have w7 : Only [H2.n] H3 ((H3.put H2.n (some ⟨[.nils, vb2, .I W.turn, .I 0, vo2], true⟩)).put H2.n (some ⟨[.nils, vb2, .I W.turn, .I W.idle, vo2], true⟩)) := (Only.refl.put (by simp)).put (by simp)
    simp [st1, st2, load_bk p8', hga]
    have htl : W.tasks.length = w.tasks.length := kl
    have := K_irunWorld_l1 (ts := W.tasks) (fun t ht => ⟨vaT_boxes (b := 3) (by have := (vaBs_facts pvb).1; omega) (pva t ht), Nat.le_trans (len_uL _) (ku4 t ht)⟩) (by omega) (vts := g) (vb := vb2) (vo := vo2) (P6 := H.n + 2) (P7 := H2.n) (base := H.n) (lo := H3.n) (tn := W.turn) (jn := W.idle) (M := M) (rvs := rvs')
      (okv := fun b => b ∉ M ∧ b < H3.n) (fun b hb => ⟨hb.2, fun e => hb.1 (by rw [e]; exact h7M)⟩) o7n h7M (by omega) W.tasks.length 0 (by omega) (G := (H3.put H2.n (some ⟨[.nils, vb2, .I W.turn, .I 0, vo2], true⟩)).put H2.n (some ⟨[.nils, vb2, .I W.turn, .I W.idle, vo2], true⟩)) (g := .nils) (cs := []) (B := H3.n) (by simp) put_same
      (by rw [htl]; exact psl.mono (by simp) (fun b hb hn => w7.2 b hn (by simp; exact fun e => hb (by rw [e]; exact h7M))) (fun b hb hn => ⟨hb, hn⟩)) GrS.nils rfl
      (fun j t q ht hq => by
        obtain ⟨r1, ⟨r2, r3⟩, _, ⟨r4, r5⟩⟩ := pts j t q ht hq
        have e1 : q.1 ≠ H2.n := fun e => r4 (by rw [e]; exact h7o)
        have e2 : q.2.2.1 ≠ H2.n := fun e => r5 (by rw [e]; exact h7o)
        exact ⟨by simpa [grB] using r1.only w7 (by simp; exact e1) (by simp; exact e2) (fun b hb => .inl (by simp at hb; rw [hb]; exact h7M)), ⟨pM _ r2, pM _ r3⟩, ⟨e1, e2⟩⟩) (Q := ?_) ?_
    · rw [htl] at this
      simpa using this
    · intro e G' g' cs' B2 z1 z2 z3 z4 z5 z6 z7
      simp only [put_n] at z5
      have keep2 : ∀ b, b < H3.n → b ≠ H2.n → G'.bk b = H3.bk b := fun b hb hne => (z4 b hb hne).trans (w7.2 b hb (by simpa using hne))
      have hX6 : H.n + 2 ∉ trBk tr := fun hm => by have := hPU _ hm; omega
      have hM6 : H.n + 2 ∉ M := fun hm => by rcases pX _ hm with q | q; omega; exact hX6 q
      have q6F : G'.bk (H.n + 2) = some ⟨[.nils, .nils, .I 0, .I 0, .nils], true⟩ := (keep2 _ (by omega) (by omega)).trans ((pf _ (by omega) hX6).trans q6G)
      have st6 := store_five q6F (l := [g', vb2, .I W.turn, .I W.idle, vo2]) rfl rfl
      simp [z6, z7, loadN_bk z3, st6, loadN_bk put_same]
      have wF : Only [H2.n, H.n + 2] H3 (G'.put (H.n + 2) (some ⟨[g', vb2, .I W.turn, .I W.idle, vo2], true⟩)) := ⟨by simp; omega, fun b hb hm => by
        simp at hm
        rw [put_bk, if_neg hm.2, keep2 b hb hm.1]⟩
      have h7f : H2.n ∉ fpB B' rs' := pof _ h7o
      have h6f : H.n + 2 ∉ fpB B' rs' := fun hm => hM6 (pfM _ hm)
      have hnd2 := ond
      simp only [obB, List.nodup_cons, List.mem_append, not_or, List.nodup_append] at hnd2
      have h6o : H.n + 2 ∉ obB H2.n tr vo2 O2 ve2 OE2 := fun hm => hM6 (oM _ hm)
      simp only [obB, List.mem_cons, List.mem_append, not_or] at h6o
      refine k _ _ ⟨g', vb2, vo2, rfl, ⟨cs', z1.slc.mono (by simp) (fun b hb _ => by rw [put_bk, if_neg (by omega)]) (fun b hb _ => by omega), z2.imp fun c a h => h.mono (by simp) (fun b hb _ => by rw [put_bk, if_neg (by omega)]) (fun b hb _ => by omega)⟩,
        (prb.onlyA wF (fun b hb => .inr (fun hm => by simp at hb; rcases hb with q | q; rw [q] at hm; exact h7f hm; rw [q] at hm; exact h6f hm))).bv,
        (oo.onlyB wF (fun b hb hm => by simp at hb; rcases hb with q | q; rw [q] at hm; exact hnd2.1.1 hm; rw [q] at hm; exact h6o.2.1 hm)).iv⟩ ⟨by simp; omega, fun b hb hm => ?_⟩ ?_
      · rw [wF.2 b (by omega) (by simp; omega), pf b (by omega) hm, keep b (by omega)]
        exact y3.2 b hb
      · cases tr with
        | none => trivial
        | some PU =>
          obtain ⟨t1, t2, t3, t4⟩ := oT
          have hPn : PU < H.n := htr.1
          have hp7 : PU ≠ H2.n := by omega
          refine ⟨ve2, OE2, wF.bk t2 (by simp; omega) t3, t4.onlyB wF (fun b hb hm => ?_)⟩
          simp at hb
          rcases hb with q | q
          · rw [q] at hm; exact hnd2.1.2 (by simp [trB, hm])
          · rw [q] at hm; exact h6o.2.2 (by simp [trB, hm])
end Go.Proofs.YtfgedlbkgcejhaaGreat.AM
namespace Go.Proofs.YtfgedlbkgcejhaaGreat.AM
set_option linter.unusedSimpArgs false
set_option linter.unusedVariables false
set_option maxRecDepth 100000
set_option maxHeartbeats 2000000
open Go
attribute [-simp] AM.elems
section
variable {ok : Nat → Prop} {H : AH} {K : AV → AH → Prop} {wf : Fk K} {c : List AV} {w : Wd} {n : Int}
theorem K_iWorldRun (h : WC ok H c w) (hct : ∀ t ∈ w.tasks, ctS t.rest ≤ 100000) (hbl : w.boxes.length ≤ 100) (hbo : n ≤ 100000 → boW w n.toNat) (hol : w.out.length ≤ 700000)
    (k : ∀ c' H', WC (fun b => H.n ≤ b) H' c' (runF n w).1 → Ext H H' → K (.tup [.agg c', .b (runF n w).2]) H') : CallF Cd f_iWorldRun [.agg c, .I n] H K wf := by
  have h' := h
  obtain ⟨vt, vb, vo, rfl, h1, h2, h3⟩ := h'
  rw [CallF_eq e_iWorldRun rfl]
  have x0 := (Ext.push H [vt, vb, .I w.turn, .I w.idle, vo]).trans (Ext.push _ zC)
  have q0 : ((H.push [vt, vb, .I w.turn, .I w.idle, vo]).push zC).bk H.n = some ⟨[vt, vb, .I w.turn, .I w.idle, vo], true⟩ := push_old (by simp) push_new
  simp [loadN_bk q0]
  refine K_iWorldValid (h.ext x0) hct hbl fun H1 x1 => ?_
  have n1 := x1.1
  simp only [push_n] at n1
  have y1 := x0.trans x1
  have q1 := (x1.2 H.n (by simp <;> omega)).trans q0
  have qR1 : H1.bk (H.n + 1) = some ⟨zC, true⟩ := (x1.2 _ (by simp)).trans push_new
  have stb := store_five qR1 (l := zC) rfl rfl
  have bad : ¬ (vaWd w = true ∧ 0 ≤ n ∧ n ≤ 100000) → K (.tup [.agg zC, .b false]) (H1.put (H.n + 1) (some ⟨zC, true⟩)) := fun hb => by
    have e : runF n w = (zeroW, false) := by unfold runF; rw [if_neg hb]
    rw [e] at k
    exact k zC _ zero_WC (y1.put (by omega))
  cases hv : vaWd w with
  | false =>
    simp [stb, loadN_bk put_same]
    exact bad (by rw [hv]; simp)
  | true =>
  by_cases hn0 : n < 0
  · simp [hn0, stb, loadN_bk put_same]
    exact bad (fun hh => by omega)
  by_cases hn1 : 100000 < n
  · simp [hn0, hn1, stb, loadN_bk put_same]
    exact bad (fun hh => by omega)
  have hF : runF n w = (runW n.toNat w, true) := by unfold runF; rw [if_pos ⟨hv, by omega, by omega⟩]
  rw [hF] at k
  have hbo := hbo (by omega)
  have en : n = (n.toNat : Int) := by omega
  simp [hn0, hn1, loadN_bk q1]
  have := K_irunWorld (K := ?_) (wf := ?_) (n := n.toNat) none (h.ext y1) (fun b _ => by simp [trBk]) hv hbo (by omega) (by omega) trivial ?_
  · rw [← en] at this
    exact this
  · intro c' H2 wc x2 _
    have x2 : Ext H1 H2 := ⟨x2.1, fun b hb => x2.2 b hb (by simp [trBk])⟩
    obtain ⟨vt', vb', vo', rfl, k1, k2, k3⟩ := id wc
    have qR := (x2.2 _ (by omega)).trans qR1
    have st := store_five qR (l := [vt', vb', .I (runW n.toNat w).turn, .I (runW n.toNat w).idle, vo']) rfl rfl
    simp [st, loadN_bk put_same]
    exact k _ _ (wc.mono (by simp) (fun b hb _ => by rw [put_bk, if_neg (by omega)]) (fun b hb _ => by omega)) ((y1.trans x2).put (by omega))
theorem K_iWorldStep (h : WC ok H c w) (hct : ∀ t ∈ w.tasks, ctS t.rest ≤ 100000) (hbl : w.boxes.length ≤ 100) (hbo : boW w 1) (hol : w.out.length ≤ 700000)
    (k : ∀ c' H', WC (fun b => H.n ≤ b) H' c' (runF 1 w).1 → Ext H H' → K (.tup [.agg c', .b (runF 1 w).2]) H') : CallF Cd f_iWorldStep [.agg c] H K wf := by
  have h' := h
  obtain ⟨vt, vb, vo, rfl, h1, h2, h3⟩ := h'
  rw [CallF_eq e_iWorldStep rfl]
  have x0 := (Ext.push H [vt, vb, .I w.turn, .I w.idle, vo]).trans (Ext.push _ zC)
  have q0 : ((H.push [vt, vb, .I w.turn, .I w.idle, vo]).push zC).bk H.n = some ⟨[vt, vb, .I w.turn, .I w.idle, vo], true⟩ := push_old (by simp) push_new
  simp [loadN_bk q0]
  refine K_iWorldRun (h.ext x0) hct hbl (fun _ => hbo) hol fun c' H1 wc x1 => ?_
  have n1 := x1.1
  simp only [push_n] at n1
  have qR1 : H1.bk (H.n + 1) = some ⟨zC, true⟩ := (x1.2 _ (by simp)).trans push_new
  obtain ⟨vt', vb', vo', rfl, k1, k2, k3⟩ := id wc
  have st := store_five qR1 (l := [vt', vb', .I (runF 1 w).1.turn, .I (runF 1 w).1.idle, vo']) rfl rfl
  simp [st, loadN_bk put_same]
  exact k _ _ (wc.mono (by simp) (fun b hb _ => by simp at hb; rw [put_bk, if_neg (by omega)]) (fun b hb _ => by simp at hb; omega)) ((x0.trans x1).put (by omega))
end
section
variable {o1 o2 : Nat → Prop}
theorem T_wsameWorld_l {w : Wd} {vt1 vt2 a1 a2 a3 a4 b1 b2 b3 b4 : AV} {P1 P2 : Nat} {Q : Out → Env → AH → Prop} (m i : Nat) (hm : i + m = w.tasks.length) {H : AH} (h1 : TV o1 H vt1 w.tasks) (h2 : TV o2 H vt2 w.tasks) (p1 : P1 < H.n) (p2 : P2 < H.n) (g1 : H.bk P1 = some ⟨[vt1, a1, a2, a3, a4], true⟩) (g2 : H.bk P2 = some ⟨[vt2, b1, b2, b3, b4], true⟩)
    (hQ : ∀ e G, Ext H G → get e 2 = some (.ptr P1 0) → get e 3 = some (.ptr P2 0) → Q (.brk 0) e G) : W Cd (.loop c_wsameWorld_l0) [(2, .ptr P1 0), (3, .ptr P2 0), (5, .I i)] H Q := by
  have hbig := h1.big
  induction m generalizing i H with
  | zero =>
    rw [W_loop_as c_wsameWorld_l0.eq_1]
    have : i = w.tasks.length := by omega
    subst this
    simp [load_bk g1, h1.alen]
    exact hQ _ H (Ext.refl _) rfl rfl
  | succ m ih =>
    rw [W_loop_as c_wsameWorld_l0.eq_1]
    have hlt : i < w.tasks.length := by omega
    have hlt' : (i : Int) < w.tasks.length := by omega
    obtain ⟨t, ht⟩ : ∃ t, w.tasks[i]? = some t := ⟨_, List.getElem?_eq_getElem hlt⟩
    obtain ⟨b1', p1', c1, u1, r1, e1, ob1, hb1, l1, i1, s1⟩ := h1.at ht
    obtain ⟨b2', p2', c2, u2, r2, e2, ob2, hb2, l2, i2, s2⟩ := h2.at ht
    have h1' := h1
    have h2' := h2
    subst e1 e2
    simp (disch := omega) [load_bk g1, load_bk g2, hlt', l1, l2]
    refine T_wsameTask (t := t) ⟨u1, r1, rfl, i1, s1⟩ ⟨u2, r2, rfl, i2, s2⟩ fun H8 x8 => ?_
    simp (disch := omega) [x8]
    have := ih (i + 1) (by omega) (H := H8) (h1'.ext x8) (h2'.ext x8) (by have := x8.1; omega) (by have := x8.1; omega) ((x8.2 _ p1).trans g1) ((x8.2 _ p2).trans g2) (fun e G xg => hQ e G (x8.trans xg))
    simpa using this
theorem T_wsameWorld {H : AH} {K : AV → AH → Prop} {wf : Fk K} {c1 c2 : List AV} {w : Wd} (h1 : WC o1 H c1 w) (h2 : WC o2 H c2 w) (k : ∀ H', Ext H H' → K (.b true) H') : CallF Cd f_wsameWorld [.agg c1, .agg c2] H K wf := by
  obtain ⟨vt1, vb1, vo1, rfl, t1, b1, i1⟩ := h1
  obtain ⟨vt2, vb2, vo2, rfl, t2, b2, i2⟩ := h2
  rw [CallF_eq e_wsameWorld rfl]
  have x0 := (Ext.push H [vt1, vb1, .I w.turn, .I w.idle, vo1]).trans (Ext.push _ [vt2, vb2, .I w.turn, .I w.idle, vo2])
  have q1 : ((H.push [vt1, vb1, .I w.turn, .I w.idle, vo1]).push [vt2, vb2, .I w.turn, .I w.idle, vo2]).bk H.n = some ⟨[vt1, vb1, .I w.turn, .I w.idle, vo1], true⟩ := push_old (by simp) push_new
  have q2 : ((H.push [vt1, vb1, .I w.turn, .I w.idle, vo1]).push [vt2, vb2, .I w.turn, .I w.idle, vo2]).bk (H.n + 1) = some ⟨[vt2, vb2, .I w.turn, .I w.idle, vo2], true⟩ := push_new (H := H.push _)
  simp [load_bk q1, load_bk q2, t1.alen, t2.alen]
  have := T_wsameWorld_l (w := w) (Q := ?_) (a1 := vb1) (a2 := .I w.turn) (a3 := .I w.idle) (a4 := vo1) (b1 := vb2) (b2 := .I w.turn) (b3 := .I w.idle) (b4 := vo2) w.tasks.length 0 (by omega) (t1.ext x0) (t2.ext x0) (P1 := H.n) (P2 := H.n + 1) (by simp; omega) (by simp) q1 q2 ?_
  · simpa using this
  · intro e G xg e2 e3
    have z1 := (xg.2 H.n (by simp; omega)).trans q1
    have z2 := (xg.2 (H.n + 1) (by simp)).trans q2
    have y := x0.trans xg
    simp [e2, e3, load_bk z1, load_bk z2]
    refine T_wsameBoxes (b1.ext y) (b2.ext y) fun G2 x2 => ?_
    have z1' := (x2.2 H.n (by have := xg.1; simp at this; omega)).trans z1
    have z2' := (x2.2 (H.n + 1) (by have := xg.1; simp at this; omega)).trans z2
    simp [load_bk z1', load_bk z2']
    refine T_wsameInts (i1.ext (y.trans x2)).sees (i2.ext (y.trans x2)).sees ?_
    simp
    exact k G2 (y.trans x2)
end
end Go.Proofs.YtfgedlbkgcejhaaGreat.AM
namespace Go.Proofs.YtfgedlbkgcejhaaGreat.AM
set_option linter.unusedSimpArgs false
set_option linter.unusedVariables false
set_option maxRecDepth 100000
set_option maxHeartbeats 2000000
open Go
attribute [-simp] AM.elems
structure Pg where
  rooms : List Int
  tasks : List Sts
deriving DecidableEq, Inhabited
/-- A list of statements in one cell. -/
def L1 (ok : Nat → Prop) (H : AH) (c : List AV) (f : Sts) : Prop := ∃ v, c = [v] ∧ SV ok H v f
theorem L1.mono {ok ok' : Nat → Prop} {H H' c f} (h : L1 ok H c f) (hn : H.n ≤ H'.n) (hk : ∀ b, ok b → b < H.n → H'.bk b = H.bk b) (ho : ∀ b, ok b → b < H.n → ok' b) : L1 ok' H' c f := by
  obtain ⟨v, e, h⟩ := h; exact ⟨v, e, h.mono hn hk ho⟩
def LV (ok : Nat → Prop) (H : AH) (v : AV) (l : List Sts) : Prop := ∃ ca, SlC ok H v l.length 1 ca ∧ LF 1 (L1 ok H) l ca
theorem LV.mono {ok ok' : Nat → Prop} {H H' v l} (h : LV ok H v l) (hn : H.n ≤ H'.n) (hk : ∀ b, ok b → b < H.n → H'.bk b = H.bk b) (ho : ∀ b, ok b → b < H.n → ok' b) : LV ok' H' v l := by
  obtain ⟨ca, h1, h2⟩ := h
  exact ⟨ca, h1.mono hn hk ho, h2.imp fun c a h => h.mono hn hk ho⟩
theorem LV.ext {ok H H' c t} (h : LV ok H c t) (k : Ext H H') : LV ok H' c t := h.mono k.1 (fun b _ hb => k.2 b hb) (fun _ h _ => h)
theorem LV.alen {ok H v l} (h : LV ok H v l) : alen v = some l.length := h.choose_spec.1.alen
theorem LV.flat {ok H v l} (h : LV ok H v l) : v.flat = true := h.choose_spec.1.flat
theorem LV.big {ok H v l} (h : LV ok H v l) : l.length ≤ 8589934592 := h.choose_spec.1.1
theorem LV.at {ok H v l} (h : LV ok H v l) {i : Nat} {f : Sts} (hi : l[i]? = some f) : ∃ b o cap u, v = .sl b o l.length cap ∧ b < H.n ∧ H.load b (o + i) = some u ∧ SV ok H u f := by
  obtain ⟨ca, h1, h2⟩ := h
  have hl := (List.getElem?_eq_some_iff.1 hi).1
  obtain ⟨b, o, cap, e, ob, hb, hs⟩ := h1.at hl
  obtain ⟨c, hc, u, rfl, i1⟩ := h2.get hi
  have hh := hs i 1 (by omega)
  rw [Nat.mul_one] at hc
  rw [hc] at hh
  have := loadN_get hh (i := 0) (by omega)
  exact ⟨b, o, cap, u, e, hb, by simpa using this, i1⟩
def PgC (ok : Nat → Prop) (H : AH) (c : List AV) (p : Pg) : Prop := ∃ vr vt, c = [vr, vt] ∧ IV ok H vr p.rooms ∧ LV ok H vt p.tasks
theorem PgC.mono {ok ok' : Nat → Prop} {H H' c p} (h : PgC ok H c p) (hn : H.n ≤ H'.n) (hk : ∀ b, ok b → b < H.n → H'.bk b = H.bk b) (ho : ∀ b, ok b → b < H.n → ok' b) : PgC ok' H' c p := by
  obtain ⟨vr, vt, e, h1, h2⟩ := h
  exact ⟨vr, vt, e, h1.mono hn hk ho, h2.mono hn hk ho⟩
theorem PgC.ext {ok H H' c t} (h : PgC ok H c t) (k : Ext H H') : PgC ok H' c t := h.mono k.1 (fun b _ hb => k.2 b hb) (fun _ h _ => h)
def vaRm (l : List Int) : Bool := l.all (fun x => decide (1 ≤ x ∧ x ≤ 4)) && decide (l.length ≤ 3)
def vaF (many : Int) (f : Sts) : Bool := vaS 3 f && bxS many f
def vaPg (p : Pg) : Bool := vaRm p.rooms && decide (1 ≤ p.tasks.length ∧ p.tasks.length ≤ 3) && p.tasks.all (vaF p.rooms.length)
def newW (p : Pg) : Wd := ⟨p.tasks.map fun f => ⟨[0, 0, 0, 0], f⟩, p.rooms.map fun x => ⟨x, []⟩, 0, 0, []⟩
theorem newW_ok {p : Pg} (h : vaPg p = true) : vaWd (newW p) = true ∧ (∀ t ∈ (newW p).tasks, uL t.rest.list ≤ 40) := by
  unfold vaPg vaRm at h
  simp only [Bool.and_eq_true, decide_eq_true_eq, List.all_eq_true] at h
  obtain ⟨⟨⟨h1, h2⟩, h3⟩, h4⟩ := h
  have hw : ∀ f ∈ p.tasks, ∀ s ∈ f.list, vaW p.rooms.length s = true := fun f hf s hs => by
    have h5 := h4 f hf
    unfold vaF vaS at h5
    simp only [Bool.and_eq_true, decide_eq_true_eq] at h5
    refine vaW_iff.2 ⟨?_, ?_⟩
    · have := (ok_bx (many := p.rooms.length) (by omega) h5.1.1).2 h5.2
      rw [okS_mem, List.all_eq_true] at this
      exact this s hs
    · have := ctS_mem hs; unfold ctT; omega
  refine ⟨vaWd_iff.2 ⟨by simp [newW]; omega, rfl, ?_, fun t ht => ?_⟩, fun t ht => ?_⟩
  · unfold vaBs newW
    simp only [Bool.and_eq_true, decide_eq_true_eq, List.length_map, List.all_map, List.all_eq_true]
    refine ⟨fun x hx => ?_, h2⟩
    have := h1 x hx
    unfold vaB
    simp; omega
  · simp only [newW, List.mem_map] at ht
    obtain ⟨f, hf, rfl⟩ := ht
    refine vaT_iff.2 ⟨rfl, by simp [isW], fun s hs => ?_⟩
    simp only [newW, List.length_map]
    exact hw f hf s hs
  · simp only [newW, List.mem_map] at ht
    obtain ⟨f, hf, rfl⟩ := ht
    have h5 := h4 f hf
    unfold vaF vaS at h5
    simp only [Bool.and_eq_true, decide_eq_true_eq] at h5
    have hl := @len_ctS f
    have := uL_le (l := f.list) (m := 16) (fun s hs => (vaW_iff.1 (hw f hf s hs)).2)
    simp only; omega
section
variable {H : AH} {K : AV → AH → Prop} {w : Fk K}
theorem K_sl12Rooms_l {v : AV} {l : List Int} (h : SeesZ H v l) {Q : Out → Env → AH → Prop} (h1 : ∀ e, get e 0 = some v → Q (.brk 0) e H = K (.b (decide (l.length ≤ 3))) H) (h2 : ∀ e H, Q .ret e H = bindO (get e 2) fun v => K v H)
    (m i : Nat) (hm : i + m = l.length) (k : K (.b ((l.drop i).all (fun x => decide (1 ≤ x ∧ x ≤ 4)) && decide (l.length ≤ 3))) H) :
    W Cd (.loop c_sl12Rooms_l0) [(0, v), (3, .I i)] H Q := by
  have hbig := h.2.1
  induction m generalizing i with
  | zero =>
    rw [W_loop_as c_sl12Rooms_l0.eq_1]
    have : i = l.length := by omega
    subst this
    simp [h.1]
    rw [h1 _ rfl]
    rw [List.drop_eq_nil_of_le (Nat.le_refl _)] at k
    simpa using k
  | succ m ih =>
    rw [W_loop_as c_sl12Rooms_l0.eq_1]
    have hlt : i < l.length := by omega
    have hlt' : (i : Int) < l.length := by omega
    obtain ⟨b, o, s1, hb, l1⟩ := h.at hlt
    obtain ⟨x, hx⟩ : ∃ x, l[i]? = some x := ⟨_, List.getElem?_eq_getElem hlt⟩
    have ex : l[i] = x := by have := List.getElem?_eq_getElem hlt; rw [hx] at this; exact (Option.some.inj this).symm
    rw [ex] at l1
    rw [all_dropB hx] at k
    by_cases hok : 1 ≤ x ∧ x ≤ 4
    · rw [decide_eq_true hok, Bool.true_and] at k
      simp (disch := omega) [h.1, hlt', s1, l1, K_in_t hok]
      have := ih (i + 1) (by omega) k
      simpa using this
    · rw [decide_eq_false hok] at k
      simp (disch := omega) [h.1, hlt', s1, l1, K_in_f hok, h2]
      simpa using k
theorem K_sl12Rooms {v : AV} {l : List Int} (h : SeesZ H v l) (k : K (.b (vaRm l)) H) : CallF Cd f_sl12Rooms [v] H K w := by
  rw [CallF_eq e_sl12Rooms rfl]
  simp
  have := K_sl12Rooms_l (K := K) h (Q := ?_) ?_ ?_ l.length 0 (by omega) k
  · simpa using this
  · intro e he
    have : decide ((l.length : Int) ≤ 3) = decide (l.length ≤ 3) := dec_nat3
    simp [he, h.1, this]
  · intros; simp
end
theorem K_sProgramValid_l {p : Pg} {ok : Nat → Prop} {K : AV → AH → Prop} {vr vt : AV} {P : Nat} (hct : ∀ f ∈ p.tasks, ctS f ≤ 1000000) {Q : Out → Env → AH → Prop} (h1 : ∀ e G, Q (.brk 0) e G = K (.b true) G) (h2 : ∀ e H, Q .ret e H = bindO (get e 2) fun v => K v H) (hr : alen vr = some p.rooms.length) (hrl : p.rooms.length ≤ 100)
    (m i : Nat) (hm : i + m = p.tasks.length) {H : AH} (hP : P < H.n) (gP : H.bk P = some ⟨[vr, vt], true⟩) (h : LV ok H vt p.tasks)
    (k : ∀ H', Ext H H' → K (.b ((p.tasks.drop i).all (vaF p.rooms.length))) H') :
    W Cd (.loop c_sProgramValid_l0) [(1, .ptr P 0), (3, .I i)] H Q := by
  have hbig := h.big
  induction m generalizing i H with
  | zero =>
    rw [W_loop_as c_sProgramValid_l0.eq_1]
    have : i = p.tasks.length := by omega
    subst this
    simp [load_bk gP, h.alen, h1]
    have := k H (Ext.refl _)
    rwa [List.drop_eq_nil_of_le (Nat.le_refl _)] at this
  | succ m ih =>
    rw [W_loop_as c_sProgramValid_l0.eq_1]
    have hlt : i < p.tasks.length := by omega
    have hlt' : (i : Int) < p.tasks.length := by omega
    obtain ⟨f, hf⟩ : ∃ f, p.tasks[i]? = some f := ⟨_, List.getElem?_eq_getElem hlt⟩
    obtain ⟨b, o, cap, u, e1, hbn, l1, s1⟩ := h.at hf
    have hh := h
    subst e1
    rw [all_dropB hf] at k
    simp (disch := omega) [load_bk gP, hlt', l1]
    refine K_sStmtsValid s1 (hct f (List.mem_of_getElem? hf)) fun H2 x2 => ?_
    have g2 := (x2.2 _ hP).trans gP
    have l2 : H2.load b (o + i) = some u := by unfold AH.load at l1 ⊢; rw [x2.2 b hbn]; exact l1
    have evf : vaF p.rooms.length f = (vaS 3 f && bxS p.rooms.length f) := rfl
    rw [evf] at k
    cases hv : vaS 3 f with
    | false =>
      have := k H2 x2
      rw [hv] at this
      simp [x2, h2]
      simpa using this
    | true =>
      rw [hv, Bool.true_and] at k
      simp (disch := omega) [x2, load_bk g2, hlt', l2, hr]
      refine K_sl12Boxes f (s1.ext x2) fun H3 x3 => ?_
      have y3 := x2.trans x3
      cases hx : bxS p.rooms.length f with
      | false =>
        have := k H3 y3
        rw [hx] at this
        simp [x3, h2]
        simpa using this
      | true =>
        rw [hx, Bool.true_and] at k
        simp (disch := omega) [x3]
        have := ih (i + 1) (by omega) (H := H3) (by have := y3.1; omega) ((y3.2 _ hP).trans gP) (hh.ext y3) (fun H' x' => k H' (y3.trans x'))
        simpa using this
theorem K_sProgramValid {ok : Nat → Prop} {H : AH} {K : AV → AH → Prop} {wf : Fk K} {c : List AV} {p : Pg} (h : PgC ok H c p) (hct : ∀ f ∈ p.tasks, ctS f ≤ 1000000) (k : ∀ H', Ext H H' → K (.b (vaPg p)) H') : CallF Cd f_sProgramValid [.agg c] H K wf := by
  obtain ⟨vr, vt, rfl, h1, h2⟩ := h
  rw [CallF_eq e_sProgramValid rfl]
  have x0 := Ext.push H [vr, vt]
  have q0 : (H.push [vr, vt]).bk H.n = some ⟨[vr, vt], true⟩ := push_new
  have hbig := h2.big
  simp [load_bk q0]
  refine K_sl12Rooms (h1.ext x0).sees ?_
  have ev : vaPg p = (vaRm p.rooms && decide (1 ≤ p.tasks.length ∧ p.tasks.length ≤ 3) && p.tasks.all (vaF p.rooms.length)) := rfl
  rw [ev] at k
  cases hv : vaRm p.rooms with
  | false =>
    have := k _ x0
    rw [hv] at this
    simpa using this
  | true =>
    rw [hv, Bool.true_and] at k
    have hrl : p.rooms.length ≤ 3 := by unfold vaRm at hv; simp at hv; omega
    by_cases hm : 1 ≤ (p.tasks.length : Int) ∧ (p.tasks.length : Int) ≤ 3
    · have e2 : decide (1 ≤ p.tasks.length ∧ p.tasks.length ≤ 3) = true := decide_eq_true (by omega)
      rw [e2, Bool.true_and] at k
      simp [load_bk q0, h2.alen, K_in_t hm]
      have := K_sProgramValid_l (p := p) (K := K) (Q := ?_) hct ?_ ?_ h1.alen (by omega) p.tasks.length 0 (by omega) (P := H.n) (H := H.push [vr, vt]) (by simp) q0 (h2.ext x0) (fun H' x' => by simpa using k H' (x0.trans x'))
      · simpa using this
      · intros; simp
      · intros; simp
    · have e2 : decide (1 ≤ p.tasks.length ∧ p.tasks.length ≤ 3) = false := decide_eq_false (by omega)
      have := k _ x0
      rw [e2] at this
      simp [load_bk q0, h2.alen, K_in_f hm]
      simpa using this
end Go.Proofs.YtfgedlbkgcejhaaGreat.AM
namespace Go.Proofs.YtfgedlbkgcejhaaGreat.AM
set_option linter.unusedSimpArgs false
set_option linter.unusedVariables false
set_option maxRecDepth 100000
set_option maxHeartbeats 2000000
open Go
attribute [-simp] AM.elems
theorem K_sTaskNew {ok : Nat → Prop} {H : AH} {K : AV → AH → Prop} {w : Fk K} {v : AV} {f : Sts} (h : SV ok H v f) (hv : vaS 3 f = true)
    (k : ∀ c' H', TC (fun b => H.n ≤ b) H' c' ⟨[0, 0, 0, 0], f⟩ → Ext H H' → K (.tup [.agg c', .b true]) H') : CallF Cd f_sTaskNew [v] H K w := by
  rw [CallF_eq e_sTaskNew rfl]
  have hv' := hv
  unfold vaS at hv'
  simp only [Bool.and_eq_true, decide_eq_true_eq] at hv'
  have x0 := Ext.push H [.nils, .nils]
  simp
  refine K_sStmtsValid (h.ext x0) (by omega) fun H1 x1 => ?_
  have n1 := x1.1
  simp only [push_n] at n1
  have qR := (x1.2 H.n (by simp)).trans (push_new (H := H) (cs := [.nils, .nils]))
  have e4 : (List.replicate (4 : Int).toNat [AV.I 0]).flatten = Ints [0, 0, 0, 0] := rfl
  have x2 := (x0.trans x1).trans (Ext.push H1 (Ints [0, 0, 0, 0]))
  simp [hv, e4]
  refine K_sl11Copy f (h.ext x2) (cp_of_okS hv'.1) (by omega) fun v' H2 cs B g s x3 => ?_
  have n3 := x3.1
  simp only [push_n] at n3
  have fl := g.flat
  have qR2 := (x3.2 H.n (by simp; omega)).trans ((Ext.push H1 (Ints [0, 0, 0, 0])).2 H.n (by omega) |>.trans qR)
  have q4 : H2.bk H1.n = some ⟨Ints [0, 0, 0, 0], true⟩ := (x3.2 _ (by simp)).trans push_new
  have st : H2.store H.n 0 [.sl H1.n 0 4 (.ex 4), v'] = some (H2.put H.n (some ⟨[.sl H1.n 0 4 (.ex 4), v'], true⟩)) := store_bk qR2 (by simp)
  simp [x3, flat_cells fl, flat_tup fl, st, loadN_bk put_same]
  have hk : ∀ b, b ≠ H.n → (H2.put H.n (some ⟨[.sl H1.n 0 4 (.ex 4), v'], true⟩)).bk b = H2.bk b := fun b hb => by rw [put_bk, if_neg hb]
  refine k _ _ ⟨_, _, rfl, ⟨by simp, rfl, .inr ⟨H1.n, 0, _, rfl, ⟨by omega, by simp [capOk]⟩, by simp; omega, ?_⟩⟩, (g.sv s).mono (by simp) (fun b hb _ => hk b (by simp at hb; omega)) (fun b hb _ => by simp at hb; omega)⟩ ((x2.trans x3).put (by omega))
  rw [loadN_bk ((hk _ (by omega)).trans q4)]; rfl
theorem K_sl16Empty_l {l : List Int} (hll : l.length ≤ 1000) {base : Nat} {v : AV} {Q : Out → Env → AH → Prop} (m i : Nat) (him : i + m = l.length) {G : AH} {g : AV} {cs : List AV} {B : Nat} (hb : base ≤ G.n) (hv : IV (fun b => b < base) G v l) (hg : GrS base G g i 2 cs B)
    (he : LF 2 (BC (fun b => base ≤ b ∧ b ≠ B) G) ((l.take i).map fun x => ⟨x, []⟩) cs)
    (hQ : ∀ e G' g' cs' B', GrS base G' g' l.length 2 cs' B' → LF 2 (BC (fun b => base ≤ b ∧ b ≠ B') G') (l.map fun x => ⟨x, []⟩) cs' → (∀ b, b < base → G'.bk b = G.bk b) → G.n ≤ G'.n → get e 3 = some g' → Q (.brk 0) e G') :
    W Cd (.loop c_sl16Empty_l0) [(0, v), (3, g), (4, .I i)] G Q := by
  have hbig : l.length ≤ 8589934592 := hv.1
  induction m generalizing i G g cs B with
  | zero =>
    rw [W_loop_as c_sl16Empty_l0.eq_1]
    have : i = l.length := by omega
    subst this
    simp [SlC.alen hv]
    rw [List.take_length] at he
    exact hQ _ G g cs B hg he (fun _ _ => rfl) (Nat.le_refl _) rfl
  | succ m ih =>
    rw [W_loop_as c_sl16Empty_l0.eq_1]
    have hlt : i < l.length := by omega
    have hlt' : (i : Int) < l.length := by omega
    obtain ⟨b, o, s1, hbn, l1⟩ := hv.sees.at hlt
    obtain ⟨x, hx⟩ : ∃ x, l[i]? = some x := ⟨_, List.getElem?_eq_getElem hlt⟩
    have ex : l[i] = x := by have := List.getElem?_eq_getElem hlt; rw [hx] at this; exact (Option.some.inj this).symm
    rw [ex] at l1
    have x1 := Ext.push G []
    have x2 := x1.trans (Ext.push _ [.I x, .sl G.n 0 0 (.ex 0)])
    have bc : BC (fun b => G.n ≤ b) ((G.push []).push [.I x, .sl G.n 0 0 (.ex 0)]) [.I x, .sl G.n 0 0 (.ex 0)] ⟨x, []⟩ := ⟨_, rfl, IV.emp ((Ext.push _ _).2 _ (by simp) |>.trans push_new) (by simp; omega) (Nat.le_refl _)⟩
    obtain ⟨g', G', B', a1, a2, a3, a4, a5, a6⟩ := LF.snoc (E := BC) (l := l.map fun x => ⟨x, []⟩) (x := ⟨x, []⟩) (i := i) (fun h => h.mono) (by rw [List.getElem?_map, hx]; rfl) hg (by rw [← List.map_take]; exact he) hb x2 (c := [.I x, .sl G.n 0 0 (.ex 0)]) rfl bc (by omega)
    simp only [push_n] at a5
    simp (disch := omega) [SlC.alen hv, hlt', s1, l1, AM.elems, loadN_push, a1]
    rw [← List.map_take] at a3
    have := ih (i + 1) (by omega) (G := G') (g := g') (B := B') (by omega) (hv.mono (by omega) (fun b hb _ => a4 b hb) (fun _ h _ => h)) a2 a3
      (fun e G2 g2 c2 B2 z1 z2 z3 z4 z5 => hQ e G2 g2 c2 B2 z1 z2 (fun b hb => (z3 b hb).trans (a4 b hb)) (by omega) z5)
    simpa using this
theorem K_sl16Empty {ok : Nat → Prop} {H : AH} {K : AV → AH → Prop} {w : Fk K} {v : AV} {l : List Int} (h : IV ok H v l) (hl : l.length ≤ 1000)
    (k : ∀ v' H', BV (fun b => H.n ≤ b) H' v' (l.map fun x => ⟨x, []⟩) → Ext H H' → v'.flat = true → K v' H') : CallF Cd f_sl16Empty [v] H K w := by
  rw [CallF_eq e_sl16Empty rfl]
  have x0 := Ext.push H []
  simp
  have := K_sl16Empty_l (l := l) hl (base := H.n) (v := v) (Q := ?_) l.length 0 (by omega) (G := H.push []) (g := .sl H.n 0 0 (.ex 0)) (cs := []) (B := H.n) (by simp) (h.mono (by simp) (fun b _ hb => x0.2 b hb) (fun b _ hb => hb))
    ⟨by simp, by simp, .inr ⟨Nat.le_refl _, by simp, .inl ⟨rfl, push_new⟩⟩⟩ rfl ?_
  · simpa using this
  · intro e G g cs B z1 z2 z3 z4 z5
    simp [z5]
    simp only [push_n] at z4
    have hl2 : (l.map fun x => (⟨x, []⟩ : Bx)).length = l.length := by simp
    exact k g G (GrS.bv (by rw [hl2]; exact z1) z2) ⟨by omega, fun b hb => (z3 b hb).trans (x0.2 b hb)⟩ z1.flat
theorem K_sWorldNew_l {p : Pg} (hp : ∀ f ∈ p.tasks, vaS 3 f = true) (hl3 : p.tasks.length ≤ 3) {vr vt vb vo : AV} {P R P4 base lo : Nat} {Q : Out → Env → AH → Prop} (hbl : base ≤ lo) (hP4 : base ≤ P4 ∧ P4 < lo) (hPP : P < base)
    (m i : Nat) (hm : i + m = p.tasks.length) {G : AH} {g : AV} {cs : List AV} {B : Nat} (hlo : lo ≤ G.n) (gP : G.bk P = some ⟨[vr, vt], true⟩) (hv : LV (fun b => b < base) G vt p.tasks) (g4 : G.bk P4 = some ⟨[g, vb, .I 0, .I 0, vo], true⟩)
    (hg : GrS base G g i 2 cs B) (hB : B ≠ P4) (he : LF 2 (TC (fun b => lo ≤ b ∧ b ≠ B) G) ((p.tasks.take i).map fun f => ⟨[0, 0, 0, 0], f⟩) cs) (S : Nat → Prop) (hS : ∀ b, S b → b < lo ∧ b ≠ P4 ∧ b ≠ B)
    (hQ : ∀ e G' g' cs' B', GrS base G' g' p.tasks.length 2 cs' B' → LF 2 (TC (fun b => lo ≤ b ∧ b ≠ B') G') (p.tasks.map fun f => ⟨[0, 0, 0, 0], f⟩) cs' → G'.bk P4 = some ⟨[g', vb, .I 0, .I 0, vo], true⟩ → B' ≠ P4 → (∀ b, S b → b ≠ B') → (∀ b, (b < base ∨ S b) → G'.bk b = G.bk b) → G.n ≤ G'.n → get e 2 = some (.ptr R 0) → get e 4 = some (.ptr P4 0) → Q (.brk 0) e G') :
    W Cd (.loop c_sWorldNew_l0) [(1, .ptr P 0), (2, .ptr R 0), (4, .ptr P4 0), (5, .I i)] G Q := by
  have hbig := hv.big
  induction m generalizing i G g cs B with
  | zero =>
    rw [W_loop_as c_sWorldNew_l0.eq_1]
    have : i = p.tasks.length := by omega
    subst this
    simp [load_bk gP, hv.alen]
    rw [List.take_length] at he
    exact hQ _ G g cs B hg he g4 hB (fun b hb => (hS b hb).2.2) (fun _ _ => rfl) (Nat.le_refl _) rfl rfl
  | succ m ih =>
    rw [W_loop_as c_sWorldNew_l0.eq_1]
    have hlt : i < p.tasks.length := by omega
    have hlt' : (i : Int) < p.tasks.length := by omega
    obtain ⟨f, hf⟩ : ∃ f, p.tasks[i]? = some f := ⟨_, List.getElem?_eq_getElem hlt⟩
    obtain ⟨b, o, cap, u, e1, hbn, l1, s1⟩ := hv.at hf
    have hv' := hv
    subst e1
    simp (disch := omega) [load_bk gP, hlt', l1]
    refine K_sTaskNew s1 (hp f (List.mem_of_getElem? hf)) fun c' H1 tc x1 => ?_
    have n1 := x1.1
    have tc' := tc
    obtain ⟨cv, cr, rfl, j1, j2⟩ := tc'
    have x2 := (x1.trans (Ext.push H1 [cv, cr])).trans (Ext.push _ [cv, cr])
    have g4' : (H1.push [cv, cr]).bk P4 = some ⟨[g, vb, .I 0, .I 0, vo], true⟩ := ((x1.trans (Ext.push H1 [cv, cr])).2 P4 (by omega)).trans g4
    obtain ⟨g', G', B', a1, a2, a3, a4, a5, a6⟩ := LF.snoc2 (E := TC) (l := p.tasks.map fun f => ⟨[0, 0, 0, 0], f⟩) (x := ⟨[0, 0, 0, 0], f⟩) (i := i) (fun h => h.mono) (by rw [List.getElem?_map, hf]; rfl) hg (by rw [← List.map_take]; exact he) (by omega) hlo x2 (c := [cv, cr]) rfl ((tc.ext (Ext.push H1 _)).ext (Ext.push _ _)) (by omega)
    have hgm : ∀ b, b ∈ grB g B → b = B ∧ base ≤ B ∧ B < G.n := fun b hb => hg.mem hb
    have g4'' : G'.bk P4 = some ⟨[g, vb, .I 0, .I 0, vo], true⟩ := (a4.2 P4 (by simp; omega) (fun hm => hB (hgm _ hm).1.symm)).trans ((x2.2 P4 (by omega)).trans g4)
    have st := store_cell (v := g') g4'' (o := 0) (by simp)
    simp only [List.set_cons_zero] at st
    have hB' : B' ≠ P4 := by
      rcases a5 with q | q
      · rw [q.1]; exact hB
      · rw [q]; simp; omega
    have n4 := a4.1
    simp only [push_n] at n4
    have gg : ∀ b, b < G.n → b ∉ grB g B → b ≠ P4 → (G'.put P4 (some ⟨[g', vb, .I 0, .I 0, vo], true⟩)).bk b = G.bk b := fun b hb h1 h2 => by
      rw [put_bk, if_neg h2, a4.2 b (by simp; omega) h1, x2.2 b hb]
    simp (disch := omega) [store_push2e, load_bk g4', AM.elems, loadN_push, a1, flat_cells a6, flat_tup a6, st]
    rw [← List.map_take] at a3
    have := ih (i + 1) (by omega) (G := G'.put P4 (some ⟨[g', vb, .I 0, .I 0, vo], true⟩)) (g := g') (cs := cs ++ [cv, cr]) (B := B') (by simp; omega)
      ((gg P (by omega) (fun hm => by have := hgm _ hm; omega) (by omega)).trans gP)
      (hv'.mono (by simp; omega) (fun b hb _ => gg b (by omega) (fun hm => by have := hgm _ hm; omega) (by omega)) (fun _ h _ => h)) put_same
      (a2.only (bs := [P4]) (Only.refl.put (by simp)) (fun b hb => .inr (by simp at hb; subst hb; exact Ne.symm hB'))) hB'
      (a3.imp fun c a h => h.mono (by simp) (fun b hb _ => by rw [put_bk, if_neg (by omega)]) (fun _ h _ => h))
      (fun b hb => ⟨(hS b hb).1, (hS b hb).2.1, by
        rcases a5 with q | q
        · rw [q.1]; exact (hS b hb).2.2
        · have := (hS b hb).1; rw [q]; simp; omega⟩)
      (fun e G2 g2 cs2 B2 z1 z2 z3 z4 z5 z6 z7 z8 z9 => hQ e G2 g2 cs2 B2 z1 z2 z3 z4 z5 (fun b hb => (z6 b hb).trans (gg b (by rcases hb with q | q; omega; have := (hS b q).1; omega) (fun hm => by
        have := hgm _ hm
        rcases hb with q | q
        · omega
        · exact (hS b q).2.2 this.1) (by rcases hb with q | q; omega; exact (hS b q).2.1))) (by simp at z7; omega) z8 z9)
    simpa using this
theorem K_sWorldNew {ok : Nat → Prop} {H : AH} {K : AV → AH → Prop} {wf : Fk K} {c : List AV} {p : Pg} (h : PgC ok H c p) (hct : ∀ f ∈ p.tasks, ctS f ≤ 1000000)
    (k : ∀ c' H', WC (fun b => H.n ≤ b) H' c' (if vaPg p = true then newW p else zeroW) → Ext H H' → K (.tup [.agg c', .b (vaPg p)]) H') : CallF Cd f_sWorldNew [.agg c] H K wf := by
  have h' := h
  obtain ⟨vr, vt, rfl, h1, h2⟩ := h'
  rw [CallF_eq e_sWorldNew rfl]
  have x0 := (Ext.push H [vr, vt]).trans (Ext.push _ zC)
  have q0 : ((H.push [vr, vt]).push zC).bk H.n = some ⟨[vr, vt], true⟩ := push_old (by simp) push_new
  simp [loadN_bk q0]
  refine K_sProgramValid (h.ext x0) hct fun H1 x1 => ?_
  have n1 := x1.1
  simp only [push_n] at n1
  have y1 := x0.trans x1
  have q1 := (x1.2 H.n (by simp <;> omega)).trans q0
  have qR1 : H1.bk (H.n + 1) = some ⟨zC, true⟩ := (x1.2 _ (by simp)).trans push_new
  have stb := store_five qR1 (l := zC) rfl rfl
  cases hv : vaPg p with
  | false =>
    rw [hv] at k
    simp [stb, loadN_bk put_same]
    exact k zC _ zero_WC (y1.put (by omega))
  | true =>
  rw [hv, if_pos rfl] at k
  have hv' := hv
  unfold vaPg vaRm at hv'
  simp only [Bool.and_eq_true, decide_eq_true_eq, List.all_eq_true] at hv'
  have xa := Ext.push H1 []
  have q1a : (H1.push []).bk H.n = some ⟨[vr, vt], true⟩ := (xa.2 _ (by omega)).trans q1
  simp [load_bk q1a]
  refine K_sl16Empty (h1.ext (y1.trans xa)) (by omega) fun vb H2 bv x2 fb => ?_
  have n2 := x2.1
  simp only [push_n] at n2
  have x3 := (Ext.push H2 []).trans (Ext.push _ [.sl H1.n 0 0 (.ex 0), vb, .I 0, .I 0, .sl H2.n 0 0 (.ex 0)])
  have y3 := ((y1.trans xa).trans x2).trans x3
  have st5 : ((H2.push []).push [.nils, .nils, .I 0, .I 0, .nils]).store (H2.n + 1) 0 [.sl H1.n 0 0 (.ex 0), vb, .I 0, .I 0, .sl H2.n 0 0 (.ex 0)] = some ((H2.push []).push [.sl H1.n 0 0 (.ex 0), vb, .I 0, .I 0, .sl H2.n 0 0 (.ex 0)]) := store_push5e (H := H2.push [])
  simp [flat_cells fb, flat_tup fb, st5]
  have keep : ∀ b, b < H1.n → ((H2.push []).push [.sl H1.n 0 0 (.ex 0), vb, .I 0, .I 0, .sl H2.n 0 0 (.ex 0)]).bk b = H1.bk b := fun b hb => (x3.2 b (by omega)).trans ((x2.2 b (by simp; omega)).trans (xa.2 b hb))
  have := K_sWorldNew_l (p := p) (fun f hf => by have := hv'.2 f hf; unfold vaF at this; simp only [Bool.and_eq_true] at this; exact this.1) (by omega) (vr := vr) (vt := vt) (vb := vb) (vo := .sl H2.n 0 0 (.ex 0)) (P := H.n) (R := H.n + 1) (P4 := H2.n + 1) (base := H1.n) (lo := H2.n + 2) (by omega) (by omega) (by omega) p.tasks.length 0 (by omega)
    (G := (H2.push []).push [.sl H1.n 0 0 (.ex 0), vb, .I 0, .I 0, .sl H2.n 0 0 (.ex 0)]) (g := .sl H1.n 0 0 (.ex 0)) (cs := []) (B := H1.n) (by simp) ((keep _ (by omega)).trans q1) (h2.mono (by simp; omega) (fun b _ hb => y3.2 b hb) (fun b _ hb => by omega)) push_new
    ⟨by simp, by simp, .inr ⟨Nat.le_refl _, by simp; omega, .inl ⟨rfl, (x3.2 _ (by omega)).trans ((x2.2 _ (by simp)).trans push_new)⟩⟩⟩ (by omega) rfl (fun b => H1.n < b ∧ b ≤ H2.n) (fun b hb => by omega) (Q := ?_) ?_
  · simpa using this
  · intro e G g cs B z1 z2 z3 z4 z5 z6 z7 z8 z9
    simp only [push_n] at z7
    have keep0 : ∀ b, b < H1.n → G.bk b = H1.bk b := fun b hb => (z6 b (.inl hb)).trans (keep b hb)
    have keepS : ∀ b, H1.n < b → b ≤ H2.n → G.bk b = ((H2.push []).push [.sl H1.n 0 0 (.ex 0), vb, .I 0, .I 0, .sl H2.n 0 0 (.ex 0)]).bk b := fun b h h' => z6 b (.inr ⟨h, h'⟩)
    have qR2 := (keep0 (H.n + 1) (by omega)).trans qR1
    have st := store_five qR2 (l := [g, vb, .I 0, .I 0, .sl H2.n 0 0 (.ex 0)]) rfl rfl
    simp [z8, z9, loadN_bk z3, st, loadN_bk put_same]
    have hk : ∀ b, b ≠ H.n + 1 → (G.put (H.n + 1) (some ⟨[g, vb, .I 0, .I 0, .sl H2.n 0 0 (.ex 0)], true⟩)).bk b = G.bk b := fun b hb => by rw [put_bk, if_neg hb]
    have qe : G.bk H2.n = some ⟨[], true⟩ := (keepS H2.n (by omega) (Nat.le_refl _)).trans ((Ext.push _ _).2 _ (by simp) |>.trans push_new)
    have hlen : (newW p).tasks.length = p.tasks.length := by simp [newW]
    refine k _ _ ⟨_, _, _, rfl, ⟨cs, ?_, z2.imp fun c a h => h.mono (by simp) (fun b hb _ => hk b (by omega)) (fun b hb _ => by omega)⟩, ?_, ?_⟩ ⟨by simp; omega, fun b hb => by rw [hk b (by omega), keep0 b (by omega)]; exact y1.2 b hb⟩
    · rw [hlen]
      exact z1.slc.mono (by simp) (fun b hb _ => hk b (by omega)) (fun b hb _ => by omega)
    · refine bv.mono (by simp; omega) (fun b hb hn => ?_) (fun b hb _ => by simp at hb; omega)
      simp only [push_n] at hb
      rw [hk b (by omega), keepS b (by omega) (by omega)]
      exact x3.2 b hn
    · exact IV.emp ((hk _ (by omega)).trans qe) (by simp; omega) (by omega)
end Go.Proofs.YtfgedlbkgcejhaaGreat.AM
namespace Go.Proofs.YtfgedlbkgcejhaaGreat.AM
set_option linter.unusedSimpArgs false
set_option linter.unusedVariables false
set_option maxRecDepth 100000
set_option maxHeartbeats 2000000
open Go
theorem K_sl92Rooms_l {base r : Nat} (hrb : r < base) {Q : Out → Env → AH → Prop} {n : Int} (hn : n ≤ 10) (j i : Nat) (hij : (i + j : Int) = n) {G : AH} {g : AV} {l : List Int} {B : Nat} {m : Int} (hb : base ≤ G.n) (hl : l.length = i) (hg : GrS base G g l.length 1 (Ints l) B) (hR : Rdx G r m) (hm : m + 5 * j ≤ 900000000000)
    (hQ : ∀ e g' l' B' G', (l'.length : Int) = n → GrS base G' g' l'.length 1 (Ints l') B' → Rdx G' r (m + 5 * j) → (∀ b, b < base → b ≠ r → G'.bk b = G.bk b) → G.n ≤ G'.n → get e 3 = some g' → Q (.brk 0) e G') :
    W Cd (.loop c_sl92Rooms_l0) [(0, .ptr r 0), (3, g), (4, .I n), (5, .I i)] G Q := by
  induction j generalizing i G g l B m with
  | zero =>
    rw [W_loop_as c_sl92Rooms_l0.eq_1]
    have hi : (i : Int) = n := by omega
    simp [hi]
    exact hQ _ g l B G (by omega) hg (hR.up (by omega)) (fun _ _ _ => rfl) (Nat.le_refl _) rfl
  | succ j ih =>
    rw [W_loop_as c_sl92Rooms_l0.eq_1]
    have hlt : (i : Int) < n := by omega
    simp (disch := omega) [hlt]
    refine P_pick hR.push (by omega) (by omega) fun x1 H1 hx1 hR1 hS1 => ?_
    obtain ⟨x, hy, e⟩ := @Ints_get [1, 1, 2, 3, 4] x1 5 (by omega) rfl
    have eb : H1.bk G.n = some ⟨Ints [1, 1, 2, 3, 4], true⟩ := hS1.at (Nat.lt_succ_self _) (Nat.ne_of_gt hR.lt) (by simp; rfl)
    have hS : St r G H1 := (St.push St.refl).trans hS1
    obtain ⟨g', G', B', a1, a2, a3, a4, a5⟩ := app_word (x := x) hg hS hrb hb (by omega)
    simp (disch := omega) [load_eq, eb, e, loadN_push, a1]
    have := ih (i + 1) (by push_cast; omega) (G := G') (g := g') (l := l ++ [x]) (B := B') (m := m + 1) (by have := hS.1; omega) (by simp; omega) a2 (hR1.same a4 fun b hb => a3 b (by omega)) (by omega)
      (fun e g2 l2 B2 G2 u1 u2 u3 u4 u5 u6 => hQ e g2 l2 B2 G2 u1 u2 (u3.up (by omega)) (fun b h1 h2 => by rw [u4 b h1 h2, a3 b h1, hS.2 b (by omega) h2]) (by have := hS.1; omega) u6)
    simpa using this
section
variable {H : AH} {K : AV → AH → Prop} {r : Nat} {w : Fk K} {m boxes : Int}
theorem K_sl92Rooms (h : Rdx H r m) (hm : m ≤ 800000000000)
    (k : ∀ v l B H', l.length ≤ 3 → GrS H.n H' v l.length 1 (Ints l) B → Rdx H' r (m + 50) → St r H H' → K v H') : CallF Cd f_sl92Rooms [.ptr r 0] H K w := by
  rw [CallF_eq e_sl92Rooms rfl]
  have hr := h.lt
  simp
  refine P_pick h.push.push (by omega) (by omega) fun x1 H1 hx1 hR1 hS1 => ?_
  have n1 := hS1.1
  simp only [push_n] at n1
  obtain ⟨n, hy, e⟩ := @Ints_get [0, 1, 1, 2, 2, 3] x1 6 (by omega) rfl
  have eb : H1.bk (H.n + 1) = some ⟨Ints [0, 1, 1, 2, 2, 3], true⟩ := hS1.at (by simp) (by omega) (by simp; rfl)
  have q0 : H1.bk H.n = some ⟨[], true⟩ := hS1.at (by simp; omega) (by omega) (push_old (by simp) push_new)
  have hn : 0 ≤ n ∧ n ≤ 3 := by simp at hy; omega
  simp (disch := omega) [load_eq, eb, e]
  obtain ⟨j, rfl⟩ : ∃ j : Nat, n = j := ⟨n.toNat, by omega⟩
  have := K_sl92Rooms_l (base := H.n) hr (n := j) (by omega) (Q := ?_) j 0 (by simp) (G := H1) (g := .sl H.n 0 0 (.ex 0)) (l := []) (B := H.n) (m := m + 1) (by omega) rfl ⟨by simp, rfl, .inr ⟨Nat.le_refl _, by omega, .inl ⟨rfl, q0⟩⟩⟩ hR1 (by omega) ?_
  · simpa using this
  · intro e g l B G u1 u2 u3 u4 u5 u6
    simp [u6]
    refine k g l B G (by omega) u2 (u3.up (by omega)) ⟨by omega, fun b hb hbr => (u4 b hb hbr).trans ((hS1.2 b (by simp; omega) hbr).trans ((push_old (by simp; omega) (push_old hb rfl))))⟩
theorem K_sl92Endless (h : Rdx H r m) (hm : m ≤ 600000000000)
    (k : ∀ c s H', S1 (fun b => H.n ≤ b) H' c s → ctT s ≤ 1000 → Rdx H' r (m + 60000) → St r H H' → K (.agg c) H') : CallF Cd f_sl92Endless [.ptr r 0] H K w := by
  rw [CallF_eq e_sl92Endless rfl]
  have hr := h.lt
  simp
  refine K_sl4Leaf fun ve H1 d1 x1 => ?_
  have n1 := x1.1
  simp only [push_n] at n1
  simp
  refine P_pick (h.push.ext x1) (by omega) (by omega) fun x0 H2 hx0 hR2 hS2 => ?_
  have n2 := hS2.1
  simp
  have hm1 : x0 * cR 1 ≤ 6 * 8500 ∧ 0 ≤ x0 * cR 1 := by simp [cR]; omega
  have hN1 : x0.toNat * cB 1 ≤ 10 := by
    have : x0.toNat ≤ 1 := by omega
    have := Nat.mul_le_mul_right (cB 1) this
    simp [cB] at this ⊢; omega
  refine blkD (n := 1) (by omega) (by omega) (by omega) hR2 (by simp; omega) fun g cs B f H3 hg hf hlb hct hR3 hS3 => ?_
  have n3 := hS3.1
  have fg := hg.flat
  have S13 := hS2.trans hS3
  have qR : H3.bk H.n = some ⟨[.I 0, .I 0, .I 0, .I 0, .I 0, .nils, .nils, .nils], true⟩ := S13.at (by omega) (by omega) ((x1.2 H.n (by simp)).trans push_new)
  have st := store_bk (o := 0) (vs := [.I 3, .I 0, .I 0, .I 0, .I 1, ve, g, .nils]) qR (by simp)
  have fe := d1.ev.flat
  simp [flat_cells fg, flat_tup fg, flat_cells fe, flat_tup fe, st, loadN_bk put_same]
  have hk : ∀ b, b ≠ H.n → (H3.put H.n (some ⟨[.I 3, .I 0, .I 0, .I 0, .I 1, ve, g, .nils], true⟩)).bk b = H3.bk b := fun b hb => by rw [put_bk, if_neg hb]
  refine k [.I 3, .I 0, .I 0, .I 0, .I 1, ve, g, .nils] ⟨3, 0, 0, ⟨0, 1, .nil⟩, f, .nil⟩ _ ⟨ve, g, .nils, rfl, (d1.ev.mono (by simp; omega) (fun b hb hb2 => ?_) (fun b hb _ => by simp at hb; omega)), (hg.sv hf).mono (by simp) (fun b hb _ => hk b (by omega)) (fun b hb _ => by omega), SV.nil (.inl rfl)⟩ (by simp [ctT, ctS]; omega) ((hR3.put (by omega)).up (by omega)) ?_
  · simp only [push_n] at hb
    rw [hk b (by omega), S13.2 b hb2 (by omega)]
  · exact (((Ext.push H _).trans x1).st.trans S13).put_new (Nat.le_refl _)
end
end Go.Proofs.YtfgedlbkgcejhaaGreat.AM
namespace Go.Proofs.YtfgedlbkgcejhaaGreat.AM
set_option linter.unusedSimpArgs false
set_option linter.unusedVariables false
set_option maxRecDepth 100000
set_option maxHeartbeats 2000000
open Go
attribute [-simp] AM.elems
theorem LF.snoc3 {α : Type} {sz : Nat} {E : (Nat → Prop) → AH → List AV → α → Prop} (mono : ∀ {ok ok' : Nat → Prop} {H H' : AH} {c a}, E ok H c a → H.n ≤ H'.n → (∀ b, ok b → b < H.n → H'.bk b = H.bk b) → (∀ b, ok b → b < H.n → ok' b) → E ok' H' c a)
    {base lo B r : Nat} {G G1 : AH} {g : AV} {l : List α} {x : α} {cs c : List AV} (hg : GrS base G g l.length sz cs B) (he : LF sz (E (fun b => lo ≤ b ∧ b ≠ B) G) l cs)
    (hb : base ≤ G.n) (hlo : lo ≤ G.n) (hrb : r < base) (hrl : r < lo) (x1 : St r G G1) (hc : c.length = sz) (hx : E (fun b => G.n ≤ b) G1 c x) (hi : l.length < 1000000) :
    ∃ g' G' B', aapp G1 sz g 1 c = some (g', G') ∧ GrS base G' g' (l ++ [x]).length sz (cs ++ c) B' ∧ LF sz (E (fun b => lo ≤ b ∧ b ≠ B') G') (l ++ [x]) (cs ++ c) ∧ Only (grB g B) G1 G' ∧ ((B' = B ∧ B ∈ grB g B) ∨ B' = G1.n) ∧ g'.flat = true := by
  obtain ⟨g', G', B', a1, a2, a3, a4⟩ := (hg.st x1 hrb).app (k := 1) (new := c) (by have := x1.1; omega) (by omega) (by omega)
  have hm : ∀ b, b ∈ grB g B → b = B ∧ base ≤ B ∧ B < G.n := fun b hb => hg.mem hb
  have hB : (B' = B ∧ base ≤ B ∧ B < G.n) ∨ G1.n = B' := by
    rcases a3 with q | q
    · exact .inl ⟨q.1, (hm _ q.2).2⟩
    · exact .inr q.symm
  have n1 := x1.1
  refine ⟨g', G', B', a1, by simpa using a2, ?_, a4, a3, a2.flat⟩
  refine LF.app (he.imp fun c a h => mono h (by have := a4.1; omega) (fun b hb' h1 => ?_) (fun b hb' h1 => ⟨hb'.1, by omega⟩)) (LF.one (mono hx a4.1 (fun b hb' h1 => a4.2 b h1 (fun hm' => by have := hm b hm'; omega)) (fun b hb' h1 => by omega)) hc)
  rw [a4.2 b (by omega) (fun hm' => hb'.2 (hm b hm').1), x1.2 b h1 (by omega)]
theorem K_sl92Program_l {r : Nat} {vr : AV} {nr : Nat} (hvr : alen vr = some nr) (hnr : nr ≤ 3) {P2 P3 base lo : Nat} (hrb : r < base) (hb3 : base < P3) (h3lo : P3 < lo) {n : Int} (hn : n ≤ 10) {Q : Out → Env → AH → Prop} (j i : Nat) (hij : (i + j : Int) = n) {G : AH} {g : AV} {l : List Sts} {cs : List AV} {B : Nat} {m : Int} (hlo : lo ≤ G.n) (hl : l.length = i) (gP : G.bk P3 = some ⟨[vr, g], true⟩)
    (hg : GrS base G g l.length 1 cs B) (hB : B ≠ P3) (he : LF 1 (L1 (fun b => lo ≤ b ∧ b ≠ B) G) l cs) (hct : ∀ f ∈ l, ctS f ≤ 1000) (hR : Rdx G r m) (hm : m + 60000 * j ≤ 500000000000)
    (hQ : ∀ e g' l' cs' B' G', (l'.length : Int) = n → GrS base G' g' l'.length 1 cs' B' → B' ≠ P3 → LF 1 (L1 (fun b => lo ≤ b ∧ b ≠ B') G') l' cs' → G'.bk P3 = some ⟨[vr, g'], true⟩ → (∀ f ∈ l', ctS f ≤ 1000) → Rdx G' r (m + 60000 * j) → (∀ b, b < base → b ≠ r → G'.bk b = G.bk b) → G.n ≤ G'.n → get e 0 = some (.ptr r 0) → get e 2 = some (.ptr P2 0) → get e 3 = some (.ptr P3 0) → Q (.brk 0) e G') :
    W Cd (.loop c_sl92Program_l0) [(0, .ptr r 0), (2, .ptr P2 0), (3, .ptr P3 0), (4, .I n), (5, .I i)] G Q := by
  induction j generalizing i G g l cs B m with
  | zero =>
    rw [W_loop_as c_sl92Program_l0.eq_1]
    have hi : (i : Int) = n := by omega
    simp [hi]
    exact hQ _ g l cs B G (by omega) hg hB he gP hct (hR.up (by omega)) (fun _ _ _ => rfl) (Nat.le_refl _) rfl rfl rfl
  | succ j ih =>
    rw [W_loop_as c_sl92Program_l0.eq_1]
    have hlt : (i : Int) < n := by omega
    simp (disch := omega) [hlt, load_bk gP, hvr]
    refine K_sl92Stmts (by omega) hR (by omega) fun vs cs1 B1 f H1 gs sf ctf hR1 hS1 => ?_
    have n1 := hS1.1
    have gP1 : H1.bk P3 = some ⟨[vr, g], true⟩ := hS1.at (by omega) (by omega) gP
    have fs := gs.flat
    have hS : St r G (H1.push [vs]) := hS1.push
    obtain ⟨g', G', B', a1, a2, a3, a4, a5, a6⟩ := LF.snoc3 (E := L1) (c := [vs]) (x := f) (fun h => h.mono) hg he (by omega) hlo hrb (by omega) hS rfl ⟨vs, rfl, (gs.sv sf).ext (Ext.push _ _)⟩ (by omega)
    have hmg : ∀ b, b ∈ grB g B → b = B ∧ base ≤ B ∧ B < G.n := fun b hb => hg.mem hb
    have hk : ∀ b, b < H1.n → b ≠ B ∨ b < base → G'.bk b = H1.bk b := fun b hb hb2 => (a4.2 b (by simp; omega) (fun hq => by have := hmg b hq; omega)).trans (push_old hb rfl)
    have gP2 : G'.bk P3 = some ⟨[vr, g], true⟩ := (hk P3 (by omega) (.inl (Ne.symm hB))).trans gP1
    have st := store_cell (v := g') gP2 (o := 1) (by simp)
    simp only [List.set_cons_succ, List.set_cons_zero] at st
    have n4 := a4.1
    simp only [push_n] at n4 a5
    have hB' : B' ≠ P3 := by
      rcases a5 with q | q
      · rw [q.1]; exact hB
      · omega
    have kk : H1.bk P3 = G.bk P3 := hS1.2 P3 (by omega) (by omega)
    simp (disch := omega) [kk, AM.elems, flat_cells fs, flat_tup fs, loadN_push, a1, st, flat_cells a6, flat_tup a6]
    have := ih (i + 1) (by push_cast; omega) (G := G'.put P3 (some ⟨[vr, g'], true⟩)) (g := g') (l := l ++ [f]) (cs := cs ++ [vs]) (B := B') (m := m + 60000) (by simp; omega) (by simp; omega) put_same
      (a2.only (bs := [P3]) (Only.refl.put (by simp)) (fun b hb => .inr (by simp at hb; subst hb; exact Ne.symm hB'))) hB'
      (a3.imp fun c a h => h.mono (by simp) (fun b hb _ => by rw [put_bk, if_neg (by omega)]) (fun _ h _ => h))
      (fun f' hf' => by
        rcases List.mem_append.1 hf' with q | q
        · exact hct f' q
        · rw [List.mem_singleton.1 q]; exact ctf)
      ((hR1.same (by omega) fun b hb => hk b (by have := hR1.lt; omega) (.inr (by omega))).put (by omega)) (by omega)
      (fun e g2 l2 c2 B2 G2 u1 u2 u3 u4 u5 u6 u7 u8 u9 ua ub uc => hQ e g2 l2 c2 B2 G2 u1 u2 u3 u4 u5 u6 (u7.up (by omega)) (fun b h1 h2 => by rw [u8 b h1 h2, put_bk, if_neg (by omega), hk b (by omega) (.inr h1), hS1.2 b (by omega) h2]) (by simp at u9; omega) ua ub uc)
    simpa using this
section
variable {H : AH} {K : AV → AH → Prop} {r : Nat} {w : Fk K} {m boxes : Int}
theorem K_sl92Program (h : Rdx H r m) (hm : m ≤ 400000000000)
    (k : ∀ c p H', PgC (fun b => H.n ≤ b) H' c p → (∀ f ∈ p.tasks, ctS f ≤ 1000) → Rdx H' r (m + 600000) → St r H H' → K (.agg c) H') : CallF Cd f_sl92Program [.ptr r 0] H K w := by
  rw [CallF_eq e_sl92Program rfl]
  have hr := h.lt
  simp
  refine K_sl92Rooms h.push (by omega) fun vr lr Br H1 hlr gr hR1 hS1 => ?_
  have n1 := hS1.1
  simp only [push_n] at n1
  have fr := gr.flat
  have e2 : ((H1.push []).push [.nils, .nils]).store (H1.n + 1) 0 [vr, .sl H1.n 0 0 (.ex 0)] = some ((H1.push []).push [vr, .sl H1.n 0 0 (.ex 0)]) := store_push2e (H := H1.push [])
  simp [flat_cells fr, flat_tup fr, e2]
  have iv1 : IV (fun b => H.n + 1 ≤ b ∧ b < H1.n) H1 vr lr := gr.ivB (fun a b => ⟨by simpa using a, b⟩)
  have x3 := (Ext.push H1 []).trans (Ext.push _ [vr, .sl H1.n 0 0 (.ex 0)])
  refine P_pick (hR1.ext x3) (by omega) (by omega) fun x H4 hx hR4 hS4 => ?_
  have n4 := hS4.1
  simp only [push_n] at n4
  simp (disch := omega)
  have hS14 : St r H1 H4 := x3.st.trans hS4
  have q4 : H4.bk (H1.n + 1) = some ⟨[vr, .sl H1.n 0 0 (.ex 0)], true⟩ := hS4.at (by simp) (by omega) push_new
  have qb : H4.bk H1.n = some ⟨[], true⟩ := hS4.at (by simp; omega) (by omega) (push_old (by simp) push_new)
  have qR4 : H4.bk H.n = some ⟨[.nils, .nils], true⟩ := hS14.at (by omega) (by omega) (hS1.at (by simp) (by omega) push_new)
  have S04 : St r H H4 := ((Ext.push H _).st.trans hS1).trans hS14
  have iv4 : IV (fun b => H.n + 1 ≤ b ∧ b < H1.n) H4 vr lr := iv1.mono (by omega) (fun b hb hb2 => hS14.2 b hb2 (by omega)) (fun _ h _ => h)
  obtain ⟨j, hj⟩ : ∃ j : Nat, 1 + x = j := ⟨(1 + x).toNat, by omega⟩
  have hj3 : j ≤ 3 := by omega
  -- the end, common to both ways
  have fin : ∀ (G : AH) (g : AV) (l : List Sts) (cs : List AV) (B : Nat), GrS H1.n G g l.length 1 cs B → B ≠ H1.n + 1 → LF 1 (L1 (fun b => H1.n + 2 ≤ b ∧ b ≠ B) G) l cs → G.bk (H1.n + 1) = some ⟨[vr, g], true⟩ → (∀ f ∈ l, ctS f ≤ 1000) → Rdx G r (m + 500000) → (∀ b, b < H1.n → b ≠ r → G.bk b = H4.bk b) → H4.n ≤ G.n →
      ∃ G1, G.loadN (H1.n + 1) 0 2 = some [vr, g] ∧ G.store H.n 0 [vr, g] = some G1 ∧ G1.loadN H.n 0 2 = some [vr, g] ∧ K (.agg [vr, g]) G1 := by
    intro G g l cs B z1 z2 z3 z4 z5 z6 z7 z8
    have qR := (z7 H.n (by omega) (by omega)).trans qR4
    refine ⟨_, by rw [loadN_bk z4]; rfl, store_bk qR (by simp), by rw [loadN_bk put_same]; rfl, ?_⟩
    have hk : ∀ b, b ≠ H.n → (G.put H.n (some ⟨splice [.nils, .nils] 0 [vr, g], true⟩)).bk b = G.bk b := fun b hb => by rw [put_bk, if_neg hb]
    refine k _ ⟨lr, l⟩ _ ⟨vr, g, rfl, iv4.mono (by simp; omega) (fun b hb hb2 => ?_) (fun b hb _ => by omega), ⟨cs, z1.slc.mono (by simp) (fun b hb _ => hk b (by omega)) (fun b hb _ => by omega), z3.imp fun c a h => h.mono (by simp) (fun b hb _ => hk b (by omega)) (fun b hb _ => by omega)⟩⟩ z5 ((z6.put (by omega)).up (by omega)) ?_
    · rw [hk b (by omega), z7 b hb.2 (by omega)]
    · exact St.put_new ⟨by have := S04.1; omega, fun b hb hbr => by rw [z7 b (by omega) hbr, S04.2 b hb hbr]⟩ (Nat.le_refl _)
  have := K_sl92Program_l (P2 := H.n) (P3 := H1.n + 1) (base := H1.n) (lo := H1.n + 2) (vr := vr) (nr := lr.length) gr.alen hlr (r := r) (by omega) (by omega) (by omega) (n := j) (by omega) (Q := ?_) j 0 (by simp) (G := H4) (g := .sl H1.n 0 0 (.ex 0)) (l := []) (cs := []) (B := H1.n) (m := m + 51) (by omega) rfl q4
    ⟨by simp, by simp, .inr ⟨Nat.le_refl _, by omega, .inl ⟨rfl, qb⟩⟩⟩ (by omega) rfl (by simp) (hR4.up (by omega)) (by omega) ?_
  · simpa [hj] using this
  · intro e g l cs B G z1 z2 z3 z4 z5 z6 z7 z8 z9 za zb zc
    simp [za, zb, zc]
    refine P_pick z7 (by omega) (by omega) fun y G2 hy hR5 hS5 => ?_
    have n5 := hS5.1
    have g2 := z2.st hS5 (by omega)
    have q5 : G2.bk (H1.n + 1) = some ⟨[vr, g], true⟩ := hS5.at (by omega) (by omega) z5
    have e5 : LF 1 (L1 (fun b => H1.n + 2 ≤ b ∧ b ≠ B) G2) l cs := z4.imp fun c a h => h.mono n5 (fun b hb hb2 => hS5.2 b hb2 (by omega)) (fun _ h _ => h)
    simp
    by_cases hy0 : y = 0
    · simp [hy0, load_bk q5]
      refine K_sl92Endless hR5 (by omega) fun c s G3 s1 cts hR6 hS6 => ?_
      have n6 := hS6.1
      have l8 := s1.len
      have g3 := (g2.st hS6 (by omega)).ext (Ext.push G3 c)
      obtain ⟨f0, l', rfl⟩ : ∃ f0 l', l = f0 :: l' := by
        cases l with
        | nil => simp at z1; omega
        | cons f0 l' => exact ⟨f0, l', rfl⟩
      obtain ⟨cap, G4, rfl, t1, t2, t3, t4, t5⟩ := g3.storeAt (o := 0) (c := [.sl G3.n 0 1 (.ex 1)]) (by simp) (by simp)
      obtain ⟨cc, cr, rfl, h2, h3, hrest⟩ := e5
      have es : splice (cc ++ cr) 0 [.sl G3.n 0 1 (.ex 1)] = [.sl G3.n 0 1 (.ex 1)] ++ cr := by
        obtain ⟨v0, rfl⟩ : ∃ v0, cc = [v0] := by
          cases cc with
          | nil => simp at h2
          | cons a t => cases t with
            | nil => exact ⟨a, rfl⟩
            | cons _ _ => simp at h2
        rfl
      rw [es] at t2
      have q6 : G4.bk (H1.n + 1) = some ⟨[vr, .sl B 0 (f0 :: l').length cap], true⟩ := (t3.2 _ (by simp; omega) (by simp; omega)).trans ((push_old (by omega) rfl).trans (hS6.at (by omega) (by omega) q5))
      have hk4 : ∀ b, b ≠ B → b < G3.n → G4.bk b = G3.bk b := fun b hb hb2 => (t3.2 b (by simp; omega) (by simpa using hb)).trans (push_old hb2 rfl)
      have n7 := t3.1
      simp only [push_n] at n7
      have hBlt : B < G2.n := (g2.mem (b := B) (by simp [grB])).2.2
      have s2 : SV (fun b => H1.n + 2 ≤ b ∧ b ≠ B) G4 (.sl G3.n 0 1 (.ex 1)) (Sts.of [s]) := (S1.lone s1 n6).mono n7 (fun b hb hb2 => t3.2 b hb2 (by simp; omega)) (fun b hb _ => by omega)
      obtain ⟨G5, w1, w2, w3, w4⟩ := fin G4 _ (Sts.of [s] :: l') _ B (by simpa using t2) z3 (show LF 1 (L1 (fun b => H1.n + 2 ≤ b ∧ b ≠ B) G4) (Sts.of [s] :: l') ([.sl G3.n 0 1 (.ex 1)] ++ cr) from ⟨_, _, rfl, rfl, ⟨_, rfl, s2⟩, hrest.imp fun c a h => h.mono (by omega) (fun b hb hb2 => by rw [hk4 b hb.2 (by omega), hS6.2 b hb2 (by omega)]) (fun _ h _ => h)⟩) q6
        (fun f hf => by
          rcases List.mem_cons.1 hf with q | q
          · rw [q]; simp only [Sts.of, ctS]; unfold ctT at cts; omega
          · exact z6 f (List.mem_cons_of_mem _ q)) ((hR6.same (by omega) fun b hb => hk4 b (by omega) (by omega)).up (by omega)) (fun b hb hbr => by rw [hk4 b (by omega) (by omega), hS6.2 b (by omega) hbr, hS5.2 b (by omega) hbr, z8 b hb hbr]) (by omega)
      have elen : (f0 :: l').length = l'.length + 1 := rfl
      have kk : G3.bk (H1.n + 1) = G2.bk (H1.n + 1) := hS6.2 _ (by omega) (by omega)
      rw [elen] at w1 w2 w3 w4
      simp [l8, kk, t1, w1, w2, w3]
      exact w4
    · obtain ⟨G5, w1, w2, w3, w4⟩ := fin G2 g l cs B g2 z3 e5 q5 z6 (hR5.up (by omega)) (fun b hb hbr => by rw [hS5.2 b (by omega) hbr, z8 b hb hbr]) (by omega)
      simp [hy0, w1, w2, w3]
      exact w4
end
end Go.Proofs.YtfgedlbkgcejhaaGreat.AM
namespace Go.Proofs.YtfgedlbkgcejhaaGreat.AM
set_option linter.unusedSimpArgs false
set_option linter.unusedVariables false
set_option maxRecDepth 100000
set_option maxHeartbeats 2000000
open Go
attribute [-simp] AM.elems
def w0 (p : Pg) : Wd := if vaPg p = true then newW p else zeroW
theorem w0_bo {p : Pg} (h : ∀ f ∈ p.tasks, ctS f ≤ 1000) : boW (w0 p) 850000 ∧ (w0 p).boxes.length ≤ 3 := by
  unfold w0
  split
  · rename_i hv
    obtain ⟨h1, h2⟩ := newW_ok hv
    refine ⟨⟨fun t ht => ⟨?_, by have := h2 t ht; omega⟩, by simp [newW]⟩, (vaBs_facts (vaWd_iff.1 h1).2.2.1).1⟩
    simp only [newW, List.mem_map] at ht
    obtain ⟨f, hf, rfl⟩ := ht
    have := h f hf
    simp only; omega
  · exact ⟨⟨fun t ht => by simp [zeroW] at ht, by simp [zeroW]⟩, by simp [zeroW]⟩
theorem runF_bo {w : Wd} {n : Int} {m : Nat} (h : boW w (n.toNat + m)) (hb : w.boxes.length ≤ 3) : boW (runF n w).1 m ∧ (runF n w).1.boxes.length ≤ 3 := by
  unfold runF
  split
  · rename_i hv
    obtain ⟨a1, a2, a3, a4, ⟨p, a5, a6⟩, a7⟩ := runW_keeps n.toNat hv.1
    have hu := a7 4000 (fun t ht => (h.1 t ht).2)
    have ho := h.2
    simp only
    refine ⟨⟨fun t ht => ⟨?_, hu t ht⟩, ?_⟩, by omega⟩
    · have := (show smW (runW n.toNat w) from ⟨a1, hu, by rw [a5, List.length_append]; omega⟩).task ht
      omega
    · rw [a5, List.length_append]; omega
  · exact ⟨⟨fun t ht => by simp [zeroW] at ht, by have := h.2; simp [zeroW]; omega⟩, by simp [zeroW]⟩
theorem WC.st {base r : Nat} {H H' : AH} {c : List AV} {t : Wd} (h : WC (fun b => base ≤ b) H c t) (k : St r H H') (hr : r < base) : WC (fun b => base ≤ b) H' c t := h.mono k.1 (fun b hb hb2 => k.2 b hb2 (by omega)) (fun _ h _ => h)
theorem WX.st {base r : Nat} {H H' : AH} {c : List AV} {t : Wd} (h : WX (fun b => base ≤ b) H c t) (k : St r H H') (hr : r < base) : WX (fun b => base ≤ b) H' c t := h.mono k.1 (fun b hb hb2 => k.2 b hb2 (by omega)) (fun _ h _ => h)
section
variable {H : AH} {K : AV → AH → Prop} {r : Nat} {w : Fk K} {m boxes : Int}
theorem K_sl92World (h : Rdx H r m) (hm : m ≤ 300000000000)
    (k : ∀ c w H', WC (fun b => H.n ≤ b) H' c w → boW w 800000 → w.boxes.length ≤ 3 → Rdx H' r (m + 700000) → St r H H' → K (.agg c) H') : CallF Cd f_sl92World [.ptr r 0] H K w := by
  rw [CallF_eq e_sl92World rfl]
  have hr := h.lt
  simp
  refine K_sl92Program h.push (by omega) fun cp p H1 pc hct hR1 hS1 => ?_
  have n1 := hS1.1
  simp only [push_n] at n1
  obtain ⟨bo0, bx0⟩ := w0_bo hct
  obtain ⟨vr, vt, rfl, _, _⟩ := id pc
  simp
  refine K_sWorldNew pc (fun f hf => by have := hct f hf; omega) fun c1 H2 wc1 x1 => ?_
  rw [show (if vaPg p = true then newW p else zeroW) = w0 p from rfl] at wc1
  generalize w0 p = w1 at *
  have n2 := x1.1
  obtain ⟨vt1, vb1, vo1, rfl, _, _, _⟩ := id wc1
  simp [store_push5e, loadN_push]
  refine P_pick (hR1.ext x1).push (by omega) (by omega) fun x H3 hx hR3 hS3 => ?_
  have n3 := hS3.1
  simp only [push_n] at n3
  have wc3 := (wc1.ext (Ext.push H2 [vt1, vb1, .I w1.turn, .I w1.idle, vo1])).st hS3 (by omega)
  have qk : H3.bk H2.n = some ⟨[vt1, vb1, .I w1.turn, .I w1.idle, vo1], true⟩ := hS3.at (by simp) (by omega) push_new
  simp [qk]
  obtain ⟨N, hN⟩ : ∃ N : Nat, N = 810000 := ⟨_, rfl⟩
  have bo1 : boW w1 (x.toNat + N) := ⟨bo0.1, by have := bo0.2; omega⟩
  obtain ⟨bo2, bx2⟩ := runF_bo (n := x) bo1 bx0
  refine K_sWorldRunX wc3 (fun t ht => (bo1.1 t ht).1) (fun _ => ⟨bo1.1, by have := bo1.2; omega⟩) fun c2 H4 wx4 x4 => ?_
  generalize (runF x w1).1 = w2 at *
  have n4 := x4.1
  obtain ⟨vt2, vb2, vo2, _, rfl, _, _, _, _⟩ := id wx4
  simp [x4, store_push5e, loadN_push]
  have S01 : St r H H1 := (Ext.push H _).st.trans hS1
  have S02 : St r H H2 := S01.trans x1.st
  have S04 : St r H H4 := (S02.push.trans hS3).trans x4.st
  refine P_pick (hR3.ext x4).push (by omega) (by omega) fun y H5 hy hR5 hS5 => ?_
  have n5 := hS5.1
  simp only [push_n] at n5
  have wx5 : WX (fun b => H3.n ≤ b ∧ b < H4.n) H5 [vt2, vb2, .I w2.turn, .I w2.idle, vo2] w2 := ((wx4.mono (Nat.le_refl _) (fun _ _ _ => rfl) (fun b h1 h2 => (⟨h1, h2⟩ : H3.n ≤ b ∧ b < H4.n))).ext (Ext.push H4 _)).mono (by simp; omega) (fun b hb _ => hS5.2 b (by simp; omega) (by omega)) (fun _ h _ => h)
  have S05 : St r H H5 := S04.push.trans hS5
  have q5 : H5.bk H4.n = some ⟨[vt2, vb2, .I w2.turn, .I w2.idle, vo2], true⟩ := hS5.at (by simp) (by omega) push_new
  have qR : H5.bk H.n = some ⟨[.nils, .nils, .I 0, .I 0, .nils], true⟩ := hS5.at (by simp; omega) (by omega) (push_old (by omega) ((x4.2 _ (by omega)).trans (hS3.at (by simp; omega) (by omega) (push_old (by omega) ((x1.2 _ (by omega)).trans (hS1.at (by simp) (by omega) push_new))))))
  have fin : ∀ (G : AH) (c3 : List AV) (w3 : Wd), G.bk H4.n = some ⟨c3, true⟩ → WC (fun b => H.n < b) G c3 w3 → boW w3 800000 → w3.boxes.length ≤ 3 → Rdx G r (m + 690000) → G.bk H.n = some ⟨[.nils, .nils, .I 0, .I 0, .nils], true⟩ → St r H G →
      ∃ G1, G.loadN H4.n 0 5 = some c3 ∧ G.store H.n 0 c3 = some G1 ∧ G1.loadN H.n 0 5 = some c3 ∧ K (.agg c3) G1 := by
    intro G c3 w3 z1 z2 z3 z4 z5 z6 z7
    obtain ⟨a, b, c, rfl, _, _, _⟩ := id z2
    refine ⟨_, by rw [loadN_bk z1]; rfl, store_five z6 rfl rfl, by rw [loadN_bk put_same]; rfl, ?_⟩
    exact k _ w3 _ (z2.mono (by simp) (fun b hb _ => by rw [put_bk, if_neg (by omega)]) (fun b hb _ => by omega)) z3 z4 ((z5.put (by omega)).up (by omega)) (z7.put_new (Nat.le_refl _))
  have hlt := wx5
  obtain ⟨vt5, vb5, vo5, OB, e5, t5, b5, g5, o5⟩ := wx5
  simp only [List.cons.injEq, and_true, true_and] at e5
  obtain ⟨rfl, rfl, rfl⟩ := e5
  have tb : TV (fun b => H.n < b ∧ b < H4.n) H5 vt2 w2.tasks := t5.mono (Nat.le_refl _) (fun _ _ _ => rfl) (fun b hb _ => by omega)
  have bb : BV (fun b => H.n < b ∧ b < H4.n) H5 vb2 w2.boxes := b5.mono (Nat.le_refl _) (fun _ _ _ => rfl) (fun b hb _ => by omega)
  have ib : IV (fun b => H.n < b ∧ b < H4.n) H5 vo2 w2.out := by
    obtain ⟨a, b, c, e, _, _, z⟩ := hlt.wc
    simp only [List.cons.injEq, and_true, true_and] at e
    obtain ⟨_, _, rfl⟩ := e
    exact z.mono (Nat.le_refl _) (fun _ _ _ => rfl) (fun b hb _ => by omega)
  have hbig := tb.big
  have bo3 : boW w2 800001 := ⟨bo2.1, by have := bo2.2; omega⟩
  have same : ∀ (G : AH), H5.n ≤ G.n → (∀ b, b < H4.n → b ≠ r → G.bk b = H5.bk b) → G.bk H.n = some ⟨[.nils, .nils, .I 0, .I 0, .nils], true⟩ ∧ St r H G ∧ TV (fun b => H.n < b) G vt2 w2.tasks ∧ BV (fun b => H.n < b) G vb2 w2.boxes ∧ IV (fun b => H.n < b) G vo2 w2.out := by
    intro G hn hk
    have kk : ∀ b, H.n < b ∧ b < H4.n → b < H5.n → G.bk b = H5.bk b := fun b hb _ => hk b hb.2 (by omega)
    exact ⟨(hk _ (by omega) (by omega)).trans qR, ⟨by have := S05.1; omega, fun b hb hbr => (hk b (by omega) hbr).trans (S05.2 b hb hbr)⟩, tb.mono hn kk (fun _ h _ => h.1), bb.mono hn kk (fun _ h _ => h.1), ib.mono hn kk (fun _ h _ => h.1)⟩
  simp
  by_cases y0 : y = 0
  · have st := store_cell (v := .I w2.tasks.length) q5 (o := 2) (by simp)
    simp only [List.set_cons_succ, List.set_cons_zero] at st
    simp [y0, load_bk q5, tb.alen, st]
    obtain ⟨s1, s2, s3, s4, s5⟩ := same (H5.put H4.n (some ⟨[vt2, vb2, .I w2.tasks.length, .I w2.idle, vo2], true⟩)) (by simp) (fun b hb _ => by rw [put_bk, if_neg (by omega)])
    obtain ⟨G1, u1, u2, u3, u4⟩ := fin _ _ ⟨w2.tasks, w2.boxes, w2.tasks.length, w2.idle, w2.out⟩ put_same ⟨_, _, _, rfl, s3, s4, s5⟩ ⟨bo3.1, by have := bo3.2; simp only; omega⟩ bx2 ((hR5.put (by omega)).up (by omega)) s1 s2
    simp [u1, u2, u3]
    exact u4
  by_cases y1 : y = 1
  · simp (disch := omega) [y1, load_bk q5, tb.alen]
    refine P_pick hR5.push (by omega) (by omega) fun z H6 hz hR6 hS6 => ?_
    have n6 := hS6.1
    simp only [push_n] at n6
    obtain ⟨q, hq, eq⟩ := @Ints_get [-1, (w2.tasks.length : Int) + 1] z 2 (by omega) rfl
    have eb : H6.bk H5.n = some ⟨Ints [-1, (w2.tasks.length : Int) + 1], true⟩ := hS6.at (by simp) (by omega) (by simp; rfl)
    have q6 : H6.bk H4.n = some ⟨[vt2, vb2, .I w2.turn, .I w2.idle, vo2], true⟩ := hS6.at (by simp; omega) (by omega) (push_old (by omega) q5)
    have st := store_cell (v := .I q) q6 (o := 3) (by simp)
    simp only [List.set_cons_succ, List.set_cons_zero] at st
    have k5 : (H5.push [.I (-1), .I ((w2.tasks.length : Int) + 1)]).bk H4.n = some ⟨[vt2, vb2, .I w2.turn, .I w2.idle, vo2], true⟩ := push_old (by omega) q5
    have k55 : (H5.push [.I (-1), .I ((w2.tasks.length : Int) + 1)]).bk H5.n = some ⟨Ints [-1, (w2.tasks.length : Int) + 1], true⟩ := push_new
    have hne : ¬ H4.n = H5.n := by omega
    simp (disch := omega) [load_eq, eb, eq, q6, q5, k5, k55, st, hne]
    obtain ⟨s1, s2, s3, s4, s5⟩ := same (H6.put H4.n (some ⟨[vt2, vb2, .I w2.turn, .I q, vo2], true⟩)) (by simp; omega) (fun b hb hbr => by rw [put_bk, if_neg (by omega), hS6.2 b (by simp; omega) hbr]; exact push_old (by omega) rfl)
    obtain ⟨G1, u1, u2, u3, u4⟩ := fin _ _ ⟨w2.tasks, w2.boxes, w2.turn, q, w2.out⟩ put_same ⟨_, _, _, rfl, s3, s4, s5⟩ ⟨bo3.1, by have := bo3.2; simp only; omega⟩ bx2 ((hR6.put (by omega)).up (by omega)) s1 s2
    simp [u1, u2, u3]
    exact ⟨rfl, u4⟩
  by_cases y2 : y = 2
  · have q6 : (H5.push []).bk H4.n = some ⟨[vt2, vb2, .I w2.turn, .I w2.idle, vo2], true⟩ := push_old (by omega) q5
    have st := store_cell (v := .sl H5.n 0 0 (.ex 0)) q6 (o := 1) (by simp)
    simp only [List.set_cons_succ, List.set_cons_zero] at st
    simp [y2, st]
    obtain ⟨s1, s2, s3, s4, s5⟩ := same ((H5.push []).put H4.n (some ⟨[vt2, .sl H5.n 0 0 (.ex 0), .I w2.turn, .I w2.idle, vo2], true⟩)) (by simp) (fun b hb _ => by rw [put_bk, if_neg (by omega)]; exact push_old (by omega) rfl)
    have qe : ((H5.push []).put H4.n (some ⟨[vt2, .sl H5.n 0 0 (.ex 0), .I w2.turn, .I w2.idle, vo2], true⟩)).bk H5.n = some ⟨[], true⟩ := by rw [put_bk, if_neg (by omega)]; exact push_new
    have be : BV (fun b => H.n < b) ((H5.push []).put H4.n (some ⟨[vt2, .sl H5.n 0 0 (.ex 0), .I w2.turn, .I w2.idle, vo2], true⟩)) (.sl H5.n 0 0 (.ex 0)) [] :=
      ⟨[], ⟨by simp, rfl, .inr ⟨H5.n, 0, _, rfl, ⟨by omega, by simp [capOk]⟩, by simp, by rw [loadN_bk qe]; rfl⟩⟩, rfl⟩
    obtain ⟨G1, u1, u2, u3, u4⟩ := fin _ _ ⟨w2.tasks, [], w2.turn, w2.idle, w2.out⟩ put_same ⟨_, _, _, rfl, s3, be, s5⟩ ⟨bo3.1, by have := bo3.2; simp only; omega⟩ (by simp) ((hR5.push.put (by omega)).up (by omega)) s1 s2
    simp [u1, u2, u3]
    exact u4
  by_cases y3 : y = 3
  · have x6 := Ext.push H5 [.I (-2147483649)]
    have ho := bo3.2
    obtain ⟨g', G', B', a1, a2, a3, a4⟩ := (g5.ext x6).app (by simp) (k := 1) (new := [.I (-2147483649)]) rfl (by omega)
    have n7 := a4.1
    simp only [push_n] at n7 a3
    have hgB : ∀ b, b ∈ grB vo2 OB → b = OB ∧ H.n < OB ∧ OB < H4.n := fun b hb => by
      have h1 := (g5.mem hb).1
      refine ⟨h1, ?_⟩
      rcases o5 with q | q
      · subst q; simp [grB] at hb
      · omega
    have hk : ∀ b, b < H5.n → b ≠ OB ∨ b ≤ H.n ∨ H4.n ≤ b → G'.bk b = H5.bk b := fun b hb hb2 => (a4.2 b (by simp; omega) (fun hq => by have := hgB b hq; omega)).trans (push_old hb rfl)
    have q7 : G'.bk H4.n = some ⟨[vt2, vb2, .I w2.turn, .I w2.idle, vo2], true⟩ := (hk _ (by omega) (by omega)).trans q5
    have st := store_cell (v := g') q7 (o := 4) (by simp)
    simp only [List.set_cons_succ, List.set_cons_zero] at st
    have f7 := a2.flat
    simp [y3, load_bk q5, AM.elems, loadN_push, a1, flat_cells f7, flat_tup f7, st]
    have hk2 : ∀ b, b ≠ OB ∨ b ≤ H.n → b < H4.n → (G'.put H4.n (some ⟨[vt2, vb2, .I w2.turn, .I w2.idle, g'], true⟩)).bk b = H5.bk b := fun b h1 h2 => by rw [put_bk, if_neg (by omega), hk b (by omega) (by omega)]
    have hB' : (B' = OB ∧ H.n < OB ∧ OB < H4.n) ∨ B' = H5.n + 1 := by
      rcases a3 with q | q
      · exact .inl ⟨q.1, (hgB _ q.2).2⟩
      · exact .inr q
    have e8 : Ints w2.out ++ [AV.I (-2147483649)] = Ints (w2.out ++ [-2147483649]) := by simp [Ints]
    have a2' := a2
    rw [e8] at a2'
    have g8 : GrS 0 (G'.put H4.n (some ⟨[vt2, vb2, .I w2.turn, .I w2.idle, g'], true⟩)) g' (w2.out ++ [-2147483649]).length 1 (Ints (w2.out ++ [-2147483649])) B' := by
      rw [List.length_append]
      exact a2'.only (bs := [H4.n]) (Only.refl.put (by simp)) (fun b hb => .inr (by simp at hb; omega))
    obtain ⟨G1, u1, u2, u3, u4⟩ := fin (G'.put H4.n (some ⟨[vt2, vb2, .I w2.turn, .I w2.idle, g'], true⟩)) _ ⟨w2.tasks, w2.boxes, w2.turn, w2.idle, w2.out ++ [-2147483649]⟩ put_same
      ⟨_, _, _, rfl, t5.mono (by simp; omega) (fun b hb _ => hk2 b (.inl hb.2) hb.1.2) (fun b hb _ => by omega), b5.mono (by simp; omega) (fun b hb _ => hk2 b (.inl hb.2) hb.1.2) (fun b hb _ => by omega), g8.ivB (fun _ _ => by omega)⟩
      ⟨bo3.1, by simp; omega⟩ bx2 (((hR5.same (by omega) fun b hb => hk b (by omega) (by omega)).put (by omega)).up (by omega)) ((hk2 _ (.inr (Nat.le_refl _)) (by omega)).trans qR) ⟨by have := S05.1; simp; omega, fun b hb hbr => (hk2 b (.inr (by omega)) (by omega)).trans (S05.2 b hb hbr)⟩
    simp [u1, u2, u3]
    exact u4
  · obtain ⟨s1, s2, s3, s4, s5⟩ := same H5 (Nat.le_refl _) (fun _ _ _ => rfl)
    obtain ⟨G1, u1, u2, u3, u4⟩ := fin H5 _ w2 q5 ⟨_, _, _, rfl, s3, s4, s5⟩ ⟨bo3.1, by have := bo3.2; omega⟩ bx2 (hR5.up (by omega)) s1 s2
    simp [y0, y1, y2, y3, u1, u2, u3]
    exact u4
end
end Go.Proofs.YtfgedlbkgcejhaaGreat.AM
namespace Go.Proofs.YtfgedlbkgcejhaaGreat.AM
set_option linter.unusedSimpArgs false
set_option linter.unusedVariables false
set_option maxRecDepth 100000
set_option maxHeartbeats 2000000
open Go
attribute [-simp] AM.elems
section
variable {H : AH} {K : AV → AH → Prop} {w : Fk K}
theorem K_sDrawWorldStep {v : AV} {zs : List Int} (h : SlI H .u8 v zs) (hz : ∀ n ∈ zs, 0 ≤ n ∧ n < 256) (hl : zs.length ≤ 1048576)
    (k : ∀ c w H', WC (fun _ => True) H' c w → boW w 800000 → w.boxes.length ≤ 3 → K (.agg c) H') : CallF Cd f_sDrawWorldStep [v] H K w := by
  rw [CallF_eq e_sDrawWorldStep rfl]
  simp
  refine K_l6Open (SlI.ext h (Ext.push _ _)) hz hl fun H0 hR0 hS0 => ?_
  have hR0 : Rdx H0 (H.n + 1) 0 := ⟨0, by omega, by omega, by simpa using hR0⟩
  have n0 := hS0.1
  simp only [push_n] at n0
  have qR : H0.bk H.n = some ⟨[.nils, .nils, .I 0, .I 0, .nils], true⟩ := hS0.at (by simp) (by simp) push_new
  have hr0 := hR0.lt
  simp
  refine K_sl92World hR0 (by omega) fun c w1 H1 wc bo bx hR1 hS1 => ?_
  have n1 := hS1.1
  obtain ⟨vt, vb, vo, rfl, _, _, _⟩ := id wc
  have q1 : H1.bk H.n = some ⟨[.nils, .nils, .I 0, .I 0, .nils], true⟩ := hS1.at (by omega) (by omega) qR
  have st := store_five q1 (l := [vt, vb, .I w1.turn, .I w1.idle, vo]) rfl rfl
  simp [st, loadN_bk put_same]
  exact k _ w1 _ (wc.mono (by simp) (fun b hb _ => by rw [put_bk, if_neg (by omega)]) (fun _ _ _ => trivial)) bo bx
theorem K_sDrawWorldRun {v : AV} {zs : List Int} (h : SlI H .u8 v zs) (hz : ∀ n ∈ zs, 0 ≤ n ∧ n < 256) (hl : zs.length ≤ 1048576)
    (k : ∀ c w n H', WC (fun _ => True) H' c w → boW w 800000 → w.boxes.length ≤ 3 → n = -1 ∨ n = 100001 ∨ (0 ≤ n ∧ n < 60) → K (.tup [.agg c, .I n]) H') : CallF Cd f_sDrawWorldRun [v] H K w := by
  rw [CallF_eq e_sDrawWorldRun rfl]
  simp
  refine K_l6Open (SlI.ext h (Ext.push _ _)) hz hl fun H0 hR0 hS0 => ?_
  have hR0 : Rdx H0 (H.n + 1) 0 := ⟨0, by omega, by omega, by simpa using hR0⟩
  have n0 := hS0.1
  simp only [push_n] at n0
  have qR : H0.bk H.n = some ⟨[.nils, .nils, .I 0, .I 0, .nils], true⟩ := hS0.at (by simp) (by simp) push_new
  have hr0 := hR0.lt
  simp
  refine K_sl92World hR0 (by omega) fun c w1 H1 wc bo bx hR1 hS1 => ?_
  have n1 := hS1.1
  obtain ⟨vt, vb, vo, rfl, _, _, _⟩ := id wc
  have q1 : H1.bk H.n = some ⟨[.nils, .nils, .I 0, .I 0, .nils], true⟩ := hS1.at (by omega) (by omega) qR
  simp [store_push5e]
  refine P_pick hR1.push (by omega) (by omega) fun y H2 hy hR2 hS2 => ?_
  have n2 := hS2.1
  simp only [push_n] at n2
  have wc2 := (wc.ext (Ext.push H1 [vt, vb, .I w1.turn, .I w1.idle, vo])).st hS2 (by omega)
  have q2 : H2.bk H1.n = some ⟨[vt, vb, .I w1.turn, .I w1.idle, vo], true⟩ := hS2.at (by simp) (by omega) push_new
  have qR2 : H2.bk H.n = some ⟨[.nils, .nils, .I 0, .I 0, .nils], true⟩ := hS2.at (by simp; omega) (by omega) (push_old (by omega) q1)
  simp
  by_cases y0 : y = 0
  · simp [y0, loadN_bk q2]
    refine P_pick hR2.push (by omega) (by omega) fun z H3 hz hR3 hS3 => ?_
    have n3 := hS3.1
    simp only [push_n] at n3
    have x3 := Ext.push H2 [.I (-1), .I 100001]
    obtain ⟨q, hq, eq⟩ := @Ints_get [-1, 100001] z 2 (by omega) rfl
    have eb : H3.bk H2.n = some ⟨Ints [-1, 100001], true⟩ := hS3.at (by simp) (by omega) (by simp; rfl)
    have k5 : (H2.push [.I (-1), .I 100001]).bk H1.n = some ⟨[vt, vb, .I w1.turn, .I w1.idle, vo], true⟩ := push_old (by omega) q2
    have k55 : (H2.push [.I (-1), .I 100001]).bk H2.n = some ⟨Ints [-1, 100001], true⟩ := push_new
    have q3 : H3.bk H1.n = some ⟨[vt, vb, .I w1.turn, .I w1.idle, vo], true⟩ := hS3.at (by simp; omega) (by omega) k5
    have qR3 : H3.bk H.n = some ⟨[.nils, .nils, .I 0, .I 0, .nils], true⟩ := hS3.at (by simp; omega) (by omega) (push_old (by omega) qR2)
    have st := store_five qR3 (l := [vt, vb, .I w1.turn, .I w1.idle, vo]) rfl rfl
    have wc3 := (wc2.ext x3).st hS3 (by omega)
    have hne : ¬ H1.n = H2.n := by omega
    have hne2 : ¬ H2.n = H.n := by omega
    simp (disch := omega) [load_eq, eb, eq, q3, q2, k5, k55, st, hne, hne2, loadN_bk put_same, put_bk]
    have hk := k _ w1 q (H3.put H.n (some ⟨[vt, vb, .I w1.turn, .I w1.idle, vo], true⟩)) (wc3.mono (by simp) (fun b hb _ => by rw [put_bk, if_neg (by omega)]) (fun _ _ _ => trivial)) bo bx (by simp at hq; omega)
    exact ⟨rfl, hk⟩
  · simp [y0, loadN_bk q2]
    refine P_pick hR2 (by omega) (by omega) fun z H3 hz hR3 hS3 => ?_
    have n3 := hS3.1
    have q3 : H3.bk H1.n = some ⟨[vt, vb, .I w1.turn, .I w1.idle, vo], true⟩ := hS3.at (by omega) (by omega) q2
    have qR3 : H3.bk H.n = some ⟨[.nils, .nils, .I 0, .I 0, .nils], true⟩ := hS3.at (by omega) (by omega) qR2
    have st := store_five qR3 (l := [vt, vb, .I w1.turn, .I w1.idle, vo]) rfl rfl
    have wc3 := wc2.st hS3 (by omega)
    simp (disch := omega) [q3, q2, st, loadN_bk put_same]
    exact k _ w1 z (H3.put H.n (some ⟨[vt, vb, .I w1.turn, .I w1.idle, vo], true⟩)) (wc3.mono (by simp) (fun b hb _ => by rw [put_bk, if_neg (by omega)]) (fun _ _ _ => trivial)) bo bx (by omega)
end
end Go.Proofs.YtfgedlbkgcejhaaGreat.AM
namespace Go.Proofs.YtfgedlbkgcejhaaGreat.AM
set_option linter.unusedSimpArgs false
set_option linter.unusedVariables false
set_option maxRecDepth 100000
set_option maxHeartbeats 2000000
open Go
attribute [-simp] AM.elems
theorem runW_rest {w : Wd} (h : ¬ w.idle < w.tasks.length) : ∀ n, runW n w = w
  | 0 => rfl
  | n + 1 => by unfold runW; rw [if_neg h]
theorem runW_add (a : Nat) : ∀ (b : Nat) (w : Wd), runW b (runW a w) = runW (a + b) w := by
  induction a with
  | zero => intro b w; rw [Nat.zero_add]; rfl
  | succ a ih =>
    intro b w
    rw [Nat.succ_add]
    by_cases h : w.idle < w.tasks.length
    · rw [show runW (a + 1) w = runW a (stepW w) by conv => lhs; unfold runW
                                                    rw [if_pos h], ih]
      conv => rhs; unfold runW
      rw [if_pos h]
    · rw [runW_rest h, runW_rest h, runW_rest h]
theorem T_wfirstInts {o1 o2 : Nat → Prop} {H : AH} {K : AV → AH → Prop} {w : Fk K} {va vp : AV} {l p : List Int} (ha : IV o1 H va (l ++ p)) (hp : IV o2 H vp l) (k : K (.b true) H) : CallF Cd f_wfirstInts [va, vp] H K w := by
  rw [CallF_eq e_wfirstInts rfl]
  have hle : (l.length : Int) ≤ (l.length : Int) + (p.length : Int) := by omega
  obtain ⟨v', e1, e2, e3⟩ := SlC.part ha (i := 0) (j := l.length) (Nat.zero_le _) (by rw [List.length_append]; omega) (by omega) (lo := none) (hi := some (.I l.length)) rfl (by simp [bnd, aint])
  have e4 : (List.take ((l.length - 0) * 1) (List.drop (0 * 1) (Ints (l ++ p)))) = Ints l := by simp [Ints]
  rw [e4] at e2
  have i2 : IV o1 H v' l := e2
  simp [SlC.alen ha, SlC.alen hp, hle, e1]
  exact T_wsameInts i2.sees hp.sees (by simpa using k)
/-- The bounds of a drawn world. -/
theorem boW.ct {w : Wd} {n : Nat} (h : boW w n) : ∀ t ∈ w.tasks, ctS t.rest ≤ 100000 := fun t ht => (h.1 t ht).1
theorem boW.run {w : Wd} {n m : Nat} (h : boW w (n + m)) (hv : vaWd w = true) : boW (runW n w) m := by
  obtain ⟨a1, a2, a3, a4, ⟨p, a5, a6⟩, a7⟩ := runW_keeps n hv
  have hu := a7 4000 (fun t ht => (h.1 t ht).2)
  have ho := h.2
  refine ⟨fun t ht => ⟨?_, hu t ht⟩, by rw [a5, List.length_append]; omega⟩
  have := (show smW (runW n w) from ⟨a1, hu, by rw [a5, List.length_append]; omega⟩).task ht
  omega
theorem boW.le {w : Wd} {n m : Nat} (h : boW w n) (hm : m ≤ n) : boW w m := ⟨h.1, by have := h.2; omega⟩
end Go.Proofs.YtfgedlbkgcejhaaGreat.AM
namespace Go.Proofs.YtfgedlbkgcejhaaGreat.AM
set_option linter.unusedSimpArgs false
set_option linter.unusedVariables false
set_option maxRecDepth 100000
set_option maxHeartbeats 2000000
open Go
attribute [-simp] AM.elems
theorem law_FnWorldStep {H : AH} {v : AV} {zs : List Int} (h : SlI H .u8 v zs) (hz : ∀ n ∈ zs, 0 ≤ n ∧ n < 256) : CallK Cd f_wFnWorldStep [v] H fun v _ => v = .b true := by
  rw [CallK_F, CallF_eq e_wFnWorldStep rfl]
  have hlen : alen v = some zs.length := by
    rcases h with ⟨rfl, rfl⟩ | ⟨rfl, rfl⟩ | ⟨b, rest, hb, rfl, hb2⟩ <;> rfl
  simp [hlen]
  refine cnd_mk (fun _ => by simp) (fun hl => ?_)
  simp
  refine K_sDrawWorldStep h hz (by omega) fun c w H1 wc bo bx => ?_
  have bok := bo.2
  obtain ⟨vt, vb, vo, rfl, _, _, _⟩ := id wc
  simp [store_push5e, loadN_push]
  have x1 := Ext.push H1 [vt, vb, .I w.turn, .I w.idle, vo]
  refine K_iWorldStep (wc.ext x1) bo.ct (by omega) (bo.le (by omega)) (by omega) fun c2 H2 wc2 x2 => ?_
  have hF : (vaWd w = true ∧ 0 ≤ (1:Int) ∧ (1:Int) ≤ 100000) ∧ runF (1:Int) w = (runW ((1:Int)).toNat w, true) ∨ runF (1:Int) w = (zeroW, false) := by
    unfold runF
    split
    · rename_i hh; exact .inl ⟨hh, rfl⟩
    · exact .inr rfl
  have y2 := x1.trans x2
  have n2 := y2.1
  obtain ⟨vt2, vb2, vo2, rfl, _, _, _⟩ := id wc2
  have q3 : H2.bk H1.n = some ⟨[vt, vb, .I w.turn, .I w.idle, vo], true⟩ := (x2.2 _ (by simp)).trans push_new
  have n3 : H1.n < H2.n := by have := x2.1; simp at this; omega
  have x3 := Ext.push H2 [vt2, vb2, .I (runF (1:Int) w).1.turn, .I (runF (1:Int) w).1.idle, vo2]
  have q3' : (H2.push [vt2, vb2, .I (runF (1:Int) w).1.turn, .I (runF (1:Int) w).1.idle, vo2]).bk H1.n = some ⟨[vt, vb, .I w.turn, .I w.idle, vo], true⟩ := (x3.2 _ n3).trans q3
  simp [store_push5e, loadN_bk q3']
  refine K_sWorldStep (wc.ext (y2.trans x3)) bo.ct (bo.le (by omega)) fun c4 H4 wc4 x4 => ?_
  obtain ⟨vt4, vb4, vo4, rfl, _, _, _⟩ := id wc4
  have y4 := x3.trans x4
  have x5 := Ext.push H4 [vt4, vb4, .I (runF (1:Int) w).1.turn, .I (runF (1:Int) w).1.idle, vo4]
  have n4 : H2.n < H4.n := by have := x4.1; simp at this; omega
  have q5 : (H4.push [vt4, vb4, .I (runF (1:Int) w).1.turn, .I (runF (1:Int) w).1.idle, vo4]).bk H2.n = some ⟨[vt2, vb2, .I (runF (1:Int) w).1.turn, .I (runF (1:Int) w).1.idle, vo2], true⟩ := (x5.2 _ n4).trans ((x4.2 _ (by simp)).trans push_new)
  simp [store_push5e, loadN_bk q5, loadN_push]
  refine T_wsameWorld (wc2.ext (y4.trans x5)) (wc4.ext x5) fun H7 x7 => ?_
  have z7 := x5.trans x7
  have z2 := y4.trans z7
  have z1 := y2.trans z2
  have hn7 : H1.n < H7.n ∧ H2.n < H7.n ∧ H1.n < H2.n := by have := z7.1; omega
  have p3 : H7.bk H1.n = some ⟨[vt, vb, .I w.turn, .I w.idle, vo], true⟩ := (z2.2 _ n3).trans q3
  have p5 : H7.bk H2.n = some ⟨[vt2, vb2, .I (runF (1:Int) w).1.turn, .I (runF (1:Int) w).1.idle, vo2], true⟩ := (x7.2 _ (by simp; omega)).trans q5
  have p7 : H7.bk H4.n = some ⟨[vt4, vb4, .I (runF (1:Int) w).1.turn, .I (runF (1:Int) w).1.idle, vo4], true⟩ := (x7.2 _ (by simp)).trans push_new
  have wc7 := wc.ext z1
  have wc27 := wc2.ext z2
  have wc47 := wc4.ext z7
  clear z1 z2 z7 y2 y4 x2 x4 x7 x5 x3 x1 wc wc2 wc4 q3 q3' q5 n2 n3 n4 h
  generalize runF (1:Int) w = F at *
  rcases hF with ⟨hv, rfl⟩ | rfl
  case inr =>
    simp [loadN_bk p5, loadN_bk p7]
    exact T_wsameWorld wc27 wc47 fun H8 x8 => by simp
  simp
  obtain ⟨hva, _, _⟩ := hv
  have hk := runW_keeps 1 hva
  have hbo2 := (boW.run (n := 1) (m := 700000) (bo.le (by omega)) hva)
  simp only [show (1 : Int).toNat = 1 from rfl] at *
  simp [loadN_bk p5]
  refine K_iWorldValid (w := runW 1 w) wc27 hbo2.ct (by omega) fun H8 x8 => ?_
  have p3' := (x8.2 _ hn7.1).trans p3
  have p5' := (x8.2 _ hn7.2.1).trans p5
  obtain ⟨_, _, _, e, _, _, i2⟩ := id wc27
  simp only [List.cons.injEq, and_true, true_and] at e
  obtain ⟨rfl, rfl, rfl⟩ := e
  obtain ⟨_, _, _, e, _, _, i1⟩ := id wc7
  simp only [List.cons.injEq, and_true, true_and] at e
  obtain ⟨rfl, rfl, rfl⟩ := e
  obtain ⟨p, hp, hpl⟩ := hk.2.2.2.2.1
  rw [hp] at i2
  have hal2 := (i2.ext x8).alen
  have hal1 := (i1.ext x8).alen
  rw [List.length_append] at hal2
  rw [hk.1]
  simp [load_bk p5', load_bk p3']
  refine T_wfirstInts (i2.ext x8) (i1.ext x8) ?_
  have hle : (w.out.length : Int) + p.length ≤ w.out.length + 1 := by omega
  simp (disch := omega) [hal1, hal2, load_bk p5', load_bk p3', hle]
end Go.Proofs.YtfgedlbkgcejhaaGreat.AM
namespace Go.Proofs.YtfgedlbkgcejhaaGreat.AM
set_option linter.unusedSimpArgs false
set_option linter.unusedVariables false
set_option maxRecDepth 100000
set_option maxHeartbeats 2000000
open Go
attribute [-simp] AM.elems
theorem law_FnWorldRun {H : AH} {v v2 : AV} {zs zs2 : List Int} (h : SlI H .u8 v zs) (hz : ∀ n ∈ zs, 0 ≤ n ∧ n < 256) (h2 : SlI H .u8 v2 zs2) (hz2 : ∀ n ∈ zs2, 0 ≤ n ∧ n < 256) : CallK Cd f_wFnWorldRun [v, v2] H fun v _ => v = .b true := by
  rw [CallK_F, CallF_eq e_wFnWorldRun rfl]
  have hlen : alen v = some zs.length := by
    rcases h with ⟨rfl, rfl⟩ | ⟨rfl, rfl⟩ | ⟨b, rest, hb, rfl, hb2⟩ <;> rfl
  have hlen2 : alen v2 = some zs2.length := by
    rcases h2 with ⟨rfl, rfl⟩ | ⟨rfl, rfl⟩ | ⟨b, rest, hb, rfl, hb2⟩ <;> rfl
  simp [hlen, hlen2]
  by_cases hl1 : (1048576 : Int) < zs.length
  · simp [hl1]
  simp [hl1, hlen2]
  by_cases hl2 : (1048576 : Int) < zs2.length
  · simp [hl2]
  have hl : ¬ 1048576 < zs.length := by omega
  simp [hl2]
  refine K_sDrawWorldRun h hz (by omega) fun c w n H1 wc bo bx hdn => ?_
  have bok := bo.2
  obtain ⟨vt, vb, vo, rfl, _, _, _⟩ := id wc
  simp [store_push5e, loadN_push]
  have x1 := Ext.push H1 [vt, vb, .I w.turn, .I w.idle, vo]
  refine K_iWorldRun (wc.ext x1) bo.ct (by omega) (fun hn => ⟨bo.1, by omega⟩) (by omega) fun c2 H2 wc2 x2 => ?_
  have hF : (vaWd w = true ∧ 0 ≤ n ∧ n ≤ 100000) ∧ runF n w = (runW (n).toNat w, true) ∨ runF n w = (zeroW, false) := by
    unfold runF
    split
    · rename_i hh; exact .inl ⟨hh, rfl⟩
    · exact .inr rfl
  have y2 := x1.trans x2
  have n2 := y2.1
  obtain ⟨vt2, vb2, vo2, rfl, _, _, _⟩ := id wc2
  have q3 : H2.bk H1.n = some ⟨[vt, vb, .I w.turn, .I w.idle, vo], true⟩ := (x2.2 _ (by simp)).trans push_new
  have n3 : H1.n < H2.n := by have := x2.1; simp at this; omega
  have x3 := Ext.push H2 [vt2, vb2, .I (runF n w).1.turn, .I (runF n w).1.idle, vo2]
  have q3' : (H2.push [vt2, vb2, .I (runF n w).1.turn, .I (runF n w).1.idle, vo2]).bk H1.n = some ⟨[vt, vb, .I w.turn, .I w.idle, vo], true⟩ := (x3.2 _ n3).trans q3
  simp [store_push5e, loadN_bk q3']
  refine K_sWorldRun (wc.ext (y2.trans x3)) bo.ct (fun hn => ⟨bo.1, by omega⟩) fun c4 H4 wc4 x4 => ?_
  obtain ⟨vt4, vb4, vo4, rfl, _, _, _⟩ := id wc4
  have y4 := x3.trans x4
  have x5 := Ext.push H4 [vt4, vb4, .I (runF n w).1.turn, .I (runF n w).1.idle, vo4]
  have n4 : H2.n < H4.n := by have := x4.1; simp at this; omega
  have q5 : (H4.push [vt4, vb4, .I (runF n w).1.turn, .I (runF n w).1.idle, vo4]).bk H2.n = some ⟨[vt2, vb2, .I (runF n w).1.turn, .I (runF n w).1.idle, vo2], true⟩ := (x5.2 _ n4).trans ((x4.2 _ (by simp)).trans push_new)
  simp [store_push5e, loadN_bk q5, loadN_push]
  refine T_wsameWorld (wc2.ext (y4.trans x5)) (wc4.ext x5) fun H7 x7 => ?_
  have z7 := x5.trans x7
  have z2 := y4.trans z7
  have z1 := y2.trans z2
  have hn7 : H1.n < H7.n ∧ H2.n < H7.n ∧ H1.n < H2.n := by have := z7.1; omega
  have p3 : H7.bk H1.n = some ⟨[vt, vb, .I w.turn, .I w.idle, vo], true⟩ := (z2.2 _ n3).trans q3
  have p5 : H7.bk H2.n = some ⟨[vt2, vb2, .I (runF n w).1.turn, .I (runF n w).1.idle, vo2], true⟩ := (x7.2 _ (by simp; omega)).trans q5
  have p7 : H7.bk H4.n = some ⟨[vt4, vb4, .I (runF n w).1.turn, .I (runF n w).1.idle, vo4], true⟩ := (x7.2 _ (by simp)).trans push_new
  have wc7 := wc.ext z1
  have wc27 := wc2.ext z2
  have wc47 := wc4.ext z7
  clear z1 z2 z7 y2 y4 x2 x4 x7 x5 x3 x1 wc wc2 wc4 q3 q3' q5 n2 n3 n4 h
  generalize runF n w = F at *
  rcases hF with ⟨hv, rfl⟩ | rfl
  case inr =>
    simp [loadN_bk p5, loadN_bk p7]
    exact T_wsameWorld wc27 wc47 fun H8 x8 => by simp
  simp
  obtain ⟨hva, hn0, hn1⟩ := hv
  obtain ⟨N, rfl⟩ : ∃ N : Nat, n = N := ⟨n.toNat, by omega⟩
  simp only [Int.toNat_natCast] at *
  have hk := runW_keeps N hva
  have hbo2 := (boW.run (n := N) (m := 600000) (bo.le (by omega)) hva)
  have hN1 : (0 : Int) < (N : Int) + 1 := by omega
  obtain ⟨R, hR⟩ : ∃ R : Nat, R = zs2.length % (N + 1) := ⟨_, rfl⟩
  have er : Int.tmod (zs2.length : Int) ((N : Int) + 1) = (R : Int) := by
    rw [show ((N : Int) + 1) = ((N + 1 : Nat) : Int) by omega, ← Int.ofNat_tmod, hR]
  have hr : R ≤ N := by have := Nat.mod_lt zs2.length (show 0 < N + 1 by omega); omega
  have hnz : ¬ ((N : Int) + 1 = 0) := by omega
  simp (disch := omega) [hlen2, er, hnz, loadN_bk p3]
  have e5 : runF (R : Int) w = (runW R w, true) := by
    unfold runF; rw [if_pos ⟨hva, by omega, by omega⟩, Int.toNat_natCast]
  refine K_iWorldRun wc7 bo.ct (by omega) (fun _ => ⟨bo.1, by omega⟩) (by omega) fun c5 H8 wc8 x8 => ?_
  rw [e5] at wc8 ⊢
  simp only at wc8
  obtain ⟨vt5, vb5, vo5, rfl, _, _, _⟩ := id wc8
  have hk5 := runW_keeps R hva
  have hbo5 := (boW.run (n := R) (m := 600000) (bo.le (by omega)) hva)
  have hb5 := hbo5.2
  have x9 := Ext.push H8 [vt5, vb5, .I (runW R w).turn, .I (runW R w).idle, vo5]
  have e6 : runF ((N : Int) - R) (runW R w) = (runW N w, true) := by
    unfold runF
    rw [if_pos ⟨hk5.1, by omega, by omega⟩, show ((N : Int) - R).toNat = N - R by omega, runW_add, show R + (N - R) = N by omega]
  simp (disch := omega) [store_push5e, loadN_push]
  refine K_iWorldRun (wc8.ext x9) hbo5.ct (by omega) (fun _ => ⟨hbo5.1, by omega⟩) (by omega) fun c6 Ha wca xa => ?_
  rw [e6] at wca ⊢
  simp only at wca
  obtain ⟨vt6, vb6, vo6, rfl, _, _, _⟩ := id wca
  have xb := Ext.push Ha [vt6, vb6, .I (runW N w).turn, .I (runW N w).idle, vo6]
  have yb := ((x8.trans x9).trans xa).trans xb
  have pb := (yb.2 _ hn7.2.1).trans p5
  simp [store_push5e, loadN_push, loadN_bk pb]
  exact T_wsameWorld (wca.ext xb) (wc27.ext yb) fun H8 x8 => by simp
end Go.Proofs.YtfgedlbkgcejhaaGreat.AM
namespace Go.Proofs.YtfgedlbkgcejhaaGreat.AM
set_option linter.unusedSimpArgs false
set_option linter.unusedVariables false
set_option maxRecDepth 100000
set_option maxHeartbeats 2000000
open Go
attribute [-simp] AM.elems
theorem law_FnWorldRunOne {H : AH} {v : AV} {zs : List Int} (h : SlI H .u8 v zs) (hz : ∀ n ∈ zs, 0 ≤ n ∧ n < 256) : CallK Cd f_wFnWorldRunOne [v] H fun v _ => v = .b true := by
  rw [CallK_F, CallF_eq e_wFnWorldRunOne rfl]
  have hlen : alen v = some zs.length := by
    rcases h with ⟨rfl, rfl⟩ | ⟨rfl, rfl⟩ | ⟨b, rest, hb, rfl, hb2⟩ <;> rfl
  simp [hlen]
  refine cnd_mk (fun _ => by simp) (fun hl => ?_)
  simp
  refine K_sDrawWorldRun h hz (by omega) fun c w n H1 wc bo bx hdn => ?_
  have bok := bo.2
  obtain ⟨vt, vb, vo, rfl, _, _, _⟩ := id wc
  simp [store_push5e, loadN_push]
  have x1 := Ext.push H1 [vt, vb, .I w.turn, .I w.idle, vo]
  refine K_iWorldRun (wc.ext x1) bo.ct (by omega) (fun hn => ⟨bo.1, by omega⟩) (by omega) fun c2 H2 wc2 x2 => ?_
  have hF : (vaWd w = true ∧ 0 ≤ n ∧ n ≤ 100000) ∧ runF n w = (runW (n).toNat w, true) ∨ runF n w = (zeroW, false) := by
    unfold runF
    split
    · rename_i hh; exact .inl ⟨hh, rfl⟩
    · exact .inr rfl
  have y2 := x1.trans x2
  have n2 := y2.1
  obtain ⟨vt2, vb2, vo2, rfl, _, _, _⟩ := id wc2
  have q3 : H2.bk H1.n = some ⟨[vt, vb, .I w.turn, .I w.idle, vo], true⟩ := (x2.2 _ (by simp)).trans push_new
  have n3 : H1.n < H2.n := by have := x2.1; simp at this; omega
  have x3 := Ext.push H2 [vt2, vb2, .I (runF n w).1.turn, .I (runF n w).1.idle, vo2]
  have q3' : (H2.push [vt2, vb2, .I (runF n w).1.turn, .I (runF n w).1.idle, vo2]).bk H1.n = some ⟨[vt, vb, .I w.turn, .I w.idle, vo], true⟩ := (x3.2 _ n3).trans q3
  simp [store_push5e, loadN_bk q3']
  refine K_sWorldRun (wc.ext (y2.trans x3)) bo.ct (fun hn => ⟨bo.1, by omega⟩) fun c4 H4 wc4 x4 => ?_
  obtain ⟨vt4, vb4, vo4, rfl, _, _, _⟩ := id wc4
  have y4 := x3.trans x4
  have x5 := Ext.push H4 [vt4, vb4, .I (runF n w).1.turn, .I (runF n w).1.idle, vo4]
  have n4 : H2.n < H4.n := by have := x4.1; simp at this; omega
  have q5 : (H4.push [vt4, vb4, .I (runF n w).1.turn, .I (runF n w).1.idle, vo4]).bk H2.n = some ⟨[vt2, vb2, .I (runF n w).1.turn, .I (runF n w).1.idle, vo2], true⟩ := (x5.2 _ n4).trans ((x4.2 _ (by simp)).trans push_new)
  simp [store_push5e, loadN_bk q5, loadN_push]
  refine T_wsameWorld (wc2.ext (y4.trans x5)) (wc4.ext x5) fun H7 x7 => ?_
  have z7 := x5.trans x7
  have z2 := y4.trans z7
  have z1 := y2.trans z2
  have hn7 : H1.n < H7.n ∧ H2.n < H7.n ∧ H1.n < H2.n := by have := z7.1; omega
  have p3 : H7.bk H1.n = some ⟨[vt, vb, .I w.turn, .I w.idle, vo], true⟩ := (z2.2 _ n3).trans q3
  have p5 : H7.bk H2.n = some ⟨[vt2, vb2, .I (runF n w).1.turn, .I (runF n w).1.idle, vo2], true⟩ := (x7.2 _ (by simp; omega)).trans q5
  have p7 : H7.bk H4.n = some ⟨[vt4, vb4, .I (runF n w).1.turn, .I (runF n w).1.idle, vo4], true⟩ := (x7.2 _ (by simp)).trans push_new
  have wc7 := wc.ext z1
  have wc27 := wc2.ext z2
  have wc47 := wc4.ext z7
  clear z1 z2 z7 y2 y4 x2 x4 x7 x5 x3 x1 wc wc2 wc4 q3 q3' q5 n2 n3 n4 h
  generalize runF n w = F at *
  rcases hF with ⟨hv, rfl⟩ | rfl
  case inr =>
    simp [loadN_bk p5, loadN_bk p7]
    exact T_wsameWorld wc27 wc47 fun H8 x8 => by simp
  simp
  obtain ⟨hva, hn0, hn1⟩ := hv
  obtain ⟨N, rfl⟩ : ∃ N : Nat, n = N := ⟨n.toNat, by omega⟩
  simp only [Int.toNat_natCast] at *
  have hk := runW_keeps N hva
  have hbo2 := (boW.run (n := N) (m := 600000) (bo.le (by omega)) hva)
  have hN60 : N < 60 := by omega
  have hb2 := hbo2.2
  have e5 : runF (1 : Int) (runW N w) = (runW (N + 1) w, true) := by
    unfold runF; rw [if_pos ⟨hk.1, by omega, by omega⟩, show (1 : Int).toNat = 1 from rfl, runW_add]
  have e6 : runF ((N : Int) + 1) w = (runW (N + 1) w, true) := by
    unfold runF; rw [if_pos ⟨hva, by omega, by omega⟩, show ((N : Int) + 1).toNat = N + 1 by omega]
  simp (disch := omega) [loadN_bk p5]
  refine K_iWorldStep wc27 hbo2.ct (by omega) (hbo2.le (by omega)) (by omega) fun c5 H8 wc8 x8 => ?_
  rw [e5] at wc8 ⊢
  simp only at wc8
  obtain ⟨vt5, vb5, vo5, rfl, _, _, _⟩ := id wc8
  have x9 := Ext.push H8 [vt5, vb5, .I (runW (N + 1) w).turn, .I (runW (N + 1) w).idle, vo5]
  have y9 := x8.trans x9
  have p3' := (y9.2 _ hn7.1).trans p3
  simp (disch := omega) [store_push5e, loadN_bk p3']
  refine K_iWorldRun (wc7.ext y9) bo.ct (by omega) (fun _ => ⟨bo.1, by omega⟩) (by omega) fun c6 Ha wca xa => ?_
  rw [e6] at wca ⊢
  simp only at wca
  obtain ⟨vt6, vb6, vo6, rfl, _, _, _⟩ := id wca
  have xb := Ext.push Ha [vt6, vb6, .I (runW (N + 1) w).turn, .I (runW (N + 1) w).idle, vo6]
  have yb := xa.trans xb
  have pb := (yb.2 H8.n (by simp)).trans push_new
  simp [store_push5e, loadN_push, loadN_bk pb]
  exact T_wsameWorld ((wc8.ext x9).ext yb) (wca.ext xb) fun H8 x8 => by simp
end Go.Proofs.YtfgedlbkgcejhaaGreat.AM
namespace Go.Proofs.YtfgedlbkgcejhaaGreat.AM
set_option linter.unusedSimpArgs false
set_option linter.unusedVariables false
set_option maxRecDepth 100000
set_option maxHeartbeats 2000000
open Go
attribute [-simp] AM.elems
theorem L_RunOut {ok1 ok2 : Nat → Prop} {bs bs2 : List Bx} {vb vb2 t1 a1 b1 c1 t2 a2 b2 c2 n : AV} {P3 P5 : Nat} {H : AH} {Q : Out → Env → AH → Prop} (g3 : H.bk P3 = some ⟨[t1, vb, a1, b1, c1], true⟩) (g5 : H.bk P5 = some ⟨[t2, vb2, a2, b2, c2], true⟩)
    (h1 : BV ok1 H vb bs) (h2 : BV ok2 H vb2 bs2) (hv : vaBs bs2 = true) (hrm : bs2.map (·.room) = bs.map (·.room)) (hl : bs2.length = bs.length) (h3 : bs2.length ≤ 3) (k : ∀ e, get e 3 = some (.ptr P3 0) → get e 4 = some n → get e 5 = some (.ptr P5 0) → Q (.brk 0) e H) (m : Nat) : ∀ {i : Nat}, i + m = bs2.length →
    W Cd (.loop c_wFnWorldRunOut_l0) [(3, .ptr P3 0), (4, n), (5, .ptr P5 0), (9, .I i)] H Q := by
  induction m with
  | zero =>
    intro i hi
    rw [W_loop_as c_wFnWorldRunOut_l0.eq_1]
    have : i = bs2.length := by omega
    subst this
    simp [load_bk g5, h2.alen]
    exact k _ rfl rfl rfl
  | succ m ih =>
    intro i hi
    rw [W_loop_as c_wFnWorldRunOut_l0.eq_1]
    have hlt : i < bs2.length := by omega
    obtain ⟨x2, hx2⟩ : ∃ x, bs2[i]? = some x := ⟨_, List.getElem?_eq_getElem hlt⟩
    obtain ⟨x1, hx1⟩ : ∃ x, bs[i]? = some x := ⟨_, List.getElem?_eq_getElem (by omega)⟩
    have hroom : x2.room = x1.room := by
      have := congrArg (fun l => l[i]?) hrm
      simpa [hx1, hx2] using this
    have hvx : vaB x2 = true := by
      unfold vaBs at hv
      simp only [Bool.and_eq_true] at hv
      exact List.all_eq_true.1 hv.1 _ (List.mem_of_getElem? hx2)
    unfold vaB at hvx
    simp only [Bool.and_eq_true, decide_eq_true_eq] at hvx
    obtain ⟨q2, o2, d2, v2, e2, ob2, hb2, l2, iv2⟩ := h2.at hx2
    obtain ⟨q1, o1, d1, v1, e1, ob1, hb1, l1, iv1⟩ := h1.at hx1
    have hlt' : (i : Int) < bs2.length := by omega
    have hlt'' : (i : Int) < bs.length := by omega
    have h1' := h1
    have h2' := h2
    subst e1 e2
    have r1 := loadN_get l1 (i := 0) (by omega)
    have r2 := loadN_get l2 (i := 0) (by omega)
    have r3 := loadN_get l2 (i := 1) (by omega)
    simp at r1 r2 r3
    have hng : ¬ (x2.room < (x2.items.length : Int)) := by omega
    have hng' : ¬ (x1.room < (x2.items.length : Int)) := by omega
    simp (disch := omega) [load_bk g5, load_bk g3, h2'.alen, hlt', hlt'', r1, r2, r3, iv2.alen, hng, hng', hroom]
    have := ih (i := i + 1) (by omega)
    simpa using this
theorem law_FnWorldRunOut {H : AH} {v : AV} {zs : List Int} (h : SlI H .u8 v zs) (hz : ∀ n ∈ zs, 0 ≤ n ∧ n < 256) : CallK Cd f_wFnWorldRunOut [v] H fun v _ => v = .b true := by
  rw [CallK_F, CallF_eq e_wFnWorldRunOut rfl]
  have hlen : alen v = some zs.length := by
    rcases h with ⟨rfl, rfl⟩ | ⟨rfl, rfl⟩ | ⟨b, rest, hb, rfl, hb2⟩ <;> rfl
  simp [hlen]
  refine cnd_mk (fun _ => by simp) (fun hl => ?_)
  simp
  refine K_sDrawWorldRun h hz (by omega) fun c w n H1 wc bo bx hdn => ?_
  have bok := bo.2
  obtain ⟨vt, vb, vo, rfl, _, _, _⟩ := id wc
  simp [store_push5e, loadN_push]
  have x1 := Ext.push H1 [vt, vb, .I w.turn, .I w.idle, vo]
  refine K_iWorldRun (wc.ext x1) bo.ct (by omega) (fun hn => ⟨bo.1, by omega⟩) (by omega) fun c2 H2 wc2 x2 => ?_
  have hF : (vaWd w = true ∧ 0 ≤ n ∧ n ≤ 100000) ∧ runF n w = (runW (n).toNat w, true) ∨ runF n w = (zeroW, false) := by
    unfold runF
    split
    · rename_i hh; exact .inl ⟨hh, rfl⟩
    · exact .inr rfl
  have y2 := x1.trans x2
  have n2 := y2.1
  obtain ⟨vt2, vb2, vo2, rfl, _, _, _⟩ := id wc2
  have q3 : H2.bk H1.n = some ⟨[vt, vb, .I w.turn, .I w.idle, vo], true⟩ := (x2.2 _ (by simp)).trans push_new
  have n3 : H1.n < H2.n := by have := x2.1; simp at this; omega
  have x3 := Ext.push H2 [vt2, vb2, .I (runF n w).1.turn, .I (runF n w).1.idle, vo2]
  have q3' : (H2.push [vt2, vb2, .I (runF n w).1.turn, .I (runF n w).1.idle, vo2]).bk H1.n = some ⟨[vt, vb, .I w.turn, .I w.idle, vo], true⟩ := (x3.2 _ n3).trans q3
  simp [store_push5e, loadN_bk q3']
  refine K_sWorldRun (wc.ext (y2.trans x3)) bo.ct (fun hn => ⟨bo.1, by omega⟩) fun c4 H4 wc4 x4 => ?_
  obtain ⟨vt4, vb4, vo4, rfl, _, _, _⟩ := id wc4
  have y4 := x3.trans x4
  have x5 := Ext.push H4 [vt4, vb4, .I (runF n w).1.turn, .I (runF n w).1.idle, vo4]
  have n4 : H2.n < H4.n := by have := x4.1; simp at this; omega
  have q5 : (H4.push [vt4, vb4, .I (runF n w).1.turn, .I (runF n w).1.idle, vo4]).bk H2.n = some ⟨[vt2, vb2, .I (runF n w).1.turn, .I (runF n w).1.idle, vo2], true⟩ := (x5.2 _ n4).trans ((x4.2 _ (by simp)).trans push_new)
  simp [store_push5e, loadN_bk q5, loadN_push]
  refine T_wsameWorld (wc2.ext (y4.trans x5)) (wc4.ext x5) fun H7 x7 => ?_
  have z7 := x5.trans x7
  have z2 := y4.trans z7
  have z1 := y2.trans z2
  have hn7 : H1.n < H7.n ∧ H2.n < H7.n ∧ H1.n < H2.n := by have := z7.1; omega
  have p3 : H7.bk H1.n = some ⟨[vt, vb, .I w.turn, .I w.idle, vo], true⟩ := (z2.2 _ n3).trans q3
  have p5 : H7.bk H2.n = some ⟨[vt2, vb2, .I (runF n w).1.turn, .I (runF n w).1.idle, vo2], true⟩ := (x7.2 _ (by simp; omega)).trans q5
  have p7 : H7.bk H4.n = some ⟨[vt4, vb4, .I (runF n w).1.turn, .I (runF n w).1.idle, vo4], true⟩ := (x7.2 _ (by simp)).trans push_new
  have wc7 := wc.ext z1
  have wc27 := wc2.ext z2
  have wc47 := wc4.ext z7
  clear z1 z2 z7 y2 y4 x2 x4 x7 x5 x3 x1 wc wc2 wc4 q3 q3' q5 n2 n3 n4 h
  generalize runF n w = F at *
  rcases hF with ⟨hv, rfl⟩ | rfl
  case inr =>
    simp [loadN_bk p5, loadN_bk p7]
    exact T_wsameWorld wc27 wc47 fun H8 x8 => by simp
  simp
  obtain ⟨hva, hn0, hn1⟩ := hv
  obtain ⟨N, rfl⟩ : ∃ N : Nat, n = N := ⟨n.toNat, by omega⟩
  simp only [Int.toNat_natCast] at *
  have hk := runW_keeps N hva
  have hbo2 := (boW.run (n := N) (m := 600000) (bo.le (by omega)) hva)
  obtain ⟨_, _, _, e, _, b2, i2⟩ := id wc27
  simp only [List.cons.injEq, and_true, true_and] at e
  obtain ⟨rfl, rfl, rfl⟩ := e
  obtain ⟨_, _, _, e, _, b1, i1⟩ := id wc7
  simp only [List.cons.injEq, and_true, true_and] at e
  obtain ⟨rfl, rfl, rfl⟩ := e
  have := L_RunOut (n := .I N) (Q := ?_) p3 p5 b1 b2 (vaWd_iff.1 hk.1).2.2.1 hk.2.2.2.1 hk.2.2.1 (by omega) ?_ (runW N w).boxes.length (i := 0) (by omega)
  · simpa using this
  · intro e h3 h4 h5
    obtain ⟨p, hp, hpl⟩ := hk.2.2.2.2.1
    rw [hp] at i2
    have hal2 := i2.alen
    have hal1 := i1.alen
    rw [List.length_append] at hal2
    simp [h3, h4, h5, load_bk p5, load_bk p3]
    refine T_wfirstInts i2 i1 ?_
    have hle : (w.out.length : Int) + p.length ≤ w.out.length + N := by omega
    simp (disch := omega) [h3, h4, h5, hal1, hal2, load_bk p5, load_bk p3, hle]
end Go.Proofs.YtfgedlbkgcejhaaGreat.AM
namespace Go.Proofs.YtfgedlbkgcejhaaGreat.AM
set_option linter.unusedSimpArgs false
set_option linter.unusedVariables false
set_option maxRecDepth 100000
set_option maxHeartbeats 2000000
open Go
attribute [-simp] AM.elems
theorem L_StepOthers {ok1 ok2 : Nat → Prop} {l1 l2 : List Tk} {vt1 a1 b1 c1 vt2 a2 t2 b2 c2 : AV} {turn : Int} {P3 P4 : Nat} {Q : Out → Env → AH → Prop} (hl : l2.length = l1.length) (hle : l1.length ≤ 3) (heq : ∀ i : Nat, (i : Int) ≠ turn → l2[i]? = l1[i]?) (m : Nat) {H : AH} : ∀ {i : Nat}, i + m = l1.length → P3 < H.n → P4 < H.n →
    H.bk P3 = some ⟨[vt1, a1, .I turn, b1, c1], true⟩ → H.bk P4 = some ⟨[vt2, a2, t2, b2, c2], true⟩ → TV ok1 H vt1 l1 → TV ok2 H vt2 l2 → (∀ e G, Ext H G → get e 3 = some (.ptr P3 0) → get e 4 = some (.ptr P4 0) → Q (.brk 0) e G) →
    W Cd (.loop c_wFnWorldStepOthers_l0) [(3, .ptr P3 0), (4, .ptr P4 0), (8, .I i)] H Q := by
  induction m generalizing H with
  | zero =>
    intro i hi n3 n4 g3 g4 h1 h2 k
    rw [W_loop_as c_wFnWorldStepOthers_l0.eq_1]
    have : i = l1.length := by omega
    subst this
    simp [load_bk g3, h1.alen]
    exact k _ H (Ext.refl _) rfl rfl
  | succ m ih =>
    intro i hi n3 n4 g3 g4 h1 h2 k
    rw [W_loop_as c_wFnWorldStepOthers_l0.eq_1]
    have hlt : i < l1.length := by omega
    have hlt' : (i : Int) < l1.length := by omega
    have hlt'' : (i : Int) < l2.length := by omega
    by_cases ht : (i : Int) = turn
    · subst ht
      simp (disch := omega) [load_bk g3, load_bk g4, h1.alen, hlt', hlt]
      have := ih (H := H) (i := i + 1) (by omega) n3 n4 g3 g4 h1 h2 k
      simpa using this
    · obtain ⟨t, hx1⟩ : ∃ x, l1[i]? = some x := ⟨_, List.getElem?_eq_getElem hlt⟩
      have hx2 := (heq i ht).trans hx1
      obtain ⟨q1, o1, d1, vv1, vr1, e1, ob1, hb1, m1, iv1, sv1⟩ := h1.at hx1
      obtain ⟨q2, o2, d2, vv2, vr2, e2, ob2, hb2, m2, iv2, sv2⟩ := h2.at hx2
      have h1' := h1
      have h2' := h2
      subst e1 e2
      simp (disch := omega) [load_bk g3, load_bk g4, h1'.alen, hlt', hlt'', ht, m1, m2]
      refine T_wsameTask ⟨vv2, vr2, rfl, iv2, sv2⟩ ⟨vv1, vr1, rfl, iv1, sv1⟩ fun G xg => ?_
      simp (disch := omega) [xg]
      have := ih (H := G) (i := i + 1) (by omega) (by have := xg.1; omega) (by have := xg.1; omega) ((xg.2 _ n3).trans g3) ((xg.2 _ n4).trans g4) (h1'.ext xg) (h2'.ext xg) (fun e G2 x2 => k e G2 (xg.trans x2))
      simpa using this
theorem law_FnWorldStepOthers {H : AH} {v : AV} {zs : List Int} (h : SlI H .u8 v zs) (hz : ∀ n ∈ zs, 0 ≤ n ∧ n < 256) : CallK Cd f_wFnWorldStepOthers [v] H fun v _ => v = .b true := by
  rw [CallK_F, CallF_eq e_wFnWorldStepOthers rfl]
  have hlen : alen v = some zs.length := by
    rcases h with ⟨rfl, rfl⟩ | ⟨rfl, rfl⟩ | ⟨b, rest, hb, rfl, hb2⟩ <;> rfl
  simp [hlen]
  refine cnd_mk (fun _ => by simp) (fun hl => ?_)
  simp
  refine K_sDrawWorldStep h hz (by omega) fun c w H1 wc bo bx => ?_
  have bok := bo.2
  obtain ⟨vt, vb, vo, rfl, _, _, _⟩ := id wc
  simp [store_push5e, loadN_push]
  have x1 := Ext.push H1 [vt, vb, .I w.turn, .I w.idle, vo]
  refine K_iWorldStep (wc.ext x1) bo.ct (by omega) (bo.le (by omega)) (by omega) fun c2 H2 wc2 x2 => ?_
  have hF : (vaWd w = true ∧ 0 ≤ (1:Int) ∧ (1:Int) ≤ 100000) ∧ runF (1:Int) w = (runW ((1:Int)).toNat w, true) ∨ runF (1:Int) w = (zeroW, false) := by
    unfold runF
    split
    · rename_i hh; exact .inl ⟨hh, rfl⟩
    · exact .inr rfl
  have y2 := x1.trans x2
  have n2 := y2.1
  obtain ⟨vt2, vb2, vo2, rfl, _, _, _⟩ := id wc2
  have q3 : H2.bk H1.n = some ⟨[vt, vb, .I w.turn, .I w.idle, vo], true⟩ := (x2.2 _ (by simp)).trans push_new
  have n3 : H1.n < H2.n := by have := x2.1; simp at this; omega
  have x3 := Ext.push H2 [vt2, vb2, .I (runF (1:Int) w).1.turn, .I (runF (1:Int) w).1.idle, vo2]
  have q3' : (H2.push [vt2, vb2, .I (runF (1:Int) w).1.turn, .I (runF (1:Int) w).1.idle, vo2]).bk H1.n = some ⟨[vt, vb, .I w.turn, .I w.idle, vo], true⟩ := (x3.2 _ n3).trans q3
  simp [store_push5e, loadN_bk q3']
  refine K_sWorldStep (wc.ext (y2.trans x3)) bo.ct (bo.le (by omega)) fun c4 H4 wc4 x4 => ?_
  obtain ⟨vt4, vb4, vo4, rfl, _, _, _⟩ := id wc4
  have y4 := x3.trans x4
  have x5 := Ext.push H4 [vt4, vb4, .I (runF (1:Int) w).1.turn, .I (runF (1:Int) w).1.idle, vo4]
  have n4 : H2.n < H4.n := by have := x4.1; simp at this; omega
  have q5 : (H4.push [vt4, vb4, .I (runF (1:Int) w).1.turn, .I (runF (1:Int) w).1.idle, vo4]).bk H2.n = some ⟨[vt2, vb2, .I (runF (1:Int) w).1.turn, .I (runF (1:Int) w).1.idle, vo2], true⟩ := (x5.2 _ n4).trans ((x4.2 _ (by simp)).trans push_new)
  simp [store_push5e, loadN_bk q5, loadN_push]
  refine T_wsameWorld (wc2.ext (y4.trans x5)) (wc4.ext x5) fun H7 x7 => ?_
  have z7 := x5.trans x7
  have z2 := y4.trans z7
  have z1 := y2.trans z2
  have hn7 : H1.n < H7.n ∧ H2.n < H7.n ∧ H1.n < H2.n := by have := z7.1; omega
  have p3 : H7.bk H1.n = some ⟨[vt, vb, .I w.turn, .I w.idle, vo], true⟩ := (z2.2 _ n3).trans q3
  have p5 : H7.bk H2.n = some ⟨[vt2, vb2, .I (runF (1:Int) w).1.turn, .I (runF (1:Int) w).1.idle, vo2], true⟩ := (x7.2 _ (by simp; omega)).trans q5
  have p7 : H7.bk H4.n = some ⟨[vt4, vb4, .I (runF (1:Int) w).1.turn, .I (runF (1:Int) w).1.idle, vo4], true⟩ := (x7.2 _ (by simp)).trans push_new
  have wc7 := wc.ext z1
  have wc27 := wc2.ext z2
  have wc47 := wc4.ext z7
  clear z1 z2 z7 y2 y4 x2 x4 x7 x5 x3 x1 wc wc2 wc4 q3 q3' q5 n2 n3 n4 h
  generalize runF (1:Int) w = F at *
  rcases hF with ⟨hv, rfl⟩ | rfl
  case inr =>
    simp [loadN_bk p5, loadN_bk p7]
    exact T_wsameWorld wc27 wc47 fun H8 x8 => by simp
  simp
  obtain ⟨hva, _, _⟩ := hv
  have hk := runW_keeps 1 hva
  have hbo2 := (boW.run (n := 1) (m := 700000) (bo.le (by omega)) hva)
  simp only [show (1 : Int).toNat = 1 from rfl] at *
  obtain ⟨_, _, _, e, t2, _, _⟩ := id wc27
  simp only [List.cons.injEq, and_true, true_and] at e
  obtain ⟨rfl, rfl, rfl⟩ := e
  obtain ⟨_, _, _, e, t1, _, _⟩ := id wc7
  simp only [List.cons.injEq, and_true, true_and] at e
  obtain ⟨rfl, rfl, rfl⟩ := e
  have hw := (vaWd_iff.1 hva).1
  have heq : ∀ i : Nat, (i : Int) ≠ w.turn → (runW 1 w).tasks[i]? = w.tasks[i]? := by
    intro i hi
    unfold runW
    split
    · simp only [runW]
      unfold stepW
      split
      · rfl
      · simp only
        rw [List.getElem?_set_ne (by omega)]
    · rfl
  have hbig := t2.big
  have := L_StepOthers (Q := ?_) hk.2.1 (by omega) heq w.tasks.length (i := 0) (by omega) hn7.1 hn7.2.1 p3 p5 t1 t2 ?_
  · simpa using this
  · intro e G xg h3 h4
    have p3' := (xg.2 _ hn7.1).trans p3
    have p5' := (xg.2 _ hn7.2.1).trans p5
    simp [h3, h4, load_bk p3', load_bk p5', t1.alen, t2.alen, hk.2.1]
end Go.Proofs.YtfgedlbkgcejhaaGreat.AM
namespace Go.Proofs.YtfgedlbkgcejhaaGreat.AM
set_option linter.unusedSimpArgs false
set_option linter.unusedVariables false
set_option maxRecDepth 100000
set_option maxHeartbeats 2000000
open Go
attribute [-simp] AM.elems
theorem law_FnWorldStepTask {H : AH} {v : AV} {zs : List Int} (h : SlI H .u8 v zs) (hz : ∀ n ∈ zs, 0 ≤ n ∧ n < 256) : CallK Cd f_wFnWorldStepTask [v] H fun v _ => v = .b true := by
  rw [CallK_F, CallF_eq e_wFnWorldStepTask rfl]
  have hlen : alen v = some zs.length := by
    rcases h with ⟨rfl, rfl⟩ | ⟨rfl, rfl⟩ | ⟨b, rest, hb, rfl, hb2⟩ <;> rfl
  simp [hlen]
  refine cnd_mk (fun _ => by simp) (fun hl => ?_)
  simp
  refine K_sDrawWorldStep h hz (by omega) fun c w H1 wc bo bx => ?_
  have bok := bo.2
  obtain ⟨vt, vb, vo, rfl, _, _, _⟩ := id wc
  simp [store_push5e, loadN_push]
  have x1 := Ext.push H1 [vt, vb, .I w.turn, .I w.idle, vo]
  refine K_iWorldStep (wc.ext x1) bo.ct (by omega) (bo.le (by omega)) (by omega) fun c2 H2 wc2 x2 => ?_
  have hF : (vaWd w = true ∧ 0 ≤ (1:Int) ∧ (1:Int) ≤ 100000) ∧ runF (1:Int) w = (runW ((1:Int)).toNat w, true) ∨ runF (1:Int) w = (zeroW, false) := by
    unfold runF
    split
    · rename_i hh; exact .inl ⟨hh, rfl⟩
    · exact .inr rfl
  have y2 := x1.trans x2
  have n2 := y2.1
  obtain ⟨vt2, vb2, vo2, rfl, _, _, _⟩ := id wc2
  have q3 : H2.bk H1.n = some ⟨[vt, vb, .I w.turn, .I w.idle, vo], true⟩ := (x2.2 _ (by simp)).trans push_new
  have n3 : H1.n < H2.n := by have := x2.1; simp at this; omega
  have x3 := Ext.push H2 [vt2, vb2, .I (runF (1:Int) w).1.turn, .I (runF (1:Int) w).1.idle, vo2]
  have q3' : (H2.push [vt2, vb2, .I (runF (1:Int) w).1.turn, .I (runF (1:Int) w).1.idle, vo2]).bk H1.n = some ⟨[vt, vb, .I w.turn, .I w.idle, vo], true⟩ := (x3.2 _ n3).trans q3
  simp [store_push5e, loadN_bk q3']
  refine K_sWorldStep (wc.ext (y2.trans x3)) bo.ct (bo.le (by omega)) fun c4 H4 wc4 x4 => ?_
  obtain ⟨vt4, vb4, vo4, rfl, _, _, _⟩ := id wc4
  have y4 := x3.trans x4
  have x5 := Ext.push H4 [vt4, vb4, .I (runF (1:Int) w).1.turn, .I (runF (1:Int) w).1.idle, vo4]
  have n4 : H2.n < H4.n := by have := x4.1; simp at this; omega
  have q5 : (H4.push [vt4, vb4, .I (runF (1:Int) w).1.turn, .I (runF (1:Int) w).1.idle, vo4]).bk H2.n = some ⟨[vt2, vb2, .I (runF (1:Int) w).1.turn, .I (runF (1:Int) w).1.idle, vo2], true⟩ := (x5.2 _ n4).trans ((x4.2 _ (by simp)).trans push_new)
  simp [store_push5e, loadN_bk q5, loadN_push]
  refine T_wsameWorld (wc2.ext (y4.trans x5)) (wc4.ext x5) fun H7 x7 => ?_
  have z7 := x5.trans x7
  have z2 := y4.trans z7
  have z1 := y2.trans z2
  have hn7 : H1.n < H7.n ∧ H2.n < H7.n ∧ H1.n < H2.n := by have := z7.1; omega
  have p3 : H7.bk H1.n = some ⟨[vt, vb, .I w.turn, .I w.idle, vo], true⟩ := (z2.2 _ n3).trans q3
  have p5 : H7.bk H2.n = some ⟨[vt2, vb2, .I (runF (1:Int) w).1.turn, .I (runF (1:Int) w).1.idle, vo2], true⟩ := (x7.2 _ (by simp; omega)).trans q5
  have p7 : H7.bk H4.n = some ⟨[vt4, vb4, .I (runF (1:Int) w).1.turn, .I (runF (1:Int) w).1.idle, vo4], true⟩ := (x7.2 _ (by simp)).trans push_new
  have wc7 := wc.ext z1
  have wc27 := wc2.ext z2
  have wc47 := wc4.ext z7
  clear z1 z2 z7 y2 y4 x2 x4 x7 x5 x3 x1 wc wc2 wc4 q3 q3' q5 n2 n3 n4 h
  generalize runF (1:Int) w = F at *
  rcases hF with ⟨hv, rfl⟩ | rfl
  case inr =>
    simp [loadN_bk p5, loadN_bk p7]
    exact T_wsameWorld wc27 wc47 fun H8 x8 => by simp
  simp
  obtain ⟨hva, _, _⟩ := hv
  have hk := runW_keeps 1 hva
  have hbo2 := (boW.run (n := 1) (m := 700000) (bo.le (by omega)) hva)
  simp only [show (1 : Int).toNat = 1 from rfl] at *
  have hw := (vaWd_iff.1 hva).1
  obtain ⟨_, _, _, e, t1, b1, i1⟩ := id wc7
  simp only [List.cons.injEq, and_true, true_and] at e
  obtain ⟨rfl, rfl, rfl⟩ := e
  by_cases hi : w.idle = (w.tasks.length : Int)
  · have e : runW 1 w = w := runW_rest (by omega) 1
    rw [e] at wc27 p5
    simp [load_bk p3, t1.alen, hi, loadN_bk p3, loadN_bk p5]
    rw [hi] at wc27 wc7
    exact T_wsameWorld wc27 wc7 fun H8 x8 => by simp
  have hlt : w.idle < w.tasks.length := by omega
  have e : runW 1 w = stepW w := by unfold runW; rw [if_pos hlt]; rfl
  rw [e] at wc27 p5 hk hbo2
  obtain ⟨t, ht⟩ : ∃ t, w.tasks[w.turn.toNat]? = some t := ⟨_, List.getElem?_eq_getElem (by omega)⟩
  have es : stepW w = ⟨w.tasks.set w.turn.toNat (stepP t w.boxes).1, (stepP t w.boxes).2.1, (nextT w.tasks.length w.turn w.idle (stepP t w.boxes).2.2.2).1, (nextT w.tasks.length w.turn w.idle (stepP t w.boxes).2.2.2).2, w.out ++ (stepP t w.boxes).2.2.1⟩ := by
    unfold stepW; rw [ht]
  have htm := List.mem_of_getElem? ht
  have hsm := (bo.le (m := 0) (by omega)).sm hva
  obtain ⟨u1, u2, u3, u4, u5⟩ := hsm.task htm
  obtain ⟨g1, g2, g3, g4⟩ := vaWd_iff.1 hva
  have hrd := rd_of_va (g4 t htm)
  have hF := stepF_ok u1 g3 hrd
  have hcode := step_code' (bs := w.boxes) u1
  obtain ⟨q, o, cap, vv, vr, e1, oq, hq, l1, i4, s4⟩ := t1.at ht
  have hlt1 := hw.2.2.2.1
  have hge1 := hw.2.2.1
  have t1' := t1
  subst e1
  simp (disch := omega) [load_bk p3, hi, hlt1, hge1, l1]
  refine K_iTaskStep ⟨vv, vr, rfl, i4, s4⟩ b1 (by omega) fun c4 v4 p4 H8 tc bv iv x8 fv fp => ?_
  rw [hF] at tc bv iv ⊢
  obtain ⟨cv, cr, rfl, _, _⟩ := id tc
  have p3' := (x8.2 _ hn7.1).trans p3
  have x9 := Ext.push H8 [cv, cr]
  have y9 := x8.trans x9
  have p39 := (y9.2 _ hn7.1).trans p3
  have p59 := (y9.2 _ hn7.2.1).trans p5
  simp [x8, store_push2e, load_bk p39]
  refine K_iNextTurn (by omega) ⟨hge1, hlt1⟩ ⟨hw.2.2.2.2.1, hlt⟩ hcode ?_
  obtain ⟨_, _, _, e, t2, b2, i2⟩ := id wc27
  simp only [List.cons.injEq, and_true, true_and] at e
  obtain ⟨rfl, rfl, rfl⟩ := e
  have ht2 : (stepW w).tasks[w.turn.toNat]? = some (stepP t w.boxes).1 := by
    rw [es]; simp only; rw [List.getElem?_set_self (by omega)]
  have hl2 : (stepW w).tasks.length = w.tasks.length := hk.2.1
  obtain ⟨q2, o2, cap2, vv2, vr2, e2, oq2, hq2, l2, i5, s5⟩ := (t2.ext y9).at ht2
  rw [hl2] at e2
  have t2' := t2
  subst e2
  simp (disch := omega) [load_bk p59, load_bk p39, hlt1, hge1, l2, loadN_push]
  refine T_wsameTask ⟨vv2, vr2, rfl, i5, s5⟩ (tc.ext x9) fun Ha xa => ?_
  have ya := y9.trans xa
  have p5a := (ya.2 _ hn7.2.1).trans p5
  have p3a := (ya.2 _ hn7.1).trans p3
  simp [xa, load_bk p5a]
  have b2' : BV (fun _ => True) H7 vb2 (stepP t w.boxes).2.1 := by
    have := b2.mono (ok' := fun _ => True) (Nat.le_refl _) (fun _ _ _ => rfl) (fun _ _ _ => trivial)
    rw [es] at this; exact this
  refine T_wsameBoxes (b2'.ext ya) (bv.ext (x9.trans xa)) fun Hb xb => ?_
  have yb := ya.trans xb
  have xc := Ext.push Hb []
  have yc := yb.trans xc
  have p5c := (yc.2 _ hn7.2.1).trans p5
  have p3c := (yc.2 _ hn7.1).trans p3
  have nb := yb.1
  have p5b := (yb.2 _ hn7.2.1).trans p5
  have ec := (i1.ext yc).src.elems
  obtain ⟨vo', Hd, OB, d1, d2, d3, d4, d5⟩ := app_newG (push_new (H := Hb) (cs := [])) (by simp) (base := Hb.n) (Nat.le_refl _) (l := w.out) (by omega)
  have yd := yc.trans d2
  have p5d := (yd.2 _ hn7.2.1).trans p5
  have p3d := (yd.2 _ hn7.1).trans p3
  have nd := d2.1
  simp only [push_n] at nd
  have ivd := iv.ext ((x9.trans xa).trans (xb.trans (xc.trans d2)))
  have ed := ivd.src.elems
  have hp1 : (stepP t w.boxes).2.2.1.length ≤ 1 := by
    obtain ⟨p, hp, hpl⟩ := hk.2.2.2.2.1
    rw [es] at hp
    have := List.append_cancel_left hp
    rw [this]; exact hpl
  obtain ⟨v6, G6, B6, c1, c2, c3, c4⟩ := d3.app (by omega) (k := (stepP t w.boxes).2.2.1.length) (new := Ints (stepP t w.boxes).2.2.1) (by rw [Ints_len]; omega) (by omega)
  have hm6 : ∀ b, b ∈ grB vo' OB → Hb.n ≤ b := fun b hb => by have := d3.mem hb; omega
  have kk : ∀ b, b < Hb.n → G6.bk b = Hd.bk b := fun b hb => c4.2 b (by omega) (fun hm => by have := hm6 b hm; omega)
  have n6 := c4.1
  have p56 := (kk _ (by omega)).trans p5d
  have p36 := (kk _ (by omega)).trans p3d
  have e1 : Ints w.out ++ Ints (stepP t w.boxes).2.2.1 = Ints (w.out ++ (stepP t w.boxes).2.2.1) := by simp [Ints]
  have s6 : IV (fun b => Hb.n ≤ b) G6 v6 (w.out ++ (stepP t w.boxes).2.2.1) := by
    have := c2
    rw [e1] at this
    have := this.slc
    rw [← List.length_append] at this
    exact this
  have i26 : IV (fun _ => True) G6 vo2 (w.out ++ (stepP t w.boxes).2.2.1) := by
    have := i2
    rw [es] at this
    exact IV.mono (ok' := fun _ => True) this (by omega) (fun b _ hb => (kk b (by omega)).trans (yd.2 b hb)) (fun _ _ _ => trivial)
  have al4 := ivd.alen
  have ee : AM.elems (Hb.push []) 1 (.sl Hb.n 0 0 (.ex 0)) = some [] := by simp [AM.elems, loadN_push, seg]
  simp (disch := omega) [xb, d2, load_bk p5b, load_bk p5c, load_bk p3c, i1.alen, ec, d1, al4, ed, c1, p56, p5d, load_bk p56, load_bk p36]
  refine T_wsameInts i26.sees s6.sees ?_
  have ea : (stepW w).turn = (nextT w.tasks.length w.turn w.idle (stepP t w.boxes).2.2.2).1 := by rw [es]
  have eb : (stepW w).idle = (nextT w.tasks.length w.turn w.idle (stepP t w.boxes).2.2.2).2 := by rw [es]
  simp [load_bk p56, load_bk p36, ea, eb]
end Go.Proofs.YtfgedlbkgcejhaaGreat.AM
