/-
  The laws that compare the program's MachineStep and MachineRun with the spec's, for every machine. No condition.
-/
import Derived.Test.YtdgmihohmkdpjaaDoorAMzt
namespace Go.Proofs.YtdgmihohmkdpjaaDoor.AM
set_option linter.unusedSimpArgs false
set_option linter.unusedVariables false
set_option maxRecDepth 10000
open Go

section
variable {H : AH}
theorem law_FnExactMachineStep {r e : AV} {pc : Int} {lr le : List Int} (hg : Glob H) (hr : ArgZ H r lr) (he : ArgZ H e le) : CallK Cd f_wFnExactMachineStep [.agg [r, .I pc, e]] H fun v _ => v = .b true := by
  rw [CallK_F, CallF_eq e_wFnExactMachineStep rfl]
  simp [loadN_push]
  refine K_wszMachine hr.1 hr.2.1 he.1 he.2.1 fun x hx => ?_
  simp
  refine cnd_mk (fun h => ?_) (fun h => ?_)
  · simp
  have hl := hx (by omega)
  have hm : SeesM H [r, .I pc, e] ⟨lr, pc, le⟩ := ⟨r, e, rfl, hr.sees (by omega), he.sees (by omega), hr.2.2.1, he.2.2.1⟩
  generalize hmm : (⟨lr, pc, le⟩ : Mach) = m at hm
  have base : ∀ G, Ext (H.push [r, .I pc, e]) G → G.loadN H.n 0 3 = some [r, .I pc, e] := fun G hG => by
    rw [loadN_ext hG (Nat.lt_succ_self _), loadN_push, if_pos rfl]; rfl
  have xa : Ext (H.push [r, .I pc, e]) ((H.push [r, .I pc, e]).push [r, .I pc, e]) := Ext.push _ _
  simp [loadN_push]
  generalize hca : [r, AV.I pc, e] = ca at *
  refine K_wtoMachine' (hm.ext ((Ext.push _ _).trans xa)) fun c1 rb1 mb1 H1 o1 e1 => ?_
  simp
  refine K_sMachineStep o1.src fun c2 rb2 mb2 H2 o2 e2 => ?_
  obtain ⟨a2, b2, d2, hc2⟩ := o2.src.shape
  have s2 : seg c2 0 3 = some c2 := by rw [hc2]; rfl
  have l2 : c2.length = 3 := by rw [hc2]; rfl
  have x2 : Ext (H.push ca) (H2.push c2) := xa.trans (e1.trans (e2.trans (Ext.push _ _)))
  simp [-AM.seg, AH.store, push_put, l2, base _ x2]
  refine K_wtoMachine' (hm.ext ((Ext.push _ _).trans x2)) fun c3 rb3 mb3 H3 o3 e3 => ?_
  obtain ⟨a3, b3, d3, hc3⟩ := o3.src.shape
  have s3 : seg c3 0 3 = some c3 := by rw [hc3]; rfl
  have l3 : c3.length = 3 := by rw [hc3]; rfl
  have x3 : Ext (H2.push c2) (H3.push c3) := e3.to_push
  simp [-AM.seg, AH.store, push_put, l3, loadN_push, s3]
  refine K_iMachineStep (hg.ext ((Ext.push _ _).trans (x2.trans x3))) (o3.src.ext (Ext.push H3 c3)) fun c4 rb4 mb4 H4 o4 e4 => ?_
  obtain ⟨a4, b4, d4, hc4⟩ := o4.src.shape
  have s4 : seg c4 0 3 = some c4 := by rw [hc4]; rfl
  have l4 : c4.length = 3 := by rw [hc4]; rfl
  have x4 : Ext (H3.push c3) (H4.push c4) := e4.to_push
  have n2 : H2.n < H3.n := Nat.lt_of_lt_of_le (Nat.lt_succ_self _) e3.1
  have n3 : H3.n < H4.n := Nat.lt_of_lt_of_le (Nat.lt_succ_self _) e4.1
  have k2 : (H3.push c3).bk H2.n = some ⟨c2, true⟩ := (x3.2 _ (Nat.lt_succ_self _)).trans push_new
  have k2' : (H4.push c4).bk H2.n = some ⟨c2, true⟩ := (x4.2 _ (Nat.lt_succ_of_lt n2)).trans k2
  have k3' : (H4.push c4).bk H3.n = some ⟨c3, true⟩ := (x4.2 _ (Nat.lt_succ_self _)).trans push_new
  have k4' : (H4.push c4).bk H4.n = some ⟨c4, true⟩ := push_new
  have S2 : SrcM (H4.push c4) c2 (stepR m).1 := ((o2.src.ext (Ext.push H2 c2)).ext x3).ext x4
  have S4 := o4.ext (Ext.push H4 c4)
  have O3 := (o3.ext (Ext.push H3 c3)).ext x4
  have X2 : Ext (H2.push c2) (H4.push c4) := x3.trans x4
  simp [-AM.seg, AH.store, push_put, l4, loadN_bk k4', s4, loadN_bk k2', s2, K_weqMachine S4.src.sees S2.sees]
  have xq : Ext (H4.push c4) (((H4.push c4).push c4).push c2) := of_eq_true ext_pp
  have XG := xq
  have N4 : H4.n < (H4.push c4).n := Nat.lt_succ_self _
  generalize ((H4.push c4).push c4).push c2 = G5 at *
  have kk : ∀ b cs, b < (H4.push c4).n → (H4.push c4).bk b = some ⟨cs, true⟩ → G5.bk b = some ⟨cs, true⟩ := fun b cs h1 h2 => (xq.2 b h1).trans h2
  have y2 := kk _ _ (by simp only [push_n]; omega) k2'
  have y3 := kk _ _ (by simp only [push_n]; omega) k3'
  have y4 := kk _ _ N4 k4'
  have xB : Ext (H.push ca) G5 := x2.trans (X2.trans xq)
  simp [-AM.seg, loadN_bk y3, s3, base _ xB]
  refine K_wtoMachine' (hm.ext ((Ext.push _ _).trans xB)) fun c5 rb5 mb5 H5 o5 e5 => ?_
  have O3' := (O3.ext xq).ext e5
  simp [e5, K_weqMachine O3'.src.sees o5.src.sees, ext_pp]
  have x6 : Ext H5 ((H5.push c3).push c5) := of_eq_true ext_pp
  have x6' : Ext G5 ((H5.push c3).push c5) := e5.trans x6
  have O3'' := O3'.ext x6
  generalize (H5.push c3).push c5 = G6 at *
  have z3 : G6.bk H3.n = some ⟨c3, true⟩ := (x6'.2 _ (Nat.lt_of_lt_of_le (Nat.lt_of_lt_of_le (Nat.lt_succ_of_lt n3) (Nat.le_refl _)) xq.1)).trans y3
  simp [-AM.seg, loadN_bk z3, s3]
  have b3 : (H2.push c2).n = H2.n + 1 := rfl
  have b4 : (H3.push c3).n = H3.n + 1 := rfl
  have q4 : (H4.push c4).n ≤ G6.n := Nat.le_trans xq.1 x6'.1
  simp only [push_n] at q4
  have z2 : G6.bk H2.n = some ⟨c2, true⟩ := (x6'.2 _ (Nat.lt_of_lt_of_le (by simp only [push_n]; omega) xq.1)).trans y2
  have z4 : G6.bk H4.n = some ⟨c4, true⟩ := (x6'.2 _ (Nat.lt_of_lt_of_le N4 xq.1)).trans y4
  have T4 := (S4.ext xq).ext x6'
  have XB6 : Ext (H.push ca) G6 := xB.trans x6'
  have X26 : Ext H2 G6 := (Ext.push H2 c2).trans (X2.trans (xq.trans x6'))
  have HB2 : (H.push ca).n ≤ H2.n := (xa.trans (e1.trans e2)).1
  have mlen : m.regs.length ≤ 8589934592 ∧ m.mem.length ≤ 8589934592 := ⟨hm.choose_spec.choose_spec.2.1.2.1, hm.choose_spec.choose_spec.2.2.1.2.1⟩
  have mlen' : (stepR m).1.regs.length ≤ 8589934592 ∧ (stepR m).1.mem.length ≤ 8589934592 := by
    obtain ⟨_, _, _, p1, p2, _⟩ := o4; exact ⟨p1.1, p2.1⟩
  refine K_wmarkMachine O3'' o3 (by omega) fun G7 bs7 M7 y7 hb7 => ?_
  have n7 := y7.1
  have w2 : G7.bk H2.n = some ⟨c2, true⟩ := y7.bk (by omega) (fun hq => by have := hb7 _ hq; omega) z2
  have w4 : G7.bk H4.n = some ⟨c4, true⟩ := y7.bk (by omega) (fun hq => by have := hb7 _ hq; omega) z4
  have U4 : OwnM (H3.push c3).n G7 c4 rb4 mb4 (stepR m).1 := T4.only y7 (by
    obtain ⟨_, _, _, _, _, p1, p2, _⟩ := T4
    exact ⟨fun hq => by have := hb7 _ hq; omega, fun hq => by have := hb7 _ hq; omega⟩)
  have X27 : Ext H2 G7 := y7.new X26 (fun b hb => by have := hb7 _ hb; omega)
  have XB7 : Ext (H.push ca) G7 := y7.new XB6 (fun b hb => by have := hb7 _ hb; omega)
  have U2 := o2.src.ext X27
  have pos7 : ¬ (1 : Int) + m.regs.length + m.mem.length < 0 := by omega
  simp [-AM.seg, pos7, loadN_bk w4, s4, loadN_bk w2, s2, K_weqMachine U4.src.sees U2.sees]
  have x8 : Ext G7 ((G7.push c4).push c2) := of_eq_true ext_pp
  have V4 := U4.ext x8
  have v4 : ((G7.push c4).push c2).bk H4.n = some ⟨c4, true⟩ := (x8.2 _ (by omega)).trans w4
  have v2 : ((G7.push c4).push c2).bk H2.n = some ⟨c2, true⟩ := (x8.2 _ (by omega)).trans w2
  have XB8 := XB7.trans x8
  have X28 := X27.trans x8
  have n8 := x8.1
  generalize (G7.push c4).push c2 = G8 at *
  simp [-AM.seg, loadN_bk v4, s4]
  refine K_wmarkMachine V4 o4 (by omega) fun G9 bs9 M9 y9 hb9 => ?_
  have n9 := y9.1
  have u2 : G9.bk H2.n = some ⟨c2, true⟩ := y9.bk (by omega) (fun hq => by have := hb9 _ hq; omega) v2
  have u4 : G9.bk H4.n = some ⟨c4, true⟩ := y9.bk (by omega) (fun hq => by have := hb9 _ hq; omega) v4
  have X29 : Ext H2 G9 := y9.new X28 (fun b hb => by have := hb9 _ hb; omega)
  have XB9 : Ext (H.push ca) G9 := y9.new XB8 (fun b hb => by have := hb9 _ hb; omega)
  have pos9 : ¬ (1 : Int) + (stepR m).1.regs.length + (stepR m).1.mem.length < 0 := by omega
  simp [-AM.seg, loadN_bk u4, s4]
  refine K_wheldMachine M9.src.sees (by omega) mlen' ?_
  have XB10 : Ext (H.push ca) (G9.push c4) := XB9.to_push
  simp [-AM.seg, pos9, base _ XB10]
  refine K_wtoMachine' (hm.ext ((Ext.push _ _).trans XB10)) fun c6 rb6 mb6 H6 o6 e6 => ?_
  simp
  refine K_iMachineStep (hg.ext ((Ext.push _ _).trans (XB10.trans e6))) o6.src fun c7 rb7 mb7 H7 o7 e7 => ?_
  obtain ⟨a7, b7, d7, hc7⟩ := o7.src.shape
  have s7 : seg c7 0 3 = some c7 := by rw [hc7]; rfl
  have l7 : c7.length = 3 := by rw [hc7]; rfl
  have x7 : Ext G9 (H7.push c7) := (Ext.push G9 c4).trans (e6.trans (e7.trans (Ext.push _ _)))
  have t2 : (H7.push c7).bk H2.n = some ⟨c2, true⟩ := (x7.2 _ (by omega)).trans u2
  have t4 : (H7.push c7).bk H4.n = some ⟨c4, true⟩ := (x7.2 _ (by omega)).trans u4
  have t7 : (H7.push c7).bk H7.n = some ⟨c7, true⟩ := push_new
  have W2 := (o2.src.ext X29).ext x7
  have W7 := o7.ext (Ext.push H7 c7)
  simp [-AM.seg, AH.store, push_put, l7, loadN_bk t7, s7, loadN_bk t2, s2, K_weqMachine W7.src.sees W2.sees]
  have x11 : Ext (H7.push c7) (((H7.push c7).push c7).push c2) := of_eq_true ext_pp
  have r4 : (((H7.push c7).push c7).push c2).bk H4.n = some ⟨c4, true⟩ := (x11.2 _ (Nat.lt_of_lt_of_le (by omega) x7.1)).trans t4
  have M11 := (M9.ext x7).ext x11
  generalize ((H7.push c7).push c7).push c2 = G11 at *
  simp [-AM.seg, loadN_bk r4, s4]
  refine K_wheldMachine M11.src.sees (by omega) mlen' ?_
  simp [pos9]
theorem law_FnExactMachineRun {r e : AV} {pc n : Int} {lr le : List Int} (hg : Glob H) (hr : ArgZ H r lr) (he : ArgZ H e le) : CallK Cd f_wFnExactMachineRun [.agg [r, .I pc, e], .I n] H fun v _ => v = .b true := by
  rw [CallK_F, CallF_eq e_wFnExactMachineRun rfl]
  simp [loadN_push]
  refine K_wszMachine hr.1 hr.2.1 he.1 he.2.1 fun x hx => ?_
  simp
  refine cnd_mk (fun h => ?_) (fun h => ?_)
  · simp
  have hl := hx (by omega)
  have hm : SeesM H [r, .I pc, e] ⟨lr, pc, le⟩ := ⟨r, e, rfl, hr.sees (by omega), he.sees (by omega), hr.2.2.1, he.2.2.1⟩
  generalize hmm : (⟨lr, pc, le⟩ : Mach) = m at hm
  have base : ∀ G, Ext (H.push [r, .I pc, e]) G → G.loadN H.n 0 3 = some [r, .I pc, e] := fun G hG => by
    rw [loadN_ext hG (Nat.lt_succ_self _), loadN_push, if_pos rfl]; rfl
  have xa : Ext (H.push [r, .I pc, e]) ((H.push [r, .I pc, e]).push [r, .I pc, e]) := Ext.push _ _
  simp [loadN_push]
  generalize hca : [r, AV.I pc, e] = ca at *
  refine K_wtoMachine' (hm.ext ((Ext.push _ _).trans xa)) fun c1 rb1 mb1 H1 o1 e1 => ?_
  simp
  refine K_sMachineRun o1.src fun c2 rb2 mb2 H2 o2 e2 => ?_
  obtain ⟨a2, b2, d2, hc2⟩ := o2.src.shape
  have s2 : seg c2 0 3 = some c2 := by rw [hc2]; rfl
  have l2 : c2.length = 3 := by rw [hc2]; rfl
  have x2 : Ext (H.push ca) (H2.push c2) := xa.trans (e1.trans (e2.trans (Ext.push _ _)))
  simp [-AM.seg, AH.store, push_put, l2, base _ x2]
  refine K_wtoMachine' (hm.ext ((Ext.push _ _).trans x2)) fun c3 rb3 mb3 H3 o3 e3 => ?_
  obtain ⟨a3, b3, d3, hc3⟩ := o3.src.shape
  have s3 : seg c3 0 3 = some c3 := by rw [hc3]; rfl
  have l3 : c3.length = 3 := by rw [hc3]; rfl
  have x3 : Ext (H2.push c2) (H3.push c3) := e3.to_push
  simp [-AM.seg, AH.store, push_put, l3, loadN_push, s3]
  refine K_iMachineRun (hg.ext ((Ext.push _ _).trans (x2.trans x3))) (o3.src.ext (Ext.push H3 c3)) fun c4 rb4 mb4 H4 o4 e4 => ?_
  obtain ⟨a4, b4, d4, hc4⟩ := o4.src.shape
  have s4 : seg c4 0 3 = some c4 := by rw [hc4]; rfl
  have l4 : c4.length = 3 := by rw [hc4]; rfl
  have x4 : Ext (H3.push c3) (H4.push c4) := e4.to_push
  have n2 : H2.n < H3.n := Nat.lt_of_lt_of_le (Nat.lt_succ_self _) e3.1
  have n3 : H3.n < H4.n := Nat.lt_of_lt_of_le (Nat.lt_succ_self _) e4.1
  have k2 : (H3.push c3).bk H2.n = some ⟨c2, true⟩ := (x3.2 _ (Nat.lt_succ_self _)).trans push_new
  have k2' : (H4.push c4).bk H2.n = some ⟨c2, true⟩ := (x4.2 _ (Nat.lt_succ_of_lt n2)).trans k2
  have k3' : (H4.push c4).bk H3.n = some ⟨c3, true⟩ := (x4.2 _ (Nat.lt_succ_self _)).trans push_new
  have k4' : (H4.push c4).bk H4.n = some ⟨c4, true⟩ := push_new
  have S2 : SrcM (H4.push c4) c2 (runR m n).1 := ((o2.src.ext (Ext.push H2 c2)).ext x3).ext x4
  have S4 := o4.ext (Ext.push H4 c4)
  have O3 := (o3.ext (Ext.push H3 c3)).ext x4
  have X2 : Ext (H2.push c2) (H4.push c4) := x3.trans x4
  simp [-AM.seg, AH.store, push_put, l4, loadN_bk k4', s4, loadN_bk k2', s2, K_weqMachine S4.src.sees S2.sees]
  have xq : Ext (H4.push c4) (((H4.push c4).push c4).push c2) := of_eq_true ext_pp
  have XG := xq
  have N4 : H4.n < (H4.push c4).n := Nat.lt_succ_self _
  generalize ((H4.push c4).push c4).push c2 = G5 at *
  have kk : ∀ b cs, b < (H4.push c4).n → (H4.push c4).bk b = some ⟨cs, true⟩ → G5.bk b = some ⟨cs, true⟩ := fun b cs h1 h2 => (xq.2 b h1).trans h2
  have y2 := kk _ _ (by simp only [push_n]; omega) k2'
  have y3 := kk _ _ (by simp only [push_n]; omega) k3'
  have y4 := kk _ _ N4 k4'
  have xB : Ext (H.push ca) G5 := x2.trans (X2.trans xq)
  simp [-AM.seg, loadN_bk y3, s3, base _ xB]
  refine K_wtoMachine' (hm.ext ((Ext.push _ _).trans xB)) fun c5 rb5 mb5 H5 o5 e5 => ?_
  have O3' := (O3.ext xq).ext e5
  simp [e5, K_weqMachine O3'.src.sees o5.src.sees, ext_pp]
  have x6 : Ext H5 ((H5.push c3).push c5) := of_eq_true ext_pp
  have x6' : Ext G5 ((H5.push c3).push c5) := e5.trans x6
  have O3'' := O3'.ext x6
  generalize (H5.push c3).push c5 = G6 at *
  have z3 : G6.bk H3.n = some ⟨c3, true⟩ := (x6'.2 _ (Nat.lt_of_lt_of_le (Nat.lt_of_lt_of_le (Nat.lt_succ_of_lt n3) (Nat.le_refl _)) xq.1)).trans y3
  simp [-AM.seg, loadN_bk z3, s3]
  have b3 : (H2.push c2).n = H2.n + 1 := rfl
  have b4 : (H3.push c3).n = H3.n + 1 := rfl
  have q4 : (H4.push c4).n ≤ G6.n := Nat.le_trans xq.1 x6'.1
  simp only [push_n] at q4
  have z2 : G6.bk H2.n = some ⟨c2, true⟩ := (x6'.2 _ (Nat.lt_of_lt_of_le (by simp only [push_n]; omega) xq.1)).trans y2
  have z4 : G6.bk H4.n = some ⟨c4, true⟩ := (x6'.2 _ (Nat.lt_of_lt_of_le N4 xq.1)).trans y4
  have T4 := (S4.ext xq).ext x6'
  have XB6 : Ext (H.push ca) G6 := xB.trans x6'
  have X26 : Ext H2 G6 := (Ext.push H2 c2).trans (X2.trans (xq.trans x6'))
  have HB2 : (H.push ca).n ≤ H2.n := (xa.trans (e1.trans e2)).1
  have mlen : m.regs.length ≤ 8589934592 ∧ m.mem.length ≤ 8589934592 := ⟨hm.choose_spec.choose_spec.2.1.2.1, hm.choose_spec.choose_spec.2.2.1.2.1⟩
  have mlen' : (runR m n).1.regs.length ≤ 8589934592 ∧ (runR m n).1.mem.length ≤ 8589934592 := by
    obtain ⟨_, _, _, p1, p2, _⟩ := o4; exact ⟨p1.1, p2.1⟩
  refine K_wmarkMachine O3'' o3 (by omega) fun G7 bs7 M7 y7 hb7 => ?_
  have n7 := y7.1
  have w2 : G7.bk H2.n = some ⟨c2, true⟩ := y7.bk (by omega) (fun hq => by have := hb7 _ hq; omega) z2
  have w4 : G7.bk H4.n = some ⟨c4, true⟩ := y7.bk (by omega) (fun hq => by have := hb7 _ hq; omega) z4
  have U4 : OwnM (H3.push c3).n G7 c4 rb4 mb4 (runR m n).1 := T4.only y7 (by
    obtain ⟨_, _, _, _, _, p1, p2, _⟩ := T4
    exact ⟨fun hq => by have := hb7 _ hq; omega, fun hq => by have := hb7 _ hq; omega⟩)
  have X27 : Ext H2 G7 := y7.new X26 (fun b hb => by have := hb7 _ hb; omega)
  have XB7 : Ext (H.push ca) G7 := y7.new XB6 (fun b hb => by have := hb7 _ hb; omega)
  have U2 := o2.src.ext X27
  have pos7 : ¬ (1 : Int) + m.regs.length + m.mem.length < 0 := by omega
  simp [-AM.seg, pos7, loadN_bk w4, s4, loadN_bk w2, s2, K_weqMachine U4.src.sees U2.sees]
  have x8 : Ext G7 ((G7.push c4).push c2) := of_eq_true ext_pp
  have V4 := U4.ext x8
  have v4 : ((G7.push c4).push c2).bk H4.n = some ⟨c4, true⟩ := (x8.2 _ (by omega)).trans w4
  have v2 : ((G7.push c4).push c2).bk H2.n = some ⟨c2, true⟩ := (x8.2 _ (by omega)).trans w2
  have XB8 := XB7.trans x8
  have X28 := X27.trans x8
  have n8 := x8.1
  generalize (G7.push c4).push c2 = G8 at *
  simp [-AM.seg, loadN_bk v4, s4]
  refine K_wmarkMachine V4 o4 (by omega) fun G9 bs9 M9 y9 hb9 => ?_
  have n9 := y9.1
  have u2 : G9.bk H2.n = some ⟨c2, true⟩ := y9.bk (by omega) (fun hq => by have := hb9 _ hq; omega) v2
  have u4 : G9.bk H4.n = some ⟨c4, true⟩ := y9.bk (by omega) (fun hq => by have := hb9 _ hq; omega) v4
  have X29 : Ext H2 G9 := y9.new X28 (fun b hb => by have := hb9 _ hb; omega)
  have XB9 : Ext (H.push ca) G9 := y9.new XB8 (fun b hb => by have := hb9 _ hb; omega)
  have pos9 : ¬ (1 : Int) + (runR m n).1.regs.length + (runR m n).1.mem.length < 0 := by omega
  simp [-AM.seg, loadN_bk u4, s4]
  refine K_wheldMachine M9.src.sees (by omega) mlen' ?_
  have XB10 : Ext (H.push ca) (G9.push c4) := XB9.to_push
  simp [-AM.seg, pos9, base _ XB10]
  refine K_wtoMachine' (hm.ext ((Ext.push _ _).trans XB10)) fun c6 rb6 mb6 H6 o6 e6 => ?_
  simp
  refine K_iMachineRun (hg.ext ((Ext.push _ _).trans (XB10.trans e6))) o6.src fun c7 rb7 mb7 H7 o7 e7 => ?_
  obtain ⟨a7, b7, d7, hc7⟩ := o7.src.shape
  have s7 : seg c7 0 3 = some c7 := by rw [hc7]; rfl
  have l7 : c7.length = 3 := by rw [hc7]; rfl
  have x7 : Ext G9 (H7.push c7) := (Ext.push G9 c4).trans (e6.trans (e7.trans (Ext.push _ _)))
  have t2 : (H7.push c7).bk H2.n = some ⟨c2, true⟩ := (x7.2 _ (by omega)).trans u2
  have t4 : (H7.push c7).bk H4.n = some ⟨c4, true⟩ := (x7.2 _ (by omega)).trans u4
  have t7 : (H7.push c7).bk H7.n = some ⟨c7, true⟩ := push_new
  have W2 := (o2.src.ext X29).ext x7
  have W7 := o7.ext (Ext.push H7 c7)
  simp [-AM.seg, AH.store, push_put, l7, loadN_bk t7, s7, loadN_bk t2, s2, K_weqMachine W7.src.sees W2.sees]
  have x11 : Ext (H7.push c7) (((H7.push c7).push c7).push c2) := of_eq_true ext_pp
  have r4 : (((H7.push c7).push c7).push c2).bk H4.n = some ⟨c4, true⟩ := (x11.2 _ (Nat.lt_of_lt_of_le (by omega) x7.1)).trans t4
  have M11 := (M9.ext x7).ext x11
  generalize ((H7.push c7).push c7).push c2 = G11 at *
  simp [-AM.seg, loadN_bk r4, s4]
  refine K_wheldMachine M11.src.sees (by omega) mlen' ?_
  simp [pos9]
end
end Go.Proofs.YtdgmihohmkdpjaaDoor.AM
