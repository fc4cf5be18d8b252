/-
  The law FnExactMachineRun answers true for every input, taking that the two tables of instructions hold what the program's text lays; the input and the tables read afterwards as they read before. The card ties the tables to the program's text.
-/
import Derived.Test.YtdgmihohmkdpjaaDoorCards
import Derived.Test.YtdgmihohmkdpjaaDoorTie
import Derived.Test.YtdgmihohmkdpjaaDoorG
import Derived.Test.YtdgmihohmkdpjaaDoorAMzu
import Derived.Lib.SmallJoins
import Derived.WalkKit
import Derived.ProofKit
import Derived.OpenShut
import Derived.OpenVars
import Derived.ShutString
import Derived.ChangeOld
import Derived.Below
import Derived.SizedLaws
import Derived.LaidMore
import Derived.SevenTiedAt
namespace Go.Proofs.YtdgmihohmkdpjaaDoor.fnExactMachineRun
open Go.ChangeShapes Go.WideShapes Go.ChangeAt Go.RowKit Go.Joins Go.Deep
open Go.ChangeMaps (open_string shut_string)
set_option linter.unusedVariables false
theorem own : ownKnob Tryd.prog.godebug = none := by kernel_rfl
theorem laidOut : laidOutB Tryd.prog = true := by kernel_rfl
theorem und : ∃ f0 f1 f2 : Field, Tryd.prog.underlying 24 = some (.struct #[f0, f1, f2]) ∧ f0.type = 22 ∧ f1.type = 3 ∧ f2.type = 22 ∧ oneCellFields Tryd.prog #[f0, f1, f2] = true := ⟨_, _, _, Tryd.underlying24, rfl, rfl, rfl, by kernel_rfl⟩
set_option maxRecDepth 100000 in
theorem lifted (os : Os) (started : os.Started) (H : Type) (enc : TypeId × Value → H) :
    ReturnsInHanded {} Tryd.checked os 4 .any (fun w args => (Rows.fnExactMachineRunSpec.pre enc Tryd.prog Tryd.f4 [] false w args ∧ laidMetH Tryd.prog laidL w) ∧ sizedMet enc Tryd.prog Tryd.f4 (OpenSpec.ofChange Rows.fnExactMachineRunSpec) false w args)
      (Rows.fnExactMachineRunSpec.post enc Tryd.prog Tryd.f4 false true false false) := by
  refine returnsInHanded_of_change_and (C := Tryd.checked) (X := fun w _ => laidMetH Tryd.prog laidL w) (fun _ _ _ hh h => h.of_heap hh) own started (by kernel_rfl) Tryd.func4
    (ChangeSpec.witness_shaped (enc := enc) (C := Tryd.checked) (os := os) (X := fun w _ => laidMetH Tryd.prog laidL w) false (World.doorLaid Tryd.prog 40 os) #[.agg #[.slice none 0 0, .int .i64 0, .slice none 0 0], .int .i64 0] 8 rfl (World.shaped_of_RefB (by kernel_rfl) (by kernel_rfl)) (by kernel_rfl) (by kernel_rfl) (by kernel_rfl) (door_met os _)) ?_
  intro W base args ds gs before hval0 hW _ _ hL _
  have hval : ∀ (j : Nat) t v, Tryd.f4.params[j]? = some t → args[j]? = some v → Value.okWide Tryd.prog W .any base t v := hval0
  have hW' := hW
  obtain ⟨p, q, hA0, hV, rfl, hfz, hnd⟩ := hW
  have hA : DataW.TrodAll enc Tryd.prog W 0 (fun _ => true) true Tryd.f4.params.toList args.toList ds p := hA0
  rw [Tryd.params4] at hA hval
  obtain ⟨v0, vs0, d0, ds0, p0, q0, hargs, rfl, rfl, h0, r0⟩ := trodAll_cons hA
  obtain ⟨v1, vs1, d1, ds1, p1, q1, rfl, rfl, rfl, h1, r1⟩ := trodAll_cons r0
  obtain ⟨rfl, rfl, rfl⟩ := trodAll_nil r1
  obtain rfl : args = #[v0, v1] := by cases args; simp_all
  have hV1 := hV
  obtain ⟨gg0, gt0, gc0, gf0, gd0, gp0, gg1, gt1, gc1, gf1, gd1, gp1, rfl, _⟩ := trodVars_two hV
  have k0 := h0
  have lt0 : ∀ x ∈ p0, x.block < W.heap.size := by obtain ⟨m, hm⟩ := k0; exact DataW.trod_lt m _ _ _ hm
  obtain ⟨f0, f1, f2, hs, t0, t1, t2, hone⟩ := und
  obtain ⟨u0, u1, u2, y0, y1, y2, n, rfl, _, _, g0, g1, g2⟩ := open_agg3 hs hone (by kernel_rfl) (hval 0 24 v0 rfl rfl) h0
  rw [t0] at g0; rw [t1] at g1; rw [t2] at g2
  have row : ∀ (u : Value) y, DataW.trod enc Tryd.prog W 0 (fun _ => true) true n 22 [u] = some y → ∃ a len cap zs, u = .slice a len cap ∧ AM.IsRow .i64 W a len cap zs := by
    intro u y hf
    rcases open_ints Tryd.underlying22 Tryd.underlying3 (by kernel_rfl) hf with ⟨hcs, _⟩ | ⟨x, l, c, zs, hcs, _, hl, hm, hz, _, hcell, hwz⟩
    · simp only [List.cons.injEq, and_true] at hcs
      exact ⟨none, 0, 0, [], hcs, .inl ⟨rfl, rfl, rfl, rfl⟩⟩
    · simp only [List.cons.injEq, and_true] at hcs
      exact ⟨some x, l, c, zs, hcs, .inr ⟨x, rfl, hl, hm, by simpa using hz, hcell, hwz⟩⟩
  obtain ⟨a, len, cap, zs, rfl, w0⟩ := row _ _ g0
  obtain ⟨a', len', cap', zs', rfl, w2⟩ := row _ _ g2
  obtain ⟨i, hi, _⟩ := DataW.trod_int Tryd.underlying3 g1
  simp only [List.cons.injEq, and_true] at hi
  subst hi
  obtain ⟨an, rfl, rfl, rfl, wn⟩ := open_int Tryd.underlying3 (hval 1 3 v1 rfl rfl) h1
  clear hA0 hval0
  obtain ⟨htc, hsz⟩ := tab_cells hL
  obtain ⟨ns, hvars⟩ := AM.vars_of htc
  have hlies : AM.LiesG (AM.glT ns) W [AM.rowB .i64 a zs, AM.rowB .i64 a' zs'] := fun r hr => by
    simp only [List.mem_cons, List.not_mem_nil, or_false] at hr
    rcases hr with rfl | rfl
    · exact AM.rowG_lies w0
    · exact AM.rowG_lies w2
  have hVR : AM.VR (AM.rhoG (AM.glT ns) W.heap.size [AM.rowB .i64 a zs, AM.rowB .i64 a' zs']) (.agg [AM.rowV (W.heap.size + 0) a len cap, .i .i64 i, AM.rowV (W.heap.size + 1) a' len' cap']) (.agg #[.slice a len cap, .int .i64 i, .slice a' len' cap']) := by
    have q := AM.VRs.cons (AM.rowG_v (gl := AM.glT ns) (bs := [AM.rowB .i64 a zs, AM.rowB .i64 a' zs']) (j := 0) w0 rfl) (AM.VRs.cons (.i .i64 i) (AM.VRs.cons (AM.rowG_v (bs := [AM.rowB .i64 a zs, AM.rowB .i64 a' zs']) (j := 1) w2 rfl) (AM.VRs.nil _)))
    exact .agg (by simp only [List.all_cons, List.all_nil, AM.rowV_flat]; rfl) (by simp) q.2
  refine (AM.liftG (P := Tryd.prog) AM.fits (Checked.mixed Tryd.checked) hsz hvars hlies (AM.VRs.cons hVR (AM.VRs.cons (.i .i64 an) (AM.VRs.nil _))) (AM.law_FnExactMachineRun (AM.glob_start hsz) (AM.rowG_argZ (j := 0) w0 rfl) (AM.rowG_argZ (j := 1) w2 rfl))).mono fun e W' ⟨he, bel⟩ => ?_
  subst he
  exact ⟨_, rfl, _, _, _, [], _, _, hW', trodAll_mk1 (shut_bool Tryd.underlying4 _), (trodAll_cons_mk (Below.trod laidOut (by kernel_rfl) (of_decide_eq_true (by kernel_rfl)) k0 bel lt0) (trodAll_cons_mk (shut_int Tryd.underlying3 wn) trodAll_mk0)), Below.trodVars laidOut bel (by kernel_rfl) hV1, bel.frame _, fun h => by cases h⟩
theorem over : Rows.fnExactMachineRunRow.holds Tryd.pinned (OpenSpec.ofChange Rows.fnExactMachineRunSpec) :=
  OpenClaim.holds_of_wide 4 Tryd.f4 rfl rfl rfl rfl rfl rfl rfl ⟨rfl, rfl, rfl, rfl, rfl⟩ rfl rfl rfl rfl rfl (by kernel_rfl) Tryd.func4 (by kernel_rfl)
    (of_decide_eq_true (by kernel_rfl)) (by unfold Func.isWrapper; first | (rw [if_pos (by decide +kernel)]; kernel_rfl) | (rw [if_neg (by decide +kernel)]; exact ⟨rfl, rfl⟩))
    (fun os started H enc _ => lifted os started H enc)
theorem proved : Rows.FnExactMachineRunCardSaid :=
  Claim7.holds_tied_plain_at .later [] [.wider, .data] true (true, "17f2326bde6f29552ce6926a90d4d51b8ec58bd4a7d783aca9405e8b01358471") false
    over (fun _ h => by cases h) (by kernel_rfl) (fun _ h => by cases h) fnExactMachineRun_row_tie rfl ⟨rfl, rfl⟩ (by kernel_rfl) rfl
    (fun f fn hf hfn => by
      obtain rfl : f = 4 := Option.some.inj ((show Tryd.prog.funcNamed "loop.example/cothreads/laws.FnExactMachineRun" = some 4 by kernel_rfl).symm.trans hf) |>.symm
      obtain rfl : fn = Tryd.f4 := (Option.some.inj (Tryd.func4.symm.trans hfn)).symm
      exact ⟨by kernel_rfl, fun j t ht => by
        rw [Tryd.params4] at ht
        have hm : t ∈ [24, 3] := by simpa using Array.mem_of_getElem? ht
        have hall : ([24, 3].all fun u => !Tryd.prog.wantsStandIn u) = true := by kernel_rfl
        exact (show Tryd.prog.wantsStandIn t = false by simpa using List.all_eq_true.1 hall t hm)⟩)
    (by kernel_rfl)
end Go.Proofs.YtdgmihohmkdpjaaDoor.fnExactMachineRun
namespace Go.Proofs.YtdgmihohmkdpjaaDoor
/-- The card, under a short name, for the claim. -/
theorem fnExactMachineRun_holds : Rows.FnExactMachineRunCardSaid := fnExactMachineRun.proved
end Go.Proofs.YtdgmihohmkdpjaaDoor
