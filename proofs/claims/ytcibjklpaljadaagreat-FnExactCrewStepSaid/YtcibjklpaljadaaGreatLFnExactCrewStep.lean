/-
  The law FnExactCrewStep answers true for every input, and the input reads afterwards as it read before. No condition.
-/
import Derived.Test.YtcibjklpaljadaaGreatRows
import Derived.Test.YtcibjklpaljadaaGreatFM5
import Derived.WalkKit
import Derived.ProofKit
import Derived.OpenShut
import Derived.ShutString
import Derived.ChangeOld
import Derived.Below
import Derived.SizedLaws
import Derived.Lib.SmallJoins
namespace Go.Proofs.YtcibjklpaljadaaGreat.fnExactCrewStep
open Go.ChangeShapes Go.WideShapes Go.ChangeAt Go.RowKit Go.Joins Go.Deep
open Go.ChangeMaps (open_string shut_string)
set_option linter.unusedVariables false
set_option maxRecDepth 100000
theorem own : ownKnob Tryz.prog.godebug = none := by kernel_rfl
theorem laidOut : laidOutB Tryz.prog = true := by kernel_rfl
theorem undQ : ∃ f0 f1 f2 f3 f4 : Field, Tryz.prog.underlying 163 = some (.struct #[f0, f1, f2, f3, f4]) ∧ (f0.type = 3 ∧ f0.offset = 0) ∧ (f1.type = 3 ∧ f1.offset = 1) ∧ (f2.type = 3 ∧ f2.offset = 2) ∧ (f3.type = 3 ∧ f3.offset = 3) ∧ (f4.type = 3 ∧ f4.offset = 4) := ⟨_, _, _, _, _, Tryz.underlying163, ⟨rfl, rfl⟩, ⟨rfl, rfl⟩, ⟨rfl, rfl⟩, ⟨rfl, rfl⟩, ⟨rfl, rfl⟩⟩
theorem undT : ∃ f0 f1 : Field, Tryz.prog.underlying 103 = some (.struct #[f0, f1]) ∧ (f0.type = 25 ∧ f0.offset = 0) ∧ (f1.type = 3 ∧ f1.offset = 1) := ⟨_, _, Tryz.underlying103, ⟨rfl, rfl⟩, ⟨rfl, rfl⟩⟩
theorem undB : ∃ f0 f1 : Field, Tryz.prog.underlying 72 = some (.struct #[f0, f1]) ∧ (f0.type = 3 ∧ f0.offset = 0) ∧ (f1.type = 25 ∧ f1.offset = 1) := ⟨_, _, Tryz.underlying72, ⟨rfl, rfl⟩, ⟨rfl, rfl⟩⟩
theorem ci : Tryz.prog.cellsOf 3 = 1 := by kernel_rfl
theorem cs1 : Tryz.prog.cellsOf 25 = 1 := by kernel_rfl
theorem cssq : Tryz.prog.cellsOf 22 = 1 := by kernel_rfl
theorem csq : Tryz.prog.cellsOf 100 = 1 := by kernel_rfl
theorem cst : Tryz.prog.cellsOf 23 = 1 := by kernel_rfl
theorem csb : Tryz.prog.cellsOf 24 = 1 := by kernel_rfl
theorem undK : ∃ f0 f1 f2 f3 f4 f5 : Field, Tryz.prog.underlying 27 = some (.struct #[f0, f1, f2, f3, f4, f5]) ∧ (f0.type = 22 ∧ f0.offset = 0) ∧ (f1.type = 23 ∧ f1.offset = 1) ∧ (f2.type = 24 ∧ f2.offset = 2) ∧ (f3.type = 3 ∧ f3.offset = 3) ∧ (f4.type = 3 ∧ f4.offset = 4) ∧ (f5.type = 25 ∧ f5.offset = 5) := ⟨_, _, _, _, _, _, Tryz.underlying27, ⟨rfl, rfl⟩, ⟨rfl, rfl⟩, ⟨rfl, rfl⟩, ⟨rfl, rfl⟩, ⟨rfl, rfl⟩, ⟨rfl, rfl⟩⟩
theorem lifted (os : Os) (started : os.Started) (H : Type) (enc : TypeId × Value → H) :
    ReturnsInHanded {} Tryz.checked os 3 .any (Rows.fnExactCrewStepSpec.pre6 enc Tryz.prog Tryz.f3 Rows.fnExactCrewStepRow.domain false) (Rows.fnExactCrewStepSpec.post enc Tryz.prog Tryz.f3 false true false false) := by
  refine returnsInHanded_of_change_sized (C := Tryz.checked) own started (by kernel_rfl) Tryz.func3
    (ChangeSpec.witness6 (enc := enc) (C := Tryz.checked) false ⟨#[], #[.agg #[.slice none 0 0, .slice none 0 0, .slice none 0 0, .int .i64 0, .int .i64 0, .slice none 0 0]], []⟩ 8 (by kernel_rfl) (by kernel_rfl) (by kernel_rfl) (by kernel_rfl)) ?_
  intro W base args ds gs before hval0 hW hcnd hsz0 _
  have hval : ∀ (j : Nat) t v, Tryz.f3.params[j]? = some t → args[j]? = some v → Value.okWide Tryz.prog W .any base t v := hval0
  have hW' := hW
  obtain ⟨p, q, hA0, hV, rfl, hfz, hnd⟩ := hW
  have hA : DataW.TrodAll enc Tryz.prog W 0 (fun _ => true) true Tryz.f3.params.toList args.toList ds p := hA0
  rw [Tryz.params3] at hA hval
  obtain ⟨v0, vs0, d0, ds0, p0, q0, hargs, rfl, rfl, h0, r0⟩ := trodAll_cons hA
  obtain ⟨rfl, rfl, rfl⟩ := trodAll_nil r0
  obtain rfl : args = #[v0] := by cases args; simp_all
  obtain ⟨rfl, rfl⟩ := trodVars_none hV
  have k0 := h0
  have lt0 : ∀ x ∈ p0, x.block < W.heap.size := by obtain ⟨m, hm⟩ := k0; exact DataW.trod_lt m _ _ _ hm
  obtain ⟨f0, f1, f2, f3, f4, f5, hs, t0, t1, t2, t3, t4, t5⟩ := undK
  obtain ⟨u0, u1, u2, u3, u4, u5, y0, y1, y2, y3, y4, y5, n, rfl, g0, g1, g2, g3, g4, g5⟩ := AM.open_six hs (by kernel_rfl) ⟨t0.2, by rw [t0.1]; exact cssq⟩ ⟨t1.2, by rw [t1.1]; exact cst⟩ ⟨t2.2, by rw [t2.1]; exact csb⟩ ⟨t3.2, by rw [t3.1]; exact ci⟩ ⟨t4.2, by rw [t4.1]; exact ci⟩ ⟨t5.2, by rw [t5.1]; exact cs1⟩ (hval 0 27 v0 rfl rfl) h0
  rw [t0.1] at g0; rw [t1.1] at g1; rw [t2.1] at g2; rw [t3.1] at g3; rw [t4.1] at g4; rw [t5.1] at g5
  obtain ⟨ac, lc, cc, RC, rfl, wc⟩ : ∃ a len cap R, u0 = .slice a len cap ∧ AM.IsCs W a len cap R := by
    obtain ⟨f0, f1, f2, f3, f4, hs, t0, t1, t2, t3, t4⟩ := undQ
    exact AM.open_codes Tryz.underlying22 csq Tryz.underlying100 hs Tryz.underlying3 (by kernel_rfl) ci t0 t1 t2 t3 t4 g0
  obtain ⟨at_, lt, ct, RT, rfl, wt⟩ : ∃ a len cap R, u1 = .slice a len cap ∧ AM.IsTs W a len cap R := by
    obtain ⟨f0, f1, hs, t0, t1⟩ := undT
    exact AM.open_threads Tryz.underlying23 hs Tryz.underlying3 Tryz.underlying25 (by kernel_rfl) ci cs1 t0 t1 g1
  obtain ⟨ab, lb, cb, RB, rfl, wb⟩ : ∃ a len cap R, u2 = .slice a len cap ∧ AM.IsBs W a len cap R := by
    obtain ⟨f0, f1, hs, t0, t1⟩ := undB
    exact AM.open_boxes Tryz.underlying24 hs Tryz.underlying3 Tryz.underlying25 (by kernel_rfl) ci cs1 t0 t1 g2
  obtain ⟨turn, hi3, _⟩ := DataW.trod_int Tryz.underlying3 g3
  obtain ⟨idle, hi4, _⟩ := DataW.trod_int Tryz.underlying3 g4
  simp only [List.cons.injEq, and_true] at hi3 hi4
  subst hi3
  subst hi4
  obtain ⟨ao, lo, co, zs, rfl, wo⟩ := AM.open_row Tryz.underlying25 Tryz.underlying3 ci g5
  clear hA0 hval0 hsz0
  refine (AM.crew_lift (P := Tryz.prog) AM.fits (Checked.mixed Tryz.checked) wc wt wb wo (fun _ => (AM.VRs.nil _)) fun H c m h => AM.law_FnExactCrewStep h).mono fun e W' ⟨he, bel⟩ => ?_
  subst he
  exact ⟨_, rfl, _, _, _, [], _, [], hW', trodAll_mk1 (shut_bool Tryz.underlying4 _), (trodAll_cons_mk (Below.trod laidOut (by kernel_rfl) (of_decide_eq_true (by kernel_rfl)) k0 bel lt0) trodAll_mk0), rfl, bel.frame _, fun h => by cases h⟩
def hN : List Nat := [104, 97, 114, 110, 101, 115, 115]
def sN : List Nat := [55, 98, 55, 53, 101, 51, 50, 98, 57, 55, 100, 54, 54, 50, 50, 52, 52, 102, 98, 54, 99, 55, 50, 49, 51, 49, 57, 54, 52, 53, 102, 55, 52, 49, 50, 57, 101, 98, 99, 55, 54, 99, 56, 57, 98, 52, 99, 56, 101, 57, 101, 102, 98, 52, 53, 50, 52, 49, 50, 55, 102, 48, 101, 54]
def cN : List Nat := [99, 117, 116]
def rN : List Nat := [97, 116, 32, 108, 111, 111, 112, 46, 101, 120, 97, 109, 112, 108, 101, 47, 99, 111, 116, 104, 114, 101, 97, 100, 115, 47, 108, 97, 119, 115, 46, 70, 110, 69, 120, 97, 99, 116, 67, 114, 101, 119, 83, 116, 101, 112, 32, 108, 111, 111, 112, 46, 101, 120, 97, 109, 112, 108, 101, 47, 99, 111, 116, 104, 114, 101, 97, 100, 115, 47, 108, 97, 119, 115, 46, 70, 110, 69, 120, 97, 99, 116, 84, 97, 115, 107, 83, 116, 101, 112]
theorem order_0 : Tryz.prog.initOrder = "harness 7b75e32b97d662244fb6c721319645f74129ebc76c89b4c8e9efb4524127f0e6 cut at loop.example/cothreads/laws.FnExactCrewStep loop.example/cothreads/laws.FnExactTaskStep" := by kernel_rfl
theorem order_1 : "harness 7b75e32b97d662244fb6c721319645f74129ebc76c89b4c8e9efb4524127f0e6 cut at loop.example/cothreads/laws.FnExactCrewStep loop.example/cothreads/laws.FnExactTaskStep" = String.ofList ((hN ++ 32 :: (sN ++ 32 :: (cN ++ 32 :: rN))).map Char.ofNat) := by kernel_rfl
theorem order_ : Tryz.prog.initOrder = String.ofList ((hN ++ 32 :: (sN ++ 32 :: (cN ++ 32 :: rN))).map Char.ofNat) := order_0.trans order_1
theorem letters : Tryz.prog.initOrder.toList = hN.map Char.ofNat ++ Char.ofNat 32 :: (sN.map Char.ofNat ++ Char.ofNat 32 :: (cN.map Char.ofNat ++ Char.ofNat 32 :: rN.map Char.ofNat)) := by
  rw [order_, String.toList_ofList]
  simp only [List.map_append, List.map_cons]
theorem words_at (w r : List Char) (h : ∀ c ∈ w, c ≠ Char.ofNat 32) : wordsSigns (w ++ Char.ofNat 32 :: r) = w :: wordsSigns r := by
  induction w with
  | nil => rfl
  | cons c w ih =>
    have hc := h c List.mem_cons_self
    have e := ih (fun x hx => h x (List.mem_cons_of_mem _ hx))
    rw [List.cons_append, wordsSigns.eq_3 _ _ (fun hh => hc hh), e]
theorem words : behindMainWord (wordsSigns Tryz.prog.initOrder.toList) = cN.map Char.ofNat :: wordsSigns (rN.map Char.ofNat) := by
  rw [letters, words_at _ _ (by decide +kernel), words_at _ _ (by decide +kernel), words_at _ _ (by decide +kernel)]
  simp only [behindMainWord]
  rw [if_pos (by decide +kernel)]
theorem make_of {P : Program} {X : List (List Char)} (h : behindMainWord (wordsSigns P.initOrder.toList) = cN.map Char.ofNat :: X) : P.make = some Make.cut := by
  unfold Program.make
  rw [h]
  rfl
theorem strip_cut {X : List (List Char)} : stripLifts liftWords (cN.map Char.ofNat :: X) = ([], cN.map Char.ofNat :: X) := by rfl
theorem lifts_of {P : Program} {X : List (List Char)} (h : behindMainWord (wordsSigns P.initOrder.toList) = cN.map Char.ofNat :: X) : P.liftsFinal = false := by
  unfold Program.liftsFinal Program.headLifts
  simp only [h, strip_cut]
  rfl
theorem enter_of {P : Program} {X : List (List Char)} (h : behindMainWord (wordsSigns P.initOrder.toList) = cN.map Char.ofNat :: X) (h1 : P.laysLater = false) (h2 : P.bearsReflect = false) (h3 : P.doorFits [] = true) : P.mayEnter = true := by
  unfold Program.mayEnter
  rw [h]
  simp only [strip_cut, h1, h2, h3]
  rfl
theorem enter_ : Tryz.prog.mayEnter = true := enter_of words (by kernel_rfl) (by kernel_rfl) (by kernel_rfl)
set_option maxHeartbeats 4000000 in
theorem joined : joinedFacts Tryz.prog 3 Tryz.f3 Rows.fnExactCrewStepSpec Rows.fnExactCrewStepRow = true := by
  unfold joinedFacts
  rw [enter_, lifts_of words, make_of words]
  simp only [Bool.and_eq_true]
  repeat' (refine And.intro ?_ ?_)
  all_goals first | exact True.intro | (as_aux_lemma => kernel_rfl)
theorem over : Rows.fnExactCrewStepRow.holds Tryz.pinned (OpenSpec.ofChange Rows.fnExactCrewStepSpec) :=
  OpenClaim.holds_of_wide 3 Tryz.f3 rfl rfl rfl rfl rfl rfl rfl ⟨rfl, rfl, rfl, rfl, rfl⟩ rfl rfl rfl rfl rfl (by as_aux_lemma => kernel_rfl) Tryz.func3 joined
    (of_decide_eq_true (by as_aux_lemma => kernel_rfl)) (by unfold Func.isWrapper; first | (rw [if_pos (by as_aux_lemma => decide +kernel)]; kernel_rfl) | (rw [if_neg (by as_aux_lemma => decide +kernel)]; exact ⟨rfl, rfl⟩))
    (fun os started H enc _ => lifted os started H enc)
theorem proved : Rows.FnExactCrewStepSaid := over
end Go.Proofs.YtcibjklpaljadaaGreat.fnExactCrewStep
namespace Go.Proofs.YtcibjklpaljadaaGreat
/-- The row, under a short name, for the claim. -/
theorem fnExactCrewStep_holds : Rows.FnExactCrewStepSaid := fnExactCrewStep.proved
end Go.Proofs.YtcibjklpaljadaaGreat
