/-
  The law FnExactTaskStep answers true for every input, and the input reads afterwards as it read before. No condition.
-/
import Derived.Test.YtcibjklpaljadaaGreatRows
import Derived.Test.YtcibjklpaljadaaGreatHM5
import Derived.WalkKit
import Derived.ProofKit
import Derived.OpenShut
import Derived.ShutString
import Derived.ChangeOld
import Derived.Below
import Derived.SizedLaws
import Derived.Lib.SmallJoins
namespace Go.Proofs.YtcibjklpaljadaaGreat.fnExactTaskStep
open Go.ChangeShapes Go.WideShapes Go.ChangeAt Go.RowKit Go.Joins Go.Deep
open Go.ChangeMaps (open_string shut_string)
set_option linter.unusedVariables false
set_option maxRecDepth 100000
theorem own : ownKnob Tryz.prog.godebug = none := by kernel_rfl
theorem laidOut : laidOutB Tryz.prog = true := by kernel_rfl
theorem undE : ∃ f0 f1 f2 : Field, Tryz.prog.underlying 125 = some (.struct #[f0, f1, f2]) ∧ (f0.type = 3 ∧ f0.offset = 0) ∧ (f1.type = 3 ∧ f1.offset = 1) ∧ (f2.type = 123 ∧ f2.offset = 2) := ⟨_, _, _, Tryz.underlying125, ⟨rfl, rfl⟩, ⟨rfl, rfl⟩, ⟨rfl, rfl⟩⟩
theorem undS : ∃ f0 f1 f2 f3 f4 f5 : Field, Tryz.prog.underlying 127 = some (.struct #[f0, f1, f2, f3, f4, f5]) ∧ (f0.type = 3 ∧ f0.offset = 0) ∧ (f1.type = 3 ∧ f1.offset = 1) ∧ (f2.type = 3 ∧ f2.offset = 2) ∧ (f3.type = 125 ∧ f3.offset = 3) ∧ (f4.type = 40 ∧ f4.offset = 6) ∧ (f5.type = 40 ∧ f5.offset = 7) := ⟨_, _, _, _, _, _, Tryz.underlying127, ⟨rfl, rfl⟩, ⟨rfl, rfl⟩, ⟨rfl, rfl⟩, ⟨rfl, rfl⟩, ⟨rfl, rfl⟩, ⟨rfl, rfl⟩⟩
theorem undT : ∃ f0 f1 : Field, Tryz.prog.underlying 42 = some (.struct #[f0, f1]) ∧ f0.type = 25 ∧ f1.type = 40 ∧ oneCellFields Tryz.prog #[f0, f1] = true := ⟨_, _, Tryz.underlying42, rfl, rfl, by kernel_rfl⟩
theorem undB : ∃ f0 f1 : Field, Tryz.prog.underlying 72 = some (.struct #[f0, f1]) ∧ (f0.type = 3 ∧ f0.offset = 0) ∧ (f1.type = 25 ∧ f1.offset = 1) := ⟨_, _, Tryz.underlying72, ⟨rfl, rfl⟩, ⟨rfl, rfl⟩⟩
theorem lifted (os : Os) (started : os.Started) (H : Type) (enc : TypeId × Value → H) :
    ReturnsInHanded {} Tryz.checked os 4 .any (Rows.fnExactTaskStepSpec.pre6 enc Tryz.prog Tryz.f4 Rows.fnExactTaskStepRow.domain false) (Rows.fnExactTaskStepSpec.post enc Tryz.prog Tryz.f4 false true false false) := by
  refine returnsInHanded_of_change_sized (C := Tryz.checked) own started (by kernel_rfl) Tryz.func4
    (ChangeSpec.witness6 (enc := enc) (C := Tryz.checked) false ⟨#[], #[.agg #[.slice none 0 0, .slice none 0 0], .slice none 0 0], []⟩ 8 (by kernel_rfl) (by kernel_rfl) (by kernel_rfl) (by kernel_rfl)) ?_
  intro W base args ds gs before hval0 hW hcnd hsz0 _
  have hval : ∀ (j : Nat) t v, Tryz.f4.params[j]? = some t → args[j]? = some v → Value.okWide Tryz.prog W .any base t v := hval0
  have hW' := hW
  obtain ⟨p, q, hA0, hV, rfl, hfz, hnd⟩ := hW
  have hA : DataW.TrodAll enc Tryz.prog W 0 (fun _ => true) true Tryz.f4.params.toList args.toList ds p := hA0
  rw [Tryz.params4] at hA hval
  obtain ⟨v0, vs0, d0, ds0, p0, q0, hargs, rfl, rfl, h0, r0⟩ := trodAll_cons hA
  obtain ⟨v1, vs1, d1, ds1, p1, q1, rfl, rfl, rfl, h1, r1⟩ := trodAll_cons r0
  obtain ⟨rfl, rfl, rfl⟩ := trodAll_nil r1
  obtain rfl : args = #[v0, v1] := by cases args; simp_all
  obtain ⟨rfl, rfl⟩ := trodVars_none hV
  have k0 := h0
  have k1 := h1
  have lt0 : ∀ x ∈ p0, x.block < W.heap.size := by obtain ⟨m, hm⟩ := k0; exact DataW.trod_lt m _ _ _ hm
  have lt1 : ∀ x ∈ p1, x.block < W.heap.size := by obtain ⟨m, hm⟩ := k1; exact DataW.trod_lt m _ _ _ hm
  obtain ⟨a2, len2, cap2, rfl⟩ := okWide_slice Tryz.underlying24 (hval 1 24 v1 rfl rfl)
  obtain ⟨R, w2⟩ : ∃ R, AM.IsBs W a2 len2 cap2 R := by
    obtain ⟨fuel, hf⟩ := h1
    obtain ⟨f0, f1, hs, t0, t1⟩ := undB
    obtain ⟨a, len, cap, R, e, h⟩ := AM.open_boxes Tryz.underlying24 hs Tryz.underlying3 Tryz.underlying25 (by kernel_rfl) (by kernel_rfl) (by kernel_rfl) t0 t1 (by simpa [Value.cells] using hf)
    cases e
    exact ⟨R, h⟩
  obtain ⟨f0, f1, hs, t0, t1, hone⟩ := undT
  obtain ⟨u0, u1, y0, y1, n, rfl, _, _, g0, g1⟩ := open_agg2 hs hone (by kernel_rfl) (hval 0 42 v0 rfl rfl) h0
  rw [t0] at g0; rw [t1] at g1
  obtain ⟨a1, len1, cap1, zs, rfl, w1⟩ := AM.open_row Tryz.underlying25 Tryz.underlying3 (by kernel_rfl) g0
  obtain ⟨ay, ly, cy, TY, rfl, wy⟩ : ∃ a len cap TT, u1 = .slice a len cap ∧ AM.IsY W a len cap TT := by
    obtain ⟨f0, f1, f2, he, e0, e1, e2⟩ := undE
    obtain ⟨j0, j1, j2, j3, j4, j5, hs, s0, s1, s2, s3, s4, s5⟩ := undS
    exact AM.open_stmts Tryz.underlying40 hs Tryz.underlying123 he Tryz.underlying3 (by kernel_rfl) (by kernel_rfl) (by kernel_rfl) (by kernel_rfl) (by kernel_rfl) e0 e1 e2 s0 s1 s2 s3 s4 s5 _ g1
  clear hA0 hval0 hsz0
  refine (AM.exact_task_lift (P := Tryz.prog) AM.fits (Checked.mixed Tryz.checked) w1 wy w2 fun H vv vr vb vars g bs hr hf hb => AM.law_FnExactTaskStep hr hf hb).mono fun e W' ⟨he, bel⟩ => ?_
  subst he
  exact ⟨_, rfl, _, _, _, [], _, [], hW', trodAll_mk1 (shut_bool Tryz.underlying4 _), (trodAll_cons_mk (Below.trod laidOut (by kernel_rfl) (of_decide_eq_true (by kernel_rfl)) k0 bel lt0) (trodAll_cons_mk (Below.trod laidOut (by kernel_rfl) (of_decide_eq_true (by kernel_rfl)) k1 bel lt1) trodAll_mk0)), rfl, bel.frame _, fun h => by cases h⟩
def hN : List Nat := [104, 97, 114, 110, 101, 115, 115]
def sN : List Nat := [55, 98, 55, 53, 101, 51, 50, 98, 57, 55, 100, 54, 54, 50, 50, 52, 52, 102, 98, 54, 99, 55, 50, 49, 51, 49, 57, 54, 52, 53, 102, 55, 52, 49, 50, 57, 101, 98, 99, 55, 54, 99, 56, 57, 98, 52, 99, 56, 101, 57, 101, 102, 98, 52, 53, 50, 52, 49, 50, 55, 102, 48, 101, 54]
def cN : List Nat := [99, 117, 116]
def rN : List Nat := [97, 116, 32, 108, 111, 111, 112, 46, 101, 120, 97, 109, 112, 108, 101, 47, 99, 111, 116, 104, 114, 101, 97, 100, 115, 47, 108, 97, 119, 115, 46, 70, 110, 69, 120, 97, 99, 116, 67, 114, 101, 119, 83, 116, 101, 112, 32, 108, 111, 111, 112, 46, 101, 120, 97, 109, 112, 108, 101, 47, 99, 111, 116, 104, 114, 101, 97, 100, 115, 47, 108, 97, 119, 115, 46, 70, 110, 69, 120, 97, 99, 116, 84, 97, 115, 107, 83, 116, 101, 112]
theorem order_0 : Tryz.prog.initOrder = "harness 7b75e32b97d662244fb6c721319645f74129ebc76c89b4c8e9efb4524127f0e6 cut at loop.example/cothreads/laws.FnExactCrewStep loop.example/cothreads/laws.FnExactTaskStep" := by kernel_rfl
theorem order_1 : "harness 7b75e32b97d662244fb6c721319645f74129ebc76c89b4c8e9efb4524127f0e6 cut at loop.example/cothreads/laws.FnExactCrewStep loop.example/cothreads/laws.FnExactTaskStep" = String.ofList ((hN ++ 32 :: (sN ++ 32 :: (cN ++ 32 :: rN))).map Char.ofNat) := by kernel_rfl
theorem order_ : Tryz.prog.initOrder = String.ofList ((hN ++ 32 :: (sN ++ 32 :: (cN ++ 32 :: rN))).map Char.ofNat) := order_0.trans order_1
theorem letters : Tryz.prog.initOrder.toList = hN.map Char.ofNat ++ Char.ofNat 32 :: (sN.map Char.ofNat ++ Char.ofNat 32 :: (cN.map Char.ofNat ++ Char.ofNat 32 :: rN.map Char.ofNat)) := by
  rw [order_, String.toList_ofList]
  simp only [List.map_append, List.map_cons]
theorem words_at (w r : List Char) (h : ∀ c ∈ w, c ≠ Char.ofNat 32) : wordsSigns (w ++ Char.ofNat 32 :: r) = w :: wordsSigns r := by
  induction w with
  | nil => rfl
  | cons c w ih =>
    have hc := h c List.mem_cons_self
    have e := ih (fun x hx => h x (List.mem_cons_of_mem _ hx))
    rw [List.cons_append, wordsSigns.eq_3 _ _ (fun hh => hc hh), e]
theorem words : behindMainWord (wordsSigns Tryz.prog.initOrder.toList) = cN.map Char.ofNat :: wordsSigns (rN.map Char.ofNat) := by
  rw [letters, words_at _ _ (by decide +kernel), words_at _ _ (by decide +kernel), words_at _ _ (by decide +kernel)]
  simp only [behindMainWord]
  rw [if_pos (by decide +kernel)]
theorem make_of {P : Program} {X : List (List Char)} (h : behindMainWord (wordsSigns P.initOrder.toList) = cN.map Char.ofNat :: X) : P.make = some Make.cut := by
  unfold Program.make
  rw [h]
  rfl
theorem strip_cut {X : List (List Char)} : stripLifts liftWords (cN.map Char.ofNat :: X) = ([], cN.map Char.ofNat :: X) := by rfl
theorem lifts_of {P : Program} {X : List (List Char)} (h : behindMainWord (wordsSigns P.initOrder.toList) = cN.map Char.ofNat :: X) : P.liftsFinal = false := by
  unfold Program.liftsFinal Program.headLifts
  simp only [h, strip_cut]
  rfl
theorem enter_of {P : Program} {X : List (List Char)} (h : behindMainWord (wordsSigns P.initOrder.toList) = cN.map Char.ofNat :: X) (h1 : P.laysLater = false) (h2 : P.bearsReflect = false) (h3 : P.doorFits [] = true) : P.mayEnter = true := by
  unfold Program.mayEnter
  rw [h]
  simp only [strip_cut, h1, h2, h3]
  rfl
theorem enter_ : Tryz.prog.mayEnter = true := enter_of words (by kernel_rfl) (by kernel_rfl) (by kernel_rfl)
set_option maxHeartbeats 4000000 in
theorem joined : joinedFacts Tryz.prog 4 Tryz.f4 Rows.fnExactTaskStepSpec Rows.fnExactTaskStepRow = true := by
  unfold joinedFacts
  rw [enter_, lifts_of words, make_of words]
  simp only [Bool.and_eq_true]
  repeat' (refine And.intro ?_ ?_)
  all_goals first | exact True.intro | (as_aux_lemma => kernel_rfl)
theorem over : Rows.fnExactTaskStepRow.holds Tryz.pinned (OpenSpec.ofChange Rows.fnExactTaskStepSpec) :=
  OpenClaim.holds_of_wide 4 Tryz.f4 rfl rfl rfl rfl rfl rfl rfl ⟨rfl, rfl, rfl, rfl, rfl⟩ rfl rfl rfl rfl rfl (by as_aux_lemma => kernel_rfl) Tryz.func4 joined
    (of_decide_eq_true (by as_aux_lemma => kernel_rfl)) (by unfold Func.isWrapper; first | (rw [if_pos (by as_aux_lemma => decide +kernel)]; kernel_rfl) | (rw [if_neg (by as_aux_lemma => decide +kernel)]; exact ⟨rfl, rfl⟩))
    (fun os started H enc _ => lifted os started H enc)
theorem proved : Rows.FnExactTaskStepSaid := over
end Go.Proofs.YtcibjklpaljadaaGreat.fnExactTaskStep
namespace Go.Proofs.YtcibjklpaljadaaGreat
/-- The row, under a short name, for the claim. -/
theorem fnExactTaskStep_holds : Rows.FnExactTaskStepSaid := fnExactTaskStep.proved
end Go.Proofs.YtcibjklpaljadaaGreat
