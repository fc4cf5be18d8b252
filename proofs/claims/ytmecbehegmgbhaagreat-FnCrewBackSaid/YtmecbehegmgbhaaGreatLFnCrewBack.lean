/-
  The law FnCrewBack answers true for every input, and the input reads afterwards as it read before. No condition.
-/
import Derived.Test.YtmecbehegmgbhaaGreatRows
import Derived.Test.YtmecbehegmgbhaaGreatYM6
import Derived.WalkKit
import Derived.ProofKit
import Derived.OpenShut
import Derived.ShutString
import Derived.ChangeOld
import Derived.Below
import Derived.SizedLaws
namespace Go.Proofs.YtmecbehegmgbhaaGreat.fnCrewBack
open Go.ChangeShapes Go.WideShapes Go.ChangeAt Go.RowKit
open Go.ChangeMaps (open_string shut_string)
set_option linter.unusedVariables false
set_option maxRecDepth 100000
theorem own : ownKnob Tryz.prog.godebug = none := by kernel_rfl
theorem laidOut : laidOutB Tryz.prog = true := by kernel_rfl
set_option maxRecDepth 100000 in
theorem lifted (os : Os) (started : os.Started) (H : Type) (enc : TypeId × Value → H) :
    ReturnsInHanded {} Tryz.checked os 4 .any (Rows.fnCrewBackSpec.pre6 enc Tryz.prog Tryz.f4 Rows.fnCrewBackRow.domain false) (Rows.fnCrewBackSpec.post enc Tryz.prog Tryz.f4 false true false false) := by
  refine returnsInHanded_of_change_sized (C := Tryz.checked) own started (by kernel_rfl) Tryz.func4
    (ChangeSpec.witness6 (enc := enc) (C := Tryz.checked) false ⟨#[], #[.slice none 0 0], []⟩ 8 (by kernel_rfl) (by kernel_rfl) (by kernel_rfl) (by kernel_rfl)) ?_
  intro W base args ds gs before hval0 hW hcnd hsz0 _
  have hval : ∀ (j : Nat) t v, Tryz.f4.params[j]? = some t → args[j]? = some v → Value.okWide Tryz.prog W .any base t v := hval0
  have hW' := hW
  obtain ⟨p, q, hA0, hV, rfl, hfz, hnd⟩ := hW
  have hA : DataW.TrodAll enc Tryz.prog W 0 (fun _ => true) true Tryz.f4.params.toList args.toList ds p := hA0
  rw [Tryz.params4] at hA hval
  obtain ⟨v0, vs0, d0, ds0, p0, q0, hargs, rfl, rfl, h0, r0⟩ := trodAll_cons hA
  obtain ⟨rfl, rfl, rfl⟩ := trodAll_nil r0
  obtain rfl : args = #[v0] := by cases args; simp_all
  obtain ⟨rfl, rfl⟩ := trodVars_none hV
  obtain ⟨a0, len0, cap0, rfl⟩ := okWide_slice Tryz.underlying22 (hval 0 22 v0 rfl rfl)
  have k0 := h0
  have lt0 : ∀ x ∈ p0, x.block < W.heap.size := by obtain ⟨m, hm⟩ := k0; exact DataW.trod_lt m _ _ _ hm
  obtain ⟨z0, w0⟩ : ∃ zs, AM.IsRow .u8 W a0 len0 cap0 zs := by
    obtain ⟨fuel, hf⟩ := h0
    rcases open_ints Tryz.underlying22 Tryz.underlying5 (by kernel_rfl) hf with ⟨hcs, _⟩ | ⟨x, l, c, zs, hcs, _, hl, hm, hz, _, hcell, hwz⟩
    · simp [Value.cells] at hcs
      obtain ⟨rfl, rfl, rfl⟩ := hcs
      exact ⟨[], .inl ⟨rfl, rfl, rfl, rfl⟩⟩
    · simp [Value.cells] at hcs
      obtain ⟨rfl, rfl, rfl⟩ := hcs
      exact ⟨zs, .inr ⟨_, rfl, hl, hm, by simpa using hz, hcell, hwz⟩⟩
  clear hA0 hval0 hsz0
  refine (AM.bytes_lift (P := Tryz.prog) AM.fits (Checked.mixed Tryz.checked) w0 fun H v zs h hz => AM.law_FnCrewBack h hz).mono fun e W' ⟨he, bel⟩ => ?_
  subst he
  exact ⟨_, rfl, _, _, _, [], _, [], hW', trodAll_mk1 (shut_bool Tryz.underlying4 _), (trodAll_cons_mk (Below.trod laidOut (by kernel_rfl) (of_decide_eq_true (by kernel_rfl)) k0 bel lt0) trodAll_mk0), rfl, bel.frame _, fun h => by cases h⟩
def hN : List Nat := [104, 97, 114, 110, 101, 115, 115]
def sN : List Nat := [52, 53, 48, 100, 99, 54, 54, 99, 101, 54, 99, 99, 54, 102, 51, 51, 48, 49, 55, 99, 54, 56, 52, 56, 56, 54, 50, 102, 51, 54, 53, 48, 48, 57, 56, 49, 102, 55, 48, 49, 50, 101, 56, 48, 97, 97, 101, 99, 102, 100, 52, 53, 101, 99, 48, 52, 53, 98, 49, 101, 49, 56, 54, 100]
def cN : List Nat := [99, 117, 116]
def rN : List Nat := [97, 116, 32, 108, 111, 111, 112, 46, 101, 120, 97, 109, 112, 108, 101, 47, 99, 111, 116, 104, 114, 101, 97, 100, 115, 47, 108, 97, 119, 115, 46, 70, 110, 67, 114, 101, 119, 65, 104, 101, 97, 100, 32, 108, 111, 111, 112, 46, 101, 120, 97, 109, 112, 108, 101, 47, 99, 111, 116, 104, 114, 101, 97, 100, 115, 47, 108, 97, 119, 115, 46, 70, 110, 67, 114, 101, 119, 66, 97, 99, 107, 32, 108, 111, 111, 112, 46, 101, 120, 97, 109, 112, 108, 101, 47, 99, 111, 116, 104, 114, 101, 97, 100, 115, 47, 108, 97, 119, 115, 46, 70, 110, 84, 114, 97, 99, 101, 75, 105, 110, 100, 115, 32, 108, 111, 111, 112, 46, 101, 120, 97, 109, 112, 108, 101, 47, 99, 111, 116, 104, 114, 101, 97, 100, 115, 47, 108, 97, 119, 115, 46, 70, 110, 84, 114, 97, 99, 101, 77, 111, 114, 101, 32, 108, 111, 111, 112, 46, 101, 120, 97, 109, 112, 108, 101, 47, 99, 111, 116, 104, 114, 101, 97, 100, 115, 47, 108, 97, 119, 115, 46, 70, 110, 84, 114, 97, 99, 101, 65, 108, 111, 110, 101, 32, 108, 111, 111, 112, 46, 101, 120, 97, 109, 112, 108, 101, 47, 99, 111, 116, 104, 114, 101, 97, 100, 115, 47, 108, 97, 119, 115, 46, 70, 110, 84, 114, 97, 99, 101, 79, 102, 32, 108, 111, 111, 112, 46, 101, 120, 97, 109, 112, 108, 101, 47, 99, 111, 116, 104, 114, 101, 97, 100, 115, 47, 108, 97, 119, 115, 46, 70, 110, 84, 114, 97, 99, 101, 82, 111, 111, 109, 32, 108, 111, 111, 112, 46, 101, 120, 97, 109, 112, 108, 101, 47, 99, 111, 116, 104, 114, 101, 97, 100, 115, 47, 108, 97, 119, 115, 46, 70, 110, 67, 114, 101, 119, 86, 97, 114, 115, 32, 108, 111, 111, 112, 46, 101, 120, 97, 109, 112, 108, 101, 47, 99, 111, 116, 104, 114, 101, 97, 100, 115, 47, 108, 97, 119, 115, 46, 70, 110, 84, 114, 97, 99, 101, 79, 117, 116, 32, 108, 111, 111, 112, 46, 101, 120, 97, 109, 112, 108, 101, 47, 99, 111, 116, 104, 114, 101, 97, 100, 115, 47, 108, 97, 119, 115, 46, 70, 110, 84, 114, 97, 99, 101, 70, 105, 102, 111, 32, 108, 111, 111, 112, 46, 101, 120, 97, 109, 112, 108, 101, 47, 99, 111, 116, 104, 114, 101, 97, 100, 115, 47, 108, 97, 119, 115, 46, 70, 110, 84, 114, 97, 99, 101, 73, 116, 101, 109, 115]
theorem order_0 : Tryz.prog.initOrder = "harness 450dc66ce6cc6f33017c6848862f36500981f7012e80aaecfd45ec045b1e186d cut at loop.example/cothreads/laws.FnCrewAhead loop.example/cothreads/laws.FnCrewBack loop.example/cothreads/laws.FnTraceKinds loop.example/cothreads/laws.FnTraceMore loop.example/cothreads/laws.FnTraceAlone loop.example/cothreads/laws.FnTraceOf loop.example/cothreads/laws.FnTraceRoom loop.example/cothreads/laws.FnCrewVars loop.example/cothreads/laws.FnTraceOut loop.example/cothreads/laws.FnTraceFifo loop.example/cothreads/laws.FnTraceItems" := by kernel_rfl
theorem order_1 : "harness 450dc66ce6cc6f33017c6848862f36500981f7012e80aaecfd45ec045b1e186d cut at loop.example/cothreads/laws.FnCrewAhead loop.example/cothreads/laws.FnCrewBack loop.example/cothreads/laws.FnTraceKinds loop.example/cothreads/laws.FnTraceMore loop.example/cothreads/laws.FnTraceAlone loop.example/cothreads/laws.FnTraceOf loop.example/cothreads/laws.FnTraceRoom loop.example/cothreads/laws.FnCrewVars loop.example/cothreads/laws.FnTraceOut loop.example/cothreads/laws.FnTraceFifo loop.example/cothreads/laws.FnTraceItems" = String.ofList ((hN ++ 32 :: (sN ++ 32 :: (cN ++ 32 :: rN))).map Char.ofNat) := by kernel_rfl
theorem order_ : Tryz.prog.initOrder = String.ofList ((hN ++ 32 :: (sN ++ 32 :: (cN ++ 32 :: rN))).map Char.ofNat) := order_0.trans order_1
theorem letters : Tryz.prog.initOrder.toList = hN.map Char.ofNat ++ Char.ofNat 32 :: (sN.map Char.ofNat ++ Char.ofNat 32 :: (cN.map Char.ofNat ++ Char.ofNat 32 :: rN.map Char.ofNat)) := by
  rw [order_, String.toList_ofList]
  simp only [List.map_append, List.map_cons]
theorem words_at (w r : List Char) (h : ∀ c ∈ w, c ≠ Char.ofNat 32) : wordsSigns (w ++ Char.ofNat 32 :: r) = w :: wordsSigns r := by
  induction w with
  | nil => rfl
  | cons c w ih =>
    have hc := h c List.mem_cons_self
    have e := ih (fun x hx => h x (List.mem_cons_of_mem _ hx))
    rw [List.cons_append, wordsSigns.eq_3 _ _ (fun hh => hc hh), e]
theorem words : behindMainWord (wordsSigns Tryz.prog.initOrder.toList) = cN.map Char.ofNat :: wordsSigns (rN.map Char.ofNat) := by
  rw [letters, words_at _ _ (by decide +kernel), words_at _ _ (by decide +kernel), words_at _ _ (by decide +kernel)]
  simp only [behindMainWord]
  rw [if_pos (by decide +kernel)]
theorem make_of {P : Program} {X : List (List Char)} (h : behindMainWord (wordsSigns P.initOrder.toList) = cN.map Char.ofNat :: X) : P.make = some Make.cut := by
  unfold Program.make
  rw [h]
  rfl
theorem strip_cut {X : List (List Char)} : stripLifts liftWords (cN.map Char.ofNat :: X) = ([], cN.map Char.ofNat :: X) := by rfl
theorem lifts_of {P : Program} {X : List (List Char)} (h : behindMainWord (wordsSigns P.initOrder.toList) = cN.map Char.ofNat :: X) : P.liftsFinal = false := by
  unfold Program.liftsFinal Program.headLifts
  simp only [h, strip_cut]
  rfl
theorem enter_of {P : Program} {X : List (List Char)} (h : behindMainWord (wordsSigns P.initOrder.toList) = cN.map Char.ofNat :: X) (h1 : P.laysLater = false) (h2 : P.bearsReflect = false) (h3 : P.doorFits [] = true) : P.mayEnter = true := by
  unfold Program.mayEnter
  rw [h]
  simp only [strip_cut, h1, h2, h3]
  rfl
theorem enter_ : Tryz.prog.mayEnter = true := enter_of words (by kernel_rfl) (by kernel_rfl) (by kernel_rfl)
set_option maxHeartbeats 4000000 in
theorem joined : joinedFacts Tryz.prog 4 Tryz.f4 Rows.fnCrewBackSpec Rows.fnCrewBackRow = true := by
  unfold joinedFacts
  rw [enter_, lifts_of words, make_of words]
  simp only [Bool.and_eq_true]
  repeat' (refine And.intro ?_ ?_)
  all_goals first | exact True.intro | (as_aux_lemma => kernel_rfl)
theorem over : Rows.fnCrewBackRow.holds Tryz.pinned (OpenSpec.ofChange Rows.fnCrewBackSpec) :=
  OpenClaim.holds_of_wide 4 Tryz.f4 rfl rfl rfl rfl rfl rfl rfl ⟨rfl, rfl, rfl, rfl, rfl⟩ rfl rfl rfl rfl rfl (by as_aux_lemma => kernel_rfl) Tryz.func4 joined
    (of_decide_eq_true (by as_aux_lemma => kernel_rfl)) (by unfold Func.isWrapper; first | (rw [if_pos (by as_aux_lemma => decide +kernel)]; kernel_rfl) | (rw [if_neg (by as_aux_lemma => decide +kernel)]; exact ⟨rfl, rfl⟩))
    (fun os started H enc _ => lifted os started H enc)
theorem proved : Rows.FnCrewBackSaid := over
end Go.Proofs.YtmecbehegmgbhaaGreat.fnCrewBack
namespace Go.Proofs.YtmecbehegmgbhaaGreat
/-- The row, under a short name, for the claim. -/
theorem fnCrewBack_holds : Rows.FnCrewBackSaid := fnCrewBack.proved
end Go.Proofs.YtmecbehegmgbhaaGreat
