/-
  The law FnCrewAhead answers true for every input, and the input reads afterwards as it read before. No condition.
-/
import Derived.Test.YtmecbehegmgbhaaGreatRows
import Derived.Test.YtmecbehegmgbhaaGreatXM6
import Derived.WalkKit
import Derived.ProofKit
import Derived.OpenShut
import Derived.ShutString
import Derived.ChangeOld
import Derived.Below
import Derived.SizedLaws
namespace Go.Proofs.YtmecbehegmgbhaaGreat
namespace AM
set_option linter.unusedSimpArgs false
set_option linter.unusedVariables false
open Go Go.RowKit
theorem bytes_lift2 {P : Program} {C : FuncId → Option AFn} {f : FuncId} (hC : Fits P 0 C) (hmix : P.follows .mixedOrders = true) {w : World} {a len cap zs a' len' cap' zs'} (h : IsRow .u8 w a len cap zs) (h' : IsRow .u8 w a' len' cap' zs')
    (K : ∀ H v zs v' zs', SlI H .u8 v zs → (∀ n ∈ zs, 0 ≤ n ∧ n < 256) → SlI H .u8 v' zs' → (∀ n ∈ zs', 0 ≤ n ∧ n < 256) → CallK C f [v, v'] H fun v _ => v = .b true) :
    Calls P f #[.slice a len cap, .slice a' len' cap'] w fun e w' => e = .returned (.bool true) ∧ Below w.heap.size w w' := by
  have small : ∀ {a len cap zs}, IsRow .u8 w a len cap zs → ∀ n ∈ zs.take len, 0 ≤ n ∧ n < 256 := fun h n hn => by
    have := row_wf h n (List.mem_of_mem_take hn)
    simp only [Lit.wf, IntKind.min, IntKind.max, IntKind.signed, IntKind.bits, Bool.and_eq_true, decide_eq_true_eq] at this
    simp at this
    omega
  refine lift (bs := [rowB .u8 a zs, rowB .u8 a' zs']) hC hmix (Nat.zero_le _) (fun r hr => ?_) (VRs.cons (row_v (j := 0) h rfl) (VRs.cons (row_v (j := 1) h' rfl) (VRs.nil _))) (K _ _ _ _ _ (row_sees (j := 0) h rfl) (small h) (row_sees (j := 1) h' rfl) (small h'))
  simp only [List.mem_cons, List.not_mem_nil, or_false] at hr
  rcases hr with rfl | rfl
  · exact row_lies h
  · exact row_lies h'
end AM
end Go.Proofs.YtmecbehegmgbhaaGreat
namespace Go.Proofs.YtmecbehegmgbhaaGreat.fnCrewAhead
open Go.ChangeShapes Go.WideShapes Go.ChangeAt Go.RowKit
open Go.ChangeMaps (open_string shut_string)
set_option linter.unusedVariables false
set_option maxRecDepth 100000
theorem own : ownKnob Tryz.prog.godebug = none := by kernel_rfl
theorem laidOut : laidOutB Tryz.prog = true := by kernel_rfl
set_option maxRecDepth 100000 in
theorem lifted (os : Os) (started : os.Started) (H : Type) (enc : TypeId × Value → H) :
    ReturnsInHanded {} Tryz.checked os 3 .any (Rows.fnCrewAheadSpec.pre6 enc Tryz.prog Tryz.f3 Rows.fnCrewAheadRow.domain false) (Rows.fnCrewAheadSpec.post enc Tryz.prog Tryz.f3 false true false false) := by
  refine returnsInHanded_of_change_sized (C := Tryz.checked) own started (by kernel_rfl) Tryz.func3
    (ChangeSpec.witness6 (enc := enc) (C := Tryz.checked) false ⟨#[], #[.slice none 0 0, .slice none 0 0], []⟩ 8 (by kernel_rfl) (by kernel_rfl) (by kernel_rfl) (by kernel_rfl)) ?_
  intro W base args ds gs before hval0 hW hcnd hsz0 _
  have hval : ∀ (j : Nat) t v, Tryz.f3.params[j]? = some t → args[j]? = some v → Value.okWide Tryz.prog W .any base t v := hval0
  have hW' := hW
  obtain ⟨p, q, hA0, hV, rfl, hfz, hnd⟩ := hW
  have hA : DataW.TrodAll enc Tryz.prog W 0 (fun _ => true) true Tryz.f3.params.toList args.toList ds p := hA0
  rw [Tryz.params3] at hA hval
  obtain ⟨v0, vs0, d0, ds0, p0, q0, hargs, rfl, rfl, h0, r0⟩ := trodAll_cons hA
  obtain ⟨v1, vs1, d1, ds1, p1, q1, rfl, rfl, rfl, h1, r1⟩ := trodAll_cons r0
  obtain ⟨rfl, rfl, rfl⟩ := trodAll_nil r1
  obtain rfl : args = #[v0, v1] := by cases args; simp_all
  obtain ⟨rfl, rfl⟩ := trodVars_none hV
  obtain ⟨a0, len0, cap0, rfl⟩ := okWide_slice Tryz.underlying22 (hval 0 22 v0 rfl rfl)
  have k0 := h0
  have lt0 : ∀ x ∈ p0, x.block < W.heap.size := by obtain ⟨m, hm⟩ := k0; exact DataW.trod_lt m _ _ _ hm
  obtain ⟨z0, w0⟩ : ∃ zs, AM.IsRow .u8 W a0 len0 cap0 zs := by
    obtain ⟨fuel, hf⟩ := h0
    rcases open_ints Tryz.underlying22 Tryz.underlying5 (by kernel_rfl) hf with ⟨hcs, _⟩ | ⟨x, l, c, zs, hcs, _, hl, hm, hz, _, hcell, hwz⟩
    · simp [Value.cells] at hcs
      obtain ⟨rfl, rfl, rfl⟩ := hcs
      exact ⟨[], .inl ⟨rfl, rfl, rfl, rfl⟩⟩
    · simp [Value.cells] at hcs
      obtain ⟨rfl, rfl, rfl⟩ := hcs
      exact ⟨zs, .inr ⟨_, rfl, hl, hm, by simpa using hz, hcell, hwz⟩⟩
  obtain ⟨a1, len1, cap1, rfl⟩ := okWide_slice Tryz.underlying22 (hval 1 22 v1 rfl rfl)
  have k1 := h1
  have lt1 : ∀ x ∈ p1, x.block < W.heap.size := by obtain ⟨m, hm⟩ := k1; exact DataW.trod_lt m _ _ _ hm
  obtain ⟨z1, w1⟩ : ∃ zs, AM.IsRow .u8 W a1 len1 cap1 zs := by
    obtain ⟨fuel, hf⟩ := h1
    rcases open_ints Tryz.underlying22 Tryz.underlying5 (by kernel_rfl) hf with ⟨hcs, _⟩ | ⟨x, l, c, zs, hcs, _, hl, hm, hz, _, hcell, hwz⟩
    · simp [Value.cells] at hcs
      obtain ⟨rfl, rfl, rfl⟩ := hcs
      exact ⟨[], .inl ⟨rfl, rfl, rfl, rfl⟩⟩
    · simp [Value.cells] at hcs
      obtain ⟨rfl, rfl, rfl⟩ := hcs
      exact ⟨zs, .inr ⟨_, rfl, hl, hm, by simpa using hz, hcell, hwz⟩⟩
  clear hA0 hval0 hsz0
  refine (AM.bytes_lift2 (P := Tryz.prog) AM.fits (Checked.mixed Tryz.checked) w0 w1 fun H v zs v' zs' h hz h' hz' => AM.law_FnCrewAhead h hz h' hz').mono fun e W' ⟨he, bel⟩ => ?_
  subst he
  exact ⟨_, rfl, _, _, _, [], _, [], hW', trodAll_mk1 (shut_bool Tryz.underlying4 _), (trodAll_cons_mk (Below.trod laidOut (by kernel_rfl) (of_decide_eq_true (by kernel_rfl)) k0 bel lt0) (trodAll_cons_mk (Below.trod laidOut (by kernel_rfl) (of_decide_eq_true (by kernel_rfl)) k1 bel lt1) trodAll_mk0)), rfl, bel.frame _, fun h => by cases h⟩
def hN : List Nat := [104, 97, 114, 110, 101, 115, 115]
def sN : List Nat := [52, 53, 48, 100, 99, 54, 54, 99, 101, 54, 99, 99, 54, 102, 51, 51, 48, 49, 55, 99, 54, 56, 52, 56, 56, 54, 50, 102, 51, 54, 53, 48, 48, 57, 56, 49, 102, 55, 48, 49, 50, 101, 56, 48, 97, 97, 101, 99, 102, 100, 52, 53, 101, 99, 48, 52, 53, 98, 49, 101, 49, 56, 54, 100]
def cN : List Nat := [99, 117, 116]
def rN : List Nat := [97, 116, 32, 108, 111, 111, 112, 46, 101, 120, 97, 109, 112, 108, 101, 47, 99, 111, 116, 104, 114, 101, 97, 100, 115, 47, 108, 97, 119, 115, 46, 70, 110, 67, 114, 101, 119, 65, 104, 101, 97, 100, 32, 108, 111, 111, 112, 46, 101, 120, 97, 109, 112, 108, 101, 47, 99, 111, 116, 104, 114, 101, 97, 100, 115, 47, 108, 97, 119, 115, 46, 70, 110, 67, 114, 101, 119, 66, 97, 99, 107, 32, 108, 111, 111, 112, 46, 101, 120, 97, 109, 112, 108, 101, 47, 99, 111, 116, 104, 114, 101, 97, 100, 115, 47, 108, 97, 119, 115, 46, 70, 110, 84, 114, 97, 99, 101, 75, 105, 110, 100, 115, 32, 108, 111, 111, 112, 46, 101, 120, 97, 109, 112, 108, 101, 47, 99, 111, 116, 104, 114, 101, 97, 100, 115, 47, 108, 97, 119, 115, 46, 70, 110, 84, 114, 97, 99, 101, 77, 111, 114, 101, 32, 108, 111, 111, 112, 46, 101, 120, 97, 109, 112, 108, 101, 47, 99, 111, 116, 104, 114, 101, 97, 100, 115, 47, 108, 97, 119, 115, 46, 70, 110, 84, 114, 97, 99, 101, 65, 108, 111, 110, 101, 32, 108, 111, 111, 112, 46, 101, 120, 97, 109, 112, 108, 101, 47, 99, 111, 116, 104, 114, 101, 97, 100, 115, 47, 108, 97, 119, 115, 46, 70, 110, 84, 114, 97, 99, 101, 79, 102, 32, 108, 111, 111, 112, 46, 101, 120, 97, 109, 112, 108, 101, 47, 99, 111, 116, 104, 114, 101, 97, 100, 115, 47, 108, 97, 119, 115, 46, 70, 110, 84, 114, 97, 99, 101, 82, 111, 111, 109, 32, 108, 111, 111, 112, 46, 101, 120, 97, 109, 112, 108, 101, 47, 99, 111, 116, 104, 114, 101, 97, 100, 115, 47, 108, 97, 119, 115, 46, 70, 110, 67, 114, 101, 119, 86, 97, 114, 115, 32, 108, 111, 111, 112, 46, 101, 120, 97, 109, 112, 108, 101, 47, 99, 111, 116, 104, 114, 101, 97, 100, 115, 47, 108, 97, 119, 115, 46, 70, 110, 84, 114, 97, 99, 101, 79, 117, 116, 32, 108, 111, 111, 112, 46, 101, 120, 97, 109, 112, 108, 101, 47, 99, 111, 116, 104, 114, 101, 97, 100, 115, 47, 108, 97, 119, 115, 46, 70, 110, 84, 114, 97, 99, 101, 70, 105, 102, 111, 32, 108, 111, 111, 112, 46, 101, 120, 97, 109, 112, 108, 101, 47, 99, 111, 116, 104, 114, 101, 97, 100, 115, 47, 108, 97, 119, 115, 46, 70, 110, 84, 114, 97, 99, 101, 73, 116, 101, 109, 115]
theorem order_0 : Tryz.prog.initOrder = "harness 450dc66ce6cc6f33017c6848862f36500981f7012e80aaecfd45ec045b1e186d cut at loop.example/cothreads/laws.FnCrewAhead loop.example/cothreads/laws.FnCrewBack loop.example/cothreads/laws.FnTraceKinds loop.example/cothreads/laws.FnTraceMore loop.example/cothreads/laws.FnTraceAlone loop.example/cothreads/laws.FnTraceOf loop.example/cothreads/laws.FnTraceRoom loop.example/cothreads/laws.FnCrewVars loop.example/cothreads/laws.FnTraceOut loop.example/cothreads/laws.FnTraceFifo loop.example/cothreads/laws.FnTraceItems" := by kernel_rfl
theorem order_1 : "harness 450dc66ce6cc6f33017c6848862f36500981f7012e80aaecfd45ec045b1e186d cut at loop.example/cothreads/laws.FnCrewAhead loop.example/cothreads/laws.FnCrewBack loop.example/cothreads/laws.FnTraceKinds loop.example/cothreads/laws.FnTraceMore loop.example/cothreads/laws.FnTraceAlone loop.example/cothreads/laws.FnTraceOf loop.example/cothreads/laws.FnTraceRoom loop.example/cothreads/laws.FnCrewVars loop.example/cothreads/laws.FnTraceOut loop.example/cothreads/laws.FnTraceFifo loop.example/cothreads/laws.FnTraceItems" = String.ofList ((hN ++ 32 :: (sN ++ 32 :: (cN ++ 32 :: rN))).map Char.ofNat) := by kernel_rfl
theorem order_ : Tryz.prog.initOrder = String.ofList ((hN ++ 32 :: (sN ++ 32 :: (cN ++ 32 :: rN))).map Char.ofNat) := order_0.trans order_1
theorem letters : Tryz.prog.initOrder.toList = hN.map Char.ofNat ++ Char.ofNat 32 :: (sN.map Char.ofNat ++ Char.ofNat 32 :: (cN.map Char.ofNat ++ Char.ofNat 32 :: rN.map Char.ofNat)) := by
  rw [order_, String.toList_ofList]
  simp only [List.map_append, List.map_cons]
theorem words_at (w r : List Char) (h : ∀ c ∈ w, c ≠ Char.ofNat 32) : wordsSigns (w ++ Char.ofNat 32 :: r) = w :: wordsSigns r := by
  induction w with
  | nil => rfl
  | cons c w ih =>
    have hc := h c List.mem_cons_self
    have e := ih (fun x hx => h x (List.mem_cons_of_mem _ hx))
    rw [List.cons_append, wordsSigns.eq_3 _ _ (fun hh => hc hh), e]
theorem words : behindMainWord (wordsSigns Tryz.prog.initOrder.toList) = cN.map Char.ofNat :: wordsSigns (rN.map Char.ofNat) := by
  rw [letters, words_at _ _ (by decide +kernel), words_at _ _ (by decide +kernel), words_at _ _ (by decide +kernel)]
  simp only [behindMainWord]
  rw [if_pos (by decide +kernel)]
theorem make_of {P : Program} {X : List (List Char)} (h : behindMainWord (wordsSigns P.initOrder.toList) = cN.map Char.ofNat :: X) : P.make = some Make.cut := by
  unfold Program.make
  rw [h]
  rfl
theorem strip_cut {X : List (List Char)} : stripLifts liftWords (cN.map Char.ofNat :: X) = ([], cN.map Char.ofNat :: X) := by rfl
theorem lifts_of {P : Program} {X : List (List Char)} (h : behindMainWord (wordsSigns P.initOrder.toList) = cN.map Char.ofNat :: X) : P.liftsFinal = false := by
  unfold Program.liftsFinal Program.headLifts
  simp only [h, strip_cut]
  rfl
theorem enter_of {P : Program} {X : List (List Char)} (h : behindMainWord (wordsSigns P.initOrder.toList) = cN.map Char.ofNat :: X) (h1 : P.laysLater = false) (h2 : P.bearsReflect = false) (h3 : P.doorFits [] = true) : P.mayEnter = true := by
  unfold Program.mayEnter
  rw [h]
  simp only [strip_cut, h1, h2, h3]
  rfl
theorem enter_ : Tryz.prog.mayEnter = true := enter_of words (by kernel_rfl) (by kernel_rfl) (by kernel_rfl)
set_option maxHeartbeats 4000000 in
theorem joined : joinedFacts Tryz.prog 3 Tryz.f3 Rows.fnCrewAheadSpec Rows.fnCrewAheadRow = true := by
  unfold joinedFacts
  rw [enter_, lifts_of words, make_of words]
  simp only [Bool.and_eq_true]
  repeat' (refine And.intro ?_ ?_)
  all_goals first | exact True.intro | (as_aux_lemma => kernel_rfl)
theorem over : Rows.fnCrewAheadRow.holds Tryz.pinned (OpenSpec.ofChange Rows.fnCrewAheadSpec) :=
  OpenClaim.holds_of_wide 3 Tryz.f3 rfl rfl rfl rfl rfl rfl rfl ⟨rfl, rfl, rfl, rfl, rfl⟩ rfl rfl rfl rfl rfl (by as_aux_lemma => kernel_rfl) Tryz.func3 joined
    (of_decide_eq_true (by as_aux_lemma => kernel_rfl)) (by unfold Func.isWrapper; first | (rw [if_pos (by as_aux_lemma => decide +kernel)]; kernel_rfl) | (rw [if_neg (by as_aux_lemma => decide +kernel)]; exact ⟨rfl, rfl⟩))
    (fun os started H enc _ => lifted os started H enc)
theorem proved : Rows.FnCrewAheadSaid := over
end Go.Proofs.YtmecbehegmgbhaaGreat.fnCrewAhead
namespace Go.Proofs.YtmecbehegmgbhaaGreat
/-- The row, under a short name, for the claim. -/
theorem fnCrewAhead_holds : Rows.FnCrewAheadSaid := fnCrewAhead.proved
end Go.Proofs.YtmecbehegmgbhaaGreat
