/-
  The law FnThreadExpr answers true for every input, and the input reads afterwards as it read before. No condition.
-/
import Derived.Test.YtmecbehegmgbhaaRows
import Derived.Test.YtmecbehegmgbhaaUM4
import Derived.WalkKit
import Derived.ProofKit
import Derived.OpenShut
import Derived.ShutString
import Derived.ChangeOld
import Derived.Below
import Derived.SizedLaws
namespace Go.Proofs.Ytmecbehegmgbhaa
namespace AM
set_option linter.unusedSimpArgs false
set_option linter.unusedVariables false
open Go Go.RowKit
theorem bytes_lift2 {P : Program} {C : FuncId → Option AFn} {f : FuncId} (hC : Fits P 0 C) (hmix : P.follows .mixedOrders = true) {w : World} {a len cap zs a' len' cap' zs'} (h : IsRow .u8 w a len cap zs) (h' : IsRow .u8 w a' len' cap' zs')
    (K : ∀ H v zs v' zs', SlI H .u8 v zs → (∀ n ∈ zs, 0 ≤ n ∧ n < 256) → SlI H .u8 v' zs' → (∀ n ∈ zs', 0 ≤ n ∧ n < 256) → CallK C f [v, v'] H fun v _ => v = .b true) :
    Calls P f #[.slice a len cap, .slice a' len' cap'] w fun e w' => e = .returned (.bool true) ∧ Below w.heap.size w w' := by
  have small : ∀ {a len cap zs}, IsRow .u8 w a len cap zs → ∀ n ∈ zs.take len, 0 ≤ n ∧ n < 256 := fun h n hn => by
    have := row_wf h n (List.mem_of_mem_take hn)
    simp only [Lit.wf, IntKind.min, IntKind.max, IntKind.signed, IntKind.bits, Bool.and_eq_true, decide_eq_true_eq] at this
    simp at this
    omega
  refine lift (bs := [rowB .u8 a zs, rowB .u8 a' zs']) hC hmix (Nat.zero_le _) (fun r hr => ?_) (VRs.cons (row_v (j := 0) h rfl) (VRs.cons (row_v (j := 1) h' rfl) (VRs.nil _))) (K _ _ _ _ _ (row_sees (j := 0) h rfl) (small h) (row_sees (j := 1) h' rfl) (small h'))
  simp only [List.mem_cons, List.not_mem_nil, or_false] at hr
  rcases hr with rfl | rfl
  · exact row_lies h
  · exact row_lies h'
end AM
end Go.Proofs.Ytmecbehegmgbhaa
namespace Go.Proofs.Ytmecbehegmgbhaa.fnThreadExpr
open Go.ChangeShapes Go.WideShapes Go.ChangeAt Go.RowKit
open Go.ChangeMaps (open_string shut_string)
set_option linter.unusedVariables false
set_option maxRecDepth 100000
theorem own : ownKnob Try.prog.godebug = none := by kernel_rfl
theorem laidOut : laidOutB Try.prog = true := by kernel_rfl
set_option maxRecDepth 100000 in
theorem lifted (os : Os) (started : os.Started) (H : Type) (enc : TypeId × Value → H) :
    ReturnsInHanded {} Try.checked os 3 .any (Rows.fnThreadExprSpec.pre6 enc Try.prog Try.f3 Rows.fnThreadExprRow.domain false) (Rows.fnThreadExprSpec.post enc Try.prog Try.f3 false true false false) := by
  refine returnsInHanded_of_change_sized (C := Try.checked) own started (by kernel_rfl) Try.func3
    (ChangeSpec.witness6 (enc := enc) (C := Try.checked) false ⟨#[], #[.slice none 0 0, .slice none 0 0], []⟩ 8 (by kernel_rfl) (by kernel_rfl) (by kernel_rfl) (by kernel_rfl)) ?_
  intro W base args ds gs before hval0 hW hcnd hsz0 _
  have hval : ∀ (j : Nat) t v, Try.f3.params[j]? = some t → args[j]? = some v → Value.okWide Try.prog W .any base t v := hval0
  have hW' := hW
  obtain ⟨p, q, hA0, hV, rfl, hfz, hnd⟩ := hW
  have hA : DataW.TrodAll enc Try.prog W 0 (fun _ => true) true Try.f3.params.toList args.toList ds p := hA0
  rw [Try.params3] at hA hval
  obtain ⟨v0, vs0, d0, ds0, p0, q0, hargs, rfl, rfl, h0, r0⟩ := trodAll_cons hA
  obtain ⟨v1, vs1, d1, ds1, p1, q1, rfl, rfl, rfl, h1, r1⟩ := trodAll_cons r0
  obtain ⟨rfl, rfl, rfl⟩ := trodAll_nil r1
  obtain rfl : args = #[v0, v1] := by cases args; simp_all
  obtain ⟨rfl, rfl⟩ := trodVars_none hV
  obtain ⟨a0, len0, cap0, rfl⟩ := okWide_slice Try.underlying22 (hval 0 22 v0 rfl rfl)
  have k0 := h0
  have lt0 : ∀ x ∈ p0, x.block < W.heap.size := by obtain ⟨m, hm⟩ := k0; exact DataW.trod_lt m _ _ _ hm
  obtain ⟨z0, w0⟩ : ∃ zs, AM.IsRow .u8 W a0 len0 cap0 zs := by
    obtain ⟨fuel, hf⟩ := h0
    rcases open_ints Try.underlying22 Try.underlying5 (by kernel_rfl) hf with ⟨hcs, _⟩ | ⟨x, l, c, zs, hcs, _, hl, hm, hz, _, hcell, hwz⟩
    · simp [Value.cells] at hcs
      obtain ⟨rfl, rfl, rfl⟩ := hcs
      exact ⟨[], .inl ⟨rfl, rfl, rfl, rfl⟩⟩
    · simp [Value.cells] at hcs
      obtain ⟨rfl, rfl, rfl⟩ := hcs
      exact ⟨zs, .inr ⟨_, rfl, hl, hm, by simpa using hz, hcell, hwz⟩⟩
  obtain ⟨a1, len1, cap1, rfl⟩ := okWide_slice Try.underlying22 (hval 1 22 v1 rfl rfl)
  have k1 := h1
  have lt1 : ∀ x ∈ p1, x.block < W.heap.size := by obtain ⟨m, hm⟩ := k1; exact DataW.trod_lt m _ _ _ hm
  obtain ⟨z1, w1⟩ : ∃ zs, AM.IsRow .u8 W a1 len1 cap1 zs := by
    obtain ⟨fuel, hf⟩ := h1
    rcases open_ints Try.underlying22 Try.underlying5 (by kernel_rfl) hf with ⟨hcs, _⟩ | ⟨x, l, c, zs, hcs, _, hl, hm, hz, _, hcell, hwz⟩
    · simp [Value.cells] at hcs
      obtain ⟨rfl, rfl, rfl⟩ := hcs
      exact ⟨[], .inl ⟨rfl, rfl, rfl, rfl⟩⟩
    · simp [Value.cells] at hcs
      obtain ⟨rfl, rfl, rfl⟩ := hcs
      exact ⟨zs, .inr ⟨_, rfl, hl, hm, by simpa using hz, hcell, hwz⟩⟩
  clear hA0 hval0 hsz0
  refine (AM.bytes_lift2 (P := Try.prog) AM.fits (Checked.mixed Try.checked) w0 w1 fun H v zs v' zs' h hz h' hz' => AM.law_FnThreadExpr h hz h' hz').mono fun e W' ⟨he, bel⟩ => ?_
  subst he
  exact ⟨_, rfl, _, _, _, [], _, [], hW', trodAll_mk1 (shut_bool Try.underlying4 _), (trodAll_cons_mk (Below.trod laidOut (by kernel_rfl) (of_decide_eq_true (by kernel_rfl)) k0 bel lt0) (trodAll_cons_mk (Below.trod laidOut (by kernel_rfl) (of_decide_eq_true (by kernel_rfl)) k1 bel lt1) trodAll_mk0)), rfl, bel.frame _, fun h => by cases h⟩
def hN : List Nat := [104, 97, 114, 110, 101, 115, 115]
def sN : List Nat := [99, 50, 99, 50, 50, 56, 57, 101, 99, 51, 53, 100, 102, 101, 102, 99, 99, 48, 51, 55, 48, 97, 100, 50, 52, 54, 98, 97, 53, 98, 99, 101, 101, 100, 50, 98, 101, 49, 48, 50, 51, 52, 101, 52, 53, 53, 98, 49, 52, 52, 56, 56, 54, 100, 54, 56, 99, 98, 55, 56, 49, 52, 53, 98]
def cN : List Nat := [99, 117, 116]
def rN : List Nat := [97, 116, 32, 108, 111, 111, 112, 46, 101, 120, 97, 109, 112, 108, 101, 47, 99, 111, 116, 104, 114, 101, 97, 100, 115, 47, 108, 97, 119, 115, 46, 70, 110, 84, 104, 114, 101, 97, 100, 69, 120, 112, 114, 32, 108, 111, 111, 112, 46, 101, 120, 97, 109, 112, 108, 101, 47, 99, 111, 116, 104, 114, 101, 97, 100, 115, 47, 108, 97, 119, 115, 46, 70, 110, 87, 111, 114, 108, 100, 82, 101, 115, 116, 32, 108, 111, 111, 112, 46, 101, 120, 97, 109, 112, 108, 101, 47, 99, 111, 116, 104, 114, 101, 97, 100, 115, 47, 108, 97, 119, 115, 46, 70, 110, 87, 111, 114, 108, 100, 82, 101, 115, 116, 87, 104, 121, 32, 108, 111, 111, 112, 46, 101, 120, 97, 109, 112, 108, 101, 47, 99, 111, 116, 104, 114, 101, 97, 100, 115, 47, 108, 97, 119, 115, 46, 70, 110, 87, 111, 114, 108, 100, 65, 108, 111, 110, 101, 32, 108, 111, 111, 112, 46, 101, 120, 97, 109, 112, 108, 101, 47, 99, 111, 116, 104, 114, 101, 97, 100, 115, 47, 108, 97, 119, 115, 46, 70, 110, 84, 114, 97, 99, 101, 82, 101, 115, 116, 32, 108, 111, 111, 112, 46, 101, 120, 97, 109, 112, 108, 101, 47, 99, 111, 116, 104, 114, 101, 97, 100, 115, 47, 108, 97, 119, 115, 46, 70, 110, 87, 111, 114, 108, 100, 80, 108, 97, 105, 110, 32, 108, 111, 111, 112, 46, 101, 120, 97, 109, 112, 108, 101, 47, 99, 111, 116, 104, 114, 101, 97, 100, 115, 47, 108, 97, 119, 115, 46, 70, 110, 87, 111, 114, 108, 100, 89, 105, 101, 108, 100, 32, 108, 111, 111, 112, 46, 101, 120, 97, 109, 112, 108, 101, 47, 99, 111, 116, 104, 114, 101, 97, 100, 115, 47, 108, 97, 119, 115, 46, 70, 110, 87, 111, 114, 108, 100, 78, 97, 109, 101, 115, 32, 108, 111, 111, 112, 46, 101, 120, 97, 109, 112, 108, 101, 47, 99, 111, 116, 104, 114, 101, 97, 100, 115, 47, 108, 97, 119, 115, 46, 70, 110, 84, 114, 97, 99, 101, 70, 111, 108, 100, 32, 108, 111, 111, 112, 46, 101, 120, 97, 109, 112, 108, 101, 47, 99, 111, 116, 104, 114, 101, 97, 100, 115, 47, 108, 97, 119, 115, 46, 70, 110, 87, 111, 114, 108, 100, 70, 111, 108, 100]
theorem order_0 : Try.prog.initOrder = "harness c2c2289ec35dfefcc0370ad246ba5bceed2be10234e455b144886d68cb78145b cut at loop.example/cothreads/laws.FnThreadExpr loop.example/cothreads/laws.FnWorldRest loop.example/cothreads/laws.FnWorldRestWhy loop.example/cothreads/laws.FnWorldAlone loop.example/cothreads/laws.FnTraceRest loop.example/cothreads/laws.FnWorldPlain loop.example/cothreads/laws.FnWorldYield loop.example/cothreads/laws.FnWorldNames loop.example/cothreads/laws.FnTraceFold loop.example/cothreads/laws.FnWorldFold" := by kernel_rfl
theorem order_1 : "harness c2c2289ec35dfefcc0370ad246ba5bceed2be10234e455b144886d68cb78145b cut at loop.example/cothreads/laws.FnThreadExpr loop.example/cothreads/laws.FnWorldRest loop.example/cothreads/laws.FnWorldRestWhy loop.example/cothreads/laws.FnWorldAlone loop.example/cothreads/laws.FnTraceRest loop.example/cothreads/laws.FnWorldPlain loop.example/cothreads/laws.FnWorldYield loop.example/cothreads/laws.FnWorldNames loop.example/cothreads/laws.FnTraceFold loop.example/cothreads/laws.FnWorldFold" = String.ofList ((hN ++ 32 :: (sN ++ 32 :: (cN ++ 32 :: rN))).map Char.ofNat) := by kernel_rfl
theorem order_ : Try.prog.initOrder = String.ofList ((hN ++ 32 :: (sN ++ 32 :: (cN ++ 32 :: rN))).map Char.ofNat) := order_0.trans order_1
theorem letters : Try.prog.initOrder.toList = hN.map Char.ofNat ++ Char.ofNat 32 :: (sN.map Char.ofNat ++ Char.ofNat 32 :: (cN.map Char.ofNat ++ Char.ofNat 32 :: rN.map Char.ofNat)) := by
  rw [order_, String.toList_ofList]
  simp only [List.map_append, List.map_cons]
theorem words_at (w r : List Char) (h : ∀ c ∈ w, c ≠ Char.ofNat 32) : wordsSigns (w ++ Char.ofNat 32 :: r) = w :: wordsSigns r := by
  induction w with
  | nil => rfl
  | cons c w ih =>
    have hc := h c List.mem_cons_self
    have e := ih (fun x hx => h x (List.mem_cons_of_mem _ hx))
    rw [List.cons_append, wordsSigns.eq_3 _ _ (fun hh => hc hh), e]
theorem words : behindMainWord (wordsSigns Try.prog.initOrder.toList) = cN.map Char.ofNat :: wordsSigns (rN.map Char.ofNat) := by
  rw [letters, words_at _ _ (by decide +kernel), words_at _ _ (by decide +kernel), words_at _ _ (by decide +kernel)]
  simp only [behindMainWord]
  rw [if_pos (by decide +kernel)]
theorem make_of {P : Program} {X : List (List Char)} (h : behindMainWord (wordsSigns P.initOrder.toList) = cN.map Char.ofNat :: X) : P.make = some Make.cut := by
  unfold Program.make
  rw [h]
  rfl
theorem strip_cut {X : List (List Char)} : stripLifts liftWords (cN.map Char.ofNat :: X) = ([], cN.map Char.ofNat :: X) := by rfl
theorem lifts_of {P : Program} {X : List (List Char)} (h : behindMainWord (wordsSigns P.initOrder.toList) = cN.map Char.ofNat :: X) : P.liftsFinal = false := by
  unfold Program.liftsFinal Program.headLifts
  simp only [h, strip_cut]
  rfl
theorem enter_of {P : Program} {X : List (List Char)} (h : behindMainWord (wordsSigns P.initOrder.toList) = cN.map Char.ofNat :: X) (h1 : P.laysLater = false) (h2 : P.bearsReflect = false) (h3 : P.doorFits [] = true) : P.mayEnter = true := by
  unfold Program.mayEnter
  rw [h]
  simp only [strip_cut, h1, h2, h3]
  rfl
theorem enter_ : Try.prog.mayEnter = true := enter_of words (by kernel_rfl) (by kernel_rfl) (by kernel_rfl)
set_option maxHeartbeats 4000000 in
theorem joined : joinedFacts Try.prog 3 Try.f3 Rows.fnThreadExprSpec Rows.fnThreadExprRow = true := by
  unfold joinedFacts
  rw [enter_, lifts_of words, make_of words]
  simp only [Bool.and_eq_true]
  repeat' (refine And.intro ?_ ?_)
  all_goals first | exact True.intro | (as_aux_lemma => kernel_rfl)
theorem over : Rows.fnThreadExprRow.holds Try.pinned (OpenSpec.ofChange Rows.fnThreadExprSpec) :=
  OpenClaim.holds_of_wide 3 Try.f3 rfl rfl rfl rfl rfl rfl rfl ⟨rfl, rfl, rfl, rfl, rfl⟩ rfl rfl rfl rfl rfl (by as_aux_lemma => kernel_rfl) Try.func3 joined
    (of_decide_eq_true (by as_aux_lemma => kernel_rfl)) (by unfold Func.isWrapper; first | (rw [if_pos (by as_aux_lemma => decide +kernel)]; kernel_rfl) | (rw [if_neg (by as_aux_lemma => decide +kernel)]; exact ⟨rfl, rfl⟩))
    (fun os started H enc _ => lifted os started H enc)
theorem proved : Rows.FnThreadExprSaid := over
end Go.Proofs.Ytmecbehegmgbhaa.fnThreadExpr
namespace Go.Proofs.Ytmecbehegmgbhaa
/-- The row, under a short name, for the claim. -/
theorem fnThreadExpr_holds : Rows.FnThreadExprSaid := fnThreadExpr.proved
end Go.Proofs.Ytmecbehegmgbhaa
