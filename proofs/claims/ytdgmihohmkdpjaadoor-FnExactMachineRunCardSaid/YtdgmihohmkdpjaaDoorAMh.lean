/-
  Soundness of the abstract machine: a run of it is a run of the loaded code. First the code that doesn't draw its order. No condition.
-/
import Derived.Test.YtdgmihohmkdpjaaDoorAMg
namespace Go.Proofs.YtdgmihohmkdpjaaDoor.AM
set_option linter.unusedSimpArgs false
set_option linter.unusedVariables false
open Go Go.RowKit

/-! ### Which code is which -/
def fitG (ops : Array Oper) : Option (Nat × Bool) → Option (Nat × Bool) → Bool
  | none, none => true
  | some (j, b), some (t, b') => (ops[j]?).bind (·.dst) == some t && b == b'
  | _, _ => false
def fitD (N : Nat) : Option Tmp → Option Nat → Bool
  | none, none => true
  | some d, some d' => d == d' && decide (d < N)
  | _, _ => false
def fitL (P : Program) (NG N : Nat) (ops : Array Oper) : List Oper → List AO → Bool
  | [], [] => true
  | o :: os, a :: as => fitD N o.dst a.d && fitG ops o.guard a.c && fitOp P NG o.op a.op && fitL P NG N ops os as
  | _, _ => false

/-- The operations that must be ahead, of a region that draws its order. -/
def dirs (o : Oper) : List Nat := o.after.toList.filterMap fun e => if Region.binds .any e then some e.on else none
def maskOf (acc : List Nat) : List Nat → Nat
  | [] => 0
  | k :: ks => (2 ^ k ||| acc.getD k 0) ||| maskOf acc ks
def masks : List Oper → List Nat → List Nat
  | [], acc => acc
  | o :: os, acc => masks os (acc ++ [maskOf acc (dirs o)])

/-- The names that an operation reads. -/
def xsOf : AOp → List AX
  | .mv x | .box x | .load x | .loadN _ x | .nilc x | .un _ x | .conv _ x | .fldA _ x | .fld _ x | .fldN _ _ x | .ext x _ | .len x => [x]
  | .pick c a b => [c, a, b]
  | .alloc _ => []
  | .store _ a v => [a, v]
  | .bin _ x y | .eqB _ x y | .eqN _ _ x y | .eqA _ _ x y | .idxA _ x y | .idxAA _ _ x y | .idx x y | .mx x y | .mn x y | .app _ x y => [x, y]
  | .mksl _ l c => [l, c]
  | .slice _ x lo hi mx => [x] ++ lo.toList ++ hi.toList ++ mx.toList
  | .mkfn _ a b => a ++ b
  | .build _ ps | .bsl _ _ ps => ps.map (·.2.2)
  | .call _ as => as
  | .callv f as => f :: as
def tmpsOf (o : AO) : List Nat := (xsOf o.op).filterMap (fun | .t n => some n | _ => none) ++ (match o.c with | some (t, _) => [t] | none => [])

inductive Cls where
  /-- reads no memory, writes none -/
  | p
  /-- makes a block, reads none -/
  | a
  /-- reads the block of one address -/
  | l (x : AX)
  /-- a call that leaves all that was there alone -/
  | q
  /-- the rest -/
  | t
def clsOf (o : AO) : Cls :=
  match o.op with
  | .alloc _ | .box _ | .mksl .. | .bsl .. => .a
  | .load x | .loadN _ x => .l x
  | .store .. => .t
  | .app .. | .call .. | .callv .. => if o.q then .q else .t
  | _ => .p

def axEq : AX → AX → Bool
  | .t n, .t m => n == m
  | .g n, .g m => n == m
  | _, _ => false
/-- May i (first in the text) and j be carried out in either order? 'mid': what is written between them. -/
def free (mid : List AO) (i j : AO) : Bool :=
  (match i.d with | some t => !(tmpsOf j).contains t | none => true) &&
  (match j.d with | some t => !(tmpsOf i).contains t | none => true) &&
  (match clsOf i, clsOf j with
   | .t, .t | .t, .q | .q, .t | .t, .l _ => false
   | .a, .t => (match i.d with | some n => j.gd.any (axEq (.t n)) | none => false)
   | .l x, .t => j.gd.any (axEq x) && (match x with | .t n => mid.all (fun o => o.d != some n) && i.d != some n | _ => true)
   | _, _ => true)
/-- The pairs (i, j) of a list: ordered, or free; no name is written twice. -/
def pairsOk (ms : List Nat) (l : List AO) : Bool :=
  (List.range l.length).all fun j => (List.range j).all fun i =>
    match l[i]?, l[j]? with
    | some a, some b => ((ms.getD j 0).testBit i || free ((l.drop (i + 1)).take (j - i - 1)) a b) && (a.d.isNone || a.d != b.d)
    | _, _ => false
def dirsOk (os : List Oper) : Bool := (List.range os.length).all fun j => match os[j]? with | some o => (dirs o).all (fun k => decide (k < j)) | none => false
def drawOk (ops : Array Oper) (l : List AO) : Bool := dirsOk ops.toList && pairsOk (masks ops.toList []) l

/-- The code, and its twin ('keep' may stand anywhere). -/
def fitC (P : Program) (NG N : Nat) : AC → Code → Bool
  | .skip, c => match c with | .skip => true | _ => false
  | .ret, c => match c with | .ret => true | _ => false
  | .exit i, c => match c with | .exit j => i == j | _ => false
  | .keep _, _ => false
  | .ops l, c => match c with | .region _ ops draw => fitL P NG N ops ops.toList l && (!draw || drawOk ops l) | _ => false
  | .cond x a b, c => match c with | .cond y s t => fitX NG y x && fitC P NG N a s && fitC P NG N b t | _ => false
  | .block i a, c => match c with | .block j s => i == j && fitC P NG N a s | _ => false
  | .loop a, c => match c with | .loop s => fitC P NG N a s | _ => false
  | .seq a b, c => match a, b with
    | .keep _, b => fitC P NG N b c
    | a, .keep _ => fitC P NG N a c
    | a, b => match c with | .seq s t => fitC P NG N a s && fitC P NG N b t | _ => false

def fitR (P : Program) : List ResultVar → List ARes → Bool
  | [], [] => true
  | .tmp t :: rs, .t n :: qs => t == n && fitR P rs qs
  | .cell t ty :: rs, .c n sz :: qs => t == n && tagg P ty == some true && tsize P ty == some sz && fitR P rs qs
  | .cell t ty :: rs, .c1 n :: qs => t == n && tagg P ty == some false && fitR P rs qs
  | _, _ => false
def fitF (P : Program) (NG : Nat) (f : Func) (a : AFn) : Bool :=
  f.name != "runtime.NumGoroutine" && decide (a.np ≤ f.ntmps) && fitR P f.results.toList a.res && (match f.body with | some c => fitC P NG f.ntmps a.body c | none => false)

/-- The table of twins fits the program. -/
def Fits (P : Program) (NG : Nat) (C : FuncId → Option AFn) : Prop := ∀ f a, C f = some a → ∃ F, P.funcs[f]? = some F ∧ fitF P NG F a = true

/-! ### One operation in its place -/
section
variable {P : Program} {NG : Nat} {C : FuncId → Option AFn}

/-- What a call's simulation says. -/
def CallSim (P : Program) (NG : Nat) (f : FuncId) (args : List AV) (H : AH) (v : AV) (H' : AH) : Prop :=
  ∀ (ρ : Rho) (cargs : Array Value) (w : World), VRs ρ args cargs.toList → RelH NG ρ H w → Fresh ρ H.n H'.n → Calls P f cargs w fun e w' => ∃ ρ' cv, e = .returned cv ∧ Adv ρ H w ρ' H' w' ∧ RelH NG ρ' H' w' ∧ VR ρ' v cv

/-- What the simulation of an operation says, be it a call or none. -/
def StepSim (P : Program) (NG : Nat) (o : AO) (e : Env) (H : AH) (v : AV) (H' : AH) : Prop :=
  ∀ (op : Oper), fitOp P NG op.op o.op = true → ∀ (e' : Env) (ρ : Rho) (a : Act) (w : World), (∀ x ∈ xsOf o.op, ev e' x = ev e x) → RelE ρ e' a.tmps → RelH NG ρ H w → Fresh ρ H.n H'.n → ∀ (K : Act → World → Prop) (Q : Exit → Act → World → Prop),
    (∀ ρ' cv w', Adv ρ H w ρ' H' w' → RelH NG ρ' H' w' → VR ρ' v cv → K (a.put op.dst cv) w') → op.wp P a w K Q

theorem Sim.wp {op : Oper} {aop_ : AOp} (h : Sim P NG op aop_) {ρ e H a w v H'} (he : RelE ρ e a.tmps) (hH : RelH NG ρ H w) (hfr : Fresh ρ H.n H'.n) (ho : aop e H aop_ = some (v, H')) {K Q}
    (k : ∀ ρ' cv w', Adv ρ H w ρ' H' w' → RelH NG ρ' H' w' → VR ρ' v cv → K (a.put op.dst cv) w') : op.wp P a w K Q := by
  obtain ⟨ρ', cv, w', hc, ha, hH', hv⟩ := h.adv he hH hfr ho
  have := k ρ' cv w' ha hH' hv
  unfold Oper.wp
  rcases hc with hc | ⟨hc, rfl⟩
  · rw [hc]; exact this
  · rw [hc]; exact this

theorem evs_congr {e e' : Env} : ∀ {xs : List AX}, (∀ x ∈ xs, ev e' x = ev e x) → evs e' xs = evs e xs
  | [], _ => rfl
  | x :: xs, h => by
    simp only [evs]
    rw [h x (by simp), evs_congr (xs := xs) (fun y hy => h y (by simp [hy]))]
theorem evParts_congr {e e' : Env} : ∀ {ps : List (Nat × Nat × AX)}, (∀ x ∈ ps.map (·.2.2), ev e' x = ev e x) → evParts e' ps = evParts e ps
  | [], _ => rfl
  | (o, s, x) :: ps, h => by
    simp only [evParts]
    rw [h x (by simp), evParts_congr (ps := ps) (fun y hy => h y (by simp at hy ⊢; exact .inr hy))]
theorem evo_congr {e e' : Env} {x : Option AX} (h : ∀ y ∈ x.toList, ev e' y = ev e y) : evo e' x = evo e x := by
  cases x with
  | none => rfl
  | some x => simp only [evo]; rw [h x (by simp)]

theorem aop_congr {e e' : Env} {op : AOp} (h : ∀ x ∈ xsOf op, ev e' x = ev e x) (H : AH) : aop e' H op = aop e H op := by
  cases op <;> simp only [xsOf] at h <;> simp only [aop]
  case mv x => rw [h x (by simp)]
  case pick c a b => rw [h c (by simp), h a (by simp), h b (by simp)]
  case box x => rw [h x (by simp)]
  case load x => rw [h x (by simp)]
  case loadN n x => rw [h x (by simp)]
  case store n a v => rw [h a (by simp), h v (by simp)]
  case nilc x => rw [h x (by simp)]
  case bin op x y => rw [h x (by simp), h y (by simp)]
  case eqB ne x y => rw [h x (by simp), h y (by simp)]
  case eqN kd ne x y => rw [h x (by simp), h y (by simp)]
  case eqA n ne x y => rw [h x (by simp), h y (by simp)]
  case un op x => rw [h x (by simp)]
  case conv k x => rw [h x (by simp)]
  case mksl z l c => rw [h l (by simp), h c (by simp)]
  case slice sz x lo hi mx =>
    rw [h x (by simp), evo_congr (x := lo) (fun y hy => h y (by simp at hy ⊢; simp [hy])), evo_congr (x := hi) (fun y hy => h y (by simp at hy ⊢; simp [hy])), evo_congr (x := mx) (fun y hy => h y (by simp at hy ⊢; simp [hy]))]
  case fldA off x => rw [h x (by simp)]
  case fld off x => rw [h x (by simp)]
  case fldN off n x => rw [h x (by simp)]
  case idxA sz x i => rw [h x (by simp), h i (by simp)]
  case idxAA sz len x i => rw [h x (by simp), h i (by simp)]
  case idx x i => rw [h x (by simp), h i (by simp)]
  case ext x i => rw [h x (by simp)]
  case mkfn f a b => rw [evs_congr (xs := a) (fun y hy => h y (by simp [hy])), evs_congr (xs := b) (fun y hy => h y (by simp [hy]))]
  case build z ps => rw [evParts_congr (ps := ps) (fun y hy => h y hy)]
  case bsl z len ps => rw [evParts_congr (ps := ps) (fun y hy => h y hy)]
  case len x => rw [h x (by simp)]
  case app sz s x => rw [h s (by simp), h x (by simp)]
  case mx x y => rw [h x (by simp), h y (by simp)]
  case mn x y => rw [h x (by simp), h y (by simp)]

theorem target_congr {e e' : Env} {op : AOp} (h : ∀ x ∈ xsOf op, ev e' x = ev e x) : target e' op = target e op := by
  cases op <;> simp only [xsOf] at h <;> simp only [target]
  case call f as => rw [evs_congr h]
  case callv f as => rw [h f (by simp), evs_congr (xs := as) (fun y hy => h y (by simp [hy]))]

theorem stepSim_op {o : AO} {e H v H'} (hc : isCall o.op = false) (ho : aop e H o.op = some (v, H')) : StepSim P NG o e H v H' := by
  intro op hf e' ρ a w hx he hH hfr K Q k
  exact (sim_of_fit op o.op hc hf).wp he hH hfr (by rw [aop_congr hx]; exact ho) k

theorem stepSim_call (hC : Fits P NG C) {o : AO} {e H f args v H'} (ht : target e o.op = some (f, args)) (hfn : ∃ fn, C f = some fn) (hcall : CallSim P NG f args H v H') : StepSim P NG o e H v H' := by
  intro op hf e' ρ a w hx he hH hfr K Q k
  rw [← target_congr hx] at ht
  obtain ⟨dst, mo, ty, pos, after, guard⟩ := op
  obtain ⟨fn, hfn⟩ := hfn
  obtain ⟨F, hF, hfit⟩ := hC f fn hfn
  simp only [fitF, Bool.and_eq_true, bne_iff_ne] at hfit
  obtain ⟨⟨⟨hname, _⟩, _⟩, hbody⟩ := hfit
  have hb : F.body.isNone = false := by
    cases hq : F.body with
    | none => rw [hq] at hbody; cases hbody
    | some c => rfl
  have fin : ∀ cargs : Array Value, VRs ρ args cargs.toList → (execOp a.eval ⟨dst, mo, ty, pos, after, guard⟩).run P w = .ok (.enter f cargs) w → Oper.wp P ⟨dst, mo, ty, pos, after, guard⟩ a w K Q := by
    intro cargs hv hr
    unfold Oper.wp
    rw [hr, Oper.upon_enter]
    refine (hcall ρ cargs w hv hH hfr).mono ?_
    rintro _ w' ⟨ρ', cv, rfl, ha, hH', hv'⟩
    exact k ρ' cv w' ha hH' hv'
  have hcf : ∀ (cargs : Array Value), (callFunc f cargs).run P w = .ok (.enter f cargs) w := by
    intro cargs
    simp [callFunc, hF, hname]
    intro hn; rw [hn] at hb; cases hb
  cases hop : o.op <;> rw [hop] at ht hf <;> simp only [target] at ht <;> first | (cases ht; done) | skip
  · rename_i f' ys
    obtain ⟨us, hu, e2⟩ := map_some ht; cases e2
    cases mo <;> simp only [fitOp] at hf <;> first | (cases hf; done) | skip
    rename_i c
    simp only [Bool.and_eq_true] at hf
    obtain ⟨h1, h2⟩ := hf
    split at h1
    · rename_i g hg
      simp only [beq_iff_eq] at h1; subst h1
      refine fin (c.args.map a.eval) (by rw [Array.toList_map]; exact evs_VRs hH.glob he h2 hu) ?_
      unfold execOp
      simp [resolve, hg, Act.eval, Deferred.ofValue, invoke, hcf]
    · cases h1
  · rename_i y ys
    split at ht
    · rename_i g fa fc us hy hu
      simp only [Option.some.injEq, Prod.mk.injEq] at ht; obtain ⟨rfl, rfl⟩ := ht
      cases mo <;> simp only [fitOp] at hf <;> first | (cases hf; done) | skip
      rename_i c
      simp only [Bool.and_eq_true] at hf
      obtain ⟨h1, h2⟩ := hf
      split at h1
      · rename_i x hx'
        have hv := ev_VR hH.glob he h1 hy
        obtain ⟨a', c', ex, k1, k2⟩ : ∃ a' c', a.eval x = .func (.func g) a' c' ∧ VRs ρ fa a'.toList ∧ VRs ρ fc c'.toList := by
          generalize a.eval x = X at hv
          cases hv with
          | fn q1 q2 q3 q4 => exact ⟨_, _, rfl, ⟨by simpa using q1, q2⟩, ⟨by simpa using q3, q4⟩⟩
        refine fin ((a' ++ c.args.map a.eval) ++ c') ?_ ?_
        · simp only [Array.toList_append, Array.toList_map]
          exact (k1.append (evs_VRs hH.glob he h2 hu)).append k2
        · unfold execOp
          simp [resolve, hx', ex, Deferred.ofValue, invoke, hcf]
      · cases h1
    · cases ht

/-- A run of a list of operations, each with its simulation. -/
inductive Tr (P : Program) (NG : Nat) : List AO → Env → AH → Env → AH → Prop
  | nil {e H} : Tr P NG [] e H e H
  | pass {o l e H e' H'} : want e o.c = some false → Tr P NG l (upd e o.d (.tup [])) H e' H' → Tr P NG (o :: l) e H e' H'
  | step {o l e H v H1 e' H'} : want e o.c = some true → StepSim P NG o e H v H1 → Mon H H1 → Guards e H H1 o.gd → (o.q = true → Ext H H1) → (isCall o.op = false → aop e H o.op = some (v, H1)) →
      Tr P NG l (upd e o.d v) H1 e' H' → Tr P NG (o :: l) e H e' H'

theorem wanted_of {ops : Array Oper} {ρ : Rho} {e : Env} {a : Act} (he : RelE ρ e a.tmps) {op : Oper} {o : AO} {b : Bool} (hg : fitG ops op.guard o.c = true) (hw : want e o.c = some b) : Region.wanted op (yielded ops a.tmps) = b := by
  unfold fitG at hg
  split at hg
  · rename_i h1 h2
    rw [h2] at hw; simp only [want, Option.some.injEq] at hw; subst hw
    simp [Region.wanted, h1]
  · rename_i j b1 t b2 h1 h2
    simp only [Bool.and_eq_true, beq_iff_eq] at hg
    obtain ⟨hd, rfl⟩ := hg
    rw [h2] at hw
    simp only [Region.wanted, h1, yielded, hd, Option.bind_some]
    simp only [want] at hw
    split at hw
    · rename_i x hx
      obtain ⟨u, hu, hv⟩ := he _ _ hx
      cases hv
      simp only [Option.some.injEq] at hw; subst hw
      rw [hu]
      cases x <;> cases b1 <;> rfl
    · rename_i v hne hv0
      simp only [Option.some.injEq] at hw; subst hw
      obtain ⟨u, hu, hv⟩ := he _ _ hv0
      rw [hu]
      cases hv <;> first | rfl | exact absurd rfl (hne _)
    · cases hw
  · cases hg

theorem fitD_lt {N d d' t} (h : fitD N d d' = true) : d = d' ∧ (d' = some t → t < N) := by
  unfold fitD at h
  split at h
  · exact ⟨rfl, fun h => by cases h⟩
  · simp only [Bool.and_eq_true, beq_iff_eq, decide_eq_true_eq] at h
    obtain ⟨rfl, h2⟩ := h
    exact ⟨rfl, fun e => by cases e; exact h2⟩
  · cases h

theorem Tr.mon {P NG l e H e' H'} (h : Tr P NG l e H e' H') : Mon H H' := by
  induction h with
  | nil => exact Mon.refl _
  | pass _ _ ih => exact ih
  | step _ _ hm _ _ _ _ ih => exact hm.trans ih

/-- What holds behind a piece of code. -/
def Post (NG : Nat) (ρ : Rho) (H : AH) (a : Act) (w : World) (e' : Env) (H' : AH) (a' : Act) (w' : World) : Prop :=
  ∃ ρ', Adv ρ H w ρ' H' w' ∧ RelE ρ' e' a'.tmps ∧ RelH NG ρ' H' w' ∧ a'.defers = a.defers ∧ a'.tmps.size = a.tmps.size

theorem put_facts (a : Act) (d : Option Tmp) (v : Value) : (a.put d v).defers = a.defers ∧ (a.put d v).tmps.size = a.tmps.size := by cases d <;> simp [Act.put]

theorem tr_text {N : Nat} {ops : Array Oper} : ∀ {l e H e' H'}, Tr P NG l e H e' H' → ∀ (k : Nat) (os : List Oper), ops.toList.drop k = os → fitL P NG N ops os l = true → ∀ (ρ : Rho) (a : Act) (w : World), RelE ρ e a.tmps → RelH NG ρ H w → Fresh ρ H.n H'.n → a.tmps.size = N →
    ∀ (Q : Exit → Act → World → Prop), (∀ a' w', Post NG ρ H a w e' H' a' w' → Q .normal a' w') → wpOps P ops Q ((List.range ops.size).drop k) a w := by
  intro l e H e' H' h
  induction h with
  | nil =>
    intro k os hos hf ρ a w he hH _ _ Q hQ
    cases os with
    | nil =>
      have : ops.size ≤ k := by
        have := congrArg List.length hos
        simp at this; omega
      rw [List.drop_of_length_le (by simpa using this)]
      exact hQ a w ⟨ρ, Adv.refl _ _ _, he, hH, rfl, rfl⟩
    | cons o os => simp [fitL] at hf
  | @pass o l e H e' H' hw _ ih =>
    intro k os hos hf ρ a w he hH hfr hN Q hQ
    cases os with
    | nil => simp [fitL] at hf
    | cons op os =>
      simp only [fitL, Bool.and_eq_true] at hf
      obtain ⟨⟨⟨f1, f2⟩, f3⟩, f4⟩ := hf
      have hk : k < ops.size := by
        rcases Nat.lt_or_ge k ops.size with h | h
        · exact h
        · rw [List.drop_of_length_le (by simpa using h)] at hos; cases hos
      have hop : ops[k]? = some op := by
        have := congrArg (fun l : List Oper => l[0]?) hos
        simpa [List.getElem?_drop] using this
      have hnext : ops.toList.drop (k + 1) = os := by have := congrArg List.tail hos; simpa [List.tail_drop] using this
      have hr : (List.range ops.size).drop k = k :: (List.range ops.size).drop (k + 1) := by
        rw [List.drop_eq_getElem_cons (by simpa using hk)]; simp
      rw [hr, wpOps_cons]
      unfold wpOp
      rw [hop]
      simp only [wanted_of he f2 hw, Bool.false_eq_true, if_false]
      have hd := fitD_lt (t := 0) f1
      have hpf := put_facts a op.dst undef
      refine ih (k + 1) os hnext f4 ρ (a.put op.dst undef) w ?_ hH hfr (by rw [hpf.2]; exact hN) Q ?_
      · rw [hd.1]
        exact he.upd (fun t ht => by rw [hN]; exact (fitD_lt f1).2 ht) (.tup rfl (fun i x v h => by simp at h)) a.defers
      · rintro a' w' ⟨ρ', p1, p2, p3, p4, p5⟩
        exact hQ a' w' ⟨ρ', p1, p2, p3, p4.trans hpf.1, p5.trans hpf.2⟩
  | @step o l e H v H1 e' H' hw hs hm _ _ _ htr ih =>
    intro k os hos hf ρ a w he hH hfr hN Q hQ
    cases os with
    | nil => simp [fitL] at hf
    | cons op os =>
      simp only [fitL, Bool.and_eq_true] at hf
      obtain ⟨⟨⟨f1, f2⟩, f3⟩, f4⟩ := hf
      have hk : k < ops.size := by
        rcases Nat.lt_or_ge k ops.size with h | h
        · exact h
        · rw [List.drop_of_length_le (by simpa using h)] at hos; cases hos
      have hop : ops[k]? = some op := by
        have := congrArg (fun l : List Oper => l[0]?) hos
        simpa [List.getElem?_drop] using this
      have hnext : ops.toList.drop (k + 1) = os := by have := congrArg List.tail hos; simpa [List.tail_drop] using this
      have hr : (List.range ops.size).drop k = k :: (List.range ops.size).drop (k + 1) := by
        rw [List.drop_eq_getElem_cons (by simpa using hk)]; simp
      rw [hr, wpOps_cons]
      unfold wpOp
      rw [hop]
      simp only [wanted_of he f2 hw, if_true]
      left
      refine hs op f3 e ρ a w (fun _ _ => rfl) he hH (hfr.sub htr.mon.n) _ _ ?_
      intro ρ1 cv w1 ha hH1 hv
      have hd := fitD_lt (t := 0) f1
      have hpf := put_facts a op.dst cv
      refine ih (k + 1) os hnext f4 ρ1 (a.put op.dst cv) w1 ?_ hH1 (ha.fresh hfr htr.mon.n) (by rw [hpf.2]; exact hN) Q ?_
      · rw [hd.1]
        exact (he.mono ha.sub).upd (fun t ht => by rw [hN]; exact (fitD_lt f1).2 ht) hv a.defers
      · rintro a' w' ⟨ρ', p1, p2, p3, p4, p5⟩
        exact hQ a' w' ⟨ρ', ha.trans hH (hfr.sub htr.mon.n) p1, p2, p3, p4.trans hpf.1, p5.trans hpf.2⟩

end
end Go.Proofs.YtdgmihohmkdpjaaDoor.AM
