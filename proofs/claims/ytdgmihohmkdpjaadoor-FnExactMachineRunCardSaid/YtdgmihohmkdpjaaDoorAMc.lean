/-
  Which operation of the loaded code is which of the abstract machine's, and that the one does what the other says. No condition.
-/
import Derived.Test.YtdgmihohmkdpjaaDoorAMb
namespace Go.Proofs.YtdgmihohmkdpjaaDoor.AM
set_option linter.unusedSimpArgs false
set_option linter.unusedVariables false
open Go Go.RowKit

def okV1 : Value → AV → Bool
  | .bool a, .b c => a == c
  | .int k n, .i k' m => k == k' && n == m
  | .string s, .str s' => s.data.toList == s'.data.toList
  | .pointer none, .nilp => true
  | .slice none 0 0, .nils => true
  | .nilFunc, .nilf => true
  | _, _ => false
def okVs : List Value → List AV → Bool
  | [], [] => true
  | v :: vs, a :: as => okV1 v a && okVs vs as
  | _, _ => false
def okV : Value → AV → Bool
  | .agg cs, .agg l => okVs cs.toList l
  | v, a => okV1 v a

theorem okV1_VR {ρ : Rho} {v a} (h : okV1 v a = true) : VR ρ a v ∧ a.flat = true := by
  unfold okV1 at h
  split at h
  · simp at h; subst h; exact ⟨.b _, rfl⟩
  · simp at h; obtain ⟨rfl, rfl⟩ := h; exact ⟨.i _ _, rfl⟩
  · rename_i s s'
    have : s = s' := by
      obtain ⟨d⟩ := s; obtain ⟨d'⟩ := s'
      have : d.toList = d'.toList := by simpa using h
      rw [Array.toList_inj] at this; rw [this]
    subst this; exact ⟨.str _, rfl⟩
  · exact ⟨.nilp, rfl⟩
  · exact ⟨.nils, rfl⟩
  · exact ⟨.nilf, rfl⟩
  · cases h
theorem okVs_VRs {ρ : Rho} : ∀ {vs as}, okVs vs as = true → VRs ρ as vs ∧ as.all AV.flat = true
  | [], [], _ => ⟨VRs.nil ρ, rfl⟩
  | v :: vs, a :: as, h => by
    simp only [okVs, Bool.and_eq_true] at h
    have h1 := okV1_VR (ρ := ρ) h.1
    have h2 := okVs_VRs (ρ := ρ) h.2
    exact ⟨VRs.cons h1.1 h2.1, by simp [h1.2, h2.2]⟩
  | [], _ :: _, h => by simp [okVs] at h
  | _ :: _, [], h => by simp [okVs] at h
theorem okV_VR {ρ : Rho} {v a} (h : okV v a = true) : VR ρ a v := by
  unfold okV at h
  split at h
  · have := okVs_VRs (ρ := ρ) h
    exact .agg this.2 (by simpa using this.1.1) this.1.2
  · exact (okV1_VR h).1

/-- An operand and its twin. NG: how many package-level variables there are. -/
def fitX (NG : Nat) : Operand → AX → Bool
  | .tmp t, .t t' => t == t'
  | .const v, .c a => okV v a
  | .global g, .g g' => g == g' && decide (g < NG)
  | .func f, .c (.fn f' [] []) => f == f'
  | _, _ => false

/-- The environment, and the frame's places. -/
def RelE (ρ : Rho) (e : Env) (tm : Array Value) : Prop := ∀ t v, get e t = some v → ∃ u, tm[t]? = some u ∧ VR ρ v u

theorem RelE.mono {ρ ρ' : Rho} (h : Sub ρ ρ') {e tm} (k : RelE ρ e tm) : RelE ρ' e tm := fun t v hv => let ⟨u, a, b⟩ := k t v hv; ⟨u, a, b.mono h⟩
theorem RelE.upd {ρ : Rho} {e tm} (k : RelE ρ e tm) {d : Option Nat} {v u} (hd : ∀ t, d = some t → t < tm.size) (h : VR ρ v u) (ds : List Deferred) :
    RelE ρ (upd e d v) (Act.put ⟨tm, ds⟩ d u).tmps := by
  cases d with
  | none => exact k
  | some t =>
    intro s x hx
    simp only [AM.upd, get] at hx
    simp only [Act.put]
    by_cases e1 : s = t
    · subst e1
      rw [if_pos rfl] at hx; cases hx
      exact ⟨u, by rw [Array.getElem?_setIfInBounds_self, if_pos (hd _ rfl)], h⟩
    · rw [if_neg e1] at hx
      obtain ⟨u', h1, h2⟩ := k s x hx
      exact ⟨u', by rw [Array.getElem?_setIfInBounds_ne (Ne.symm e1)]; exact h1, h2⟩
theorem keepE_get : ∀ (ks : List Nat) (e : Env) (t : Nat) (v : AV), get (keepE ks e) t = some v → get e t = some v
  | [], _, _, _, h => by simp [keepE, get] at h
  | k :: ks, e, t, v, h => by
    simp only [keepE] at h
    split at h
    · rename_i u hu
      simp only [get] at h
      split at h
      · rename_i e1; subst e1; rw [hu]; exact h
      · exact keepE_get ks e t v h
    · exact keepE_get ks e t v h
theorem RelE.keep {ρ : Rho} {e tm} (k : RelE ρ e tm) (ks : List Nat) : RelE ρ (keepE ks e) tm := fun t v h => k t v (keepE_get ks e t v h)

theorem ev_VR {NG : Nat} {ρ : Rho} {e : Env} {a : Act} (hg : ∀ g, g < NG → ∃ x, ρ g = some (g, 0, x)) (he : RelE ρ e a.tmps) {x y v} (hx : fitX NG x y = true) (hv : ev e y = some v) : VR ρ v (a.eval x) := by
  unfold fitX at hx
  split at hx
  · simp at hx; subst hx
    obtain ⟨u, h1, h2⟩ := he _ _ hv
    simp only [Act.eval, Array.getD_eq_getD_getElem?, h1, Option.getD_some]; exact h2
  · simp only [ev, Option.some.injEq] at hv; subst hv; exact okV_VR hx
  · simp at hx; obtain ⟨rfl, h⟩ := hx
    simp only [ev, Option.some.injEq] at hv; subst hv
    obtain ⟨x, hx⟩ := hg _ h
    exact VR.ptr (o := 0) hx
  · simp at hx; subst hx
    simp only [ev, Option.some.injEq] at hv; subst hv
    exact .fn rfl (fun i x v h => by simp at h) rfl (fun i x v h => by simp at h)
  · cases hx

def fitXs (NG : Nat) : List Operand → List AX → Bool
  | [], [] => true
  | x :: xs, y :: ys => fitX NG x y && fitXs NG xs ys
  | _, _ => false
theorem evs_VRs {NG : Nat} {ρ : Rho} {e : Env} {a : Act} (hg : ∀ g, g < NG → ∃ x, ρ g = some (g, 0, x)) (he : RelE ρ e a.tmps) : ∀ {xs ys vs}, fitXs NG xs ys = true → evs e ys = some vs → VRs ρ vs (xs.map a.eval)
  | [], [], _, _, h => by simp [evs] at h; subst h; exact VRs.nil ρ
  | x :: xs, y :: ys, vs, hf, h => by
    simp only [fitXs, Bool.and_eq_true] at hf
    simp only [evs] at h
    split at h
    · rename_i v hv
      cases h2 : evs e ys with
      | none => simp [h2] at h
      | some us =>
        simp [h2] at h; subst h
        exact VRs.cons (ev_VR hg he hf.1 hv) (evs_VRs hg he hf.2 h2)
    · cases h
  | [], _ :: _, _, hf, _ => by simp [fitXs] at hf
  | _ :: _, [], _, hf, _ => by simp [fitXs] at hf

def fitO (NG : Nat) : Option Operand → Option AX → Bool
  | none, none => true
  | some x, some y => fitX NG x y
  | _, _ => false

/-- The size of a type's values, in cells. -/
def tsize (P : Program) (t : TypeId) : Option Nat := (P.info? t).map (·.size)
def tagg (P : Program) (t : TypeId) : Option Bool := (P.underlying t).map TypeDesc.isRow
def tzero (P : Program) (t : TypeId) (z : List AV) : Bool :=
  match P.info? t with
  | some i => match i.zero with
    | some v => okVs v.cells.toList z
    | none => false
  | none => false
def telem (P : Program) (t : TypeId) : Option TypeId :=
  match P.underlying t with
  | some (.slice e) => some e
  | _ => none
def tfield (P : Program) (t : TypeId) (f : Nat) : Option Field :=
  match P.underlying t with
  | some (.struct fs) => fs[f]?
  | _ => none
def kindNil (P : Program) (t : TypeId) : Nat → Bool
  | 0 => match P.underlying t with | some (.slice _) => true | _ => false
  | 1 => match P.underlying t with | some (.pointer _) => true | _ => false
  | 2 => match P.underlying t with | some (.func ..) => true | _ => false
  | _ => false
/-- A struct whose fields are integers, one cell each, in order. -/
def intFields (P : Program) (k : Nat) : List Field → Bool
  | [] => true
  | f :: fs => f.name != "_" && f.offset == k && (match P.underlying f.type with | some (.int _) => true | _ => false) && intFields P (k + 1) fs
def intStruct (P : Program) (t : TypeId) (n : Nat) : Bool :=
  match P.underlying t with
  | some (.struct fs) => !P.stoodInHeld t && intFields P 0 fs.toList && fs.toList.length == n && !P.eqGuardType P.depth t
  | _ => false
def fitParts (P : Program) (NG : Nat) (fs : List Field) : List (Nat × Operand) → List (Nat × Nat × AX) → Bool
  | [], [] => true
  | (i, x) :: ps, (o, s, y) :: qs => (match fs[i]? with | some f => f.offset == o && tsize P f.type == some s | none => false) && fitX NG x y && fitParts P NG fs ps qs
  | _, _ => false
def fitElems (NG : Nat) (sz : Nat) : List (Nat × Operand) → List (Nat × Nat × AX) → Bool
  | [], [] => true
  | (i, x) :: ps, (o, s, y) :: qs => i * sz == o && sz == s && fitX NG x y && fitElems NG sz ps qs
  | _, _ => false
def tbytes (P : Program) (t : TypeId) : Bool :=
  match P.info? t with
  | some i => decide (i.bytes ≤ 8192)
  | none => false

def fitOp (P : Program) (NG : Nat) : Op → AOp → Bool
  | .move x, .mv y => fitX NG x y
  | .assign x, .mv y => fitX NG x y
  | .pick c a b, .pick c' a' b' => fitX NG c c' && fitX NG a a' && fitX NG b b'
  | .alloc t, .alloc z => tzero P t z
  | .box _ x, .box y => fitX NG x y
  | .load t x, .load y => fitX NG x y && tagg P t == some false
  | .load t x, .loadN n y => fitX NG x y && tagg P t == some true && tsize P t == some n
  | .store t a v, .store n b u => fitX NG a b && fitX NG v u && tsize P t == some n
  | .nilCheck x, .nilc y => fitX NG x y
  | .binOp op _ x y _, .bin op' x' y' => decide (op = op') && fitX NG x x' && fitX NG y y'
  | .binOp op t x y _, .eqB ne x' y' => decide (op = if ne then .neq else .eql) && fitX NG x x' && fitX NG y y' && (match P.underlying t with | some .bool => true | _ => false)
  | .binOp op t x y _, .eqN kd ne x' y' => decide (op = if ne then .neq else .eql) && fitX NG x x' && fitX NG y y' && kindNil P t kd
  | .binOp op t x y _, .eqA n ne x' y' => decide (op = if ne then .neq else .eql) && fitX NG x x' && fitX NG y y' && intStruct P t n
  | .unOp op _ x, .un op' y => decide (op = op') && fitX NG x y
  | .convert s t x, .conv k y => fitX NG x y && (P.underlying s).isSome && (match P.underlying t with | some (.int k') => decide (k = k') | _ => false)
  | .makeSlice t l c, .mksl z l' c' => fitX NG l l' && fitX NG c c' && (match telem P t with | some e => tzero P e z && tsize P e == some z.length && tbytes P e && decide (z.length ≠ 0) | none => false)
  | .slice t x lo hi mx, .slice sz x' lo' hi' mx' => fitX NG x x' && fitO NG lo lo' && fitO NG hi hi' && fitO NG mx mx' && (match telem P t with | some e => tsize P e == some sz | none => false)
  | .fieldAddr t x f, .fldA off y => fitX NG x y && (match tfield P t f with | some d => d.offset == off && (match tsize P d.type with | some 0 => false | some _ => true | none => false) | none => false)
  | .field t x f, .fld off y => fitX NG x y && (match tfield P t f with | some d => d.offset == off && tagg P d.type == some false | none => false)
  | .field t x f, .fldN off n y => fitX NG x y && (match tfield P t f with | some d => d.offset == off && tagg P d.type == some true && tsize P d.type == some n | none => false)
  | .indexAddr t x i, .idxA sz x' i' => fitX NG x x' && fitX NG i i' && (match telem P t with | some e => tsize P e == some sz | none => false)
  | .indexAddr t x i, .idxAA sz len x' i' => fitX NG x x' && fitX NG i i' && (match P.underlying t with | some (.array n e) => n == len && tsize P e == some sz | _ => false)
  | .index t x i, .idx x' i' => fitX NG x x' && fitX NG i i' && (match P.underlying t with | some .string => true | _ => false)
  | .extract x i, .ext y j => fitX NG x y && i == j
  | .makeFunc fn first cap, .mkfn f a b => (match fn with | .func g => g == f | _ => false) && fitXs NG first.toList a && fitXs NG cap.toList b
  | .build t ps, .build z qs => tzero P t z && (match P.underlying t with | some (.struct fs) => fitParts P NG fs.toList ps.toList qs && fs.toList.all (fun f => (tsize P f.type).isSome) | _ => false)
  | .buildSlice t len ps, .bsl z len' qs => len == len' && (match telem P t with
      | some e => (match P.info? e with
        | some i => (match i.zero with
          | some v => decide (len * i.size ≤ 16777216) && fitElems NG i.size ps.toList qs && okVs ((List.range (len * i.size)).map fun j => v.cells[j % v.cells.size]!) z
          | none => false)
        | none => false)
      | none => false)
  | .call c, .len y => (match c.callee, c.args.toList, c.argTypes.toList with
      | .builtin .len, [x], t :: _ => fitX NG x y && (telem P t).isSome
      | _, _, _ => false)
  | .call c, .app sz s y => (match c.callee, c.args.toList, c.argTypes.toList with
      | .builtin .append, [a, b], [t, u] => fitX NG a s && fitX NG b y && (match telem P t, telem P u with
        | some e, some _ => tsize P e == some sz && tbytes P e && (match P.info? e with | some i => (match i.zero with | some z => z.cells.size == i.size | none => false) | none => false)
        | _, _ => false)
      | _, _, _ => false)
  | .call c, .mx x y => (match c.callee, c.args.toList with | .builtin .max, [a, b] => fitX NG a x && fitX NG b y | _, _ => false)
  | .call c, .mn x y => (match c.callee, c.args.toList with | .builtin .min, [a, b] => fitX NG a x && fitX NG b y | _, _ => false)
  | .call c, .call f ys => (match c.callee with | .value (.func g) => g == f | _ => false) && fitXs NG c.args.toList ys
  | .call c, .callv y ys => (match c.callee with | .value x => fitX NG x y | _ => false) && fitXs NG c.args.toList ys
  | _, _ => false

/-- The operation comes to a value, or to none. -/
def Came (P : Program) (o : Oper) (a : Act) (w : World) (cv : Value) (w' : World) : Prop :=
  (execOp a.eval o).run P w = .ok (.value cv) w' ∨ ((execOp a.eval o).run P w = .ok .skip w' ∧ cv = undef)

/-- What the simulation of one operation says. -/
def Sim (P : Program) (NG : Nat) (o : Oper) (op : AOp) : Prop :=
  ∀ (ρ : Rho) (e : Env) (H : AH) (a : Act) (w : World) v H', RelE ρ e a.tmps → RelH NG ρ H w → Fresh ρ H.n H'.n → aop e H op = some (v, H') →
    ∃ ρ' cv w', Came P o a w cv w' ∧ Sub ρ ρ' ∧ NewB ρ H w ρ' H'.n ∧ RelH NG ρ' H' w' ∧ VR ρ' v cv ∧ Fr ρ H w w'

theorem Sim.pure_ {P NG o op} (h : ∀ (ρ : Rho) (e : Env) (a : Act) (w : World) (H : AH) v H', (∀ g, g < NG → ∃ x, ρ g = some (g, 0, x)) → RelE ρ e a.tmps → RelH NG ρ H w → aop e H op = some (v, H') →
    H' = H ∧ ∃ cv, (execOp a.eval o).run P w = .ok (.value cv) w ∧ VR ρ v cv) : Sim P NG o op := by
  intro ρ e H a w v H' he hH _ ho
  obtain ⟨rfl, cv, hr, hv⟩ := h ρ e a w H v H' hH.glob he hH ho
  exact ⟨ρ, cv, w, .inl hr, Sub.refl ρ, NewB.refl _ _ _ _, hH, hv, Fr.refl ρ H' w⟩

section
variable {P : Program} {NG : Nat} {o : Oper}

theorem run_value {P : Program} {w w' : World} {x : Sem Value} {v : Value} (h : x.run P w = .ok v w') : (do pure (Next.value (← x)) : Sem Next).run P w = .ok (.value v) w' := by simp [h]
theorem run_unit {P : Program} {w w' : World} {x : Sem Unit} (h : x.run P w = .ok () w') : (do x; pure Next.skip : Sem Next).run P w = .ok .skip w' := by simp [h]

theorem map_some {α β : Type} {o : Option α} {f : α → β} {b : β} (h : o.map f = some b) : ∃ a, o = some a ∧ f a = b := by
  cases o with
  | none => cases h
  | some a => exact ⟨a, rfl, by simpa using h⟩

theorem sim_mv {x y} (ho : o.op = .move x ∨ o.op = .assign x) (hf : fitX NG x y = true) : Sim P NG o (.mv y) := by
  apply Sim.pure_
  intro ρ e a w H v H' hg he _ h
  obtain ⟨u, hu, e2⟩ := map_some (show (ev e y).map (·, H) = some (v, H') from h)
  cases e2
  exact ⟨rfl, a.eval x, by rcases ho with ho | ho <;> (unfold execOp; rw [ho]; rfl), ev_VR hg he hf hu⟩

theorem sim_pick {c x z c' x' z'} (ho : o.op = .pick c x z) (h1 : fitX NG c c' = true) (h2 : fitX NG x x' = true) (h3 : fitX NG z z' = true) : Sim P NG o (.pick c' x' z') := by
  apply Sim.pure_
  intro ρ e a w H v H' hg he _ h
  simp only [aop] at h
  split at h
  · rename_i hc
    have hc' := ev_VR hg he h1 hc
    obtain ⟨u, hu, e2⟩ := map_some h; cases e2
    cases hcv : a.eval c <;> rw [hcv] at hc' <;> cases hc'
    exact ⟨rfl, a.eval x, by unfold execOp; rw [ho]; simp [hcv, asBool], ev_VR hg he h2 hu⟩
  · rename_i hc
    have hc' := ev_VR hg he h1 hc
    obtain ⟨u, hu, e2⟩ := map_some h; cases e2
    cases hcv : a.eval c <;> rw [hcv] at hc' <;> cases hc'
    exact ⟨rfl, a.eval z, by unfold execOp; rw [ho]; simp [hcv, asBool], ev_VR hg he h3 hu⟩
  · cases h

theorem VR.ptr_inv {ρ : Rho} {b o v} (h : VR ρ (.ptr b o) v) : ∃ B o0 x, ρ b = some (B, o0, x) ∧ v = .pointer (some ⟨B, o0 + o, none⟩) := by cases h with | ptr hb => exact ⟨_, _, _, hb, rfl⟩
theorem VR.i_inv {ρ : Rho} {k n v} (h : VR ρ (.i k n) v) : v = .int k n := by cases h; rfl
theorem VR.b_inv {ρ : Rho} {x v} (h : VR ρ (.b x) v) : v = .bool x := by cases h; rfl
theorem VR.agg_inv {ρ : Rho} {cs v} (h : VR ρ (.agg cs) v) : ∃ cs' : Array Value, v = .agg cs' ∧ VRs ρ cs cs'.toList := by cases h with | agg _ h1 h2 => exact ⟨_, rfl, by simpa using h1, h2⟩
theorem VR.agg_flat {ρ : Rho} {cs v} (h : VR ρ (.agg cs) v) : cs.all AV.flat = true := by cases h; assumption

theorem sim_alloc {t z} (ho : o.op = .alloc t) (hz : tzero P t z = true) : Sim P NG o (.alloc z) := by
  intro ρ e H a w v H' he hH hfr h
  simp only [aop, Option.some.injEq, Prod.mk.injEq] at h
  obtain ⟨rfl, rfl⟩ := h
  unfold tzero at hz
  split at hz
  · rename_i i hi
    split at hz
    · rename_i u hu
      have hv := okVs_VRs (ρ := ρ) hz
      have hn : ρ H.n = none := hfr _ (Nat.le_refl _) (Nat.lt_succ_self _)
      have hp := hH.push hn hv.1 hv.2 [] t
      refine ⟨_, .pointer (some ⟨w.heap.size, 0, none⟩), _, .inl ?_, add_sub hn _, NewB.add _ _ _ (.inl (Nat.le_refl _)), hp, ?_, Fr.alloc _ _ _ _⟩
      · unfold execOp; rw [ho]
        simp [Instr.alloc, zeroValue, typeInfo, hi, hu, newVar, newRow]
      · exact VR.ptr (o := 0) (Rho.add_same _ _ _)
    · cases hz
  · cases hz

theorem sim_box {t x y} (ho : o.op = .box t x) (hf : fitX NG x y = true) : Sim P NG o (.box y) := by
  intro ρ e H a w v H' he hH hfr h
  simp only [aop] at h
  split at h
  · rename_i u hu
    split at h
    · cases h
    · rename_i htup
      simp only [Option.some.injEq, Prod.mk.injEq] at h
      obtain ⟨rfl, rfl⟩ := h
      have hv0 := ev_VR hH.glob he hf hu
      have hn : ρ H.n = none := hfr _ (Nat.le_refl _) (Nat.lt_succ_self _)
      have hp := hH.push hn hv0.cells (hv0.flat (by simpa using htup)) [] t
      refine ⟨_, .pointer (some ⟨w.heap.size, 0, none⟩), _, .inl ?_, add_sub hn _, NewB.add _ _ _ (.inl (Nat.le_refl _)), hp, VR.ptr (o := 0) (Rho.add_same _ _ _), Fr.alloc _ _ _ _⟩
      · unfold execOp; rw [ho]
        simp [Instr.box, newVar, newRow]
  · cases h

/-- What a load of one cell comes to. -/
theorem sim_load_run {t : TypeId} {ρ : Rho} {H : AH} {w : World} (hH : RelH NG ρ H w) {b off B o0 x0 : Nat} (hρ : ρ b = some (B, o0, x0)) {v : AV} (hu : H.load b off = some v) (ht : tagg P t = some false) :
    ∃ cv, (loadVar t ⟨B, o0 + off, none⟩).run P w = .ok cv w ∧ VR ρ v cv := by
  simp only [AH.load] at hu
  cases hk : H.bk b with
  | none => simp [hk] at hu
  | some k =>
    simp only [hk, Option.bind_some] at hu
    obtain ⟨_, cv, hc, hr⟩ := (hH.row b B o0 x0 k hρ hk).2 off v hu
    refine ⟨cv, ?_, hr⟩
    have hagg : (isAgg t).run P w = .ok false w := by
      unfold tagg at ht
      obtain ⟨d, hd, e3⟩ := map_some ht
      unfold isAgg; rw [Sem.run_bind, run_underlying hd w]
      cases d <;> simp_all
    simp [loadVar, hagg, load, Sem.run, hc]

/-- What a load of n cells comes to. -/
theorem sim_loadN_run {t : TypeId} {ρ : Rho} {H : AH} {w : World} (hH : RelH NG ρ H w) {b off n B o0 x0 : Nat} (hρ : ρ b = some (B, o0, x0)) {u : List AV} (hu : H.loadN b off n = some u) (ht : tagg P t = some true) (hn : tsize P t = some n) :
    ∃ cv, (loadVar t ⟨B, o0 + off, none⟩).run P w = .ok cv w ∧ VR ρ (.agg u) cv := by
  simp only [AH.loadN] at hu
  cases hk : H.bk b with
  | none => simp [hk] at hu
  | some k =>
    simp only [hk, Option.bind_some, seg] at hu
    split at hu
    · rename_i hfit
      have hu' : (k.cells.drop off).take n = u := by simpa using hu
      have hlen : u.length = n := by rw [← hu']; simp; omega
      have hrow := (hH.row b B o0 x0 k hρ hk).2
      have hcell : ∀ i, i < n → ∃ cv, w.cell? ⟨B, o0 + off + i, none⟩ = some cv ∧ ∃ y, u[i]? = some y ∧ VR ρ y cv := by
        intro i hi
        have hki : off + i < k.cells.length := by omega
        obtain ⟨_, cv, hc, hr⟩ := hrow (off + i) _ (List.getElem?_eq_getElem hki)
        refine ⟨cv, by rw [Nat.add_assoc]; exact hc, _, ?_, hr⟩
        rw [← hu', List.getElem?_take, if_pos hi, List.getElem?_drop, List.getElem?_eq_getElem hki]
      let cs : List Value := (List.range n).map fun i => (w.cell? ⟨B, o0 + off + i, none⟩).getD undef
      have hcs : cs.length = n := by simp [cs]
      have hrange : w.rangeAt B (o0 + off) cs := by
        intro j v hv
        have hj : j < n := by have := (List.getElem?_eq_some_iff.1 hv).1; omega
        obtain ⟨cv, hc, _⟩ := hcell j hj
        simp [cs, hj, hc] at hv
        rw [hc, hv]
      have hvr : VRs ρ u cs := by
        refine ⟨by omega, fun i y v hy hv => ?_⟩
        have hj : i < n := by have := (List.getElem?_eq_some_iff.1 hv).1; omega
        obtain ⟨cv, hc, y', hy', hr⟩ := hcell i hj
        rw [hy] at hy'; cases hy'
        simp [cs, hj, hc] at hv
        rw [← hv]; exact hr
      have hfl : u.all AV.flat = true := by
        refine List.all_eq_true.2 fun y hy => ?_
        obtain ⟨i, hi, rfl⟩ := List.mem_iff_getElem.1 hy
        have h1 : u[i]? = some u[i] := List.getElem?_eq_getElem hi
        have h2 : k.cells[off + i]? = some u[i] := by rw [← h1, ← hu', List.getElem?_take, if_pos (by omega), List.getElem?_drop]
        exact (hrow (off + i) _ h2).1
      refine ⟨.agg cs.toArray, ?_, .agg hfl (by rw [List.size_toArray]; exact hvr.1) hvr.2⟩
      unfold tagg at ht
      obtain ⟨d, hd, e3⟩ := map_some ht
      exact run_loadVar_mid (P := P) w B (o0 + off) t cs d hrange hd e3 (by unfold tsize at hn; rw [hn, hcs])
    · cases hu

theorem sim_load {t x y} (ho : o.op = .load t x) (hf : fitX NG x y = true) (ht : tagg P t = some false) : Sim P NG o (.load y) := by
  apply Sim.pure_
  intro ρ e a w H v H' hg he hH h
  simp only [aop] at h
  split at h
  · rename_i b off hb
    obtain ⟨u, hu, e2⟩ := map_some h; cases e2
    obtain ⟨B, o0, x0, hρ, hp⟩ := (ev_VR hg he hf hb).ptr_inv
    obtain ⟨cv, hr, hv⟩ := sim_load_run (P := P) hH hρ hu ht
    refine ⟨rfl, cv, ?_, hv⟩
    unfold execOp; rw [ho]
    simp [hp, Instr.loadAt, Instr.sureAddr, hr]
  · cases h

theorem sim_loadN {t x y n} (ho : o.op = .load t x) (hf : fitX NG x y = true) (ht : tagg P t = some true) (hn : tsize P t = some n) : Sim P NG o (.loadN n y) := by
  apply Sim.pure_
  intro ρ e a w H v H' hg he hH h
  simp only [aop] at h
  split at h
  · rename_i b off hb
    obtain ⟨u, hu, e2⟩ := map_some h; cases e2
    obtain ⟨B, o0, x0, hρ, hp⟩ := (ev_VR hg he hf hb).ptr_inv
    obtain ⟨cv, hr, hv⟩ := sim_loadN_run (P := P) hH hρ hu ht hn
    refine ⟨rfl, cv, ?_, hv⟩
    unfold execOp; rw [ho]
    simp [hp, Instr.loadAt, Instr.sureAddr, hr]
  · cases h

theorem sim_store {t x z x' z' n} (ho : o.op = .store t x z) (h1 : fitX NG x x' = true) (h2 : fitX NG z z' = true) (hn : tsize P t = some n) : Sim P NG o (.store n x' z') := by
  intro ρ e H a w v H' he hH _ h
  simp only [aop] at h
  split at h
  · rename_i b off u hb hu
    split at h
    · rename_i hl
      obtain ⟨H1, hst, e2⟩ := map_some h; cases e2
      obtain ⟨B, o0, x0, hρ, hp⟩ := (ev_VR hH.glob he h1 hb).ptr_inv
      have hv := (ev_VR hH.glob he h2 hu).cells
      have hflat := (ev_VR hH.glob he h2 hu).flat hl.2
      replace hl := hl.1
      unfold AH.store at hst
      split at hst
      · rename_i k hk
        split at hst
        · rename_i hc
          obtain ⟨hw, hfit⟩ := hc
          have e3 : H' = H.put b (some ⟨splice k.cells off u.cells, true⟩) := by simpa using hst.symm
          subst e3
          obtain ⟨cur, el, hheap, hx⟩ := hH.own b B o0 x0 k hρ hk hw
          have hkx := (hH.row b B o0 x0 k hρ hk).1
          have hone := hv.oneCell hflat
          have hs := run_storeCells_at P B (o0 + off) el (a.eval z).cells.toList 0 cur w hheap (by have := hv.1; omega) hone
          simp only [Nat.add_zero] at hs
          refine ⟨ρ, undef, _, .inr ⟨?_, rfl⟩, Sub.refl ρ, NewB.refl _ _ _ _, hH.store hρ hk hw hheap hx hv hflat hfit, .tup rfl (fun i x v h => by simp at h), Fr.setRow hH hρ hk hw _⟩
          have hsz : ∃ i, P.info? t = some i ∧ i.size = n := by
            unfold tsize at hn
            exact map_some hn
          obtain ⟨i, hi, hi2⟩ := hsz
          have hcs : (a.eval z).cells.size = n := by rw [← Array.length_toList, ← hv.1]; exact hl
          unfold execOp; rw [ho]
          simp only [hp, Instr.storeAt, Instr.sureAddr, storeVar, sizeOf, typeInfo, Sem.run_bind, Sem.run_pure, run_program, Result.andThen_ok, hi, hi2, hcs, ne_eq, not_true_eq_false, if_false, hs]
        · cases hst
      · cases hst
    · cases h
  · cases h

theorem sim_nilc {x y} (ho : o.op = .nilCheck x) (hf : fitX NG x y = true) : Sim P NG o (.nilc y) := by
  apply Sim.pure_
  intro ρ e a w H v H' hg he hH h
  simp only [aop] at h
  split at h
  · rename_i b off hb
    simp only [Option.some.injEq, Prod.mk.injEq] at h; obtain ⟨rfl, rfl⟩ := h
    have hv := ev_VR hg he hf hb
    obtain ⟨B, o0, x0, hρ, hp⟩ := hv.ptr_inv
    exact ⟨rfl, a.eval x, by unfold execOp; rw [ho]; simp [hp], hv⟩
  · rename_i f c d hb
    simp only [Option.some.injEq, Prod.mk.injEq] at h; obtain ⟨rfl, rfl⟩ := h
    have hv := ev_VR hg he hf hb
    refine ⟨rfl, a.eval x, ?_, hv⟩
    obtain ⟨a', c', hx⟩ : ∃ a' c', a.eval x = .func (.func f) a' c' := by
      generalize a.eval x = u at hv
      cases hv
      exact ⟨_, _, rfl⟩
    unfold execOp; rw [ho]
    simp [hx]
  · cases h

end
end Go.Proofs.YtdgmihohmkdpjaaDoor.AM
