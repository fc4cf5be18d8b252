/-
  The abstract machine's walk: the rules as equations for simp. No condition.
-/
import Derived.Test.YtdgmihohmkdpjaaDoorAMl
namespace Go.Proofs.YtdgmihohmkdpjaaDoor.AM
set_option linter.unusedSimpArgs false
set_option linter.unusedVariables false
open Go Go.RowKit

/-- An operation that puts its value into name d, come what may; one that has no value. -/
def o1 (d : Nat) (op : AOp) : AO := ⟨some d, none, [], false, op⟩
def o0 (op : AOp) : AO := ⟨none, none, [], false, op⟩

section
variable {C : FuncId → Option AFn}

def stepK (C : FuncId → Option AFn) (e : Env) (H : AH) (op : AOp) (k : AV → AH → Prop) : Prop :=
  if isCall op = true then bindO (target e op) fun r => CallK C r.1 r.2 H k else bindO (aop e H op) fun r => k r.1 r.2

/-- An environment that is to be reckoned first. -/
def bindE (e : Env) (k : Env → Prop) : Prop := k e
/-- What simp does not enter. -/
inductive Fz {α : Type} : (α → Prop) → Type
  | mk (a : α → Prop) : Fz a
inductive Fp : Prop → Type
  | mk (a : Prop) : Fp a
inductive Fk : (AV → AH → Prop) → Type
  | mk (a : AV → AH → Prop) : Fk a
def bindF {α : Type} (o : Option α) (k : α → Prop) (_ : Fz k) : Prop := bindO o k
def ifBF (o : Option AV) (p q : Prop) (_ : Fp p) (_ : Fp q) : Prop := ifB o p q
def ifWF (o : Option Bool) (p q : Prop) (_ : Fp p) (_ : Fp q) : Prop := ifW o p q
def bindEF (e : Env) (k : Env → Prop) (_ : Fz k) : Prop := k e
def CallF (C : FuncId → Option AFn) (f : FuncId) (args : List AV) (H : AH) (k : AV → AH → Prop) (_ : Fk k) : Prop := CallK C f args H k
/-- A fork of the walk: its arms wait until the condition is known. -/
def cnd (c : Prop) (p q : Prop) (_ : Fp p) (_ : Fp q) : Prop := (c ∧ p) ∨ (¬c ∧ q)
theorem bindO_F {α : Type} {o : Option α} {k : α → Prop} : bindO o k = bindF o k (Fz.mk k) := rfl
theorem ifB_F {o p q} : ifB o p q = ifBF o p q (Fp.mk p) (Fp.mk q) := rfl
theorem ifW_F {o p q} : ifW o p q = ifWF o p q (Fp.mk p) (Fp.mk q) := rfl
theorem bindE_F {e} {k : Env → Prop} : bindE e k = bindEF e k (Fz.mk k) := rfl
theorem CallK_F {f args H k} : CallK C f args H k = CallF C f args H k (Fk.mk k) := rfl
theorem bindF_some {α : Type} {a : α} {k : α → Prop} {w} : bindF (some a) k w = k a := bindO_some a k
theorem ifBF_true {p q w w'} : ifBF (some (.b true)) p q w w' = p := ifB_true p q
theorem ifBF_false {p q w w'} : ifBF (some (.b false)) p q w w' = q := ifB_false p q
theorem ifBF_b {x p q w w'} : ifBF (some (.b x)) p q w w' = cnd (x = true) p q w w' := by cases x <;> simp [ifBF, ifB, cnd]
theorem ifWF_true {p q w w'} : ifWF (some true) p q w w' = p := ifW_true p q
theorem ifWF_false {p q w w'} : ifWF (some false) p q w w' = q := ifW_false p q
theorem bindEF_nil {k : Env → Prop} {w} : bindEF [] k w = k [] := rfl
theorem bindEF_cons {a} {e : Env} {k : Env → Prop} {w} : bindEF (a :: e) k w = k (a :: e) := rfl
theorem cnd_true {p q w w'} : cnd True p q w w' = p := by simp [cnd]
theorem cnd_false {p q w w'} : cnd False p q w w' = q := by simp [cnd]
theorem cnd_pos {c p q w w'} (h : c) : cnd c p q w w' = p := by rw [eq_true h, cnd_true]
theorem cnd_neg {c p q w w'} (h : ¬c) : cnd c p q w w' = q := by rw [eq_false h, cnd_false]
theorem cnd_iff {c p q w w'} {r : Prop} (h1 : c → (p ↔ r)) (h2 : ¬c → (q ↔ r)) : cnd c p q w w' ↔ r := by
  by_cases h : c
  · rw [cnd_pos h]; exact h1 h
  · rw [cnd_neg h]; exact h2 h
theorem cnd_mk {c p q w w'} (h1 : c → p) (h2 : ¬c → q) : cnd c p q w w' := by
  by_cases h : c
  · rw [cnd_pos h]; exact h1 h
  · rw [cnd_neg h]; exact h2 h
def wantV (b : Bool) : Option AV → Option Bool
  | some (.b x) => some (x == b)
  | some _ => some false
  | none => none
theorem want_none {e : Env} : want e none = some true := rfl
theorem want_some {e : Env} {t b} : want e (some (t, b)) = wantV b (get e t) := by
  unfold want wantV; rfl
theorem wantV_tup {b l} : wantV b (some (.tup l)) = some false := rfl
theorem wantV_tt : wantV true (some (.b true)) = some true := rfl
theorem wantV_tf : wantV true (some (.b false)) = some false := rfl
theorem wantV_ft : wantV false (some (.b true)) = some false := rfl
theorem wantV_ff : wantV false (some (.b false)) = some true := rfl
theorem ifWF_t {x p q w w'} : ifWF (wantV true (some (.b x))) p q w w' = cnd (x = true) p q w w' := by cases x <;> simp [ifWF, ifW, wantV, cnd]
theorem ifWF_f {x p q w w'} : ifWF (wantV false (some (.b x))) p q w w' = cnd (x = true) q p w' w := by cases x <;> simp [ifWF, ifW, wantV, cnd]
theorem W_keepE {ks e H Q} : W C (.keep ks) e H Q = bindE (keepE ks e) fun e' => Q .norm e' H := by rw [W_keep]; rfl

theorem WO_o1 {d op l e H K} : WO C (o1 d op :: l) e H K = stepK C e H op fun v H' => WO C l ((d, v) :: e) H' K := by
  unfold o1 stepK
  cases hc : isCall op with
  | false => rw [WO_op hc]; simp only [want, ifW_true, Guards, true_and, Bool.false_eq_true, false_implies, if_false]; rfl
  | true => rw [WO_call hc]; simp only [want, ifW_true, Guards, true_and, Bool.false_eq_true, false_implies, if_true]; rfl
theorem WO_o0 {op l e H K} : WO C (o0 op :: l) e H K = stepK C e H op fun _ H' => WO C l e H' K := by
  unfold o0 stepK
  cases hc : isCall op with
  | false => rw [WO_op hc]; simp only [want, ifW_true, Guards, true_and, Bool.false_eq_true, false_implies, if_false]; rfl
  | true => rw [WO_call hc]; simp only [want, ifW_true, Guards, true_and, Bool.false_eq_true, false_implies, if_true]; rfl
theorem WO_gen {d c gd q op l e H K} : WO C (⟨d, c, gd, q, op⟩ :: l) e H K =
    ifW (want e c) (stepK C e H op fun v H' => Guards e H H' gd ∧ (q = true → Ext H H') ∧ WO C l (upd e d v) H' K) (WO C l (upd e d (.tup [])) H K) := by
  unfold stepK
  cases hc : isCall op with
  | false => rw [WO_op hc]; simp only [Bool.false_eq_true, if_false]
  | true => rw [WO_call hc]; simp only [if_true]

theorem WO_gs {d c gd q op l e H K} : WO C (⟨some d, c, gd, q, op⟩ :: l) e H K =
    ifW (want e c) (stepK C e H op fun v H' => Guards e H H' gd ∧ (q = true → Ext H H') ∧ WO C l ((d, v) :: e) H' K) (WO C l ((d, .tup []) :: e) H K) := WO_gen
theorem WO_gz {c gd q op l e H K} : WO C (⟨none, c, gd, q, op⟩ :: l) e H K =
    ifW (want e c) (stepK C e H op fun v H' => Guards e H H' gd ∧ (q = true → Ext H H') ∧ WO C l e H' K) (WO C l e H K) := WO_gen
theorem WO_gp {d c op l e H K} : WO C (⟨some d, c, [], false, op⟩ :: l) e H K =
    ifW (want e c) (stepK C e H op fun v H' => WO C l ((d, v) :: e) H' K) (WO C l ((d, .tup []) :: e) H K) := by
  rw [WO_gen]; simp only [Guards, true_and, Bool.false_eq_true, false_implies, implies_true, upd]

variable {e : Env} {H : AH} {k : AV → AH → Prop}
theorem stepK_op {op : AOp} (h : isCall op = false) : stepK C e H op k = bindO (aop e H op) fun r => k r.1 r.2 := by unfold stepK; rw [h]; simp
theorem bindO_map {α β : Type} (o : Option α) (f : α → β) (k : β → Prop) : bindO (o.map f) k = bindO o fun a => k (f a) := by cases o <;> simp [bindO]
theorem stepK_mv {x} : stepK C e H (.mv x) k = bindO (ev e x) fun v => k v H := by rw [stepK_op rfl]; simp only [aop, bindO_map]
theorem stepK_pick {c a b} : stepK C e H (.pick c a b) k = ifB (ev e c) (bindO (ev e a) fun v => k v H) (bindO (ev e b) fun v => k v H) := by
  rw [stepK_op rfl]; simp only [aop]
  apply propext
  cases hc : ev e c with
  | none => simp [ifB, bindO]
  | some v => cases v <;> first | (simp [ifB, bindO]; done) | (rename_i x; cases x <;> simp [ifB, bindO_map])
theorem stepK_alloc {z} : stepK C e H (.alloc z) k = k (.ptr H.n 0) (H.push z) := by rw [stepK_op rfl]; simp [aop, bindO_some]
theorem stepK_box {x} : stepK C e H (.box x) k = bindO (ev e x) fun v => bindO (if v.isTup = true then none else some ()) fun _ => k (.ptr H.n 0) (H.push v.cells) := by
  rw [stepK_op rfl]; simp only [aop]
  cases hx : ev e x with
  | none => simp [bindO]
  | some v => simp only [bindO_some]; split <;> simp [bindO]
def asPtr : AV → Option (Nat × Nat)
  | .ptr b o => some (b, o)
  | _ => none
theorem stepK_load {x} : stepK C e H (.load x) k = bindO (ev e x) fun p => bindO (asPtr p) fun a => bindO (H.load a.1 a.2) fun v => k v H := by
  rw [stepK_op rfl]; simp only [aop]
  cases hx : ev e x with
  | none => simp [bindO]
  | some v => cases v <;> simp [asPtr, bindO_map, bindO_some] <;> simp [bindO]
theorem stepK_loadN {n x} : stepK C e H (.loadN n x) k = bindO (ev e x) fun p => bindO (asPtr p) fun a => bindO (H.loadN a.1 a.2 n) fun v => k (.agg v) H := by
  rw [stepK_op rfl]; simp only [aop]
  cases hx : ev e x with
  | none => simp [bindO]
  | some v => cases v <;> simp [asPtr, bindO_map, bindO_some] <;> simp [bindO]
theorem stepK_store {n x y} : stepK C e H (.store n x y) k = bindO (ev e x) fun p => bindO (ev e y) fun v => bindO (asPtr p) fun a => bindO (if v.cells.length = n ∧ v.isTup = false then H.store a.1 a.2 v.cells else none) fun H' => k (.tup []) H' := by
  rw [stepK_op rfl]; simp only [aop]
  cases hx : ev e x with
  | none => simp [bindO]
  | some p =>
    cases hy : ev e y with
    | none => cases p <;> simp [bindO]
    | some v =>
      cases p <;> simp only [asPtr, bindO_some] <;> first | (simp [bindO]; done) | skip
      split <;> simp [*, bindO_map, bindO_some] <;> simp [bindO]
theorem stepK_nilc {x} : stepK C e H (.nilc x) k = bindO (ev e x) fun v => bindO (match v with | .ptr .. | .fn .. => some () | _ => none) fun _ => k v H := by
  rw [stepK_op rfl]; simp only [aop]
  cases hx : ev e x with
  | none => simp [bindO]
  | some v => cases v <;> simp [bindO]
theorem stepK_bin {op x y} : stepK C e H (.bin op x y) k = bindO (ev e x) fun a => bindO (ev e y) fun b => bindO (abin op a b) fun v => k v H := by
  rw [stepK_op rfl]; simp only [aop]
  cases hx : ev e x with
  | none => simp [bindO]
  | some a =>
    cases hy : ev e y with
    | none => simp [bindO]
    | some b => simp only [bindO_some, bindO_map]
def asB : AV → Option Bool
  | .b x => some x
  | _ => none
def asI : AV → Option (IntKind × Int)
  | .i k n => some (k, n)
  | _ => none
def asAgg : AV → Option (List AV)
  | .agg l => some l
  | _ => none
def asTup : AV → Option (List AV)
  | .tup l => some l
  | _ => none
theorem stepK_eqB {ne x y} : stepK C e H (.eqB ne x y) k = bindO (ev e x) fun a => bindO (ev e y) fun b => bindO (asB a) fun a => bindO (asB b) fun b => k (.b (if ne then a != b else a == b)) H := by
  rw [stepK_op rfl]; simp only [aop]
  cases hx : ev e x with
  | none => simp [bindO]
  | some a =>
    cases hy : ev e y with
    | none => cases a <;> simp [bindO]
    | some b => cases a <;> cases b <;> simp [asB, bindO_some] <;> simp [bindO]
def nilEq (kd : Nat) (a b : AV) : Option Bool :=
  match isNil kd a, isNil kd b with
  | some true, some q => some q
  | some p, some true => some p
  | _, _ => none
theorem stepK_eqN {kd ne x y} : stepK C e H (.eqN kd ne x y) k = bindO (ev e x) fun a => bindO (ev e y) fun b => bindO (nilEq kd a b) fun r => k (.b (if ne then !r else r)) H := by
  rw [stepK_op rfl]; simp only [aop, nilEq]
  cases hx : ev e x with
  | none => simp [bindO]
  | some a =>
    cases hy : ev e y with
    | none => simp [bindO]
    | some b =>
      simp only [bindO_some]
      cases isNil kd a with
      | none => simp [bindO]
      | some p =>
        cases isNil kd b with
        | none => cases p <;> simp [bindO]
        | some q => cases p <;> cases q <;> simp [bindO]
theorem stepK_eqA {n ne x y} : stepK C e H (.eqA n ne x y) k = bindO (ev e x) fun a => bindO (ev e y) fun b => bindO (asAgg a) fun a => bindO (asAgg b) fun b => bindO (if a.length = n then eqInts a b else none) fun r => k (.b (if ne then !r else r)) H := by
  rw [stepK_op rfl]; simp only [aop]
  cases hx : ev e x with
  | none => simp [bindO]
  | some a =>
    cases hy : ev e y with
    | none => cases a <;> simp [bindO]
    | some b =>
      cases a <;> cases b <;> simp only [asAgg, bindO_some] <;> first | (simp [bindO]; done) | skip
      split <;> simp [*, bindO_map, bindO_some] <;> simp [bindO]
theorem stepK_un {op x} : stepK C e H (.un op x) k = bindO (ev e x) fun a => bindO (aun op a) fun v => k v H := by
  rw [stepK_op rfl]; simp only [aop]
  cases hx : ev e x with
  | none => simp [bindO]
  | some a => simp only [bindO_some, bindO_map]
theorem stepK_conv {kk x} : stepK C e H (.conv kk x) k = bindO (ev e x) fun a => bindO (asI a) fun r => k (.i kk (kk.wrap r.2)) H := by
  rw [stepK_op rfl]; simp only [aop]
  cases hx : ev e x with
  | none => simp [bindO]
  | some a => cases a <;> simp [asI, bindO_some] <;> simp [bindO]
/-- A test that must hold. -/
def chk (c : Prop) [Decidable c] : Option Unit := if c then some () else none
theorem chk_pos {c : Prop} [Decidable c] (h : c) : chk c = some () := if_pos h
theorem stepK_mksl {z x y} : stepK C e H (.mksl z x y) k = bindO (ev e x) fun a => bindO (ev e y) fun b => bindO (asI a) fun a => bindO (asI b) fun b => bindO (chk (0 ≤ a.2 ∧ a.2 ≤ b.2 ∧ b.2 ≤ big)) fun _ =>
    k (.sl H.n 0 a.2.toNat (.ex b.2.toNat)) (H.push (List.replicate b.2.toNat z).flatten) := by
  rw [stepK_op rfl]; simp only [aop, chk]
  cases hx : ev e x with
  | none => simp [bindO]
  | some a =>
    cases hy : ev e y with
    | none => cases a <;> simp [bindO]
    | some b =>
      cases a <;> cases b <;> simp only [asI, bindO_some] <;> first | (simp [bindO]; done) | skip
      split <;> simp [*, bindO]
theorem stepK_slice {sz x lo hi mx} : stepK C e H (.slice sz x lo hi mx) k = bindO (ev e x) fun a => bindO (evo e lo) fun lo => bindO (evo e hi) fun hi => bindO (evo e mx) fun mx => bindO (aslice sz a lo hi mx) fun v => k v H := by
  rw [stepK_op rfl]; simp only [aop]
  cases hx : ev e x with
  | none => simp [bindO]
  | some a =>
    cases h1 : evo e lo with
    | none => simp [bindO]
    | some lo =>
      cases h2 : evo e hi with
      | none => simp [bindO]
      | some hi =>
        cases h3 : evo e mx with
        | none => simp [bindO]
        | some mx => simp only [bindO_some, bindO_map]
theorem stepK_fldA {off x} : stepK C e H (.fldA off x) k = bindO (ev e x) fun p => bindO (asPtr p) fun a => k (.ptr a.1 (a.2 + off)) H := by
  rw [stepK_op rfl]; simp only [aop]
  cases hx : ev e x with
  | none => simp [bindO]
  | some v => cases v <;> simp [asPtr, bindO_some] <;> simp [bindO]
theorem stepK_fld {off x} : stepK C e H (.fld off x) k = bindO (ev e x) fun a => bindO (asAgg a) fun l => bindO (l[off]?) fun v => k v H := by
  rw [stepK_op rfl]; simp only [aop]
  cases hx : ev e x with
  | none => simp [bindO]
  | some v => cases v <;> simp [asAgg, bindO_map, bindO_some] <;> simp [bindO]
theorem stepK_fldN {off n x} : stepK C e H (.fldN off n x) k = bindO (ev e x) fun a => bindO (asAgg a) fun l => bindO (seg l off n) fun v => k (.agg v) H := by
  rw [stepK_op rfl]; simp only [aop]
  cases hx : ev e x with
  | none => simp [bindO]
  | some v => cases v <;> simp [asAgg, bindO_map, bindO_some] <;> simp [bindO]
def asSl : AV → Option (Nat × Nat × Nat)
  | .sl b o n _ => some (b, o, n)
  | _ => none
theorem stepK_idxA {sz x y} : stepK C e H (.idxA sz x y) k = bindO (ev e x) fun a => bindO (ev e y) fun b => bindO (asSl a) fun s => bindO (asI b) fun i => bindO (chk (0 ≤ i.2 ∧ i.2 < s.2.2)) fun _ => k (.ptr s.1 (s.2.1 + i.2.toNat * sz)) H := by
  rw [stepK_op rfl]; simp only [aop, chk]
  cases hx : ev e x with
  | none => simp [bindO]
  | some a =>
    cases hy : ev e y with
    | none => cases a <;> simp [bindO]
    | some b =>
      cases a <;> cases b <;> simp only [asSl, asI, bindO_some] <;> first | (simp [bindO]; done) | skip
      split <;> simp [*, bindO]
theorem stepK_idxAA {sz len x y} : stepK C e H (.idxAA sz len x y) k = bindO (ev e x) fun a => bindO (ev e y) fun b => bindO (asPtr a) fun s => bindO (asI b) fun i => bindO (chk (0 ≤ i.2 ∧ i.2 < len)) fun _ => k (.ptr s.1 (s.2 + i.2.toNat * sz)) H := by
  rw [stepK_op rfl]; simp only [aop, chk]
  cases hx : ev e x with
  | none => simp [bindO]
  | some a =>
    cases hy : ev e y with
    | none => cases a <;> simp [bindO]
    | some b =>
      cases a <;> cases b <;> simp only [asPtr, asI, bindO_some] <;> first | (simp [bindO]; done) | skip
      split <;> simp [*, bindO]
theorem stepK_ext {x i} : stepK C e H (.ext x i) k = bindO (ev e x) fun a => bindO (asTup a) fun l => bindO (l[i]?) fun v => k v H := by
  rw [stepK_op rfl]; simp only [aop]
  cases hx : ev e x with
  | none => simp [bindO]
  | some v => cases v <;> simp [asTup, bindO_map, bindO_some] <;> simp [bindO]
theorem stepK_mkfn {f a b} : stepK C e H (.mkfn f a b) k = bindO (evs e a) fun a => bindO (evs e b) fun b => k (.fn f a b) H := by
  rw [stepK_op rfl]; simp only [aop]
  cases evs e a <;> cases evs e b <;> simp [bindO]
theorem stepK_build {z ps} : stepK C e H (.build z ps) k = bindO (evParts e ps) fun ps => bindO (fill z ps) fun cs => k (.agg cs) H := by
  rw [stepK_op rfl]; simp only [aop]
  cases evParts e ps with
  | none => simp [bindO]
  | some ps => simp only [bindO_some, bindO_map]
theorem stepK_bsl {z n ps} : stepK C e H (.bsl z n ps) k = bindO (evParts e ps) fun ps => bindO (fill z ps) fun cs => k (.sl H.n 0 n (.ex n)) (H.push cs) := by
  rw [stepK_op rfl]; simp only [aop]
  cases evParts e ps with
  | none => simp [bindO]
  | some ps => simp only [bindO_some, bindO_map]
theorem stepK_len {x} : stepK C e H (.len x) k = bindO (ev e x) fun a => bindO (alen a) fun n => k (.i .i64 (n : Int)) H := by
  rw [stepK_op rfl]; simp only [aop]
  cases hx : ev e x with
  | none => simp [bindO]
  | some a => simp only [bindO_some, bindO_map]
theorem stepK_app {sz x y} : stepK C e H (.app sz x y) k = bindO (ev e x) fun s => bindO (ev e y) fun x => bindO (alen x) fun n => bindO (elems H sz x) fun new => bindO (aapp H sz s n new) fun r => k r.1 r.2 := by
  rw [stepK_op rfl]; simp only [aop]
  cases hx : ev e x with
  | none => simp [bindO]
  | some a =>
    cases hy : ev e y with
    | none => simp [bindO]
    | some b =>
      simp only [bindO_some]
      cases alen b <;> cases elems H sz b <;> simp [bindO]
def asI64 : AV → Option Int
  | .i .i64 n => some n
  | _ => none
theorem stepK_mx {x y} : stepK C e H (.mx x y) k = bindO (ev e x) fun a => bindO (ev e y) fun b => bindO (asI64 a) fun a => bindO (asI64 b) fun b => k (.i .i64 (if a < b then b else a)) H := by
  rw [stepK_op rfl]; simp only [aop]
  cases hx : ev e x with
  | none => simp [bindO]
  | some a =>
    cases hy : ev e y with
    | none => simp [bindO]
    | some b =>
      cases a <;> cases b <;> first | (simp [asI64, bindO]; done) | (rename_i k1 _; cases k1 <;> simp [asI64, bindO]; done) | skip
      rename_i k1 _ k2 _
      cases k1 <;> cases k2 <;> simp [asI64, bindO_some] <;> simp [bindO]
theorem stepK_mn {x y} : stepK C e H (.mn x y) k = bindO (ev e x) fun a => bindO (ev e y) fun b => bindO (asI64 a) fun a => bindO (asI64 b) fun b => k (.i .i64 (if b < a then b else a)) H := by
  rw [stepK_op rfl]; simp only [aop]
  cases hx : ev e x with
  | none => simp [bindO]
  | some a =>
    cases hy : ev e y with
    | none => simp [bindO]
    | some b =>
      cases a <;> cases b <;> first | (simp [asI64, bindO]; done) | (rename_i k1 _; cases k1 <;> simp [asI64, bindO]; done) | skip
      rename_i k1 _ k2 _
      cases k1 <;> cases k2 <;> simp [asI64, bindO_some] <;> simp [bindO]
theorem stepK_call {f as} : stepK C e H (.call f as) k = bindO (evs e as) fun as => CallK C f as H k := by
  unfold stepK; simp only [isCall, if_true, target, bindO_map]
def asFn : AV → Option (FuncId × List AV × List AV)
  | .fn f a c => some (f, a, c)
  | _ => none
theorem stepK_callv {x as} : stepK C e H (.callv x as) k = bindO (ev e x) fun v => bindO (evs e as) fun as => bindO (asFn v) fun r => CallK C r.1 (r.2.1 ++ as ++ r.2.2) H k := by
  unfold stepK; simp only [isCall, if_true, target]
  cases hx : ev e x with
  | none => simp [bindO]
  | some v =>
    cases hy : evs e as with
    | none => cases v <;> simp [bindO]
    | some as => cases v <;> simp [asFn, bindO_some] <;> simp [bindO]

theorem ifB_decide {c : Prop} [Decidable c] (p q : Prop) : ifB (some (.b (decide c))) p q = if c then p else q := by
  by_cases h : c <;> simp [ifB, h]
theorem evs_nil : evs e [] = some [] := rfl
theorem evs_cons {x xs} : evs e (x :: xs) = (ev e x).bind fun v => (evs e xs).map (v :: ·) := by simp only [evs]; cases ev e x <;> rfl
theorem evParts_nil : evParts e [] = some [] := rfl
theorem evParts_cons {o s x xs} : evParts e ((o, s, x) :: xs) = (ev e x).bind fun v => (evParts e xs).map ((o, s, v) :: ·) := by simp only [evParts]; cases ev e x <;> rfl
theorem get_cons {s v t} : get ((s, v) :: e) t = if t = s then some v else get e t := rfl
theorem keepE_nil : keepE [] e = [] := rfl
theorem keepE_cons {x ks} : keepE (x :: ks) e = match get e x with | some v => (x, v) :: keepE ks e | none => keepE ks e := rfl
theorem seqK_norm {b : AC} {Q} : seqK C b Q .norm e H = W C b e H Q := rfl
theorem seqK_brk {b : AC} {i Q} : seqK C b Q (.brk i) e H = Q (.brk i) e H := rfl
theorem seqK_ret {b : AC} {Q} : seqK C b Q .ret e H = Q .ret e H := rfl
theorem blockK_norm {i Q} : blockK i Q .norm e H = Q .norm e H := rfl
theorem blockK_ret {i Q} : blockK i Q .ret e H = Q .ret e H := rfl
theorem blockK_brk {i j Q} : blockK i Q (.brk j) e H = if j = i then Q .norm e H else Q (.brk j) e H := rfl
theorem loopK_norm {a : AC} {Q} : loopK C a Q .norm e H = W C (.loop a) e H Q := rfl
theorem loopK_brk {a : AC} {i Q} : loopK C a Q (.brk i) e H = Q (.brk i) e H := rfl
theorem loopK_ret {a : AC} {Q} : loopK C a Q .ret e H = Q .ret e H := rfl
theorem retK_norm {rs R} : retK rs R .norm e H = bindO (ares e H rs) fun v => R v H := rfl
theorem retK_ret {rs R} : retK rs R .ret e H = bindO (ares e H rs) fun v => R v H := rfl
theorem aress_nil : aress e H [] = some [] := rfl
theorem aress_cons {r rs} : aress e H (r :: rs) = (ares1 e H r).bind fun v => (aress e H rs).map (v :: ·) := by simp only [aress]; cases ares1 e H r <;> rfl
theorem ares1_t {n} : ares1 e H (.t n) = get e n := rfl
theorem ares1_c {n sz} : ares1 e H (.c n sz) = (get e n).bind fun p => (asPtr p).bind fun a => (H.loadN a.1 a.2 sz).map .agg := by
  simp only [ares1]; cases get e n with
  | none => rfl
  | some v => cases v <;> rfl
theorem ares1_c1 {n} : ares1 e H (.c1 n) = (get e n).bind fun p => (asPtr p).bind fun a => H.load a.1 a.2 := by
  simp only [ares1]; cases get e n with
  | none => rfl
  | some v => cases v <;> rfl

theorem alen_sl {b o n c} : alen (.sl b o n c) = some n := rfl
theorem alen_esl : alen .esl = some 0 := rfl
theorem alen_nils : alen .nils = some 0 := rfl

theorem asPtr_ptr {b o} : asPtr (.ptr b o) = some (b, o) := rfl
theorem asB_b {x} : asB (.b x) = some x := rfl
theorem asI_i {x y} : asI (.i x y) = some (x, y) := rfl
theorem asAgg_agg {l} : asAgg (.agg l) = some l := rfl
theorem asTup_tup {l} : asTup (.tup l) = some l := rfl
theorem asSl_sl {b o n c} : asSl (.sl b o n c) = some (b, o, n) := rfl
theorem asFn_fn {f a c} : asFn (.fn f a c) = some (f, a, c) := rfl
theorem asI64_I {n} : asI64 (.i .i64 n) = some n := rfl
theorem abin_add {k a c} : abin .add (.i k a) (.i k c) = some (.i k (k.wrap (a + c))) := by simp [abin, isShift, ibin]
theorem abin_sub {k a c} : abin .sub (.i k a) (.i k c) = some (.i k (k.wrap (a - c))) := by simp [abin, isShift, ibin]
theorem abin_mul {k a c} : abin .mul (.i k a) (.i k c) = some (.i k (k.wrap (a * c))) := by simp [abin, isShift, ibin]
theorem abin_quo {k a c} (h : c ≠ 0) : abin .quo (.i k a) (.i k c) = some (.i k (k.wrap (a.tdiv c))) := by simp [abin, isShift, ibin, h]
theorem abin_rem {k a c} (h : c ≠ 0) : abin .rem (.i k a) (.i k c) = some (.i k (a.tmod c)) := by simp [abin, isShift, ibin, h]
theorem abin_and {k a c} : abin .and (.i k a) (.i k c) = ibits k (· &&& ·) a c := by simp [abin, isShift, ibin]
theorem abin_or {k a c} : abin .or (.i k a) (.i k c) = ibits k (· ||| ·) a c := by simp [abin, isShift, ibin]
theorem abin_xor {k a c} : abin .xor (.i k a) (.i k c) = ibits k (· ^^^ ·) a c := by simp [abin, isShift, ibin]
theorem abin_andNot {k a c} : abin .andNot (.i k a) (.i k c) = ibits k (fun a b => a &&& ~~~b) a c := by simp [abin, isShift, ibin]
theorem abin_eql {k a c} : abin .eql (.i k a) (.i k c) = some (.b (decide (a = c))) := by
  simp only [abin, isShift, ibin, if_true, Bool.false_eq_true, if_false, Option.some.injEq, AV.b.injEq]
  rw [Bool.eq_iff_iff]; simp
theorem abin_neq {k a c} : abin .neq (.i k a) (.i k c) = some (.b (decide (a ≠ c))) := by
  simp only [abin, isShift, ibin, if_true, Bool.false_eq_true, if_false, Option.some.injEq, AV.b.injEq]
  rw [Bool.eq_iff_iff]; simp
theorem abin_lss {k a c} : abin .lss (.i k a) (.i k c) = some (.b (decide (a < c))) := by simp [abin, isShift, ibin]
theorem abin_leq {k a c} : abin .leq (.i k a) (.i k c) = some (.b (decide (a ≤ c))) := by simp [abin, isShift, ibin]
theorem abin_gtr {k a c} : abin .gtr (.i k a) (.i k c) = some (.b (decide (c < a))) := by simp [abin, isShift, ibin]
theorem abin_geq {k a c} : abin .geq (.i k a) (.i k c) = some (.b (decide (c ≤ a))) := by simp [abin, isShift, ibin]
theorem abin_shl {k' a c} (h : 0 ≤ c ∧ c ≤ 63) : abin .shl (.i .i64 a) (.i k' c) = some (.i .i64 (IntKind.i64.wrap (a * 2 ^ c.toNat))) := by
  have e : min c.toNat IntKind.i64.bits = c.toNat := by simp only [IntKind.bits]; omega
  have e' : ¬ c < 0 := by omega
  simp [abin, isShift, ishift, e, e']
theorem abin_shr {k' a c} (h : 0 ≤ c ∧ c ≤ 63) : abin .shr (.i .i64 a) (.i k' c) = some (.i .i64 (a / 2 ^ c.toNat)) := by
  have e : min c.toNat IntKind.i64.bits = c.toNat := by simp only [IntKind.bits]; omega
  have e' : ¬ c < 0 := by omega
  have e2 : a.fdiv (2 ^ c.toNat) = a / 2 ^ c.toNat := Int.fdiv_eq_ediv_of_nonneg _ (Int.le_of_lt (Int.pow_pos (by omega)))
  simp [abin, isShift, ishift, e, e', e2]
theorem pow_pos2 {m : Nat} : (0 : Int) < 2 ^ m := Int.pow_pos (by omega)
theorem pow_le2 {m n : Nat} (h : m ≤ n) : (2 : Int) ^ m ≤ 2 ^ n := by
  have := Nat.pow_le_pow_right (n := 2) (by omega) h
  exact_mod_cast this
theorem aun_not {x} : aun .not (.b x) = some (.b !x) := rfl
theorem aun_neg {k n} : aun .neg (.i k n) = some (.i k (k.wrap (0 - n))) := rfl
theorem nilEq_00 : nilEq 0 .nils .nils = some true := rfl
theorem nilEq_01 {b o n c} : nilEq 0 (.sl b o n c) .nils = some false := rfl
theorem nilEq_02 : nilEq 0 .esl .nils = some false := rfl
theorem nilEq_10 : nilEq 1 .nilp .nilp = some true := rfl
theorem nilEq_11 {b o} : nilEq 1 (.ptr b o) .nilp = some false := rfl
theorem nilEq_20 : nilEq 2 .nilf .nilf = some true := rfl
theorem nilEq_21 {f a c} : nilEq 2 (.fn f a c) .nilf = some false := rfl
theorem wrap64 {n : Int} (h : -9223372036854775808 ≤ n ∧ n ≤ 9223372036854775807) : IntKind.i64.wrap n = n := by
  unfold IntKind.wrap
  simp [IntKind.bits, IntKind.signed]
  split <;> omega
theorem wrap_pow {m : Nat} (h : m ≤ 62) : IntKind.i64.wrap (2 ^ m) = 2 ^ m := by
  have h1 := @pow_le2 m 62 h
  have h2 := @pow_pos2 m
  rw [wrap64 (by omega)]
theorem cells_b {x} : AV.cells (.b x) = [(.b x)] := rfl
theorem isTup_b {x} : AV.isTup (.b x) = false := rfl
theorem cells_i {k n} : AV.cells (.i k n) = [(.i k n)] := rfl
theorem isTup_i {k n} : AV.isTup (.i k n) = false := rfl
theorem cells_str {s} : AV.cells (.str s) = [(.str s)] := rfl
theorem isTup_str {s} : AV.isTup (.str s) = false := rfl
theorem cells_ptr {b o} : AV.cells (.ptr b o) = [(.ptr b o)] := rfl
theorem isTup_ptr {b o} : AV.isTup (.ptr b o) = false := rfl
theorem cells_nilp  : AV.cells .nilp = [.nilp] := rfl
theorem isTup_nilp  : AV.isTup .nilp = false := rfl
theorem cells_sl {b o n c} : AV.cells (.sl b o n c) = [(.sl b o n c)] := rfl
theorem isTup_sl {b o n c} : AV.isTup (.sl b o n c) = false := rfl
theorem cells_esl  : AV.cells .esl = [.esl] := rfl
theorem isTup_esl  : AV.isTup .esl = false := rfl
theorem cells_nils  : AV.cells .nils = [.nils] := rfl
theorem isTup_nils  : AV.isTup .nils = false := rfl
theorem cells_fn {f a c} : AV.cells (.fn f a c) = [(.fn f a c)] := rfl
theorem isTup_fn {f a c} : AV.isTup (.fn f a c) = false := rfl
theorem cells_nilf  : AV.cells .nilf = [.nilf] := rfl
theorem isTup_nilf  : AV.isTup .nilf = false := rfl
theorem cells_agg {l} : AV.cells (.agg l) = l := rfl
theorem isTup_agg {l} : AV.isTup (.agg l) = false := rfl
theorem isTup_tup {l} : AV.isTup (.tup l) = true := rfl
/-! ### The heap -/
theorem push_n {cs} : (H.push cs).n = H.n + 1 := rfl
theorem put_n {b o} : (H.put b o).n = H.n := rfl
theorem push_bk {cs b} : (H.push cs).bk b = if b = H.n then some ⟨cs, true⟩ else H.bk b := rfl
theorem put_bk {b o b'} : (H.put b o).bk b' = if b' = b then o else H.bk b' := rfl
theorem load_of {b o : Nat} {kk : Blk} (h : H.bk b = some kk) : H.load b o = kk.cells[o]? := by unfold AH.load; rw [h]; rfl
theorem loadN_of {b o n : Nat} {kk : Blk} (h : H.bk b = some kk) : H.loadN b o n = seg kk.cells o n := by unfold AH.loadN; rw [h]; rfl
theorem store_of {b o : Nat} {vs : List AV} {cs : List AV} (h : H.bk b = some ⟨cs, true⟩) (hl : o + vs.length ≤ cs.length) : H.store b o vs = some (H.put b (some ⟨splice cs o vs, true⟩)) := by
  unfold AH.store; rw [h]; simp [hl]
end

attribute [simp ↓ low] WO_gs WO_gz
attribute [simp ↓] W_skip W_keepE WO_gp W_exit W_ret W_ops W_seq W_block W_cond WO_nil WO_o1 WO_o0 opsK
  stepK_mv stepK_pick stepK_alloc stepK_box stepK_load stepK_loadN stepK_store stepK_nilc stepK_bin stepK_eqB stepK_eqN stepK_eqA stepK_un stepK_conv stepK_mksl stepK_slice stepK_fldA stepK_fld stepK_fldN
  stepK_idxA stepK_idxAA stepK_ext stepK_mkfn stepK_build stepK_bsl stepK_len stepK_app stepK_mx stepK_mn stepK_call stepK_callv
  seqK_norm seqK_brk seqK_ret blockK_norm blockK_ret blockK_brk loopK_norm loopK_brk loopK_ret retK_norm retK_ret
  bindO_F ifB_F ifW_F bindE_F CallK_F
attribute [simp low] ifBF_b ifWF_t ifWF_f
attribute [simp]
  bindF_some ifBF_true ifBF_false ifWF_true ifWF_false bindEF_nil bindEF_cons cnd_true cnd_false want_none want_some wantV_tup wantV_tt wantV_tf wantV_ft wantV_ff
  ev evs_nil evs_cons evo evParts_nil evParts_cons get_cons keepE_nil keepE_cons
  aress_nil aress_cons ares1_t ares1_c ares1_c1 enterE
  asPtr_ptr asB_b asI_i asAgg_agg asTup_tup asSl_sl asFn_fn asI64_I alen_sl alen_esl alen_nils abin_add abin_sub abin_mul abin_quo abin_rem abin_and abin_or abin_xor abin_andNot abin_eql abin_neq abin_lss abin_leq abin_gtr abin_geq abin_shl abin_shr aun_not aun_neg
  nilEq_00 nilEq_01 nilEq_02 nilEq_10 nilEq_11 nilEq_20 nilEq_21 big chk_pos wrap64 wrap_pow eqInts upd fill splice seg cells_b isTup_b cells_i isTup_i cells_str isTup_str cells_ptr isTup_ptr cells_nilp isTup_nilp cells_sl isTup_sl cells_esl isTup_esl cells_nils isTup_nils cells_fn isTup_fn cells_nilf isTup_nilf cells_agg isTup_agg isTup_tup Guards isCall push_n put_n push_bk put_bk elems

end Go.Proofs.YtdgmihohmkdpjaaDoor.AM
