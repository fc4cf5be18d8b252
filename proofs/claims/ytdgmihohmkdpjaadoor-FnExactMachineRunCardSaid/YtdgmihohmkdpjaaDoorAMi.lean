/-
  Soundness of the abstract machine, second part: a region that draws its order comes, in whatever order, to what it comes to in the order of the text. No condition.
-/
import Derived.Test.YtdgmihohmkdpjaaDoorAMh
namespace Go.Proofs.YtdgmihohmkdpjaaDoor.AM
set_option linter.unusedSimpArgs false
set_option linter.unusedVariables false
open Go Go.RowKit

section
variable {P : Program} {NG : Nat}

/-! ### A run as a sequence -/
structure Seq (P : Program) (NG : Nat) (l : List AO) (E : Nat → Env) (HH : Nat → AH) (vs : Nat → AV) : Prop where
  upd : ∀ (i : Nat) o, l[i]? = some o → E (i + 1) = upd (E i) o.d (vs i)
  step : ∀ (i : Nat) o, l[i]? = some o → (want (E i) o.c = some false ∧ vs i = .tup [] ∧ HH (i + 1) = HH i) ∨
    (want (E i) o.c = some true ∧ StepSim P NG o (E i) (HH i) (vs i) (HH (i + 1)) ∧ Mon (HH i) (HH (i + 1)) ∧ Guards (E i) (HH i) (HH (i + 1)) o.gd ∧ (o.q = true → Ext (HH i) (HH (i + 1))) ∧
      (isCall o.op = false → aop (E i) (HH i) o.op = some (vs i, HH (i + 1))))

theorem Tr.seq {l e H e' H'} (h : Tr P NG l e H e' H') : ∃ E HH vs, Seq P NG l E HH vs ∧ E 0 = e ∧ HH 0 = H ∧ E l.length = e' ∧ HH l.length = H' := by
  induction h with
  | @nil e H => exact ⟨fun _ => e, fun _ => H, fun _ => .tup [], ⟨fun i o h => by simp at h, fun i o h => by simp at h⟩, rfl, rfl, rfl, rfl⟩
  | @pass o l e H e' H' hw _ ih =>
    obtain ⟨E, HH, vs, hs, h0, h1, h2, h3⟩ := ih
    refine ⟨fun | 0 => e | i + 1 => E i, fun | 0 => H | i + 1 => HH i, fun | 0 => .tup [] | i + 1 => vs i, ⟨?_, ?_⟩, rfl, rfl, h2, h3⟩
    · intro i x hx
      cases i with
      | zero => simp at hx; subst hx; exact h0
      | succ i => exact hs.upd i x (by simpa using hx)
    · intro i x hx
      cases i with
      | zero => simp at hx; subst hx; exact .inl ⟨hw, rfl, h1⟩
      | succ i => exact hs.step i x (by simpa using hx)
  | @step o l e H v H1 e' H' hw hsim hm hg hq ho _ ih =>
    obtain ⟨E, HH, vs, hs, h0, h1, h2, h3⟩ := ih
    subst h1
    refine ⟨fun | 0 => e | i + 1 => E i, fun | 0 => H | i + 1 => HH i, fun | 0 => v | i + 1 => vs i, ⟨?_, ?_⟩, rfl, rfl, h2, h3⟩
    · intro i x hx
      cases i with
      | zero => simp at hx; subst hx; exact h0
      | succ i => exact hs.upd i x (by simpa using hx)
    · intro i x hx
      cases i with
      | zero => simp at hx; subst hx; exact .inr ⟨hw, hsim, hm, hg, hq, ho⟩
      | succ i => exact hs.step i x (by simpa using hx)

variable {l : List AO} {E : Nat → Env} {HH : Nat → AH} {vs : Nat → AV}

theorem Seq.mon (h : Seq P NG l E HH vs) {i j : Nat} (hij : i ≤ j) (hj : j ≤ l.length) : Mon (HH i) (HH j) := by
  induction j with
  | zero => have : i = 0 := by omega
            subst this; exact Mon.refl _
  | succ j ih =>
    by_cases e : i = j + 1
    · subst e; exact Mon.refl _
    · have hlt : j < l.length := by omega
      refine (ih (by omega) (by omega)).trans ?_
      rcases h.step j l[j] (List.getElem?_eq_getElem hlt) with ⟨_, _, hh⟩ | ⟨_, _, hm, _⟩
      · rw [hh]; exact Mon.refl _
      · exact hm

/-- The operations that may change what was there. -/
def isT (o : AO) : Bool := match clsOf o with | .t => true | _ => false

/-- The operations that leave the heap as it is. -/
def still : AOp → Bool
  | .alloc _ | .box _ | .store .. | .mksl .. | .bsl .. | .app .. | .call .. | .callv .. => false
  | _ => true
theorem aop_same {e : Env} {H H' : AH} {op v} (hm : still op = true) (h : aop e H op = some (v, H')) : H' = H := by
  cases op <;> simp only [still, Bool.false_eq_true] at hm <;> simp only [AM.aop] at h
  case mv => obtain ⟨_, _, e⟩ := map_some h; cases e; rfl
  case pick => split at h <;> first | (obtain ⟨_, _, e⟩ := map_some h; cases e; rfl) | cases h
  case load => split at h <;> first | (obtain ⟨_, _, e⟩ := map_some h; cases e; rfl) | cases h
  case loadN => split at h <;> first | (obtain ⟨_, _, e⟩ := map_some h; cases e; rfl) | cases h
  case nilc => split at h <;> cases h <;> rfl
  case bin => split at h <;> first | (obtain ⟨_, _, e⟩ := map_some h; cases e; rfl) | cases h
  case eqB => split at h <;> cases h <;> rfl
  case eqN =>
    split at h
    · split at h <;> cases h <;> rfl
    · cases h
  case eqA =>
    split at h
    · split at h
      · obtain ⟨_, _, e⟩ := map_some h; cases e; rfl
      · cases h
    · cases h
  case un => split at h <;> first | (obtain ⟨_, _, e⟩ := map_some h; cases e; rfl) | cases h
  case conv => split at h <;> cases h <;> rfl
  case slice => split at h <;> first | (obtain ⟨_, _, e⟩ := map_some h; cases e; rfl) | cases h
  case fldA => split at h <;> cases h <;> rfl
  case fld => split at h <;> first | (obtain ⟨_, _, e⟩ := map_some h; cases e; rfl) | cases h
  case fldN => split at h <;> first | (obtain ⟨_, _, e⟩ := map_some h; cases e; rfl) | cases h
  case idxA =>
    split at h
    · split at h <;> cases h <;> rfl
    · cases h
  case idxAA =>
    split at h
    · split at h <;> cases h <;> rfl
    · cases h
  case idx =>
    split at h
    · split at h <;> cases h <;> rfl
    · cases h
  case ext => split at h <;> first | (obtain ⟨_, _, e⟩ := map_some h; cases e; rfl) | cases h
  case mkfn => split at h <;> cases h <;> rfl
  case build => split at h <;> first | (obtain ⟨_, _, e⟩ := map_some h; cases e; rfl) | cases h
  case len => split at h <;> first | (obtain ⟨_, _, e⟩ := map_some h; cases e; rfl) | cases h
  case mx => split at h <;> cases h <;> rfl
  case mn => split at h <;> cases h <;> rfl

/-- What the operations of the other kinds leave. -/
theorem Seq.keeps (h : Seq P NG l E HH vs) {i : Nat} {o : AO} (ho : l[i]? = some o) (ht : isT o = false) : Ext (HH i) (HH (i + 1)) := by
  rcases h.step i o ho with ⟨_, _, hh⟩ | ⟨_, _, hm, _, hq, hop⟩
  · rw [hh]; exact Ext.refl _
  · cases hqq : o.q with
    | true => exact hq hqq
    | false =>
    cases hc : isCall o.op with
    | true =>
      exfalso
      unfold isT clsOf at ht
      cases hop2 : o.op <;> simp [hop2, isCall, hqq] at ht hc
    | false =>
      have hop := hop hc
      by_cases hst : still o.op = true
      · rw [aop_same hst hop]; exact Ext.refl _
      unfold isT clsOf at ht
      rw [hqq] at ht
      cases hop2 : o.op <;> rw [hop2] at ht hop hst hc <;> first
        | (simp only [still, not_true_eq_false] at hst; done)
        | (cases ht; done)
        | (simp only [isCall] at hc; cases hc; done)
        | skip
      all_goals simp only [AM.aop] at hop
      case alloc => simp only [Option.some.injEq, Prod.mk.injEq] at hop; rw [← hop.2]; exact Ext.push _ _
      case box =>
        split at hop
        · split at hop
          · cases hop
          · simp only [Option.some.injEq, Prod.mk.injEq] at hop; rw [← hop.2]; exact Ext.push _ _
        · cases hop
      case mksl =>
        split at hop
        · split at hop
          · simp only [Option.some.injEq, Prod.mk.injEq] at hop; rw [← hop.2]; exact Ext.push _ _
          · cases hop
        · cases hop
      case bsl => split at hop <;> first | (obtain ⟨_, _, e⟩ := map_some hop; simp only [Prod.mk.injEq] at e; rw [← e.2]; exact Ext.push _ _) | cases hop


/-! ### Which operations are done -/
def isTat (l : List AO) (i : Nat) : Bool := match l[i]? with | some o => isT o | none => false
/-- The first operation of those that may change memory that is not done yet. -/
def pOf (l : List AO) (D : Nat → Bool) : Nat := ((List.range l.length).find? fun t => isTat l t && !D t).getD l.length
/-- When block b was made. -/
def btOf (HH : Nat → AH) (m b : Nat) : Nat := ((List.range (m + 1)).find? fun j => decide (b < (HH j).n)).getD m
/-- The heap when just the operations D are done. -/
def heapD (l : List AO) (HH : Nat → AH) (D : Nat → Bool) : AH := ⟨(HH l.length).n, fun b => (HH (max (pOf l D) (btOf HH l.length b))).bk b⟩

theorem find_range {n : Nat} {f : Nat → Bool} : (∃ k, (List.range n).find? f = some k ∧ k < n ∧ f k = true ∧ ∀ j, j < k → f j = false) ∨ ((List.range n).find? f = none ∧ ∀ j, j < n → f j = false) := by
  cases h : (List.range n).find? f with
  | none =>
    right
    refine ⟨rfl, fun j hj => ?_⟩
    have := List.find?_eq_none.1 h j (List.mem_range.2 hj)
    simpa using this
  | some k =>
    left
    refine ⟨k, rfl, ?_, List.find?_some h, ?_⟩
    · exact List.mem_range.1 (List.mem_of_find?_eq_some h)
    · intro j hj
      have := (List.find?_range_eq_some.1 h).2.2 j hj
      simpa using this

theorem pOf_spec (l : List AO) (D : Nat → Bool) : pOf l D ≤ l.length ∧ (pOf l D < l.length → isTat l (pOf l D) = true ∧ D (pOf l D) = false) ∧ ∀ t, t < pOf l D → isTat l t = true → D t = true := by
  unfold pOf
  rcases find_range (n := l.length) (f := fun t => isTat l t && !D t) with ⟨k, h1, h2, h3, h4⟩ | ⟨h1, h2⟩
  · rw [h1, Option.getD_some]
    simp only [Bool.and_eq_true, Bool.not_eq_true'] at h3
    refine ⟨Nat.le_of_lt h2, fun _ => h3, fun t ht hT => ?_⟩
    have := h4 t ht
    simp only [hT, Bool.true_and, Bool.not_eq_false'] at this; exact this
  · rw [h1, Option.getD_none]
    refine ⟨Nat.le_refl _, fun h => absurd h (Nat.lt_irrefl _), fun t ht hT => ?_⟩
    have := h2 t ht
    simp only [hT, Bool.true_and, Bool.not_eq_false'] at this; exact this

theorem btOf_spec (HH : Nat → AH) (m b : Nat) : btOf HH m b ≤ m ∧ (b < (HH m).n → b < (HH (btOf HH m b)).n) ∧ ∀ j, j ≤ m → b < (HH j).n → btOf HH m b ≤ j := by
  unfold btOf
  rcases find_range (n := m + 1) (f := fun j => decide (b < (HH j).n)) with ⟨k, h1, h2, h3, h4⟩ | ⟨h1, h2⟩
  · rw [h1, Option.getD_some]
    refine ⟨by omega, fun _ => by simpa using h3, fun j hj hb => ?_⟩
    rcases Nat.lt_or_ge j k with h | h
    · have := h4 j h; simp at this; omega
    · exact h
  · rw [h1, Option.getD_none]
    refine ⟨Nat.le_refl _, fun h => h, fun j hj hb => ?_⟩
    have := h2 j (by omega); simp at this; omega

/-- A block stays as it is while no operation of a stretch changes it. -/
theorem stays {HH : Nat → AH} {b i j : Nat} (hij : i ≤ j) (h : ∀ t, i ≤ t → t < j → (HH (t + 1)).bk b = (HH t).bk b) : (HH j).bk b = (HH i).bk b := by
  induction j with
  | zero => have : i = 0 := by omega
            subst this; rfl
  | succ j ih =>
    by_cases e : i = j + 1
    · subst e; rfl
    · rw [h j (by omega) (by omega)]; exact ih (by omega) (fun t a b => h t a (by omega))

theorem Seq.keeps_at (h : Seq P NG l E HH vs) {t b : Nat} (ht : t < l.length) (hT : isTat l t = false) (hb : b < (HH t).n) : (HH (t + 1)).bk b = (HH t).bk b := by
  have ho : l[t]? = some l[t] := List.getElem?_eq_getElem ht
  have : isT l[t] = false := by unfold isTat at hT; rw [ho] at hT; exact hT
  exact (h.keeps ho this).2 b hb

theorem Seq.flat (h : Seq P NG l E HH vs) {i j b : Nat} (hij : i ≤ j) (hj : j ≤ l.length) (hT : ∀ t, i ≤ t → t < j → isTat l t = false) (hb : b < (HH i).n) : (HH j).bk b = (HH i).bk b :=
  stays hij fun t h1 h2 => h.keeps_at (by omega) (hT t h1 h2) (Nat.lt_of_lt_of_le hb (h.mon h1 (by omega)).n)

/-! ### The names -/
def envOf (e0 : Env) (vs : Nat → AV) (D : Nat → Bool) : List AO → Nat → Env
  | [], _ => e0
  | o :: l, k => if D k = true then upd (envOf e0 vs D l (k + 1)) o.d (vs k) else envOf e0 vs D l (k + 1)

theorem get_upd (e : Env) (d : Option Nat) (v : AV) (t : Nat) : get (upd e d v) t = if d = some t then some v else get e t := by
  cases d with
  | none => simp [upd]
  | some s =>
    simp only [upd, get, Option.some.injEq]
    by_cases h : t = s
    · subst h; simp
    · rw [if_neg h, if_neg (fun e => h e.symm)]

theorem get_envOf_none (e0 : Env) (vs : Nat → AV) (D : Nat → Bool) (t : Nat) : ∀ (l : List AO) (k : Nat), (∀ i o, l[i]? = some o → o.d = some t → D (k + i) = false) → get (envOf e0 vs D l k) t = get e0 t
  | [], _, _ => rfl
  | o :: l, k, h => by
    have ih := get_envOf_none e0 vs D t l (k + 1) (fun i o ho hd => by have := h (i + 1) o (by simpa using ho) hd; rw [← this]; congr 1; omega)
    simp only [envOf]
    split
    · rename_i hD
      rw [get_upd, ih, if_neg]
      intro hd
      have := h 0 o rfl hd
      simp at this; rw [this] at hD; cases hD
    · exact ih

theorem get_envOf_some (e0 : Env) (vs : Nat → AV) (D : Nat → Bool) (t : Nat) : ∀ (l : List AO) (k i : Nat) (o : AO), l[i]? = some o → o.d = some t → D (k + i) = true → (∀ j o', l[j]? = some o' → o'.d = some t → j = i) → get (envOf e0 vs D l k) t = some (vs (k + i))
  | [], _, _, _, h, _, _, _ => by simp at h
  | a :: l, k, 0, o, h, hd, hD, hu => by
    simp at h; subst h
    simp only [envOf]
    have : D k = true := by simpa using hD
    rw [if_pos this, get_upd, if_pos hd]; rfl
  | a :: l, k, i + 1, o, h, hd, hD, hu => by
    have ih := get_envOf_some e0 vs D t l (k + 1) i o (by simpa using h) hd (by rw [← hD]; congr 1; omega) (fun j o' h' hd' => by have := hu (j + 1) o' (by simpa using h') hd'; omega)
    have hne : a.d ≠ some t := fun e => by have := hu 0 a rfl e; omega
    have e1 : k + 1 + i = k + (i + 1) := by omega
    rw [e1] at ih
    simp only [envOf]
    split
    · rw [get_upd, if_neg hne]; exact ih
    · exact ih

theorem get_envOf_congr (e0 : Env) (vs : Nat → AV) (D D' : Nat → Bool) (t : Nat) : ∀ (l : List AO) (k : Nat), (∀ i o, l[i]? = some o → o.d = some t → D (k + i) = D' (k + i)) → get (envOf e0 vs D l k) t = get (envOf e0 vs D' l k) t
  | [], _, _ => rfl
  | o :: l, k, h => by
    have ih := get_envOf_congr e0 vs D D' t l (k + 1) (fun i o ho hd => by
      have := h (i + 1) o (by simpa using ho) hd
      have e : k + 1 + i = k + (i + 1) := by omega
      rw [e]; exact this)
    have hsplit : ∀ (D : Nat → Bool), get (envOf e0 vs D (o :: l) k) t = if o.d = some t ∧ D k = true then some (vs k) else get (envOf e0 vs D l (k + 1)) t := by
      intro D
      simp only [envOf]
      split
      · rename_i hD
        rw [get_upd]; simp [hD]
      · rename_i hD
        rw [if_neg (fun q => hD q.2)]
    rw [hsplit D, hsplit D', ih]
    by_cases hd : o.d = some t
    · have := h 0 o rfl hd
      simp only [Nat.add_zero] at this; rw [this]
    · rw [if_neg (fun q => hd q.1), if_neg (fun q => hd q.1)]

theorem Seq.get_none (h : Seq P NG l E HH vs) {t : Nat} : ∀ (i : Nat), i ≤ l.length → (∀ j o, j < i → l[j]? = some o → o.d ≠ some t) → get (E i) t = get (E 0) t
  | 0, _, _ => rfl
  | i + 1, hi, hn => by
    have ho : l[i]? = some l[i] := List.getElem?_eq_getElem (by omega)
    rw [h.upd i _ ho, get_upd, if_neg (hn i _ (by omega) ho)]
    exact Seq.get_none h i (by omega) (fun j o hj => hn j o (by omega))

theorem Seq.get_some (h : Seq P NG l E HH vs) {t j : Nat} {o : AO} (ho : l[j]? = some o) (hd : o.d = some t) (hu : ∀ j' o', l[j']? = some o' → o'.d = some t → j' = j) : ∀ (i : Nat), i ≤ l.length → j < i → get (E i) t = some (vs j)
  | 0, _, hj => by omega
  | i + 1, hi, hj => by
    have hx : l[i]? = some l[i] := List.getElem?_eq_getElem (by omega)
    rw [h.upd i _ hx, get_upd]
    by_cases e : i = j
    · subst e
      rw [ho] at hx; cases hx
      rw [if_pos hd]
    · rw [if_neg (fun q => e (hu i _ hx q))]
      exact Seq.get_some h ho hd hu i (by omega) (by omega)

/-! ### What the check tells -/
theorem testBit_maskOf (acc : List Nat) (i : Nat) : ∀ (ks : List Nat), (maskOf acc ks).testBit i = true → ∃ k ∈ ks, i = k ∨ (acc.getD k 0).testBit i = true
  | [], h => by simp [maskOf] at h
  | k :: ks, h => by
    simp only [maskOf, Nat.testBit_or, Bool.or_eq_true] at h
    rcases h with (h | h) | h
    · rw [Nat.testBit_two_pow] at h
      exact ⟨k, by simp, .inl (by simpa using h : k = i).symm⟩
    · exact ⟨k, by simp, .inr h⟩
    · obtain ⟨k', h1, h2⟩ := testBit_maskOf acc i ks h
      exact ⟨k', by simp [h1], h2⟩

theorem masks_spec : ∀ (os : List Oper) (acc : List Nat), (∃ rest, masks os acc = acc ++ rest) ∧ ∀ j o, os[j]? = some o → (masks os acc).getD (acc.length + j) 0 = maskOf ((masks os acc).take (acc.length + j)) (dirs o)
  | [], acc => ⟨⟨[], by simp [masks]⟩, fun j o h => by simp at h⟩
  | o :: os, acc => by
    obtain ⟨⟨rest, hr⟩, h2⟩ := masks_spec os (acc ++ [maskOf acc (dirs o)])
    refine ⟨⟨maskOf acc (dirs o) :: rest, by simp only [masks]; rw [hr]; simp⟩, fun j o' h => ?_⟩
    simp only [masks]
    cases j with
    | zero =>
      simp at h; subst h
      rw [hr]
      simp
    | succ j =>
      have := h2 j o' (by simpa using h)
      simp only [List.length_append, List.length_singleton] at this
      rw [show acc.length + (j + 1) = acc.length + 1 + j from by omega]
      exact this

theorem closed {ops : Array Oper} {D : Nat → Bool} (hd : dirsOk ops.toList = true) (h1 : ∀ j o, D j = true → ops[j]? = some o → ∀ k ∈ dirs o, D k = true) (hlt : ∀ j, D j = true → j < ops.size) :
    ∀ (j : Nat) (o : Oper), ops[j]? = some o → (∀ k ∈ dirs o, D k = true) → ∀ i, ((masks ops.toList []).getD j 0).testBit i = true → D i = true := by
  intro j
  induction j using Nat.strongRecOn with
  | _ j ih =>
    intro o ho hall i hi
    have hspec := (masks_spec ops.toList []).2 j o (by rw [Array.getElem?_toList]; exact ho)
    simp only [List.length_nil, Nat.zero_add] at hspec
    rw [hspec] at hi
    obtain ⟨k, hk, h | h⟩ := testBit_maskOf _ _ _ hi
    · subst h; exact hall _ hk
    · have hDk := hall k hk
      have hkj : k < j := by
        have hj : j < ops.size := (Array.getElem?_eq_some_iff.1 ho).1
        have := List.all_eq_true.1 hd j (List.mem_range.2 (by simpa using hj))
        have e : ops.toList[j]? = some o := by rw [Array.getElem?_toList]; exact ho
        simp only [e] at this
        simpa using List.all_eq_true.1 this k hk
      have hks := hlt k hDk
      have hk2 : ops[k]? = some ops[k] := Array.getElem?_eq_getElem hks
      refine ih k hkj _ hk2 (h1 k _ hDk hk2) i ?_
      rw [← h]
      rw [List.getD_eq_getElem?_getD, List.getD_eq_getElem?_getD, List.getElem?_take, if_pos hkj]

theorem pairsOk_spec {ms : List Nat} {l : List AO} (h : pairsOk ms l = true) {i j : Nat} {a b : AO} (hij : i < j) (ha : l[i]? = some a) (hb : l[j]? = some b) :
    ((ms.getD j 0).testBit i = true ∨ free ((l.drop (i + 1)).take (j - i - 1)) a b = true) ∧ (∀ t, a.d = some t → b.d ≠ some t) := by
  have hj : j < l.length := (List.getElem?_eq_some_iff.1 hb).1
  have h1 := List.all_eq_true.1 (List.all_eq_true.1 h j (List.mem_range.2 hj)) i (List.mem_range.2 hij)
  simp only [ha, hb, Bool.and_eq_true, Bool.or_eq_true] at h1
  refine ⟨h1.1, fun t ht hb' => ?_⟩
  rcases h1.2 with h2 | h2
  · rw [ht] at h2; cases h2
  · rw [ht, hb'] at h2; simp at h2

end
end Go.Proofs.YtdgmihohmkdpjaaDoor.AM
