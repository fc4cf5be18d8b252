/-
  How the abstract machine's values and heaps stand to the model's: the relation, and what a new block, a store and an append do to it. No condition: definitions and their laws.
-/
import Derived.Test.YtdgmihohmkdpjaaDoorAMa
import Derived.WalkKit
import Derived.Deep.MidRow
import Derived.Deep.AppendSrc
namespace Go.Proofs.YtdgmihohmkdpjaaDoor.AM
set_option linter.unusedSimpArgs false
set_option linter.unusedVariables false
open Go Go.RowKit

/-- Where a block lies: the model's block, the first cell, how many cells are its own. -/
abbrev Rho := Nat → Option (Nat × Nat × Nat)
def Sub (ρ ρ' : Rho) : Prop := ∀ b r, ρ b = some r → ρ' b = some r
theorem Sub.refl (ρ : Rho) : Sub ρ ρ := fun _ _ h => h
theorem Sub.trans {a b c : Rho} (h : Sub a b) (k : Sub b c) : Sub a c := fun x r hx => k x r (h x r hx)
def Rho.add (ρ : Rho) (b : Nat) (r : Nat × Nat × Nat) : Rho := fun b' => if b' = b then some r else ρ b'
theorem Rho.add_same (ρ : Rho) (b r) : ρ.add b r b = some r := by simp [Rho.add]
theorem Rho.add_ne (ρ : Rho) {b b' : Nat} (r) (h : b' ≠ b) : ρ.add b r b' = ρ b' := by simp [Rho.add, h]

inductive VR (ρ : Rho) : AV → Value → Prop
  | b (x) : VR ρ (.b x) (.bool x)
  | i (k n) : VR ρ (.i k n) (.int k n)
  | str (s) : VR ρ (.str s) (.string s)
  | ptr {b o B o0 x} : ρ b = some (B, o0, x) → VR ρ (.ptr b o) (.pointer (some ⟨B, o0 + o, none⟩))
  | nilp : VR ρ .nilp (.pointer none)
  | slE {b o B o0 x len c} : ρ b = some (B, o0, x) → len ≤ c → VR ρ (.sl b o len (.ex c)) (.slice (some ⟨B, o0 + o, none⟩) len c)
  | slL {b o B o0 x len c c' sz} : ρ b = some (B, o0, x) → len ≤ c → c ≤ c' → o + c' * sz ≤ x → VR ρ (.sl b o len (.lb c sz)) (.slice (some ⟨B, o0 + o, none⟩) len c')
  | slR {b o B o0 x len c'} : ρ b = some (B, o0, x) → len ≤ c' → VR ρ (.sl b o len .ro) (.slice (some ⟨B, o0 + o, none⟩) len c')
  | esl (a c) : VR ρ .esl (.slice (some a) 0 c)
  | nils : VR ρ .nils (.slice none 0 0)
  | fn {f a c a' c'} : a.length = a'.size → (∀ (i : Nat) x v, a[i]? = some x → a'.toList[i]? = some v → VR ρ x v) →
      c.length = c'.size → (∀ (i : Nat) x v, c[i]? = some x → c'.toList[i]? = some v → VR ρ x v) → VR ρ (.fn f a c) (.func (.func f) a' c')
  | nilf : VR ρ .nilf .nilFunc
  | agg {cs cs'} : cs.all AV.flat = true → cs.length = cs'.size → (∀ (i : Nat) x v, cs[i]? = some x → cs'.toList[i]? = some v → VR ρ x v) → VR ρ (.agg cs) (.agg cs')
  | tup {cs cs'} : cs.length = cs'.size → (∀ (i : Nat) x v, cs[i]? = some x → cs'.toList[i]? = some v → VR ρ x v) → VR ρ (.tup cs) (.tuple cs')

def VRs (ρ : Rho) (l : List AV) (l' : List Value) : Prop := l.length = l'.length ∧ ∀ (i : Nat) x v, l[i]? = some x → l'[i]? = some v → VR ρ x v

theorem VR.mono {ρ ρ' : Rho} (h : Sub ρ ρ') {a v} (k : VR ρ a v) : VR ρ' a v := by
  induction k with
  | b x => exact .b x
  | i k n => exact .i k n
  | str s => exact .str s
  | ptr hb => exact .ptr (h _ _ hb)
  | nilp => exact .nilp
  | slE hb hl => exact .slE (h _ _ hb) hl
  | slL hb a b c => exact .slL (h _ _ hb) a b c
  | slR hb a => exact .slR (h _ _ hb) a
  | esl a c => exact .esl a c
  | nils => exact .nils
  | fn h1 _ h3 _ i1 i2 => exact .fn h1 i1 h3 i2
  | nilf => exact .nilf
  | agg hf h1 _ i1 => exact .agg hf h1 i1
  | tup h1 _ i1 => exact .tup h1 i1

theorem VRs.mono {ρ ρ' : Rho} (h : Sub ρ ρ') {l l'} (k : VRs ρ l l') : VRs ρ' l l' := ⟨k.1, fun i x v a b => (k.2 i x v a b).mono h⟩
theorem VRs.nil (ρ : Rho) : VRs ρ [] [] := ⟨rfl, fun i x v h => by simp at h⟩
theorem VRs.cons {ρ : Rho} {a v l l'} (h : VR ρ a v) (k : VRs ρ l l') : VRs ρ (a :: l) (v :: l') := by
  refine ⟨by simp [k.1], fun i x w h1 h2 => ?_⟩
  cases i with
  | zero => simp at h1 h2; subst h1; subst h2; exact h
  | succ i => exact k.2 i x w (by simpa using h1) (by simpa using h2)
theorem VRs.append {ρ : Rho} {l l' m m'} (h : VRs ρ l l') (k : VRs ρ m m') : VRs ρ (l ++ m) (l' ++ m') := by
  refine ⟨by simp [h.1, k.1], fun i x w h1 h2 => ?_⟩
  by_cases hi : i < l.length
  · rw [List.getElem?_append_left hi] at h1
    rw [List.getElem?_append_left (by rw [← h.1]; exact hi)] at h2
    exact h.2 i x w h1 h2
  · rw [List.getElem?_append_right (by omega)] at h1
    rw [List.getElem?_append_right (by rw [← h.1]; omega)] at h2
    rw [← h.1] at h2
    exact k.2 _ x w h1 h2
theorem VRs.take {ρ : Rho} {l l'} (h : VRs ρ l l') (n : Nat) : VRs ρ (l.take n) (l'.take n) := by
  refine ⟨by simp [h.1], fun i x w h1 h2 => ?_⟩
  rw [List.getElem?_take] at h1 h2
  split at h1
  · rw [if_pos ‹_›] at h2; exact h.2 i x w h1 h2
  · cases h1
theorem VRs.drop {ρ : Rho} {l l'} (h : VRs ρ l l') (n : Nat) : VRs ρ (l.drop n) (l'.drop n) := by
  refine ⟨by simp [h.1], fun i x w h1 h2 => ?_⟩
  rw [List.getElem?_drop] at h1 h2
  exact h.2 _ x w h1 h2
theorem VRs.get {ρ : Rho} {l l'} (h : VRs ρ l l') {i : Nat} {x} (hx : l[i]? = some x) : ∃ v, l'[i]? = some v ∧ VR ρ x v := by
  have hi : i < l'.length := by rw [← h.1]; exact (List.getElem?_eq_some_iff.1 hx).1
  exact ⟨l'[i], List.getElem?_eq_getElem hi, h.2 i x _ hx (List.getElem?_eq_getElem hi)⟩
theorem VRs.cons_inv {ρ : Rho} {a l l'} (h : VRs ρ (a :: l) l') : ∃ v m, l' = v :: m ∧ VR ρ a v ∧ VRs ρ l m := by
  cases l' with
  | nil => exact absurd h.1 (by simp)
  | cons v m => exact ⟨v, m, rfl, h.2 0 a v rfl rfl, by simpa using h.1, fun i x w h1 h2 => h.2 (i + 1) x w (by simpa using h1) (by simpa using h2)⟩
theorem VRs.nil_inv {ρ : Rho} {l'} (h : VRs ρ [] l') : l' = [] := by
  cases l' with
  | nil => rfl
  | cons v m => exact absurd h.1 (by simp)
theorem VRs.flatten_replicate {ρ : Rho} {z z'} (h : VRs ρ z z') (n : Nat) : VRs ρ (List.replicate n z).flatten (List.replicate n z').flatten := by
  induction n with
  | zero => exact VRs.nil ρ
  | succ n ih => simp only [List.replicate_succ, List.flatten_cons]; exact h.append ih

theorem VR.cells {ρ : Rho} {a v} (h : VR ρ a v) : VRs ρ a.cells v.cells.toList := by
  cases h with
  | agg hf h1 h2 => exact ⟨by simpa [AV.cells, Value.cells] using h1, h2⟩
  | tup h1 h2 => exact VRs.cons (.tup h1 h2) (VRs.nil ρ)
  | fn h1 h2 h3 h4 => exact VRs.cons (.fn h1 h2 h3 h4) (VRs.nil ρ)
  | b x => exact VRs.cons (.b x) (VRs.nil ρ)
  | i k n => exact VRs.cons (.i k n) (VRs.nil ρ)
  | str s => exact VRs.cons (.str s) (VRs.nil ρ)
  | ptr hb => exact VRs.cons (.ptr hb) (VRs.nil ρ)
  | nilp => exact VRs.cons .nilp (VRs.nil ρ)
  | slE hb hl => exact VRs.cons (.slE hb hl) (VRs.nil ρ)
  | slL hb x y z => exact VRs.cons (.slL hb x y z) (VRs.nil ρ)
  | slR hb x => exact VRs.cons (.slR hb x) (VRs.nil ρ)
  | esl x c => exact VRs.cons (.esl x c) (VRs.nil ρ)
  | nils => exact VRs.cons .nils (VRs.nil ρ)
  | nilf => exact VRs.cons .nilf (VRs.nil ρ)
theorem VR.flat {ρ : Rho} {a v} (h : VR ρ a v) (ht : a.isTup = false) : a.cells.all AV.flat = true := by
  cases h <;> first | rfl | assumption | (simp [AV.isTup] at ht)
theorem VR.oneCell {ρ : Rho} {a v} (h : VR ρ a v) (hf : a.flat = true) : v.oneCell' = true := by
  cases h <;> first | rfl | (simp [AV.flat] at hf)
theorem VRs.oneCell {ρ : Rho} {l l'} (h : VRs ρ l l') (hf : l.all AV.flat = true) : ∀ v ∈ l', v.oneCell' = true := by
  intro v hv
  obtain ⟨i, hi, rfl⟩ := List.mem_iff_getElem.1 hv
  have hi' : i < l.length := by rw [h.1]; exact hi
  exact (h.2 i _ _ (List.getElem?_eq_getElem hi') (List.getElem?_eq_getElem hi)).oneCell (List.all_eq_true.1 hf _ (List.getElem_mem hi'))

/-- The cells cs lie in the model's block B from o on. -/
def RowIn (ρ : Rho) (w : World) (B o : Nat) (cs : List AV) : Prop := ∀ (i : Nat) a, cs[i]? = some a → a.flat = true ∧ ∃ v, w.cell? ⟨B, o + i, none⟩ = some v ∧ VR ρ a v

structure RelH (NG : Nat) (ρ : Rho) (H : AH) (w : World) : Prop where
  wf : ∀ b, H.n ≤ b → H.bk b = none
  glob : ∀ g, g < NG → ∃ x, ρ g = some (g, 0, x)
  dom : ∀ b B o x, ρ b = some (B, o, x) → B < w.heap.size
  row : ∀ b B o x k, ρ b = some (B, o, x) → H.bk b = some k → k.cells.length ≤ x ∧ RowIn ρ w B o k.cells
  own : ∀ b B o x k, ρ b = some (B, o, x) → H.bk b = some k → k.wr = true → ∃ cs el, w.heap[B]? = some (.cells cs el (0, 0)) ∧ o + x ≤ cs.size
  dis : ∀ b b' B o x o' x' k k', b ≠ b' → ρ b = some (B, o, x) → ρ b' = some (B, o', x') → H.bk b = some k → H.bk b' = some k' → k.wr = false

/-- No writable block lies in the model's block B. -/
def Quiet (ρ : Rho) (H : AH) (B : Nat) : Prop := ∀ b o x k, ρ b = some (B, o, x) → H.bk b = some k → k.wr = false

/-- The numbers from n to n' are not taken yet. -/
def Fresh (ρ : Rho) (n n' : Nat) : Prop := ∀ b, n ≤ b → b < n' → ρ b = none

structure Fr (ρ : Rho) (H : AH) (w w' : World) : Prop where
  os : w'.os = w.os
  tape : w'.tape = w.tape
  output : w'.output = w.output
  size : w.heap.size ≤ w'.heap.size
  heap : ∀ B, B < w.heap.size → Quiet ρ H B → w'.heap[B]? = w.heap[B]?

/-- The new blocks lie in new rows of the model's, or in rows that were writable. -/
def NewB (ρ : Rho) (H : AH) (w : World) (ρ' : Rho) (n' : Nat) : Prop := ∀ b B o x, ρ' b = some (B, o, x) → ρ b = some (B, o, x) ∨ (H.n ≤ b ∧ b < n' ∧ (w.heap.size ≤ B ∨ ¬ Quiet ρ H B))
theorem NewB.refl (ρ : Rho) (H : AH) (w : World) (n : Nat) : NewB ρ H w ρ n := fun _ _ _ _ h => .inl h
theorem NewB.add (ρ : Rho) (H : AH) (w : World) {B o x : Nat} (h : w.heap.size ≤ B ∨ ¬ Quiet ρ H B) : NewB ρ H w (ρ.add H.n (B, o, x)) (H.n + 1) := by
  intro b B' o' x' hb
  by_cases e1 : b = H.n
  · subst e1
    rw [Rho.add_same] at hb; cases hb
    exact .inr ⟨Nat.le_refl _, Nat.lt_succ_self _, h⟩
  · rw [Rho.add_ne _ _ e1] at hb; exact .inl hb

theorem Fr.refl (ρ : Rho) (H : AH) (w : World) : Fr ρ H w w := ⟨rfl, rfl, rfl, Nat.le_refl _, fun _ _ _ => rfl⟩

theorem cell?_heap {w w' : World} (B : Nat) (h : w'.heap[B]? = w.heap[B]?) (o : Nat) : w'.cell? ⟨B, o, none⟩ = w.cell? ⟨B, o, none⟩ := by simp [World.cell?, h]

theorem RowIn.mono {ρ ρ' : Rho} (h : Sub ρ ρ') {w w' : World} {B o cs} (hB : w'.heap[B]? = w.heap[B]?) (k : RowIn ρ w B o cs) : RowIn ρ' w' B o cs :=
  fun i a ha => let ⟨f, v, hv, hr⟩ := k i a ha; ⟨f, v, (cell?_heap B hB _).trans hv, hr.mono h⟩

theorem RelH.heap_eq {NG ρ H w w'} (h : RelH NG ρ H w) (e : w'.heap = w.heap) : RelH NG ρ H w' := by
  have e' : ∀ B : Nat, w'.heap[B]? = w.heap[B]? := fun B => by rw [e]
  exact ⟨h.wf, h.glob, fun b B o x hb => by rw [e]; exact h.dom b B o x hb, fun b B o x k hb hk => ⟨(h.row b B o x k hb hk).1, (h.row b B o x k hb hk).2.mono (Sub.refl _) (e' B)⟩,
    fun b B o x k hb hk hw => by rw [e']; exact h.own b B o x k hb hk hw, h.dis⟩

theorem add_sub {ρ : Rho} {n : Nat} (h : ρ n = none) (r) : Sub ρ (ρ.add n r) := fun b s hb => by
  rw [Rho.add_ne _ _ (fun e => by subst e; rw [h] at hb; cases hb)]; exact hb

/-- A new block. -/
theorem RelH.push {NG ρ H w} (h : RelH NG ρ H w) (hn : ρ H.n = none) {cs : List AV} {vs : List Value} (hv : VRs ρ cs vs) (hf : cs.all AV.flat = true) (rest : List Value) (el : TypeId) :
    RelH NG (ρ.add H.n (w.heap.size, 0, vs.length + rest.length)) (H.push cs) (w.alloc (.cells (vs ++ rest).toArray el)) := by
  have hs := add_sub hn (w.heap.size, 0, vs.length + rest.length)
  have hold : ∀ B, B < w.heap.size → (w.alloc (.cells (vs ++ rest).toArray el)).heap[B]? = w.heap[B]? := fun B hB => Below.heap_alloc w _ B hB
  have hnew : (w.alloc (.cells (vs ++ rest).toArray el)).heap[w.heap.size]? = some (.cells (vs ++ rest).toArray el) := by
    show (w.heap.push _)[w.heap.size]? = _
    rw [Array.getElem?_push, if_pos rfl]
  refine ⟨fun b hb => ?_, ?_, ?_, ?_, ?_, ?_⟩
  · have hb' : H.n + 1 ≤ b := hb
    simp only [AH.push]; rw [if_neg (by omega)]; exact h.wf b (by omega)
  · intro g hg
    obtain ⟨x, hx⟩ := h.glob g hg
    exact ⟨x, hs _ _ hx⟩
  · intro b B o x hb
    show B < (w.heap.push _).size
    rw [Array.size_push]
    by_cases e : b = H.n
    · subst e; rw [Rho.add_same] at hb; cases hb; omega
    · rw [Rho.add_ne _ _ e] at hb; have := h.dom b B o x hb; omega
  · intro b B o x k hb hk
    by_cases e : b = H.n
    · subst e
      rw [Rho.add_same] at hb; cases hb
      have hk' : k = ⟨cs, true⟩ := by simpa [AH.push] using hk.symm
      subst hk'
      refine ⟨by show cs.length ≤ _; rw [hv.1]; omega, fun i a ha => ⟨List.all_eq_true.1 hf a (List.mem_of_getElem? ha), ?_⟩⟩
      obtain ⟨v, hv1, hv2⟩ := hv.get ha
      have hi : i < vs.length := (List.getElem?_eq_some_iff.1 hv1).1
      refine ⟨v, ?_, hv2.mono hs⟩
      simp only [World.cell?, hnew, Nat.zero_add, Option.isSome_none, Bool.false_eq_true, if_false, List.getElem?_toArray]
      rw [List.getElem?_append_left hi]; exact hv1
    · rw [Rho.add_ne _ _ e] at hb
      have hk' : H.bk b = some k := by simpa [AH.push, e] using hk
      have := h.row b B o x k hb hk'
      exact ⟨this.1, this.2.mono hs (hold B (h.dom b B o x hb))⟩
  · intro b B o x k hb hk hw
    by_cases e : b = H.n
    · subst e
      rw [Rho.add_same] at hb; cases hb
      exact ⟨_, _, hnew, by simp⟩
    · rw [Rho.add_ne _ _ e] at hb
      have hk' : H.bk b = some k := by simpa [AH.push, e] using hk
      rw [hold B (h.dom b B o x hb)]
      exact h.own b B o x k hb hk' hw
  · intro b b' B o x o' x' k k' hne hb hb' hk hk'
    by_cases e : b = H.n
    · subst e
      rw [Rho.add_same] at hb; cases hb
      rw [Rho.add_ne _ _ (Ne.symm hne)] at hb'
      exact absurd (h.dom _ _ _ _ hb') (Nat.lt_irrefl _)
    · rw [Rho.add_ne _ _ e] at hb
      have hk1 : H.bk b = some k := by simpa [AH.push, e] using hk
      by_cases e' : b' = H.n
      · subst e'
        rw [Rho.add_same] at hb'; cases hb'
        exact absurd (h.dom _ _ _ _ hb) (Nat.lt_irrefl _)
      · rw [Rho.add_ne _ _ e'] at hb'
        have hk2 : H.bk b' = some k' := by simpa [AH.push, e'] using hk'
        exact h.dis b b' B o x o' x' k k' hne hb hb' hk1 hk2

theorem Fr.alloc (ρ : Rho) (H : AH) (w : World) (o : Obj) : Fr ρ H w (w.alloc o) :=
  ⟨rfl, rfl, rfl, by show _ ≤ (w.heap.push o).size; rw [Array.size_push]; omega, fun B hB _ => Below.heap_alloc w o B hB⟩
theorem Fr.trans_same {ρ : Rho} {H : AH} {w w1 w2 : World} (h : Fr ρ H w w1) (k : Fr ρ H w1 w2) : Fr ρ H w w2 :=
  ⟨k.os.trans h.os, k.tape.trans h.tape, k.output.trans h.output, Nat.le_trans h.size k.size, fun B hB q => (k.heap B (Nat.lt_of_lt_of_le hB h.size) q).trans (h.heap B hB q)⟩
theorem Fr.drew (ρ : Rho) (H : AH) (w : World) : Fr ρ H w w.drew := ⟨rfl, rfl, rfl, Nat.le_refl _, fun _ _ _ => rfl⟩

/-- The row of cells of a writable block after a store. -/
theorem cell?_setRow (w : World) (B : Nat) (cs cs' : Array Value) (el : TypeId) (fr) (h : w.heap[B]? = some (.cells cs el fr)) (o : Nat) : (w.setRow B cs').cell? ⟨B, o, none⟩ = cs'[o]? := by
  simp [World.cell?, setRow_heap w B cs cs' el fr h]

theorem splice_get {α : Type} (l : List α) (o : Nat) (vs : List α) (h : o + vs.length ≤ l.length) (i : Nat) :
    (l.take o ++ vs ++ l.drop (o + vs.length))[i]? = if i < o then l[i]? else if i < o + vs.length then vs[i - o]? else l[i]? := by
  by_cases h1 : i < o
  · rw [if_pos h1, List.append_assoc, List.getElem?_append_left (by simp; omega), List.getElem?_take, if_pos h1]
  · rw [if_neg h1, List.append_assoc, List.getElem?_append_right (by simp; omega)]
    have e : (l.take o).length = o := by simp; omega
    rw [e]
    by_cases h2 : i < o + vs.length
    · rw [if_pos h2, List.getElem?_append_left (by omega)]
    · rw [if_neg h2, List.getElem?_append_right (by omega), List.getElem?_drop]
      congr 1; omega

/-- A store into a writable block. -/
theorem RelH.store {NG ρ H w} (h : RelH NG ρ H w) {b o B o0 x : Nat} {k : Blk} (hb : ρ b = some (B, o0, x)) (hk : H.bk b = some k) (hw : k.wr = true) {cur : Array Value} {el : TypeId}
    (hc : w.heap[B]? = some (.cells cur el (0, 0))) (hx : o0 + x ≤ cur.size)
    {cs : List AV} {vs : List Value} (hv : VRs ρ cs vs) (hf : cs.all AV.flat = true) (hfit : o + cs.length ≤ k.cells.length) :
    RelH NG ρ (H.put b (some ⟨splice k.cells o cs, true⟩)) (w.setRow B (cur.toList.take (o0 + o) ++ vs ++ cur.toList.drop (o0 + o + vs.length)).toArray) := by
  have hkx := (h.row b B o0 x k hb hk).1
  have hother : ∀ b' B' o' x' k', b' ≠ b → ρ b' = some (B', o', x') → H.bk b' = some k' → B' ≠ B := by
    intro b' B' o' x' k' hne hb' hk' e
    subst e
    have := h.dis b b' B' o0 x o' x' k k' (Ne.symm hne) hb hb' hk hk'
    rw [hw] at this; cases this
  have hlen : vs.length = cs.length := hv.1.symm
  have hsz : o0 + o + vs.length ≤ cur.toList.length := by have e0 : cur.toList.length = cur.size := Array.length_toList; omega
  have hbn : b < H.n := by
    rcases Nat.lt_or_ge b H.n with q | q
    · exact q
    · rw [h.wf b q] at hk; cases hk
  refine ⟨fun b' hb' => by have hb2 : H.n ≤ b' := hb'; simp only [AH.put]; rw [if_neg (by omega)]; exact h.wf b' hb2, h.glob, fun b B o x hb => by rw [setRow_size]; exact h.dom b B o x hb, ?_, ?_, ?_⟩
  · intro b' B' o' x' k' hb' hk'
    by_cases e : b' = b
    · subst e
      rw [hb] at hb'; cases hb'
      have hk2 : k' = ⟨splice k.cells o cs, true⟩ := by simpa [AH.put] using hk'.symm
      subst hk2
      have hl : (splice k.cells o cs).length = k.cells.length := by simp [splice]; omega
      refine ⟨by show (splice k.cells o cs).length ≤ _; omega, fun i a ha => ?_⟩
      have ha' : (splice k.cells o cs)[i]? = some a := ha
      rw [splice, splice_get _ _ _ hfit] at ha'
      have hcell := cell?_setRow w B cur (cur.toList.take (o0 + o) ++ vs ++ cur.toList.drop (o0 + o + vs.length)).toArray el (0, 0) hc (o0 + i)
      rw [List.getElem?_toArray, splice_get _ _ _ hsz] at hcell
      by_cases h1 : i < o
      · rw [if_pos h1] at ha'
        rw [if_pos (by omega)] at hcell
        obtain ⟨f, v, hv1, hv2⟩ := (h.row b' B o0 x k hb hk).2 i a ha'
        refine ⟨f, v, ?_, hv2⟩
        rw [hcell, ← hv1]; simp [World.cell?, hc]
      · rw [if_neg h1] at ha'
        rw [if_neg (by omega)] at hcell
        by_cases h2 : i < o + cs.length
        · rw [if_pos h2] at ha'
          rw [if_pos (by omega)] at hcell
          obtain ⟨v, hv1, hv2⟩ := hv.get ha'
          refine ⟨List.all_eq_true.1 hf a (List.mem_of_getElem? ha'), v, ?_, hv2⟩
          rw [hcell, ← hv1]; congr 1; omega
        · rw [if_neg h2] at ha'
          rw [if_neg (by omega)] at hcell
          obtain ⟨f, v, hv1, hv2⟩ := (h.row b' B o0 x k hb hk).2 i a ha'
          refine ⟨f, v, ?_, hv2⟩
          rw [hcell, ← hv1]; simp [World.cell?, hc]
    · have hk2 : H.bk b' = some k' := by simpa [AH.put, e] using hk'
      have hB := hother b' B' o' x' k' e hb' hk2
      exact ⟨(h.row b' B' o' x' k' hb' hk2).1, (h.row b' B' o' x' k' hb' hk2).2.mono (Sub.refl _) (setRow_other w B B' _ hB)⟩
  · intro b' B' o' x' k' hb' hk' hw'
    by_cases e : b' = b
    · subst e
      rw [hb] at hb'; cases hb'
      refine ⟨_, _, setRow_heap w B cur _ el (0, 0) hc, ?_⟩
      have e3 : (cur.toList.take (o0 + o) ++ vs ++ cur.toList.drop (o0 + o + vs.length)).length = cur.size := by simp only [List.length_append, List.length_take, List.length_drop, Array.length_toList] at hsz ⊢; omega
      rw [List.size_toArray, e3]; exact hx
    · have hk2 : H.bk b' = some k' := by simpa [AH.put, e] using hk'
      rw [setRow_other w B B' _ (hother b' B' o' x' k' e hb' hk2)]
      exact h.own b' B' o' x' k' hb' hk2 hw'
  · intro b1 b2 B' o1 x1 o2 x2 k1 k2 hne h1 h2 hk1 hk2
    by_cases e1 : b1 = b
    · subst e1
      have hk2' : H.bk b2 = some k2 := by simpa [AH.put, Ne.symm hne] using hk2
      rw [hb] at h1; cases h1
      exact absurd rfl (hother b2 B o2 x2 k2 (Ne.symm hne) h2 hk2')
    · have hk1' : H.bk b1 = some k1 := by simpa [AH.put, e1] using hk1
      by_cases e2 : b2 = b
      · subst e2
        rw [hb] at h2; cases h2
        exact absurd rfl (hother b1 B o1 x1 k1 e1 h1 hk1')
      · have hk2' : H.bk b2 = some k2 := by simpa [AH.put, e2] using hk2
        exact h.dis b1 b2 B' o1 x1 o2 x2 k1 k2 hne h1 h2 hk1' hk2'

theorem Fr.setRow {NG ρ H w} (_ : RelH NG ρ H w) {b B o0 x : Nat} {k : Blk} (hb : ρ b = some (B, o0, x)) (hk : H.bk b = some k) (hw : k.wr = true) (cs : Array Value) : Fr ρ H w (w.setRow B cs) := by
  refine ⟨rfl, rfl, rfl, by simp, fun B' hB' q => setRow_other w B B' cs ?_⟩
  intro e
  subst e
  have := q b o0 x k hb hk
  rw [hw] at this; cases this

/-- A block dies. -/
theorem RelH.kill {NG ρ H w} (h : RelH NG ρ H w) (b : Nat) : RelH NG ρ (H.put b none) w := by
  have hk : ∀ b' k, (H.put b none).bk b' = some k → b' ≠ b ∧ H.bk b' = some k := by
    intro b' k hk
    by_cases e : b' = b
    · subst e; simp [AH.put] at hk
    · exact ⟨e, by simpa [AH.put, e] using hk⟩
  exact ⟨fun b' hb' => by simp only [AH.put]; split <;> first | rfl | exact h.wf b' hb', h.glob, h.dom, fun b' B o x k hb hk' => h.row b' B o x k hb (hk _ _ hk').2, fun b' B o x k hb hk' => h.own b' B o x k hb (hk _ _ hk').2,
    fun b1 b2 B o x o' x' k k' hne h1 h2 hk1 hk2 => h.dis b1 b2 B o x o' x' k k' hne h1 h2 (hk _ _ hk1).2 (hk _ _ hk2).2⟩

/-- A block that no other shares a row with takes over the cells from o on of a dead one. -/
theorem RelH.take {NG ρ H w} (h : RelH NG ρ H w) (hfr : ρ H.n = none) {b o B o0 x : Nat} {k : Blk} (hb : ρ b = some (B, o0, x)) (hk : H.bk b = some k) (hw : k.wr = true) {cur : Array Value} {el : TypeId}
    (hc : w.heap[B]? = some (.cells cur el (0, 0))) (hx : o0 + x ≤ cur.size) {old cs : List AV} {vs : List Value} (hold : seg k.cells o old.length = some old)
    (hv : VRs ρ cs vs) (hf : cs.all AV.flat = true) (hfit : o + old.length + cs.length ≤ x) :
    RelH NG (ρ.add H.n (B, o0 + o, x - o)) ((H.put b none).push (old ++ cs)) (w.setRow B (cur.toList.take (o0 + o + old.length) ++ vs ++ cur.toList.drop (o0 + o + old.length + vs.length)).toArray) := by
  have hkill := h.kill b
  have hother : ∀ b' B' o' x' k', b' ≠ b → ρ b' = some (B', o', x') → H.bk b' = some k' → B' ≠ B := by
    intro b' B' o' x' k' hne hb' hk' e
    subst e
    have := h.dis b b' B' o0 x o' x' k k' (Ne.symm hne) hb hb' hk hk'
    rw [hw] at this; cases this
  have hs : Sub ρ (ρ.add H.n (B, o0 + o, x - o)) := add_sub hfr _
  have hlen : vs.length = cs.length := hv.1.symm
  have hsz : o0 + o + old.length + vs.length ≤ cur.toList.length := by have e0 : cur.toList.length = cur.size := Array.length_toList; omega
  have hbk : ∀ b' k', b' ≠ H.n → ((H.put b none).push (old ++ cs)).bk b' = some k' → b' ≠ b ∧ H.bk b' = some k' := by
    intro b' k' hne hk'
    have : (if b' = b then none else H.bk b') = some k' := by simpa [AH.push, AH.put, hne] using hk'
    by_cases e : b' = b
    · rw [if_pos e] at this; cases this
    · rw [if_neg e] at this; exact ⟨e, this⟩
  refine ⟨fun b' hb' => ?_, ?_, ?_, ?_, ?_, ?_⟩
  · have hb2 : H.n + 1 ≤ b' := hb'
    show (if b' = H.n then some (⟨old ++ cs, true⟩ : Blk) else if b' = b then none else H.bk b') = none
    rw [if_neg (show ¬ b' = H.n by omega)]
    split
    · rfl
    · exact h.wf b' (by omega)
  · intro g hg
    obtain ⟨y, hy⟩ := h.glob g hg
    exact ⟨y, hs _ _ hy⟩
  · intro b' B' o' x' hb'
    rw [setRow_size]
    by_cases e : b' = H.n
    · subst e; rw [Rho.add_same] at hb'; cases hb'; exact h.dom b B o0 x hb
    · rw [Rho.add_ne _ _ e] at hb'; exact h.dom b' B' o' x' hb'
  · intro b' B' o' x' k' hb' hk'
    by_cases e : b' = H.n
    · subst e
      rw [Rho.add_same] at hb'; cases hb'
      have hk2 : k' = ⟨old ++ cs, true⟩ := by simpa [AH.push, AH.put] using hk'.symm
      subst hk2
      refine ⟨by simp only [List.length_append]; omega, fun i a ha => ?_⟩
      have ha' : (old ++ cs)[i]? = some a := ha
      have hcell := cell?_setRow w B cur (cur.toList.take (o0 + o + old.length) ++ vs ++ cur.toList.drop (o0 + o + old.length + vs.length)).toArray el (0, 0) hc (o0 + o + i)
      rw [List.getElem?_toArray, splice_get _ _ _ hsz] at hcell
      by_cases h1 : i < old.length
      · rw [List.getElem?_append_left h1] at ha'
        rw [if_pos (by omega)] at hcell
        have hold' : k.cells[o + i]? = some a := by
          unfold seg at hold
          split at hold
          · have hold2 : (k.cells.drop o).take old.length = old := by simpa using hold
            rw [← hold2, List.getElem?_take, if_pos h1, List.getElem?_drop] at ha'
            exact ha'
          · cases hold
        obtain ⟨f, v, hv1, hv2⟩ := (h.row b B o0 x k hb hk).2 (o + i) a hold'
        refine ⟨f, v, ?_, hv2.mono hs⟩
        rw [hcell, ← hv1]; simp [World.cell?, hc, Nat.add_assoc]
      · rw [List.getElem?_append_right (by omega)] at ha'
        have hi2 : i - old.length < cs.length := (List.getElem?_eq_some_iff.1 ha').1
        rw [if_neg (by omega), if_pos (by omega)] at hcell
        obtain ⟨v, hv1, hv2⟩ := hv.get ha'
        refine ⟨List.all_eq_true.1 hf a (List.mem_of_getElem? ha'), v, ?_, hv2.mono hs⟩
        rw [hcell, ← hv1]; congr 1; omega
    · rw [Rho.add_ne _ _ e] at hb'
      obtain ⟨hne, hk2⟩ := hbk b' k' e hk'
      have hB := hother b' B' o' x' k' hne hb' hk2
      exact ⟨(h.row b' B' o' x' k' hb' hk2).1, (h.row b' B' o' x' k' hb' hk2).2.mono hs (setRow_other w B B' _ hB)⟩
  · intro b' B' o' x' k' hb' hk' hw'
    by_cases e : b' = H.n
    · subst e
      rw [Rho.add_same] at hb'; cases hb'
      refine ⟨_, _, setRow_heap w B cur _ el (0, 0) hc, ?_⟩
      have e3 : (cur.toList.take (o0 + o + old.length) ++ vs ++ cur.toList.drop (o0 + o + old.length + vs.length)).length = cur.size := by simp only [List.length_append, List.length_take, List.length_drop, Array.length_toList] at hsz ⊢; omega
      rw [List.size_toArray, e3]; omega
    · rw [Rho.add_ne _ _ e] at hb'
      obtain ⟨hne, hk2⟩ := hbk b' k' e hk'
      rw [setRow_other w B B' _ (hother b' B' o' x' k' hne hb' hk2)]
      exact h.own b' B' o' x' k' hb' hk2 hw'
  · intro b1 b2 B' o1 x1 o2 x2 k1 k2 hne h1 h2 hk1 hk2
    by_cases e1 : b1 = H.n
    · subst e1
      rw [Rho.add_same] at h1; cases h1
      rw [Rho.add_ne _ _ (Ne.symm hne)] at h2
      obtain ⟨hne2, hk2'⟩ := hbk b2 k2 (Ne.symm hne) hk2
      exact absurd rfl (hother b2 B o2 x2 k2 hne2 h2 hk2')
    · rw [Rho.add_ne _ _ e1] at h1
      obtain ⟨hne1, hk1'⟩ := hbk b1 k1 e1 hk1
      by_cases e2 : b2 = H.n
      · subst e2
        rw [Rho.add_same] at h2; cases h2
        exact absurd rfl (hother b1 B o1 x1 k1 hne1 h1 hk1')
      · rw [Rho.add_ne _ _ e2] at h2
        exact h.dis b1 b2 B' o1 x1 o2 x2 k1 k2 hne h1 h2 hk1' (hbk b2 k2 e2 hk2).2

end Go.Proofs.YtdgmihohmkdpjaaDoor.AM
