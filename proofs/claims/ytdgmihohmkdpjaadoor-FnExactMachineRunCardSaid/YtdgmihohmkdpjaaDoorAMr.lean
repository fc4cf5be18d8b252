/-
  What the functions on lists of instructions compute. No condition.
-/
import Derived.Test.YtdgmihohmkdpjaaDoorAMq
namespace Go.Proofs.YtdgmihohmkdpjaaDoor.AM
set_option linter.unusedSimpArgs false
set_option linter.unusedVariables false
open Go

theorem load_push {H : AH} {cs : List AV} {b o : Nat} : (H.push cs).load b o = if b = H.n then cs[o]? else H.load b o := by
  unfold AH.load; simp only [push_bk]; split <;> rfl
theorem loadN_push {H : AH} {cs : List AV} {b o n : Nat} : (H.push cs).loadN b o n = if b = H.n then seg cs o n else H.loadN b o n := by
  unfold AH.loadN; simp only [push_bk]; split <;> rfl
theorem load_put {H : AH} {cs : List AV} {b' b o : Nat} {q : Bool} : (H.put b' (some ⟨cs, q⟩)).load b o = if b = b' then cs[o]? else H.load b o := by
  unfold AH.load; simp only [put_bk]; split <;> rfl
theorem loadN_put {H : AH} {cs : List AV} {b' b o n : Nat} {q : Bool} : (H.put b' (some ⟨cs, q⟩)).loadN b o n = if b = b' then seg cs o n else H.loadN b o n := by
  unfold AH.loadN; simp only [put_bk]; split <;> rfl
theorem load_ext {H H' : AH} {b o : Nat} (h : Ext H H') (hb : b < H.n) : H'.load b o = H.load b o := by unfold AH.load; rw [h.2 b hb]
theorem loadN_ext {H H' : AH} {b o n : Nat} (h : Ext H H') (hb : b < H.n) : H'.loadN b o n = H.loadN b o n := by unfold AH.loadN; rw [h.2 b hb]
theorem put_new_ext {H : AH} {cs cs' : List AV} {q : Bool} : Ext H ((H.push cs).put H.n (some ⟨cs', q⟩)) :=
  ⟨Nat.le_succ _, fun b hb => by simp only [put_bk, push_bk]; rw [if_neg (by omega), if_neg (by omega)]⟩
theorem seg_at {cs x : List AV} {o n j : Nat} (h : seg cs o n = some x) (hj : j < n) : cs[o + j]? = x[j]? := by
  unfold seg at h
  split at h
  · cases h
    rw [List.getElem?_take, if_pos hj, List.getElem?_drop]
  · cases h
theorem loadN_at {H : AH} {b o n j : Nat} {x : List AV} (h : H.loadN b o n = some x) (hj : j < n) : H.load b (o + j) = x[j]? := by
  unfold AH.loadN at h
  unfold AH.load
  cases hb : H.bk b with
  | none => rw [hb] at h; cases h
  | some k => rw [hb] at h; exact seg_at h hj

/-- What a slice of elements of sz cells reads as. -/
def SeesN (sz : Nat) (H : AH) (v : AV) (l : List (List AV)) : Prop := alen v = some l.length ∧ l.length ≤ 8589934592 ∧
  ∀ (i : Nat) x, l[i]? = some x → ∃ b o, asSl v = some (b, o, l.length) ∧ b < H.n ∧ H.loadN b (o + i * sz) sz = some x
theorem SeesN.ext {sz : Nat} {H H' : AH} {v l} (h : SeesN sz H v l) (k : Ext H H') : SeesN sz H' v l :=
  ⟨h.1, h.2.1, fun i x hx => let ⟨b, o, h1, h2, h3⟩ := h.2.2 i x hx; ⟨b, o, h1, Nat.lt_of_lt_of_le h2 k.1, by rw [loadN_ext k h2]; exact h3⟩⟩

theorem seg_flatten {sz : Nat} : ∀ {l : List (List AV)}, (∀ x ∈ l, x.length = sz) → ∀ {i : Nat} {x : List AV}, l[i]? = some x → seg l.flatten (i * sz) sz = some x
  | [], _, i, x, h => by simp at h
  | y :: l, hs, 0, x, h => by
    simp only [List.getElem?_cons_zero, Option.some.injEq] at h
    subst h
    have := hs y (by simp)
    unfold seg
    simp only [Nat.zero_mul, Nat.zero_add, List.flatten_cons, List.length_append, List.drop_zero]
    rw [if_pos (by omega), ← this, List.take_left']
    rfl
  | y :: l, hs, i + 1, x, h => by
    have hy := hs y (by simp)
    have ih := seg_flatten (l := l) (fun z hz => hs z (by simp [hz])) (i := i) (x := x) (by simpa using h)
    unfold seg at ih ⊢
    split at ih
    · cases ih
      simp only [List.flatten_cons, List.length_append]
      rw [if_pos (by rw [Nat.succ_mul]; omega), Nat.succ_mul, Nat.add_comm, ← hy, ← List.drop_drop, List.drop_left']
      rfl
    · cases ih
theorem SeesN.new {sz : Nat} {H : AH} {l : List (List AV)} {cap : ACap} {n : Nat} {cs : List AV} (hs : ∀ x ∈ l, x.length = sz) (hl : l.length ≤ 8589934592) (hn : n = l.length) (hc : cs = l.flatten) : SeesN sz (H.push cs) (.sl H.n 0 n cap) l := by
  subst hn hc
  refine ⟨rfl, hl, fun i x hx => ⟨H.n, 0, rfl, Nat.lt_succ_self _, ?_⟩⟩
  rw [loadN_push, if_pos rfl, Nat.zero_add]
  exact seg_flatten hs hx
theorem SeesN.nil {sz : Nat} {H : AH} {v : AV} (h : alen v = some 0) : SeesN sz H v [] := ⟨h, by simp, fun i x hx => by simp at hx⟩

structure Ins where
  op : Int
  rd : Int
  rs : Int
  rt : Int
  imm : Int
deriving DecidableEq
def Ins.cs (i : Ins) : List AV := [.I i.op, .I i.rd, .I i.rs, .I i.rt, .I i.imm]
def SeesI (H : AH) (v : AV) (l : List Ins) : Prop := SeesN 5 H v (l.map Ins.cs)

def lowM (n : Int) : Int := signM (bitsM (unsM n) 0 12) 12
def highM (n : Int) : Int := bitsM (unsM (wrapM (n - lowM n))) 12 20
def constL (rd n : Int) : List Ins := if -2048 ≤ n ∧ n ≤ 2047 then [⟨12, rd, 0, 0, n⟩] else [⟨19, rd, 0, 0, highM n⟩, ⟨12, rd, rd, 0, lowM n⟩]
def constOk (rd n : Int) : Bool := decide (1 ≤ rd ∧ rd ≤ 31) && isW n
def constM (rd n : Int) : List Ins := if constOk rd n = true then constL rd n else []

section
variable {H : AH} {K : AV → AH → Prop} {n rd rs imm : Int} {w : Fk K}
theorem signM_lt {u : Int} : -2048 ≤ signM u 12 ∧ signM u 12 ≤ 2047 := by
  unfold signM
  simp
  split
  · split <;> omega
  · omega
theorem lowM_lt : -2048 ≤ lowM n ∧ lowM n ≤ 2047 := signM_lt
theorem SeesI.new {H : AH} {l : List Ins} {cap : ACap} {n : Nat} {cs : List AV} (hl : l.length ≤ 8589934592) (hn : n = l.length) (hc : cs = (l.map Ins.cs).flatten) : SeesI (H.push cs) (.sl H.n 0 n cap) l :=
  SeesN.new (fun x hx => by obtain ⟨i, _, rfl⟩ := List.mem_map.1 hx; rfl) (by simpa using hl) (by simpa using hn) hc
end
end Go.Proofs.YtdgmihohmkdpjaaDoor.AM
