/-
  The law FnMachine. No condition.
-/
import Derived.Test.YtdgmihohmkdpjaaDoorAMzb
namespace Go.Proofs.YtdgmihohmkdpjaaDoor.AM
set_option linter.unusedSimpArgs false
set_option linter.unusedVariables false
open Go

theorem SlI.ext {H H' : AH} {k : IntKind} {v : AV} {zs : List Int} (h : SlI H k v zs) (e : Ext H H') : SlI H' k v zs := by
  rcases h with ⟨rfl, rfl⟩ | ⟨rfl, rfl⟩ | ⟨b, rest, hb, rfl, h⟩
  · exact .inl ⟨rfl, rfl⟩
  · exact .inr (.inl ⟨rfl, rfl⟩)
  · exact .inr (.inr ⟨b, rest, Nat.lt_of_lt_of_le hb e.1, rfl, (e.2 b hb).trans h⟩)
theorem SeesZ.loadN {H : AH} {b o n : Nat} {cap : ACap} {l : List Int} (h : SeesZ H (.sl b o n cap) l) (hn : n = l.length) (hl : 0 < l.length) : H.loadN b o n = some (Ints l) := by
  have q : ∀ i (hi : i < l.length), H.load b (o + i) = some (.I l[i]) := fun i hi => by
    obtain ⟨b1, o1, q1, q2, q3⟩ := h.at hi
    simp at q1
    obtain ⟨rfl, rfl, _⟩ := q1
    exact q3
  unfold AH.loadN AH.load at *
  cases hb : H.bk b with
  | none => have := q 0 hl; rw [hb] at this; cases this
  | some k =>
    rw [hb] at q
    simp only [Option.bind_some] at q ⊢
    have q1 := q (l.length - 1) (by omega)
    have q2 := (List.getElem?_eq_some_iff.1 q1).1
    unfold seg
    rw [if_pos (by omega), hn]
    congr 1
    apply List.ext_getElem?
    intro i
    by_cases hi : i < l.length
    · rw [List.getElem?_take, if_pos hi, List.getElem?_drop, q i hi]; simp [Ints, hi]
    · rw [List.getElem?_take, if_neg hi, List.getElem?_eq_none (by rw [Ints_len]; omega)]
section
variable {H : AH} {K : AV → AH → Prop} {w : Fk K}
end
end Go.Proofs.YtdgmihohmkdpjaaDoor.AM
